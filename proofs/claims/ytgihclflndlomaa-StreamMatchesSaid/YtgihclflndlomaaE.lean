/- move: what is pending is moved. -/
import Derived.Test.YtgihclflndlomaaD
import Derived.Test.YtgihclflndlomaaL
namespace Go.Proofs.Ytgihclflndlomaa
open Go.RowKit

theorem moveK_eq (S : St) : (if (if S.pos < S.max then S.max - S.pos else 0) < mayN S.plan S.wait.length then (if S.pos < S.max then S.max - S.pos else 0) else mayN S.plan S.wait.length) = S.moveK := by
  unfold St.moveK
  generalize mayN S.plan S.wait.length = x
  rw [Int.min_def, Int.max_def]
  repeat' split
  all_goals omega

theorem moveK_bd (S : St) (h1 : S.pos ≤ S.max) : 0 ≤ S.moveK ∧ S.moveK ≤ S.wait.length ∧ S.pos + S.moveK ≤ S.max := by
  unfold St.moveK
  have := mayN_nonneg S.plan S.wait.length (by omega)
  generalize mayN S.plan S.wait.length = x at *
  rw [Int.min_def, Int.max_def]
  repeat' split
  all_goals omega

/-- The data behind a move. -/
def St.dataK (S : St) : List UInt8 := if 0 < S.moveK then putAt S.data S.pos.toNat (S.wait.take S.moveK.toNat) else S.data

theorem int_i64 {a b : Int} (h : a = b) : Value.int .i64 a = .int .i64 b := by rw [h]

def St.moveE (S : St) : Int := if S.moveK < S.wait.length then 14 else 0

def SAt' (w w' : World) (own : Nat → Prop) (bs : Nat) (S : St) : Prop := ∃ own' m', SAtM w' own' bs S m' ∧ Fr w w' own own'

theorem move_none {w : World} {own : Nat → Prop} {bs : Nat} {S : St} {m : Mem} (h : SAtM w own bs S m) (hw : S.wait = []) :
    Calls Try.prog 40 #[.pointer (some ⟨bs, 0, none⟩)] w fun e w' => e = .returned (.tuple #[.int .i64 0, .int .i64 0]) ∧ w = w' := by
  obtain ⟨a, cap, hv, -⟩ := h.wait
  have c12 : w.cell? ⟨bs, 12, none⟩ = some (.slice a 0 cap) := by rw [h.c]; simp [Mem.stream, hv, hw]
  clear hv hw h
  go_enter Try.func40, Try.ntmps40
  go_wp2
  go_ret2
  exact ⟨rfl, rfl⟩

set_option maxRecDepth 100000 in
set_option maxHeartbeats 1000000 in
theorem move_some {w : World} {own : Nat → Prop} {bs : Nat} {S : St} {m : Mem} (h : SAtM w own bs S m) (ho : S.opened = true) (hw : S.wait ≠ []) (hm0 : 0 ≤ S.max) (hm1 : S.max ≤ 1048576) (hdl : (S.data.length : Int) ≤ S.max) (hp0 : 0 ≤ S.pos) (hp1 : S.pos ≤ S.max) (hwl : S.wait.length ≤ 2000000) :
    Calls Try.prog 40 #[.pointer (some ⟨bs, 0, none⟩)] w fun e w' => e = .returned (.tuple #[.int .i64 S.moveK, .int .i64 (St.moveE S)]) ∧ SAt' w w' own bs S.moved := by
  have hmay := fun (n : Int) (w' : World) (hw' : w'.heap = w.heap) => may_any n m.bx m.bd m.plan S.plan (m.only own bs) w' (by simp only [World.cell?, hw']; exact h.cx) (by simp only [World.cell?, hw']; exact h.cd 2) (by simp only [World.frozen?, hw']; exact h.fd 2) (h.plan.keep (fun _ _ _ => by rw [hw']) (fun _ hb _ => hb))
  have Hmay := Lib.hid hmay; clear hmay
  have hwp : 1 ≤ S.wait.length := by cases hq : S.wait with | nil => exact absurd hq hw | cons x r => simp
  obtain ⟨a, cap, hv, -⟩ := h.wait
  have c0 : w.cell? ⟨bs, 0, none⟩ = some (.pointer (some ⟨m.bd, 0, none⟩)) := h.c 0
  have c9 : w.cell? ⟨bs, 9, none⟩ = some (.int .i64 S.pos) := h.c 9
  have c12 : w.cell? ⟨bs, 12, none⟩ = some (.slice a S.wait.length cap) := by rw [h.c]; simp [Mem.stream, hv]
  have d1 : w.cell? ⟨m.bd, 1, none⟩ = some (.int .i64 S.max) := h.cd 1
  have d3 : w.cell? ⟨m.bd, 3, none⟩ = some (.func (.func 32) #[] #[.pointer (some ⟨m.bx, 0, none⟩)]) := h.cd 3
  have hlb : ((S.wait.length : Int) == 0) = false := by simp; omega
  have hsd := h.sd
  clear hv hw
  have hwr : IntKind.i64.wrap (S.max - S.pos) = S.max - S.pos := IntWalk.i64_in _ (by omega)
  go_enter Try.func40, Try.ntmps40
  go_upto_region 4 with fail
  go_cut [5] (fun s5 wx => ∃ q a l c, s5 = .int .i64 S.moveK ∧ Rd w (m.only own bs) intV (.slice a l c) S.plan.tail ∧ wx = (w.setCell ⟨m.bd, 2, none⟩ (.slice a l c)).drewN q)
  case first =>
    --< region 4
    go_region_held3 (fun w' => w'.cell? ⟨bs, 0, none⟩ = some (.pointer (some ⟨m.bd, 0, none⟩)) ∧ w'.cell? ⟨bs, 9, none⟩ = some (.int .i64 S.pos) ∧ w'.cell? ⟨m.bd, 1, none⟩ = some (.int .i64 S.max) ∧ w'.cell? ⟨m.bd, 3, none⟩ = some (.func (.func 32) #[] #[.pointer (some ⟨m.bx, 0, none⟩)])) (first | exact ⟨c0, c9, d1, d3⟩ | exact ⟨(cell_set_block _ hsd).trans c0, (cell_set_block _ hsd).trans c9, (cell_set_off _ (by decide)).trans d1, (cell_set_off _ (by decide)).trans d3⟩)
      (first
        | (go_at_call 32; refine (Hmay.out _ w.drew rfl).mono ?_; rintro e w' ⟨rfl, q, a, l, c, hR, rfl⟩; dsimp only))
    all_goals (simp only [moveK_eq]; generalize (if S.pos < S.max then S.max - S.pos else 0) = z; go_wp2_with fail; go_meet; exact ⟨1 + q, a, l, c, rfl, hR.keep (fun _ _ _ => rfl) (fun _ h _ => h), rfl⟩)
    --> 
  case rest =>
    obtain ⟨q, a', l, c, rfl, hR, rfl⟩ := hcut
    clear hwr c0 c9 c12 d1 d3
    have h1 := (h.setPlan (.slice a' l c) S.plan.tail hR).drewN q
    generalize hW1 : (w.setCell ⟨m.bd, 2, none⟩ (.slice a' l c)).drewN q = W1 at h1 ⊢
    have hf1 : Fr w W1 own own := by rw [← hW1]; exact ((Fr.refl w own).setCell _ _ (.inl h.od)).drewN q
    obtain ⟨k0, k1, k2⟩ := moveK_bd S hp1
    obtain ⟨k, hk⟩ := Int.eq_ofNat_of_zero_le k0
    obtain ⟨p, hp⟩ := Int.eq_ofNat_of_zero_le hp0
    have c9 : W1.cell? ⟨bs, 9, none⟩ = some (.int .i64 p) := by rw [← hp]; exact h1.c 9
    rw [hk] at k1 k2 ⊢
    rw [hp] at k2 hp1
    have Hk := Lib.hid hk; have Hp := Lib.hid hp
    clear hW1 hR k0 hp0 hk hp Hmay
    have c0 : W1.cell? ⟨bs, 0, none⟩ = some (.pointer (some ⟨m.bd, 0, none⟩)) := h1.c 0
    go_upto_if 39 with fail
    go_cut [6] (fun s6 wx => ∃ own2 m2, SAtM wx own2 bs { S with plan := S.plan.tail, data := St.dataK S } m2 ∧ Fr w wx own own2)
    case first =>
      by_cases hk : 0 < k
      · obtain ⟨ad, cd, hdv, hdc, hdm⟩ := h1.data.shape
        unfold maxLen at hdm
        have e0 : W1.cell? ⟨m.bd, 0, none⟩ = some (.slice ad S.data.length cd) := by rw [h1.cd]; simp [Mem.disk]; exact hdv
        have Hdv := Lib.hid hdv; clear hdv
        go_wp2_with fail
        go_quiet (fail)
        rename_i nq _
        have h2 := h1.drewN nq
        have hf2 := hf1.drewN nq
        generalize hW2 : W1.drewN nq = W2 at h2 hf2 ⊢
        have c0 : W2.cell? ⟨bs, 0, none⟩ = some (.pointer (some ⟨m.bd, 0, none⟩)) := h2.c 0
        have e0 : W2.cell? ⟨m.bd, 0, none⟩ = some (.slice ad S.data.length cd) := by rw [h2.cd]; simp [Mem.disk]; exact Hdv.out
        clear hW2 h1 hf1
        go_upto_if 57 with fail
        go_cut [] (fun wx => ∃ own2 m2, SAtM wx own2 bs { S with plan := S.plan.tail, data := S.data ++ List.replicate (p + k - S.data.length) 0 } m2 ∧ Fr w wx own own2 ∧ m2.bd = m.bd)
        case first =>
          by_cases hg : S.data.length < p + k
          · have hgi : (0 : Int) < ↑p + ↑k - ↑S.data.length := by omega
            have hgn : ((p + k - S.data.length : Nat) : Int) = ↑p + ↑k - ↑S.data.length := by omega
            obtain ⟨a3, n3, c3, W3, hrun, hrow, htw, hbl⟩ := run_app_zeros W2.drew _ _ _ (h2.drewN 1).data (p + k - S.data.length) (by omega) (by show S.data.length + _ ≤ _; omega) 22
            have Hrun := Lib.hid (show (Builtin.append_ #[22, 3] 22 #[.slice ad S.data.length cd, .int .i64 (↑p + ↑k - ↑S.data.length)]).run Try.prog W2.drew = .ok (.slice a3 n3 c3) W3 by rw [← hgn, ← Hdv.out]; exact hrun)
            have f0 : W3.cell? ⟨bs, 0, none⟩ = some (.pointer (some ⟨m.bd, 0, none⟩)) := (World.cell?_of_block (a := ⟨bs, 0, none⟩) (htw.keep bs (h2.lt _ h2.os) (fun e => e.1.2.1 rfl))).trans c0
            have g0 : W3.cell? ⟨m.bd, 0, none⟩ = some (.slice ad S.data.length cd) := (World.cell?_of_block (a := ⟨m.bd, 0, none⟩) (htw.keep m.bd (h2.lt _ h2.od) (fun e => e.1.2.2.1 rfl))).trans e0
            have g1 : W3.frozen? ⟨m.bd, 0, none⟩ = false := (World.frozen?_of_block (a := ⟨m.bd, 0, none⟩) (htw.keep m.bd (h2.lt _ h2.od) (fun e => e.1.2.2.1 rfl))).trans (h2.fd 0)
            have H3 := Lib.hid ((h2.drewN 1).setData htw hrow hbl)
            have HF := Lib.hid ((((hf2.drewN 1).tw htw (fun i hi => .inl hi.1.1)).setCell ⟨m.bd, 0, none⟩ (.slice a3 n3 c3) (.inl h.od)).more (q := fun k => own k ∨ (W2.drew.heap.size ≤ k ∧ k < W3.heap.size)) (fun k hk => hk.elim .inl (fun e => .inr (Nat.le_trans hf2.size e.1))))
            clear hrun hgn hrow hbl htw
            go_wp2_with fail
            go_region_law
              ((refine step_append_run rfl (.tmp 69) (.tmp 70) 22 3 rfl _ _ rfl rfl (.slice a3 n3 c3) W3 (Eq.trans ?_ Hrun.out) ?_; focus kernel_rfl))
            all_goals (go_wp2_with fail; go_meet; exact ⟨_, _, H3.out, HF.out, rfl⟩)
          · have hgi : ¬ (0 : Int) < ↑p + ↑k - ↑S.data.length := by omega
            have hz : S.data ++ List.replicate (p + k - S.data.length) 0 = S.data := by rw [show p + k - S.data.length = 0 by omega]; simp
            have H3 := Lib.hid hz; clear hz
            go_wp2_with fail
            go_meet
            exact ⟨own, { m with plan := .slice a' l c }, by rw [H3.out]; exact h2, hf2, rfl⟩
        case rest =>
          obtain ⟨own3, m3, h3, hf3, -⟩ := hcut
          clear c0 e0 c9 hsd h2 hf2
          generalize hD : S.data ++ List.replicate (p + k - S.data.length) 0 = D at h3
          have hDl : p + k ≤ D.length := by rw [← hD]; simp; omega
          have hDm : (D.length : Int) ≤ S.max := by rw [← hD]; simp; omega
          obtain ⟨db, dc, hdv, hdc, hdm, hdo⟩ := h3.data.block (fun e => by simp only at e; rw [e] at hDl; simp at hDl; omega)
          obtain ⟨aw, cw, hwv, hwc, hwm⟩ := h3.wait.shape
          unfold maxLen at hdm hwm
          simp only at hdv hdc hwv hwc
          have c0 : wc.cell? ⟨bs, 0, none⟩ = some (.pointer (some ⟨m3.bd, 0, none⟩)) := h3.c 0
          have c9 : wc.cell? ⟨bs, 9, none⟩ = some (.int .i64 p) := by rw [← Hp.out]; exact h3.c 9
          have c12 : wc.cell? ⟨bs, 12, none⟩ = some (.slice aw S.wait.length cw) := by rw [h3.c]; simp [Mem.stream, hwv]
          have e0 : wc.cell? ⟨m3.bd, 0, none⟩ = some (.slice (some ⟨db, 0, none⟩) D.length dc) := by rw [h3.cd]; simp [Mem.disk, hdv]
          have hrd := h3.data
          have hww := h3.wait
          rw [hdv] at hrd; rw [hwv] at hww
          have hpc : p < dc := by omega
          have hpn : ¬ dc = p := by omega
          have hpd : p ≤ D.length := by omega
          have hkc : k ≤ cw := by omega
          have hkw : k ≤ S.wait.length := by omega
          obtain ⟨W4, hrun, hrow, htw⟩ := run_copy_wr wc.drew (m3.datas own3 bs) (m3.only own3 bs) db dc D (hrd.keep (fun _ _ _ => rfl) (fun _ h _ => h)) p (D.length - p) (dc - p) (.slice aw k cw) (S.wait.take k) ((hww.keep (fun _ _ _ => rfl) (fun _ h _ => h)).take k hkw) 3
            (fun e => by have h5 := congrArg List.length e; rw [List.length_take, List.length_nil] at h5; omega) (by rw [List.length_take]; omega) (by rw [List.length_take]; omega)
          have f0 : W4.cell? ⟨bs, 0, none⟩ = some (.pointer (some ⟨m3.bd, 0, none⟩)) := (World.cell?_of_block (a := ⟨bs, 0, none⟩) (htw.keep bs (h3.lt _ h3.os) (fun e => e.1.2.1 rfl))).trans c0
          have f9 : W4.cell? ⟨bs, 9, none⟩ = some (.int .i64 p) := (World.cell?_of_block (a := ⟨bs, 9, none⟩) (htw.keep bs (h3.lt _ h3.os) (fun e => e.1.2.1 rfl))).trans c9
          have f12 : W4.cell? ⟨bs, 12, none⟩ = some (.slice aw S.wait.length cw) := (World.cell?_of_block (a := ⟨bs, 12, none⟩) (htw.keep bs (h3.lt _ h3.os) (fun e => e.1.2.1 rfl))).trans c12
          have g0 : W4.cell? ⟨m3.bd, 0, none⟩ = some (.slice (some ⟨db, 0, none⟩) D.length dc) := (World.cell?_of_block (a := ⟨m3.bd, 0, none⟩) (htw.keep m3.bd (h3.lt _ h3.od) (fun e => e.1.2.2.1 rfl))).trans e0
          have Hrun := Lib.hid hrun
          rw [← hdv] at hrow
          have hmin : min k S.wait.length = k := Nat.min_eq_left hkw
          have H4 := Lib.hid ((h3.drewN 1).inData ⟨htw.os, htw.tape, htw.output, htw.size, fun i hi hn => htw.keep i hi (fun e => hn ⟨e.1, by rw [e.2, hdv]; exact ⟨_, _, _, rfl, by omega⟩⟩)⟩ hrow)
          have HF := Lib.hid ((hf3.drewN 1).tw htw (fun i hi => hf3.new i hi.1.1))
          have HD := Lib.hid hD
          clear hrd hww hdv hwv hrow hrun htw hmin hD
          go_wp2_with fail
          go_region_held3 (fun w' => w'.cell? ⟨bs, 0, none⟩ = some (.pointer (some ⟨m3.bd, 0, none⟩)) ∧ w'.cell? ⟨bs, 9, none⟩ = some (.int .i64 p) ∧ w'.cell? ⟨bs, 12, none⟩ = some (.slice aw S.wait.length cw) ∧ w'.cell? ⟨m3.bd, 0, none⟩ = some (.slice (some ⟨db, 0, none⟩) D.length dc)) (first | exact ⟨c0, c9, c12, e0⟩ | exact ⟨f0, f9, f12, g0⟩)
            ((refine step_copy_run rfl (.tmp 87) (.tmp 93) 22 22 rfl _ _ rfl rfl (goInt (S.wait.take k).length) W4 (Eq.trans ?_ Hrun.out) ?_; focus kernel_rfl))
          go_wp2_with fail
          go_meet
          have hdk : St.dataK S = D.take p ++ S.wait.take k ++ D.drop (p + (S.wait.take k).length) := by
            unfold St.dataK
            rw [Hk.out, Hp.out, if_pos (by omega), ← HD.out, putAt_eq _ _ _ _ (by rw [List.length_take, Nat.min_eq_left hkw])]
            rfl
          exact ⟨own3, m3, by rw [hdk]; exact H4.out, HF.out⟩
      · have hk0 : k = 0 := by omega
        have hdk : St.dataK S = S.data := by unfold St.dataK; rw [Hk.out, if_neg (by omega)]
        have Hdk := Lib.hid hdk; clear hdk hk0
        go_wp2_with fail
        go_meet
        exact ⟨own, { m with plan := .slice a' l c }, by rw [Hdk.out]; exact h1, hf1⟩
    case rest =>
      obtain ⟨own3, m3, h3, hf3⟩ := hcut
      clear c0 c9 hsd h1 hf1
      have c9 : wc.cell? ⟨bs, 9, none⟩ = some (.int .i64 p) := by rw [← Hp.out]; exact h3.c 9
      have f9 := h3.f 9
      have f12 := h3.f 12
      have f2 := h3.f 2
      have c2 : wc.cell? ⟨bs, 2, none⟩ = some (.bool m3.bad) := h3.c 2
      have c12 : wc.cell? ⟨bs, 12, none⟩ = some m3.wait := h3.c 12
      have h5 := (h3.setPos (↑p + ↑k)).setWait (.slice none 0 0) [] (Rd.nil _ _ _)
      have hf5 := (hf3.setCell ⟨bs, 9, none⟩ (.int .i64 (↑p + ↑k)) (.inl h.os)).setCell ⟨bs, 12, none⟩ (.slice none 0 0) (.inl h.os)
      by_cases hkn : k < S.wait.length
      · have h6 := h5.setBad true ho
        have e1 : S.moved = { S with plan := S.plan.tail, data := St.dataK S, pos := ↑p + ↑k, wait := [], bad := true } := by
          unfold St.moved St.dataK
          rw [Hk.out, Hp.out, decide_eq_true (by omega), Bool.or_true]
        have e2 : St.moveE S = 14 := by unfold St.moveE; rw [Hk.out, if_pos (by omega)]
        have hpost : SAt' w _ own bs S.moved := ⟨own3, _, by rw [e1]; exact h6, hf5.setCell ⟨bs, 2, none⟩ (.bool true) (.inl h.os)⟩
        have Hpost := Lib.hid hpost
        have E2 := Lib.hid e2
        clear h5 hf5 h6 e1 e2 hpost h3 hf3
        go_wp2_with fail
        go_ret2
        rw [E2.out, Hk.out]
        exact ⟨rfl, Hpost.out⟩
      · have e1 : S.moved = { S with plan := S.plan.tail, data := St.dataK S, pos := ↑p + ↑k, wait := [] } := by
          unfold St.moved St.dataK
          rw [Hk.out, Hp.out, decide_eq_false (by omega), Bool.or_false]
        have e2 : St.moveE S = 0 := by unfold St.moveE; rw [Hk.out, if_neg (by omega)]
        have hpost : SAt' w _ own bs S.moved := ⟨own3, _, by rw [e1]; exact h5, hf5⟩
        have Hpost := Lib.hid hpost
        have E2 := Lib.hid e2
        clear h5 hf5 e1 e2 hpost h3 hf3
        go_wp2_with fail
        go_ret2
        rw [E2.out, Hk.out]
        exact ⟨rfl, Hpost.out⟩

/-- What a state fulfils while bytes are laid behind what is pending. -/
structure St.Fit (S : St) : Prop where
  max0 : 0 ≤ S.max
  max1 : S.max ≤ 1048576
  dlen : (S.data.length : Int) ≤ S.max
  pos0 : 0 ≤ S.pos
  pos1 : S.pos ≤ S.max
  wlen : S.wait.length ≤ 2000000

theorem St.Ok.fit {S : St} (h : S.Ok) : S.Fit := ⟨h.max0, h.max1, h.dlen, by have := h.pos0; omega, h.pos1, by have := h.wlen; have := h.size2; omega⟩

theorem move_calls {w : World} {own : Nat → Prop} {bs : Nat} {S : St} {m : Mem} (h : SAtM w own bs S m) (ho : S.opened = true) (hf : S.Fit) :
    Calls Try.prog 40 #[.pointer (some ⟨bs, 0, none⟩)] w fun e w' => e = .returned (.tuple #[.int .i64 S.move.1, .int .i64 S.move.2.1]) ∧ SAt' w w' own bs S.move.2.2 := by
  by_cases hw : S.wait = []
  · refine (move_none h hw).mono ?_
    rintro e w' ⟨rfl, rfl⟩
    unfold St.move
    rw [if_pos hw]
    exact ⟨rfl, own, m, h, Fr.refl _ _⟩
  · refine (move_some h ho hw hf.max0 hf.max1 hf.dlen hf.pos0 hf.pos1 hf.wlen).mono ?_
    rintro e w' ⟨rfl, h2⟩
    unfold St.move
    rw [if_neg hw]
    exact ⟨rfl, h2⟩

theorem settle_ok {w : World} {own : Nat → Prop} {bs : Nat} {S : St} {m : Mem} (h : SAtM w own bs S m) (ho : S.opened = true) (hf : S.Fit) (he : S.move.2.1 = 0) :
    Calls Try.prog 37 #[.pointer (some ⟨bs, 0, none⟩)] w fun e w' => e = .returned (.tuple #[]) ∧ SAt' w w' own bs S.move.2.2 := by
  have hc := move_calls h ho hf
  rw [he] at hc
  have Hc := Lib.hid hc
  clear hc h ho hf he
  go_enter Try.func37, Try.ntmps37
  go_wp2_with fail
  refine Hc.out.mono ?_
  rintro e w1 ⟨rfl, h1⟩
  have H1 := Lib.hid h1; clear h1
  go_wp2_with (go_at_call 42; refine (must_ok _ _ rfl).mono ?_; rintro r w' ⟨rfl, rfl⟩)
  go_end0
  exact ⟨rfl, H1.out⟩

theorem settle_bad {w : World} {own : Nat → Prop} {bs : Nat} {S : St} {m : Mem} (h : SAtM w own bs S m) (ho : S.opened = true) (hf : S.Fit) (x : Int) (he : S.move.2.1 = x) (hx : (x != 0) = true) :
    Calls Try.prog 37 #[.pointer (some ⟨bs, 0, none⟩)] w fun e w' => e = .panicked (pe x) ∧ SAt' w w' own bs S.move.2.2 := by
  have hc := move_calls h ho hf
  rw [he] at hc
  have Hc := Lib.hid hc
  clear hc h ho hf he
  go_enter Try.func37, Try.ntmps37
  go_wp2_with fail
  refine Hc.out.mono ?_
  rintro e w1 ⟨rfl, h1⟩
  have H1 := Lib.hid h1; clear h1
  go_wp2_with (go_at_call 42; refine (must_bad _ _ hx).mono ?_; rintro r w' ⟨rfl, rfl⟩)
  exact ⟨rfl, rfl, H1.out⟩
end Go.Proofs.Ytgihclflndlomaa
