/- The reference package's move. -/
import Derived.Test.YtgihclflndlomaaEb
import Derived.Test.YtgihclflndlomaaI
import Derived.Deep.LoopGhost
namespace Go.Proofs.Ytgihclflndlomaa
open Go.RowKit

theorem putAt_nil (d : List UInt8) (p : Nat) : putAt d p [] = d ++ List.replicate (p - d.length) 0 := by
  unfold putAt
  simp only [List.append_nil, List.length_nil, Nat.add_zero]
  by_cases h : d.length ≤ p
  · rw [List.drop_of_length_le h, List.append_nil]
    exact List.take_of_length_le (by simp; omega)
  · rw [show p - d.length = 0 by omega]
    simp

theorem putAt_cut (d : List UInt8) (p : Nat) : ∃ A : List UInt8, A.length = p ∧ ∀ ys : List UInt8, putAt d p ys = A ++ ys ++ d.drop (p + ys.length) :=
  ⟨(d ++ List.replicate (p - d.length) 0).take p, by simp; omega, fun _ => rfl⟩

theorem putAt_set (d : List UInt8) (p : Nat) (xs : List UInt8) (x : UInt8) (h : p + xs.length < d.length) : (putAt d p xs).set (p + xs.length) x = putAt d p (xs ++ [x]) := by
  obtain ⟨A, hA, hput⟩ := putAt_cut d p
  rw [hput, hput, List.set_append_right _ _ (by simp [hA])]
  have : p + xs.length - (A ++ xs).length = 0 := by simp [hA]
  rw [this]
  cases hc : d.drop (p + xs.length) with
  | nil => have := congrArg List.length hc; simp at this; omega
  | cons y r =>
    have h5 := congrArg List.tail hc
    rw [List.tail_drop] at h5
    simp only [List.tail_cons] at h5
    have : d.drop (p + (xs ++ [x]).length) = r := by rw [← h5]; congr 1; simp; omega
    rw [this]
    simp

theorem putAt_push (d : List UInt8) (p : Nat) (xs : List UInt8) (x : UInt8) (h : d.length ≤ p + xs.length) : putAt d p xs ++ [x] = putAt d p (xs ++ [x]) := by
  obtain ⟨A, hA, hput⟩ := putAt_cut d p
  rw [hput, hput, List.drop_of_length_le h, List.drop_of_length_le (by simp; omega)]
  simp

theorem replicate_push (d : List UInt8) (j : Nat) : d ++ List.replicate j 0 ++ [0] = d ++ List.replicate (j + 1) 0 := by
  rw [List.append_assoc]
  congr 1
  rw [← List.replicate_succ']

theorem rmove_none {w : World} {own : Nat → Prop} {bs : Nat} {S : St} {m : RMem} (h : RAtM w own bs S m) (hw : S.wait = []) :
    Calls Try.prog 63 #[.pointer (some ⟨bs, 0, none⟩)] w fun e w' => e = .returned (.tuple #[.int .i64 0, .int .i64 0]) ∧ w = w' := by
  obtain ⟨a, cap, hv, -⟩ := h.wait
  have c11 : w.cell? ⟨bs, 11, none⟩ = some (.slice a 0 cap) := by rw [h.c]; simp [RMem.cells, hv, hw]
  clear hv hw h
  go_enter Try.func63, Try.ntmps63
  go_wp2
  go_ret2
  exact ⟨rfl, rfl⟩

/-- An append of one byte to the data. -/
theorem RAtM.push {w : World} {own : Nat → Prop} {bs : Nat} {S : St} {m : RMem} (h : RAtM w own bs S m) (c : UInt8) (hl : S.data.length ≤ 2000000) : ∃ a n k w',
    (Builtin.append_ #[22, 22] 22 #[m.data, .slice (some ⟨w.heap.size, 0, none⟩) 1 1]).run Try.prog (w.alloc (.cells #[byteV c] 5)) = .ok (.slice a n k) w' ∧
      RAt' w (w'.setCell ⟨bs, 0, none⟩ (.slice a n k)) own bs { S with data := S.data ++ [c] } ∧ w'.cell? ⟨bs, 0, none⟩ = some m.data ∧ w'.frozen? ⟨bs, 0, none⟩ = false := by
  have h0 := h.alloc (.cells #[byteV c] 5)
  obtain ⟨a, n, k, w', hrun, hrow, htw, hbl⟩ := run_app bytesElem (w.alloc (.cells #[byteV c] 5)) _ _ m.data _ S.data [c] h0.data (rd_one c 5) 22 (by simp; omega) (by decide)
  have hb := htw.keep bs (h0.lt _ h0.os) (fun e => e.1.2 rfl)
  refine ⟨a, n, k, w', hrun, ⟨_, _, h0.setData htw hrow hbl, ?_⟩, ?_, ?_⟩
  · have f1 : Fr w (w.alloc (.cells #[byteV c] 5)) own own := (Fr.refl w own).alloc _
    have f2 := (f1.tw htw (fun i hi => .inl hi.1.1)).setCell ⟨bs, 0, none⟩ (.slice a n k) (.inl h.os)
    exact f2.more (fun i hi => hi.elim .inl (fun e => .inr (by have := e.1; simp at this; omega)))
  · exact (World.cell?_of_block (a := ⟨bs, 0, none⟩) hb).trans (h0.c 0)
  · exact (World.frozen?_of_block (a := ⟨bs, 0, none⟩) hb).trans (h0.f 0)

theorem elem22 : Try.prog.elem 22 = 5 := by kernel_rfl
theorem run_size5 (w : World) : (sizeOf 5).run Try.prog w = .ok 1 w := by kernel_rfl

/-- The data while bytes are laid, one by one. -/
def layD (d : List UInt8) (p k : Nat) (l : List UInt8) : List UInt8 := if 0 < k then putAt d p l else d

set_option maxRecDepth 100000 in
set_option maxHeartbeats 2000000 in
theorem rmove_some {w : World} {own : Nat → Prop} {bs : Nat} {S : St} {m : RMem} (h : RAtM w own bs S m) (hw : S.wait ≠ []) (hf : S.Fit) :
    Calls Try.prog 63 #[.pointer (some ⟨bs, 0, none⟩)] w fun e w' => e = .returned (.tuple #[.int .i64 S.moveK, .int .i64 (St.moveE S)]) ∧ RAt' w w' own bs S.moved := by
  obtain ⟨hm0, hm1, hdl, hp0, hp1, hwl⟩ := hf
  have Hmay := Lib.hid (fun (n : Int) (q : Nat) => rmay_calls n (h.drewN q))
  have hwp : 1 ≤ S.wait.length := by cases hq : S.wait with | nil => exact absurd hq hw | cons x r => simp
  obtain ⟨a, cap, hv, -⟩ := h.wait
  have c1 : w.cell? ⟨bs, 1, none⟩ = some (.int .i64 S.max) := h.c 1
  have c8 : w.cell? ⟨bs, 8, none⟩ = some (.int .i64 S.pos) := h.c 8
  have c11 : w.cell? ⟨bs, 11, none⟩ = some (.slice a S.wait.length cap) := by rw [h.c]; simp [RMem.cells, hv]
  have hlb : ((S.wait.length : Int) == 0) = false := by simp; omega
  clear hv hw
  have hwr : IntKind.i64.wrap (S.max - S.pos) = S.max - S.pos := IntWalk.i64_in _ (by omega)
  go_enter Try.func63, Try.ntmps63
  go_upto_region 5 with fail
  go_cut [6] (fun s6 wx => s6 = .int .i64 S.moveK ∧ ∃ m', RAtM wx own bs { S with plan := S.plan.tail } m' ∧ Fr w wx own own)
  case first =>
    go_region_held3 (fun w' => w'.cell? ⟨bs, 1, none⟩ = some (.int .i64 S.max)) (first | exact c1 | exact d1)
      (first
        | (go_at_call 64; refine (Hmay.out _ 1).mono ?_; rintro e w' ⟨rfl, m', h', f'⟩; have d1 : w'.cell? ⟨bs, 1, none⟩ = some (.int .i64 S.max) := h'.c 1; dsimp only))
    all_goals (go_wp2_with fail; go_meet; exact ⟨rfl, _, h', (Fr.refl w own).drewN 1 |>.trans f'⟩)
  case rest =>
    obtain ⟨rfl, m1, h1, hf1⟩ := hcut
    obtain ⟨k0, k1, k2⟩ := moveK_bd S hp1
    obtain ⟨k, hk⟩ := Int.eq_ofNat_of_zero_le k0
    obtain ⟨p, hp⟩ := Int.eq_ofNat_of_zero_le hp0
    rw [hk] at k1 k2 ⊢
    rw [hp] at k2 hp1 ⊢
    have Hk := Lib.hid hk; have Hp := Lib.hid hp
    have Hs := Lib.hid h
    clear hwr c1 c8 c11 Hmay k0 hk hp hp0 h
    go_upto_if 32 with fail
    obtain ⟨t, hT⟩ : ∃ t, decide (0 < k) = t := ⟨_, rfl⟩
    simp only [hT]
    have HT := Lib.hid hT
    clear hT
    go_cut [] from 33 to 51 (fun wx => ∃ own2 m2, RAtM wx own2 bs { S with plan := S.plan.tail, data := layD S.data p k [] } m2 ∧ Fr w wx own own2)
    case first =>
      cases t
      case true =>
        have hk := of_decide_eq_true HT.out
        go_wp2_with fail
        go_loopg [] (p - S.data.length) (fun g wr => ∃ j own2 m2, j + g = p - S.data.length ∧ RAtM wr own2 bs { S with plan := S.plan.tail, data := S.data ++ List.replicate j 0 } m2 ∧ Fr w wr own own2)
        case atStart => exact ⟨0, own, m1, by omega, by simpa using h1, hf1⟩
        case round =>
          obtain ⟨j, own2, m2, hj, h2, hf2⟩ := hrel
          obtain ⟨ad, cd, hdv, hdc, hdm⟩ := h2.data.shape
          generalize hD : S.data ++ List.replicate j 0 = D at h2 hdv hdc
          have hDl : D.length = S.data.length + j := by rw [← hD]; simp
          have e0 : wr.cell? ⟨bs, 0, none⟩ = some (.slice ad D.length cd) := by rw [h2.c]; simp [RMem.cells]; exact hdv
          by_cases hlt : D.length < p
          · obtain ⟨a3, n3, c3, W3, hrun, ⟨own3, m3, h3, f3⟩, g0, g1⟩ := h2.push 0 (by show D.length ≤ _; omega)
            rw [show m2.data = .slice ad D.length cd from hdv] at hrun g0
            have Hrun := Lib.hid hrun
            have H3 := Lib.hid h3
            have HF := Lib.hid (hf2.trans f3)
            have HD := Lib.hid hD
            have HDl := Lib.hid hDl
            have hjj : j < p - S.data.length := by omega
            have Hj := Lib.hid hj
            clear hrun h3 f3 hD h2 hf2 hdv hj hDl
            go_wp2_with (at_builtin; refine Lib.wpList_append_run _ rfl (.tmp 46) (.tmp 47) 22 22 rfl _ _ rfl rfl (.slice a3 n3 c3) W3 (Eq.trans ?_ Hrun.out) ?_; focus kernel_rfl)
            go_roundg (gk - 1)
            case measure => have := Hj.out; omega
            case rel => exact ⟨j + 1, own3, m3, by have := Hj.out; omega, by have := H3.out; rw [← HD.out] at this; rw [← replicate_push]; exact this, HF.out⟩
          · have hpj : D = layD S.data p k [] := by unfold layD; rw [if_pos hk, putAt_nil, ← hD]; congr 2; omega
            have Hpj := Lib.hid hpj
            have H2 := Lib.hid h2
            have HF := Lib.hid hf2
            clear hpj h2 hf2 hD hdv hDl hj
            go_wp2_with fail
            go_meet
            exact ⟨own2, m2, by rw [← Hpj.out]; exact H2.out, HF.out⟩
      case false =>
        have hpj : S.data = layD S.data p k [] := by unfold layD; rw [if_neg (of_decide_eq_false HT.out)]
        have Hpj := Lib.hid hpj
        clear hpj
        go_wp2_with fail
        go_meet
        exact ⟨own, m1, by rw [← Hpj.out]; exact h1, hf1⟩
    case rest =>
      obtain ⟨own2, m2, h2, hf2⟩ := hcut
      clear h1 hf1 HT
      go_upto_region 9 with fail
      go_wp2_with fail
      go_loopg [7] k (fun g i wr => ∃ (j : Nat) (own2 : Nat → Prop) (m2 : RMem), j + g = k ∧ i = .int .i64 j ∧ RAtM wr own2 bs { S with plan := S.plan.tail, data := layD S.data p k (S.wait.take j) } m2 ∧ Fr w wr own own2)
      case atStart => exact ⟨0, own2, m2, by omega, rfl, h2, hf2⟩
      case round =>
        obtain ⟨j, own3, m3, hj, rfl, h3, hf3⟩ := hrel
        have Hj := Lib.hid hj
        have hjk : j ≤ k := by omega
        clear hj h2 hf2
        by_cases hlt : j < k
        · have hD : layD S.data p k (S.wait.take j) = putAt S.data p (S.wait.take j) := by unfold layD; rw [if_pos (by omega)]
          have hD2 : layD S.data p k (S.wait.take (j + 1)) = putAt S.data p (S.wait.take (j + 1)) := by unfold layD; rw [if_pos (by omega)]
          have hjw : j < S.wait.length := by omega
          have htl : (S.wait.take j).length = j := by rw [List.length_take]; omega
          have htk : S.wait.take (j + 1) = S.wait.take j ++ [S.wait[j]] := by rw [List.take_add_one, List.getElem?_eq_getElem hjw]; rfl
          obtain ⟨x, hx⟩ : ∃ x, S.wait[j] = x := ⟨_, rfl⟩
          rw [hx] at htk
          have hxw : S.wait[j]? = some x := by rw [List.getElem?_eq_getElem hjw, hx]
          obtain ⟨aw, cw, hwv, hwc, hwm, -, hwr⟩ := h3.wait
          obtain ⟨wb, wo, rfl, -, hwcell⟩ := hwr (fun e => by simp only at e; rw [e] at hjw; simp at hjw)
          have ck : wr.cell? ⟨wb, wo + j, none⟩ = some (.int .u8 (x.toNat : Int)) := hwcell j x hxw
          have c11 : wr.cell? ⟨bs, 11, none⟩ = some (.slice (some ⟨wb, wo, none⟩) S.wait.length cw) := by rw [h3.c]; simp [RMem.cells]; exact hwv
          rw [hD] at h3
          have hDl : (putAt S.data p (S.wait.take j)).length = Nat.max S.data.length (p + j) := by rw [putAt_length, htl]
          by_cases hin : p + j < S.data.length
          · have hnew : (putAt S.data p (S.wait.take j)).set (p + j) x = layD S.data p k (S.wait.take (j + 1)) := by
              have := putAt_set S.data p (S.wait.take j) x (by rw [htl]; exact hin)
              rw [htl] at this
              rw [this, hD2, htk]
            have Hnew := Lib.hid hnew
            have hDn : (putAt S.data p (S.wait.take j)).length = S.data.length := by rw [hDl]; exact Nat.max_eq_left (by omega)
            clear hnew hD2 htk hD hx hxw htl hwcell hwv hDl
            generalize putAt S.data p (S.wait.take j) = D at h3 hDn Hnew
            obtain ⟨db, dc, hdv, hdc, hdm, hdo⟩ := h3.data.block (fun e => by simp only at e; rw [e] at hDn; simp at hDn; omega)
            simp only at hdv hdc
            rw [hDn] at hdv hdc
            have e0 : wr.cell? ⟨bs, 0, none⟩ = some (.slice (some ⟨db, 0, none⟩) S.data.length dc) := by rw [h3.c]; simp [RMem.cells]; exact hdv
            have hrow : Wr wr (rdatas own3 bs) m3.data D := h3.data
            rw [hdv] at hrow
            have hst := Row.store (own := rdatas own3 bs) (b := db) (cap := dc) (d := D) (by rw [hDn]; exact hrow) (p + j) x (by omega)
            rw [hDn, ← hdv] at hst
            have fd : wr.frozen? ⟨db, p + j, none⟩ = false := by
              rcases hrow with ⟨e, -⟩ | ⟨b', cap', cs, hv, hb, hh, r1, r2, r3, r4⟩
              · rw [e] at hDn; simp at hDn; omega
              · rw [hDn] at hv; cases hv; exact frozen_of_row _ _ _ _ _ hh
            have cd : ∃ v, wr.cell? ⟨db, p + j, none⟩ = some v := by
              rcases hrow with ⟨e, -⟩ | ⟨b', cap', cs, hv, hb, hh, r1, r2, r3, r4⟩
              · rw [e] at hDn; simp at hDn; omega
              · rw [hDn] at hv; cases hv; exact ⟨cs[p + j]'(by omega), by rw [cell_of_row _ _ _ _ _ _ hh, Array.getElem?_eq_getElem]⟩
            obtain ⟨v0, cd⟩ := cd
            have hdbs : db ≠ bs := hdo.2
            have htw : Tw wr (wr.setCell ⟨db, p + j, none⟩ (byteV x)) (fun b => rdatas own3 bs b ∧ blockIs m3.data b) :=
              ⟨rfl, rfl, rfl, by simp, fun b _ hb => Below.heap_setCell _ _ _ _ (fun e => hb (by simp only at e; rw [e]; exact ⟨hdo, by rw [hdv]; exact ⟨_, _, _, rfl, by omega⟩⟩))⟩
            have H4 := Lib.hid (h3.inData htw hst)
            have HF := Lib.hid (hf3.setCell ⟨db, p + j, none⟩ (byteV x) (hf3.new _ hdo.1))
            have Hdn := Lib.hid hDn
            clear hst htw hrow h3 hf3 hdv hDn
            have hix : ∀ W : World, (Instr.indexAt 22 (.slice (some ⟨db, 0, none⟩) S.data.length dc) (.int .i64 ((p : Int) + (j : Int)))).run Try.prog W = .ok (.pointer (some ⟨db, p + j, none⟩)) W := fun W => by
              rw [run_indexAt_slice (h := by rw [elem22]; exact Try.underlying22), if_pos (by omega), elem22, run_size5]
              simp [Result.andThen, addr_add]
            have hwr2 : IntKind.i64.wrap ((p : Int) + (j : Int)) = (p : Int) + (j : Int) := IntWalk.i64_in _ (by omega)
            go_upto_region 13 with fail
            go_still_tail 16, (by kernel_rfl)
            go_wp2_with fail
            go_roundg (gk - 1)
            case measure => have := Hj.out; omega
            case rel => exact ⟨j + 1, own3, m3, by have := Hj.out; omega, by rw [show ((j : Int) + 1) = ((j + 1 : Nat) : Int) by omega], by rw [← Hnew.out]; exact H4.out.drewN 1, HF.out.drewN 1⟩
          · have hnew : putAt S.data p (S.wait.take j) ++ [x] = layD S.data p k (S.wait.take (j + 1)) := by
              rw [putAt_push S.data p (S.wait.take j) x (by rw [htl]; omega), hD2, htk]
            have Hnew := Lib.hid hnew
            have hDn : (putAt S.data p (S.wait.take j)).length = p + j := by rw [hDl]; exact Nat.max_eq_right (by omega)
            clear hnew hD2 htk hD hx hxw htl hwcell hwv hDl
            generalize putAt S.data p (S.wait.take j) = D at h3 hDn Hnew
            obtain ⟨ad, cd, hdv, hdc, hdm⟩ := h3.data.shape
            simp only at hdv hdc
            rw [hDn] at hdv hdc
            have e0 : wr.cell? ⟨bs, 0, none⟩ = some (.slice ad (p + j) cd) := by rw [h3.c]; simp [RMem.cells]; exact hdv
            obtain ⟨a4, n4, c4, W4, hrun, ⟨own4, m4, h4, f4⟩, g0, g1⟩ := (h3.drewN 1).push x (by simp only [hDn]; omega)
            rw [hdv] at hrun g0
            have Hrun := Lib.hid hrun
            have H4 := Lib.hid h4
            have HF := Lib.hid ((hf3.drewN 1).trans f4)
            have lbs : bs < wr.heap.size := h3.lt _ h3.os
            have lwb : wb < wr.heap.size := World.block_lt_of_cell? _ _ ck
            have e0a : (wr.alloc (.cells #[.int .u8 (x.toNat : Int)] 5)).cell? ⟨bs, 0, none⟩ = some (.slice ad (p + j) cd) := (World.cell?_alloc_lt _ _ ⟨bs, 0, none⟩ lbs).trans e0
            have c11a : (wr.alloc (.cells #[.int .u8 (x.toNat : Int)] 5)).cell? ⟨bs, 11, none⟩ = some (.slice (some ⟨wb, wo, none⟩) S.wait.length cw) := (World.cell?_alloc_lt _ _ ⟨bs, 11, none⟩ lbs).trans c11
            have cka : (wr.alloc (.cells #[.int .u8 (x.toNat : Int)] 5)).cell? ⟨wb, wo + j, none⟩ = some (.int .u8 (x.toNat : Int)) := (World.cell?_alloc_lt _ _ ⟨wb, wo + j, none⟩ lwb).trans ck
            clear hrun h4 f4 h3 hf3 hdv hDn lbs lwb
            go_upto_region 14 with fail
            go_region_law ((refine step_append_run rfl (.tmp 88) (.tmp 96) 22 22 rfl _ _ rfl rfl (.slice a4 n4 c4) W4 (Eq.trans ?_ Hrun.out) ?_; focus kernel_rfl))
            all_goals
              go_wp2_with fail
              go_roundg (gk - 1)
              case measure => have := Hj.out; omega
              case rel => exact ⟨j + 1, own4, m4, by have := Hj.out; omega, by rw [show ((j : Int) + 1) = ((j + 1 : Nat) : Int) by omega], by rw [← Hnew.out]; exact H4.out, HF.out⟩
        · obtain rfl : j = k := by omega
          have h5 := (h3.setPos (↑p + ↑j)).setWait (.slice none 0 0) [] (Rd.nil _ _ _)
          have hf5 := (hf3.setCell ⟨bs, 8, none⟩ (.int .i64 (↑p + ↑j)) (hf3.new _ h3.os)).setCell ⟨bs, 11, none⟩ (.slice none 0 0) (hf3.new _ h3.os)
          have c8 : wr.cell? ⟨bs, 8, none⟩ = some (.int .i64 p) := by rw [← Hp.out]; exact h3.c 8
          have f8 := h3.f 8
          have f11 := h3.f 11
          have f13 := h3.f 13
          have c13 : wr.cell? ⟨bs, 13, none⟩ = some (.bool S.bad) := h3.c 13
          have c11 : wr.cell? ⟨bs, 11, none⟩ = some m3.wait := h3.c 11
          have hwr2 : IntKind.i64.wrap ((p : Int) + (j : Int)) = (p : Int) + (j : Int) := IntWalk.i64_in _ (by omega)
          by_cases hkn : j < S.wait.length
          · have h6 := h5.setBad true
            have e1 : S.moved = { S with plan := S.plan.tail, data := layD S.data p j (S.wait.take j), pos := ↑p + ↑j, wait := [], bad := true } := by
              unfold St.moved layD
              rw [Hk.out, Hp.out, decide_eq_true (by omega), Bool.or_true]
              simp only [Int.toNat_natCast, Int.natCast_pos]
            have e2 : St.moveE S = 14 := by unfold St.moveE; rw [Hk.out, if_pos (by omega)]
            have hpost : RAt' w _ own bs S.moved := ⟨own3, _, by rw [e1]; exact h6, hf5.setCell ⟨bs, 13, none⟩ (.bool true) (hf3.new _ h3.os)⟩
            have Hpost := Lib.hid hpost
            have E2 := Lib.hid e2
            clear h5 hf5 h6 e1 e2 hpost h3 hf3 Hj
            go_wp2_with fail
            go_ret2
            rw [E2.out, Hk.out]
            exact ⟨rfl, Hpost.out⟩
          · have e1 : S.moved = { S with plan := S.plan.tail, data := layD S.data p j (S.wait.take j), pos := ↑p + ↑j, wait := [] } := by
              unfold St.moved layD
              rw [Hk.out, Hp.out, decide_eq_false (by omega), Bool.or_false]
              simp only [Int.toNat_natCast, Int.natCast_pos]
            have e2 : St.moveE S = 0 := by unfold St.moveE; rw [Hk.out, if_neg (by omega)]
            have hpost : RAt' w _ own bs S.moved := ⟨own3, _, by rw [e1]; exact h5, hf5⟩
            have Hpost := Lib.hid hpost
            have E2 := Lib.hid e2
            clear h5 hf5 e1 e2 hpost h3 hf3 Hj
            go_wp2_with fail
            go_ret2
            rw [E2.out, Hk.out]
            exact ⟨rfl, Hpost.out⟩

theorem rmove_calls {w : World} {own : Nat → Prop} {bs : Nat} {S : St} {m : RMem} (h : RAtM w own bs S m) (hf : S.Fit) :
    Calls Try.prog 63 #[.pointer (some ⟨bs, 0, none⟩)] w fun e w' => e = .returned (.tuple #[.int .i64 S.move.1, .int .i64 S.move.2.1]) ∧ RAt' w w' own bs S.move.2.2 := by
  by_cases hw : S.wait = []
  · refine (rmove_none h hw).mono ?_
    rintro e w' ⟨rfl, rfl⟩
    unfold St.move
    rw [if_pos hw]
    exact ⟨rfl, own, m, h, Fr.refl _ _⟩
  · refine (rmove_some h hw hf).mono ?_
    rintro e w' ⟨rfl, h2⟩
    unfold St.move
    rw [if_neg hw]
    exact ⟨rfl, h2⟩
end Go.Proofs.Ytgihclflndlomaa
