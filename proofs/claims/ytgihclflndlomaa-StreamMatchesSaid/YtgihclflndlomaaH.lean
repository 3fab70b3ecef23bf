/- fill: bytes are read ahead. -/
import Derived.Test.YtgihclflndlomaaE
import Derived.Test.YtgihclflndlomaaG
namespace Go.Proofs.Ytgihclflndlomaa
open Go.RowKit

theorem fill_marked {w : World} {own : Nat → Prop} {bs : Nat} {S : St} {m : Mem} (h : SAtM w own bs S m) (ho : S.opened = true) (he : S.endm = true) :
    Calls Try.prog 61 #[.pointer (some ⟨bs, 0, none⟩)] w fun e w' => e = .panicked (pe 11) ∧ SAt' w w' own bs { S with endm := true } := by
  have c1 : w.cell? ⟨bs, 1, none⟩ = some (.bool true) := by rw [h.c]; simp [Mem.stream, (h.marks ho).1, he]
  have f1 := h.f 1
  have hpost : ∀ q, SAt' w ((w.setCell ⟨bs, 1, none⟩ (.bool true)).drewN q) own bs { S with endm := true } := fun q => ⟨own, _, (h.setEnd true ho).drewN q, ((Fr.refl w own).setCell ⟨bs, 1, none⟩ (.bool true) (.inl h.os)).drewN q⟩
  have Hpost := Lib.hid hpost
  clear hpost h ho he
  go_enter Try.func61, Try.ntmps61
  go_wp2_with fail
  go_quiet (fail)
  go_wp2_with (go_at_call 42; refine (must_bad _ _ rfl).mono ?_; rintro r w' ⟨rfl, rfl⟩)
  exact ⟨rfl, rfl, Hpost.out _⟩

theorem fill_end {w : World} {own : Nat → Prop} {bs : Nat} {S : St} {m : Mem} (h : SAtM w own bs S m) (ho : S.opened = true) (he : S.endm = false) (hp : (S.data.length : Int) ≤ S.pos) :
    Calls Try.prog 61 #[.pointer (some ⟨bs, 0, none⟩)] w fun e w' => e = .panicked (pe 11) ∧ SAt' w w' own bs { S with endm := true } := by
  have c1 : w.cell? ⟨bs, 1, none⟩ = some (.bool false) := by rw [h.c]; simp [Mem.stream, (h.marks ho).1, he]
  have f1 := h.f 1
  obtain ⟨ad, cd, hdv, hdc, hdm⟩ := h.data.shape
  have c0 : w.cell? ⟨bs, 0, none⟩ = some (.pointer (some ⟨m.bd, 0, none⟩)) := h.c 0
  have c9 : w.cell? ⟨bs, 9, none⟩ = some (.int .i64 S.pos) := h.c 9
  have e0 : w.cell? ⟨m.bd, 0, none⟩ = some (.slice ad S.data.length cd) := by rw [h.cd]; simp [Mem.disk, hdv]
  have hpost : ∀ q, SAt' w ((w.setCell ⟨bs, 1, none⟩ (.bool true)).drewN q) own bs { S with endm := true } := fun q => ⟨own, _, (h.setEnd true ho).drewN q, ((Fr.refl w own).setCell ⟨bs, 1, none⟩ (.bool true) (.inl h.os)).drewN q⟩
  have Hpost := Lib.hid hpost
  clear hpost h ho he hdv hdc hdm
  go_enter Try.func61, Try.ntmps61
  go_wp2_with fail
  go_quiet (fail)
  go_wp2_with (go_at_call 42; refine (must_bad _ _ rfl).mono ?_; rintro r w' ⟨rfl, rfl⟩)
  exact ⟨rfl, rfl, Hpost.out _⟩

theorem fillK_eq (S : St) : mayN S.plan (if (S.data.length : Int) - S.pos < S.size then (S.data.length : Int) - S.pos else S.size) = S.fillK := by
  unfold St.fillK
  congr 1
  rw [Int.min_def]
  repeat' split
  all_goals omega

/-- The bytes that are read ahead. -/
def St.fillD (S : St) : List UInt8 := (S.data.drop S.pos.toNat).take S.fillK.toNat

def FillPost (w : World) (own : Nat → Prop) (bs : Nat) (S : St) (e : Ending) (w' : World) : Prop :=
  if S.fillK = 0 then e = .panicked (pe 14) ∧ SAt' w w' own bs { S with plan := S.plan.tail, bad := true }
  else e = .returned (.tuple #[]) ∧ SAt' w w' own bs { S with plan := S.plan.tail, ahead := St.fillD S, pos := S.pos + S.fillK }

set_option maxRecDepth 100000 in
set_option maxHeartbeats 1000000 in
theorem fill_more {w : World} {own : Nat → Prop} {bs : Nat} {S : St} {m : Mem} (h : SAtM w own bs S m) (ho : S.opened = true) (he : S.endm = false) (hp0 : 0 ≤ S.pos) (hp : S.pos < (S.data.length : Int)) (hm1 : (S.data.length : Int) ≤ 1048576) (hs1 : 1 ≤ S.size) (hs2 : S.size ≤ 65536) :
    Calls Try.prog 61 #[.pointer (some ⟨bs, 0, none⟩)] w (FillPost w own bs S) := by
  have hmay := fun (n : Int) (w' : World) (hw' : w'.heap = w.heap) => may_any n m.bx m.bd m.plan S.plan (m.only own bs) w' (by simp only [World.cell?, hw']; exact h.cx) (by simp only [World.cell?, hw']; exact h.cd 2) (by simp only [World.frozen?, hw']; exact h.fd 2) (h.plan.keep (fun _ _ _ => by rw [hw']) (fun _ hb _ => hb))
  have Hmay := Lib.hid hmay; clear hmay
  have c1 : w.cell? ⟨bs, 1, none⟩ = some (.bool false) := by rw [h.c]; simp [Mem.stream, (h.marks ho).1, he]
  obtain ⟨ad, cd, hdv, hdc, hdm⟩ := h.data.shape
  have c0 : w.cell? ⟨bs, 0, none⟩ = some (.pointer (some ⟨m.bd, 0, none⟩)) := h.c 0
  have c6 : w.cell? ⟨bs, 6, none⟩ = some (.int .i64 S.size) := h.c 6
  have c9 : w.cell? ⟨bs, 9, none⟩ = some (.int .i64 S.pos) := h.c 9
  have e0 : w.cell? ⟨m.bd, 0, none⟩ = some (.slice ad S.data.length cd) := by rw [h.cd]; simp [Mem.disk, hdv]
  have d3 : w.cell? ⟨m.bd, 3, none⟩ = some (.func (.func 32) #[] #[.pointer (some ⟨m.bx, 0, none⟩)]) := h.cd 3
  have hsd := h.sd
  have hlt : decide ((S.data.length : Int) ≤ S.pos) = false := by simp; omega
  have hwr : IntKind.i64.wrap ((S.data.length : Int) - S.pos) = (S.data.length : Int) - S.pos := IntWalk.i64_in _ (by omega)
  clear hdv
  go_enter Try.func61, Try.ntmps61
  go_wp2_with fail
  go_quiet (fail)
  go_upto_region 3 with fail
  rename_i nq
  go_cut [2] (fun s2 wx => ∃ q a l c, s2 = .int .i64 S.fillK ∧ Rd w (m.only own bs) intV (.slice a l c) S.plan.tail ∧ wx = (w.setCell ⟨m.bd, 2, none⟩ (.slice a l c)).drewN q)
  case first =>
    go_region_held3 (fun w' => w'.cell? ⟨bs, 0, none⟩ = some (.pointer (some ⟨m.bd, 0, none⟩)) ∧ w'.cell? ⟨bs, 6, none⟩ = some (.int .i64 S.size) ∧ w'.cell? ⟨bs, 9, none⟩ = some (.int .i64 S.pos) ∧ w'.cell? ⟨m.bd, 0, none⟩ = some (.slice ad S.data.length cd) ∧ w'.cell? ⟨m.bd, 3, none⟩ = some (.func (.func 32) #[] #[.pointer (some ⟨m.bx, 0, none⟩)]))
      (first | exact ⟨c0, c6, c9, e0, d3⟩ | exact ⟨(cell_set_block _ hsd).trans c0, (cell_set_block _ hsd).trans c6, (cell_set_block _ hsd).trans c9, (cell_set_off _ (by decide)).trans e0, (cell_set_off _ (by decide)).trans d3⟩)
      (first
        | (go_at_call 32; refine (Hmay.out _ _ (by rfl)).mono ?_; rintro e w' ⟨rfl, q, a, l, c, hR, rfl⟩; dsimp only))
    all_goals (simp only [fillK_eq]; generalize (if (S.data.length : Int) - S.pos < S.size then (S.data.length : Int) - S.pos else S.size) = z; go_wp2_with fail; go_meet; exact ⟨_, a, l, c, rfl, hR.keep (fun _ _ _ => rfl) (fun _ h _ => h), World.drewN_drewN (w.setCell ⟨m.bd, 2, none⟩ (.slice a l c)) _ q⟩)
  case rest =>
    obtain ⟨q, a', l, c, rfl, hR, rfl⟩ := hcut
    clear hwr c0 c1 c6 c9 e0 d3
    have h1 := (h.setPlan (.slice a' l c) S.plan.tail hR).drewN q
    generalize hW1 : (w.setCell ⟨m.bd, 2, none⟩ (.slice a' l c)).drewN q = W1 at h1 ⊢
    have hf1 : Fr w W1 own own := by rw [← hW1]; exact ((Fr.refl w own).setCell _ _ (.inl h.od)).drewN q
    have hkb : 0 ≤ S.fillK ∧ S.fillK ≤ (S.data.length : Int) - S.pos := by
      unfold St.fillK
      have := mayN_nonneg S.plan (min S.size ((S.data.length : Int) - S.pos)) (by omega)
      omega
    obtain ⟨k0, k1⟩ := hkb
    obtain ⟨k, hk⟩ := Int.eq_ofNat_of_zero_le k0
    obtain ⟨p, hp2⟩ := Int.eq_ofNat_of_zero_le hp0
    rw [hk] at k1 ⊢
    rw [hp2] at k1 hp
    have Hk := Lib.hid hk; have Hp := Lib.hid hp2
    clear hW1 hR k0 hp0 hk hp2 Hmay hsd
    have c0 : W1.cell? ⟨bs, 0, none⟩ = some (.pointer (some ⟨m.bd, 0, none⟩)) := h1.c 0
    have c2 : W1.cell? ⟨bs, 2, none⟩ = some (.bool m.bad) := h1.c 2
    have c9 : W1.cell? ⟨bs, 9, none⟩ = some (.int .i64 p) := by rw [← Hp.out]; exact h1.c 9
    have f2 := h1.f 2
    have f9 := h1.f 9
    have f10 := h1.f 10
    by_cases hk0 : k = 0
    · have hpost : FillPost w own bs S (.panicked (pe 14)) (W1.setCell ⟨bs, 2, none⟩ (.bool true)) := by
        unfold FillPost
        rw [if_pos (by rw [Hk.out, hk0]; rfl)]
        exact ⟨rfl, own, _, h1.setBad true ho, hf1.setCell _ _ (.inl h.os)⟩
      have Hpost := Lib.hid hpost
      have hk1 : ((k : Int) == 0) = true := by rw [hk0]; rfl
      clear hpost h h1 hf1 ho he hlt Hk Hp hk0
      go_wp2_with (go_at_call 42; refine (must_bad _ _ rfl).mono ?_; rintro r w' ⟨rfl, rfl⟩)
      exact ⟨rfl, Hpost.out⟩
    · have hk1 : ((k : Int) == 0) = false := by simp; omega
      obtain ⟨db, dc, hdv, hdc, hdm, hdo⟩ := h1.data.block (fun e => by simp only at e; rw [e] at hp; simp at hp; omega)
      simp only at hdv hdc
      have e0 : W1.cell? ⟨m.bd, 0, none⟩ = some (.slice (some ⟨db, 0, none⟩) S.data.length dc) := by rw [h1.cd]; simp [Mem.disk, hdv]
      have c10 : W1.cell? ⟨bs, 10, none⟩ = some m.ahead := h1.c 10
      have hrd := h1.data.rd
      simp only at hrd
      rw [hdv] at hrd
      have hkp : p + k ≤ S.data.length := by omega
      have Hrd := Lib.hid ((hrd.keep (w' := W1.drew) (fun _ _ _ => rfl) (fun _ h _ => h)).part p k p (by omega) hkp)
      have hpn : ¬ dc = p := by omega
      have hpd : p ≤ S.data.length := by omega
      have hpk : p + k ≤ dc := by omega
      have hbl2 : bs < W1.heap.size := h1.lt _ h1.os
      have hbl3 : m.bd < W1.heap.size := h1.lt _ h1.od
      unfold maxLen at hdm
      have hDl : ((S.data.drop p).take k).length * 1 ≤ 140737488355328 := by rw [List.length_take, List.length_drop]; omega
      have Hdv := Lib.hid hdv
      clear hdv hrd
      have hs0 : (0 : Int) ≤ ↑p + ↑k := by omega
      have hs1' : ((p : Int) + ↑k) ≤ ↑dc := by omega
      have hs2' : ((p : Int) + ↑k).toNat = p + k := by omega
      have hs3 : p ≤ p + k := by omega
      have hs4 : p + k - p = k := by omega
      have hsum : IntKind.i64.wrap ((p : Int) + ↑k) = ↑p + ↑k := IntWalk.i64_in _ (by omega)
      go_wp2_with fail
      go_region_held3 (fun w' => w'.cell? ⟨bs, 0, none⟩ = some (.pointer (some ⟨m.bd, 0, none⟩)) ∧ w'.cell? ⟨bs, 9, none⟩ = some (.int .i64 p) ∧ w'.cell? ⟨m.bd, 0, none⟩ = some (.slice (some ⟨db, 0, none⟩) S.data.length dc))
        (first | exact ⟨c0, c9, e0⟩ | exact ⟨(hbl.cell hbl2).trans c0, (hbl.cell hbl2).trans c9, (hbl.cell hbl3).trans e0⟩ | exact ⟨(cell_set_off _ (by decide)).trans ((hbl.cell hbl2).trans c0), (cell_set_off _ (by decide)).trans ((hbl.cell hbl2).trans c9), (cell_set_block _ h1.sd.symm).trans ((hbl.cell hbl3).trans e0)⟩)
        (first
          | (go_at_call 38; refine (clone_bytes _ _ _ _ Hrd.out hDl).mono ?_; rintro e W5 ⟨a5, n5, c5, rfl, hrow, hbl⟩; have g10 := (hbl.cell (p := ⟨bs, 10, none⟩) hbl2).trans c10; have gf10 := (hbl.frozen (p := ⟨bs, 10, none⟩) hbl2).trans f10; dsimp only))
      have h5 := ((h1.drewN 1).grow hbl).setAhead (.slice a5 n5 c5) _ (hrow.rd.keep (fun _ _ _ => rfl) (fun b hb _ => (h1.drewN 1).newOnly b hb.1 hb.2))
      have h6 := h5.setPos (↑p + ↑k)
      have hf6 := ((((hf1.drewN 1).grow hbl).setCell ⟨bs, 10, none⟩ (.slice a5 n5 c5) (.inl h.os)).setCell ⟨bs, 9, none⟩ (.int .i64 (↑p + ↑k)) (.inl h.os))
      have hpost : FillPost w own bs S (.returned (.tuple #[])) ((W5.setCell ⟨bs, 10, none⟩ (.slice a5 n5 c5)).setCell ⟨bs, 9, none⟩ (.int .i64 (↑p + ↑k))) := by
        unfold FillPost
        rw [if_neg (by rw [Hk.out]; omega)]
        refine ⟨rfl, _, { m with plan := .slice a' l c, ahead := .slice a5 n5 c5 }, ?_, hf6⟩
        have e1 : ({ S with plan := S.plan.tail, ahead := St.fillD S, pos := S.pos + S.fillK } : St) = { S with plan := S.plan.tail, ahead := (S.data.drop p).take k, pos := ↑p + ↑k } := by
          unfold St.fillD
          rw [Hk.out, Hp.out]
          rfl
        rw [e1]
        exact h6
      have Hpost := Lib.hid hpost
      have k9 : (W5.setCell ⟨bs, 10, none⟩ (.slice a5 n5 c5)).cell? ⟨bs, 9, none⟩ = some (.int .i64 p) := (cell_set_off _ (by decide)).trans ((hbl.cell (p := ⟨bs, 9, none⟩) hbl2).trans c9)
      have kf9 : W5.frozen? ⟨bs, 9, none⟩ = false := (hbl.frozen (p := ⟨bs, 9, none⟩) hbl2).trans f9
      clear hpost h5 h6 hf6 hrow hbl h h1 hf1 hs2' hs4 Hdv hdo Hrd
      rename_i hHeld
      clear hHeld
      go_wp2_with fail
      go_end0
      exact Hpost.out

/-- fill, whatever the stream's state. -/
theorem fill_calls {w : World} {own : Nat → Prop} {bs : Nat} {S : St} {m : Mem} (h : SAtM w own bs S m) (ho : S.opened = true) (hp0 : 0 ≤ S.pos) (hm1 : (S.data.length : Int) ≤ 1048576) (hs1 : 1 ≤ S.size) (hs2 : S.size ≤ 65536) :
    Calls Try.prog 61 #[.pointer (some ⟨bs, 0, none⟩)] w fun e w' => (if S.fill.1 = 0 then e = .returned (.tuple #[]) else e = .panicked (pe S.fill.1)) ∧ SAt' w w' own bs S.fill.2 := by
  by_cases he : S.endm = true
  · have e1 : S.fill = (11, { S with endm := true }) := by unfold St.fill; rw [if_pos (.inl he)]
    rw [e1]
    exact fill_marked h ho he
  · by_cases hp : (S.data.length : Int) ≤ S.pos
    · have e1 : S.fill = (11, { S with endm := true }) := by unfold St.fill; rw [if_pos (.inr hp)]
      rw [e1]
      exact fill_end h ho (by simpa using he) hp
    · refine (fill_more h ho (by simpa using he) hp0 (by omega) hm1 hs1 hs2).mono ?_
      intro e w' hpost
      unfold FillPost at hpost
      by_cases hk : S.fillK = 0
      · have e1 : S.fill = (14, { S with plan := S.plan.tail, bad := true }) := by unfold St.fill; rw [if_neg (by rintro (h | h); exact he h; exact hp h), if_pos hk]
        rw [if_pos hk] at hpost
        rw [e1]
        exact hpost
      · have e1 : S.fill = (0, { S with plan := S.plan.tail, ahead := St.fillD S, pos := S.pos + S.fillK }) := by unfold St.fill; rw [if_neg (by rintro (h | h); exact he h; exact hp h), if_neg hk]; rfl
        rw [if_neg hk] at hpost
        rw [e1]
        exact hpost
end Go.Proofs.Ytgihclflndlomaa
