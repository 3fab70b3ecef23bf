/- How a stream of the reference package lies in memory; The reference package's may and feeds. -/
import Derived.Test.YtgihclflndlomaaE
import Derived.Test.YtgihclflndlomaaQ
namespace Go.Proofs.Ytgihclflndlomaa
open Go.RowKit

/-- Where the parts of a reference stream lie. -/
structure RMem where
  data : Value
  plan : Value
  ahead : Value
  back : Value
  wait : Value

def RMem.cells (m : RMem) (S : St) : Array Value :=
  #[m.data, .int .i64 S.max, m.plan, .bool S.rd, .bool S.wr, .bool S.app, .int .i64 S.size, .bool S.lines, .int .i64 S.pos, m.ahead, m.back, m.wait, .bool S.endm, .bool S.bad, .bool (!S.opened)]

/-- Blocks that the stream only reads. -/
def RMem.only (m : RMem) (own : Nat → Prop) (bs : Nat) (b : Nat) : Prop := own b ∧ b ≠ bs ∧ ¬ blockIs m.data b
abbrev rdatas (own : Nat → Prop) (bs : Nat) (b : Nat) : Prop := own b ∧ b ≠ bs

/-- A reference stream at a block. -/
structure RAtM (w : World) (own : Nat → Prop) (bs : Nat) (S : St) (m : RMem) : Prop where
  hs : w.heap[bs]? = some (.cells (m.cells S) 61 (0, 0))
  os : own bs
  lt : ∀ k, own k → k < w.heap.size
  data : Wr w (rdatas own bs) m.data S.data
  plan : Rd w (m.only own bs) intV m.plan S.plan
  ahead : Rd w (m.only own bs) byteV m.ahead S.ahead
  back : Rd w (m.only own bs) byteV m.back S.back
  wait : Rd w (m.only own bs) byteV m.wait S.wait

section
variable {w : World} {own : Nat → Prop} {bs : Nat} {S : St} {m : RMem}
theorem RAtM.c (h : RAtM w own bs S m) (j : Nat) : w.cell? ⟨bs, j, none⟩ = (m.cells S)[j]? := cell_of_row w bs j _ _ _ h.hs
theorem RAtM.f (h : RAtM w own bs S m) (j : Nat) : w.frozen? ⟨bs, j, none⟩ = false := frozen_of_row w bs j _ _ h.hs

/-- Whatever has turned, it was none of the stream's blocks. -/
theorem RAtM.keep {w' : World} (h : RAtM w own bs S m) (hs : w.heap.size ≤ w'.heap.size) (hk : ∀ b, own b → w'.heap[b]? = w.heap[b]?) : RAtM w' own bs S m where
  hs := (hk _ h.os).trans h.hs
  os := h.os
  lt := fun k hk' => Nat.lt_of_lt_of_le (h.lt k hk') hs
  data := h.data.keep (fun b hb _ => hk b hb.1) (fun _ hb _ => hb)
  plan := h.plan.keep (fun b hb _ => hk b hb.1) (fun _ hb _ => hb)
  ahead := h.ahead.keep (fun b hb _ => hk b hb.1) (fun _ hb _ => hb)
  back := h.back.keep (fun b hb _ => hk b hb.1) (fun _ hb _ => hb)
  wait := h.wait.keep (fun b hb _ => hk b hb.1) (fun _ hb _ => hb)

theorem RAtM.drewN (h : RAtM w own bs S m) (n : Nat) : RAtM (w.drewN n) own bs S m := h.keep (Nat.le_refl _) (fun _ _ => rfl)
theorem RAtM.alloc (h : RAtM w own bs S m) (o : Obj) : RAtM (w.alloc o) own bs S m := h.keep (by simp) (fun b hb => Below.heap_alloc _ _ _ (h.lt b hb))
theorem RAtM.below {W : World} (h : RAtM w own bs S m) (hb : Below w.heap.size w W) : RAtM W own bs S m := h.keep hb.size (fun b hk => hb.block b (h.lt b hk))

/-- A field of the stream is written; not that of the data. -/
theorem RAtM.set (h : RAtM w own bs S m) (j : Nat) (v : Value) (S' : St) (m' : RMem) (hrow : (m.cells S).setIfInBounds j v = m'.cells S')
    (hd : m'.data = m.data) (hd' : S'.data = S.data) (hp : Rd w (m.only own bs) intV m'.plan S'.plan)
    (ha : Rd w (m.only own bs) byteV m'.ahead S'.ahead) (hb : Rd w (m.only own bs) byteV m'.back S'.back) (hw : Rd w (m.only own bs) byteV m'.wait S'.wait) : RAtM (w.setCell ⟨bs, j, none⟩ v) own bs S' m' := by
  have hk : ∀ b, b ≠ bs → (w.setCell ⟨bs, j, none⟩ v).heap[b]? = w.heap[b]? := fun b hb => Below.heap_setCell _ _ _ _ hb
  have ho : ∀ b, m.only own bs b → m'.only own bs b := fun b hb => by unfold RMem.only at hb ⊢; rw [hd]; exact hb
  exact {
    hs := by rw [heap_setCell_same w bs j _ _ v h.hs, hrow]
    os := h.os
    lt := fun k hk' => by simp; exact h.lt k hk'
    data := by rw [hd, hd']; exact h.data.keep (fun b hb _ => hk b hb.2) (fun b hb _ => hb)
    plan := hp.keep (fun b hb _ => hk b hb.2.1) (fun b hb _ => ho b hb)
    ahead := ha.keep (fun b hb _ => hk b hb.2.1) (fun b hb _ => ho b hb)
    back := hb.keep (fun b hb _ => hk b hb.2.1) (fun b hb _ => ho b hb)
    wait := hw.keep (fun b hb _ => hk b hb.2.1) (fun b hb _ => ho b hb) }

theorem RAtM.setPlan (h : RAtM w own bs S m) (v : Value) (l : List Int) (hr : Rd w (m.only own bs) intV v l) : RAtM (w.setCell ⟨bs, 2, none⟩ v) own bs { S with plan := l } { m with plan := v } :=
  h.set 2 _ _ { m with plan := v } rfl rfl rfl hr h.ahead h.back h.wait
theorem RAtM.setPos (h : RAtM w own bs S m) (p : Int) : RAtM (w.setCell ⟨bs, 8, none⟩ (.int .i64 p)) own bs { S with pos := p } m :=
  h.set 8 _ _ _ rfl rfl rfl h.plan h.ahead h.back h.wait
theorem RAtM.setAhead (h : RAtM w own bs S m) (v : Value) (l : List UInt8) (hr : Rd w (m.only own bs) byteV v l) : RAtM (w.setCell ⟨bs, 9, none⟩ v) own bs { S with ahead := l } { m with ahead := v } :=
  h.set 9 _ _ { m with ahead := v } rfl rfl rfl h.plan hr h.back h.wait
theorem RAtM.setBack (h : RAtM w own bs S m) (v : Value) (l : List UInt8) (hr : Rd w (m.only own bs) byteV v l) : RAtM (w.setCell ⟨bs, 10, none⟩ v) own bs { S with back := l } { m with back := v } :=
  h.set 10 _ _ { m with back := v } rfl rfl rfl h.plan h.ahead hr h.wait
theorem RAtM.setWait (h : RAtM w own bs S m) (v : Value) (l : List UInt8) (hr : Rd w (m.only own bs) byteV v l) : RAtM (w.setCell ⟨bs, 11, none⟩ v) own bs { S with wait := l } { m with wait := v } :=
  h.set 11 _ _ { m with wait := v } rfl rfl rfl h.plan h.ahead h.back hr
theorem RAtM.setEnd (h : RAtM w own bs S m) (e : Bool) : RAtM (w.setCell ⟨bs, 12, none⟩ (.bool e)) own bs { S with endm := e } m :=
  h.set 12 _ _ m rfl rfl rfl h.plan h.ahead h.back h.wait
theorem RAtM.setBad (h : RAtM w own bs S m) (e : Bool) : RAtM (w.setCell ⟨bs, 13, none⟩ (.bool e)) own bs { S with bad := e } m :=
  h.set 13 _ _ m rfl rfl rfl h.plan h.ahead h.back h.wait
theorem RAtM.setShut (h : RAtM w own bs S m) : RAtM (w.setCell ⟨bs, 14, none⟩ (.bool true)) own bs { S with opened := false } m :=
  h.set 14 _ { S with opened := false } m rfl rfl rfl h.plan h.ahead h.back h.wait

/-- The data have been written, or moved to a new block. -/
theorem RAtM.setData {w' : World} {a : Option Addr} {n c : Nat} {d' : List UInt8} (h : RAtM w own bs S m) (ht : Tw w w' (fun b => rdatas own bs b ∧ blockIs m.data b))
    (hr : Wr w' (fun b => rdatas own bs b ∨ b = w.heap.size) (.slice a n c) d') (hb : ∀ b, blockIs (.slice a n c) b → blockIs m.data b ∨ b = w.heap.size) :
    RAtM (w'.setCell ⟨bs, 0, none⟩ (.slice a n c)) (fun k => own k ∨ (w.heap.size ≤ k ∧ k < w'.heap.size)) bs { S with data := d' } { m with data := .slice a n c } := by
  have hk1 : ∀ b, b ≠ bs → (w'.setCell ⟨bs, 0, none⟩ (.slice a n c)).heap[b]? = w'.heap[b]? := fun b hb => Below.heap_setCell _ _ _ _ hb
  have hbs : w'.heap[bs]? = w.heap[bs]? := ht.keep _ (h.lt _ h.os) (fun e => e.1.2 rfl)
  have hon : ∀ b, m.only own bs b → b < w.heap.size → (w'.setCell ⟨bs, 0, none⟩ (.slice a n c)).heap[b]? = w.heap[b]? := fun b hb hlt =>
    (hk1 b hb.2.1).trans (ht.keep b hlt (fun e => hb.2.2 e.2))
  have hmo : ∀ b, m.only own bs b → b < w.heap.size → RMem.only { m with data := .slice a n c } (fun k => own k ∨ (w.heap.size ≤ k ∧ k < w'.heap.size)) bs b := fun b ho hlt =>
    ⟨.inl ho.1, ho.2.1, fun e => (hb b e).elim ho.2.2 (fun e => by omega)⟩
  exact {
    hs := by rw [heap_setCell_same w' bs 0 _ _ _ (hbs.trans h.hs)]; rfl
    os := .inl h.os
    lt := fun k hk' => by simp; exact hk'.elim (fun e => Nat.lt_of_lt_of_le (h.lt k e) ht.size) (fun e => e.2)
    data := hr.keep (fun b hb _ => hk1 b (hb.elim (fun e => e.2) (fun e => by have := h.lt _ h.os; omega)))
      (fun b hb hlt => hb.elim (fun e => ⟨.inl e.1, e.2⟩) (fun e => ⟨.inr ⟨by omega, hlt⟩, by have := h.lt _ h.os; omega⟩))
    plan := h.plan.keep (fun b hb hlt => hon b hb hlt) (fun b hb hlt => hmo b hb hlt)
    ahead := h.ahead.keep (fun b hb hlt => hon b hb hlt) (fun b hb hlt => hmo b hb hlt)
    back := h.back.keep (fun b hb hlt => hon b hb hlt) (fun b hb hlt => hmo b hb hlt)
    wait := h.wait.keep (fun b hb hlt => hon b hb hlt) (fun b hb hlt => hmo b hb hlt) }

/-- The data have been written in place. -/
theorem RAtM.inData {w' : World} {d' : List UInt8} (h : RAtM w own bs S m) (ht : Tw w w' (fun b => rdatas own bs b ∧ blockIs m.data b))
    (hr : Wr w' (rdatas own bs) m.data d') : RAtM w' own bs { S with data := d' } m := by
  have hon : ∀ b, m.only own bs b → b < w.heap.size → w'.heap[b]? = w.heap[b]? := fun b hb hlt => ht.keep b hlt (fun e => hb.2.2 e.2)
  exact {
    hs := (ht.keep _ (h.lt _ h.os) (fun e => e.1.2 rfl)).trans h.hs
    os := h.os
    lt := fun k hk' => Nat.lt_of_lt_of_le (h.lt k hk') ht.size
    data := hr
    plan := h.plan.keep (fun b hb hlt => hon b hb hlt) (fun b hb hlt => hb)
    ahead := h.ahead.keep (fun b hb hlt => hon b hb hlt) (fun b hb hlt => hb)
    back := h.back.keep (fun b hb hlt => hon b hb hlt) (fun b hb hlt => hb)
    wait := h.wait.keep (fun b hb hlt => hon b hb hlt) (fun b hb hlt => hb) }

theorem RAtM.newOnly {w' : World} (h : RAtM w own bs S m) (b : Nat) (h1 : w.heap.size ≤ b) (h2 : b < w'.heap.size) : m.only (grownOwn own w w') bs b :=
  ⟨.inr ⟨h1, h2⟩, by have := h.lt _ h.os; omega, fun e => by have := h.data.blk_lt e; omega⟩

theorem RAtM.grow {w' : World} (h : RAtM w own bs S m) (hb : Below w.heap.size w w') : RAtM w' (grownOwn own w w') bs S m := by
  have ho : ∀ b, m.only own bs b → m.only (grownOwn own w w') bs b := fun b hb => ⟨.inl hb.1, hb.2⟩
  have h' := h.keep hb.size (fun b hb2 => hb.block b (h.lt b hb2))
  exact {
    hs := h'.hs
    os := .inl h.os
    lt := fun k hk => hk.elim (fun e => Nat.lt_of_lt_of_le (h.lt k e) hb.size) (fun e => e.2)
    data := h'.data.keep (fun _ _ _ => rfl) (fun b hb _ => ⟨.inl hb.1, hb.2⟩)
    plan := h'.plan.keep (fun _ _ _ => rfl) (fun b hb _ => ho b hb)
    ahead := h'.ahead.keep (fun _ _ _ => rfl) (fun b hb _ => ho b hb)
    back := h'.back.keep (fun _ _ _ => rfl) (fun b hb _ => ho b hb)
    wait := h'.wait.keep (fun _ _ _ => rfl) (fun b hb _ => ho b hb) }
end

def RAt' (w w' : World) (own : Nat → Prop) (bs : Nat) (S : St) : Prop := ∃ own' m', RAtM w' own' bs S m' ∧ Fr w w' own own'

theorem rmay_empty (n : Int) (bs : Nat) (ap : Option Addr) (cp : Nat) (w : World) (c2 : w.cell? ⟨bs, 2, none⟩ = some (.slice ap 0 cp)) :
    Calls Try.prog 64 #[.pointer (some ⟨bs, 0, none⟩), .int .i64 n] w fun e w' => e = .returned (.int .i64 n) ∧ w = w' := by
  go_enter Try.func64, Try.ntmps64
  go_wp2
  go_ret
  exact ⟨rfl, rfl⟩

theorem rmay_some (n k : Int) (bs b off lp cp : Nat) (w : World) (hlp : 1 ≤ lp) (hcp : lp ≤ cp) (hm : cp ≤ 9223372036854775807)
    (c2 : w.cell? ⟨bs, 2, none⟩ = some (.slice (some ⟨b, off, none⟩) lp cp)) (f2 : w.frozen? ⟨bs, 2, none⟩ = false) (ck : w.cell? ⟨b, off, none⟩ = some (.int .i64 k)) :
    Calls Try.prog 64 #[.pointer (some ⟨bs, 0, none⟩), .int .i64 n] w fun e w' => e = .returned (.int .i64 (mayK k n)) ∧
      w' = w.setCell ⟨bs, 2, none⟩ (.slice (some ⟨b, tlOff off cp, none⟩) (lp - 1) (cp - 1)) := by
  by_cases h1 : 1 < cp
  · have H := Lib.hid (show tlOff off cp = off + 1 by unfold tlOff; rw [if_neg (by omega)])
    go_enter Try.func64, Try.ntmps64
    go_wp2
    all_goals go_ret
    all_goals rw [H.out]
    all_goals exact ⟨ret_i64 (by unfold mayK; rw [Int.min_def]; repeat' split; all_goals omega), rfl⟩
  · obtain rfl : cp = 1 := by omega
    obtain rfl : lp = 1 := by omega
    have H := Lib.hid (show tlOff off 1 = off by unfold tlOff; rw [if_pos rfl])
    go_enter Try.func64, Try.ntmps64
    go_wp2
    all_goals go_ret
    all_goals rw [H.out]
    all_goals exact ⟨ret_i64 (by unfold mayK; rw [Int.min_def]; repeat' split; all_goals omega), rfl⟩

theorem rmay_calls (n : Int) {w : World} {own : Nat → Prop} {bs : Nat} {S : St} {m : RMem} (h : RAtM w own bs S m) :
    Calls Try.prog 64 #[.pointer (some ⟨bs, 0, none⟩), .int .i64 n] w fun e w' => e = .returned (.int .i64 (mayN S.plan n)) ∧
      ∃ v, RAtM w' own bs { S with plan := S.plan.tail } { m with plan := v } ∧ Fr w w' own own := by
  have c2 : w.cell? ⟨bs, 2, none⟩ = some m.plan := h.c 2
  have hr := h.plan
  obtain ⟨a, cap, hv, hl, hc, hn, hcells⟩ := h.plan
  rw [hv] at c2 hr
  unfold maxLen at hc
  cases hp : S.plan with
  | nil =>
    rw [hp] at c2
    refine (rmay_empty n bs a cap w c2).mono ?_
    rintro e w' ⟨rfl, rfl⟩
    refine ⟨rfl, m.plan, ?_, Fr.refl _ _⟩
    have : ({ S with plan := ([] : List Int).tail } : St) = S := by cases S; simp only at hp; subst hp; rfl
    rw [this]
    exact h
  | cons k r =>
    rw [hp] at hcells c2 hr hl
    obtain ⟨b, off, rfl, hb, hcell⟩ := hcells (by simp)
    have ck := hcell 0 k rfl
    refine (rmay_some n k bs b off _ cap w (by simp) hl (by omega) c2 (h.f 2) ck).mono ?_
    rintro e w' ⟨rfl, rfl⟩
    exact ⟨rfl, _, h.setPlan _ _ hr.tail, (Fr.refl w own).setCell _ _ (.inl h.os)⟩

set_option maxHeartbeats 1000000 in
theorem feeds_some (b off c : Nat) (l : List UInt8) (w : World) (hbig : l.length ≤ 9223372036854775807) (hc : ∀ j z, l[j]? = some z → w.cell? ⟨b, off + j, none⟩ = some (.int .u8 (z.toNat : Int))) :
    Calls Try.prog 65 #[.slice (some ⟨b, off, none⟩) l.length c] w fun e w' => e = .returned (.bool (decide ((10 : UInt8) ∈ l))) ∧ w' = w := by
  generalize hn : l.length = n at hbig ⊢
  have Hc := Lib.hid hc
  have Hn := Lib.hid hn
  clear hc hn
  go_enter Try.func65, Try.ntmps65
  go_wp2
  go_loop [3] (fun i => ∃ k : Nat, k ≤ n ∧ i = .int .i64 k ∧ ∀ j z, j < k → l[j]? = some z → (z.toNat : Int) ≠ 10) (fun i => match i with | .int _ m => n - m.toNat | _ => 0)
  case atStart => exact ⟨0, Nat.zero_le _, rfl, fun j z hj => absurd hj (Nat.not_lt_zero _)⟩
  case round =>
    obtain ⟨k, hk, rfl, hne⟩ := hrel
    obtain ⟨y, hy⟩ := byte_at l k
    have hcell : k < n → w.cell? ⟨b, off + k, none⟩ = some (.int .u8 y) := fun h => by
      have h1 := Hn.out
      rw [Hc.out k l[k] (List.getElem?_eq_getElem (by omega)), hy _ (List.getElem?_eq_getElem (by omega))]
    have Hy := Lib.hid hy
    have Hne := Lib.hid hne
    clear hy hne
    go_wp2
    · have hlt : k < n := by assumption
      have heq : (y == 10) = true := by assumption
      have h1 := Hn.out
      go_ret
      have hmem : (10 : UInt8) ∈ l := by
        have e : l[k].toNat = 10 := by have := Hy.out _ (List.getElem?_eq_getElem (show k < l.length by omega)); have h2 := beq_iff_eq.1 heq; omega
        have : l[k] = 10 := UInt8.toNat_inj.1 e
        rw [← this]
        exact List.getElem_mem _
      exact ⟨by rw [decide_eq_true hmem]; rfl, rfl⟩
    · have hlt : k < n := by assumption
      have hneq : (y == 10) = false := by assumption
      refine ⟨⟨k + 1, by omega, by rw [show ((k : Int) + 1) = ((k + 1 : Nat) : Int) by omega], fun j z hj hz => ?_⟩, by show n - ((k : Int) + 1).toNat < n - (k : Int).toNat; omega⟩
      by_cases e : j = k
      · subst e
        intro he
        rw [← Hy.out z hz, he] at hneq
        simp at hneq
      · exact Hne.out j z (by omega) hz
    · have hge : ¬ k < n := by assumption
      have : k = n := by omega
      subst this
      go_ret
      have hmem : ¬ (10 : UInt8) ∈ l := fun hm => by
        obtain ⟨j, hj, e⟩ := List.mem_iff_getElem.1 hm
        have := Hne.out j _ (by have := Hn.out; omega) (List.getElem?_eq_getElem hj)
        rw [e] at this
        exact this rfl
      exact ⟨by rw [decide_eq_false hmem]; rfl, rfl⟩

set_option maxHeartbeats 1000000 in
theorem feeds_none (a : Option Addr) (c : Nat) (w : World) : Calls Try.prog 65 #[.slice a 0 c] w fun e w' => e = .returned (.bool false) ∧ w' = w := by
  go_enter Try.func65, Try.ntmps65
  go_wp2
  go_loop [3] (fun i => i = .int .i64 0) (fun _ => 0)
  case atStart => rfl
  case round =>
    subst hrel
    go_wp2
    go_ret
    exact ⟨rfl, rfl⟩

theorem feeds_calls (w : World) (any : Nat → Prop) (a : Option Addr) (n c : Nat) (l : List UInt8) (hd : Rd w any byteV (.slice a n c) l) :
    Calls Try.prog 65 #[.slice a n c] w fun e w' => e = .returned (.bool (decide ((10 : UInt8) ∈ l))) ∧ w' = w := by
  obtain ⟨a', c', hv, h1, h2, h3, h4⟩ := hd
  cases hv
  by_cases hl : l = []
  · subst hl
    refine (feeds_none a c w).mono ?_
    rintro e w' ⟨rfl, rfl⟩
    exact ⟨rfl, rfl⟩
  · obtain ⟨b, off, rfl, hb, hcell⟩ := h4 hl
    exact feeds_some b off c l w (by unfold maxLen at h2; omega) (fun j z hj => hcell j z hj)
end Go.Proofs.Ytgihclflndlomaa
