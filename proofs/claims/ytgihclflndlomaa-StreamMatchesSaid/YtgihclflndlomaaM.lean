/- How a stream of package stream lies in memory. -/
import Derived.Test.YtgihclflndlomaaC
import Derived.Test.YtgihclflndlomaaS
namespace Go.Proofs.Ytgihclflndlomaa
open Go.RowKit

def byteV (c : UInt8) : Value := .int .u8 (c.toNat : Int)
def intV (n : Int) : Value := .int .i64 n

/-- A slice that reads as a list; its cells lie in blocks with a property. -/
def Rd {α : Type} (w : World) (own : Nat → Prop) (enc : α → Value) (v : Value) (l : List α) : Prop :=
  ∃ a cap, v = .slice a l.length cap ∧ l.length ≤ cap ∧ cap ≤ maxLen ∧ (a = none → cap = 0) ∧
    (l ≠ [] → ∃ b off, a = some ⟨b, off, none⟩ ∧ own b ∧ ∀ i x, l[i]? = some x → w.cell? ⟨b, off + i, none⟩ = some (enc x))

theorem Rd.keep {α : Type} {w w' : World} {own own' : Nat → Prop} {enc : α → Value} {v : Value} {l : List α} (h : Rd w own enc v l)
    (hk : ∀ b, own b → b < w.heap.size → w'.heap[b]? = w.heap[b]?) (ho : ∀ b, own b → b < w.heap.size → own' b) : Rd w' own' enc v l := by
  obtain ⟨a, cap, hv, hl, hc, hn, hr⟩ := h
  refine ⟨a, cap, hv, hl, hc, hn, fun hne => ?_⟩
  obtain ⟨b, off, ha, hb, hcell⟩ := hr hne
  have hlt : b < w.heap.size := by
    cases l with
    | nil => exact absurd rfl hne
    | cons x t => have := hcell 0 x rfl; exact World.block_lt_of_cell? _ _ this
  exact ⟨b, off, ha, ho b hb hlt, fun i x hx => by rw [World.cell?_of_block (a := ⟨b, off + i, none⟩) (hk b hb hlt)]; exact hcell i x hx⟩

theorem Rd.nil {α : Type} (w : World) (own : Nat → Prop) (enc : α → Value) : Rd w own enc (.slice none 0 0) ([] : List α) :=
  ⟨none, 0, rfl, Nat.le_refl _, by unfold maxLen; omega, fun _ => rfl, fun h => absurd rfl h⟩

theorem Rd.empty {α : Type} (w : World) (own : Nat → Prop) (enc : α → Value) (a : Addr) (cap : Nat) (hc : cap ≤ maxLen) : Rd w own enc (.slice (some a) 0 cap) ([] : List α) :=
  ⟨some a, cap, rfl, Nat.zero_le _, hc, fun h => (by cases h), fun h => absurd rfl h⟩

theorem Rd.shape {α : Type} {w : World} {own : Nat → Prop} {enc : α → Value} {v : Value} {l : List α} (h : Rd w own enc v l) : ∃ a c, v = .slice a l.length c ∧ l.length ≤ c ∧ c ≤ maxLen := by
  obtain ⟨a, cap, hv, hl, hc, _⟩ := h
  exact ⟨a, cap, hv, hl, hc⟩

/-- The first elements of a slice. -/
theorem Rd.take {α : Type} {w : World} {own : Nat → Prop} {enc : α → Value} {a : Option Addr} {n c : Nat} {l : List α} (h : Rd w own enc (.slice a n c) l) (k : Nat) (hk : k ≤ l.length) : Rd w own enc (.slice a k c) (l.take k) := by
  obtain ⟨a', cap, hv, hl, hc, hn, hr⟩ := h
  cases hv
  refine ⟨a, c, by rw [List.length_take, Nat.min_eq_left hk], by rw [List.length_take]; omega, hc, hn, fun hne => ?_⟩
  obtain ⟨b, off, ha, hb, hcell⟩ := hr (fun e => by subst e; simp at hne)
  exact ⟨b, off, ha, hb, fun i x hx => hcell i x (by rw [List.getElem?_take] at hx; split at hx; exact hx; cases hx)⟩

/-- A part of a slice. -/
theorem Rd.part {α : Type} {w : World} {own : Nat → Prop} {enc : α → Value} {b off n c : Nat} {l : List α} (h : Rd w own enc (.slice (some ⟨b, off, none⟩) n c) l) (p k o : Nat) (ho : o = off + p) (hk : p + k ≤ l.length) :
    Rd w own enc (.slice (some ⟨b, o, none⟩) k (c - p)) ((l.drop p).take k) := by
  obtain ⟨a', cap, hv, hl, hc, hn, hr⟩ := h
  cases hv
  subst ho
  have hlen : ((l.drop p).take k).length = k := by rw [List.length_take, List.length_drop]; omega
  refine ⟨_, c - p, by rw [hlen], by rw [hlen]; omega, by omega, fun h => (by cases h), fun hne => ?_⟩
  obtain ⟨b', off', ha, hb, hcell⟩ := hr (fun e => by subst e; simp at hne)
  cases ha
  refine ⟨b, off + p, rfl, hb, fun i x hx => ?_⟩
  rw [Nat.add_assoc]
  refine hcell (p + i) x ?_
  rw [List.getElem?_take] at hx
  split at hx
  · rwa [List.getElem?_drop] at hx
  · cases hx

/-- A slice that may be written and appended to: nothing, or a row of its own. -/
def Row {α : Type} (e : TypeId) (enc : α → Value) (w : World) (own : Nat → Prop) (v : Value) (l : List α) : Prop :=
  (l = [] ∧ ∃ a, v = .slice a 0 0) ∨
  ∃ b cap cs, v = .slice (some ⟨b, 0, none⟩) l.length cap ∧ own b ∧ w.heap[b]? = some (.cells cs e (0, 0)) ∧ l.length ≤ cap ∧ cap ≤ maxLen ∧ cs.size = cap ∧ cs.toList.take l.length = l.map enc

theorem Row.keep {α : Type} {e : TypeId} {enc : α → Value} {w w' : World} {own own' : Nat → Prop} {v : Value} {l : List α} (h : Row e enc w own v l)
    (hk : ∀ b, own b → b < w.heap.size → w'.heap[b]? = w.heap[b]?) (ho : ∀ b, own b → b < w.heap.size → own' b) : Row e enc w' own' v l := by
  rcases h with h | ⟨b, cap, cs, hv, hb, hh, r⟩
  · exact .inl h
  · have hlt : b < w.heap.size := (Array.getElem?_eq_some_iff.1 hh).1
    exact .inr ⟨b, cap, cs, hv, ho b hb hlt, (hk b hb hlt).trans hh, r⟩

theorem Row.rd {α : Type} {e : TypeId} {enc : α → Value} {w : World} {own : Nat → Prop} {v : Value} {l : List α} (h : Row e enc w own v l) : Rd w own enc v l := by
  rcases h with ⟨rfl, a, rfl⟩ | ⟨b, cap, cs, rfl, hb, hh, h1, h2, h3, h4⟩
  · exact ⟨a, 0, rfl, Nat.le_refl _, Nat.zero_le _, fun _ => rfl, fun h => absurd rfl h⟩
  · refine ⟨_, cap, rfl, h1, h2, fun h => (by cases h), fun _ => ⟨b, 0, rfl, hb, fun i x hx => ?_⟩⟩
    rw [cell_of_row w b _ cs e (0, 0) hh, Nat.zero_add]
    have hi : i < l.length := (List.getElem?_eq_some_iff.1 hx).1
    have : (cs.toList.take l.length)[i]? = (l.map enc)[i]? := by rw [h4]
    rw [List.getElem?_take, if_pos hi, List.getElem?_map, hx] at this
    simpa using this

theorem Row.shape {α : Type} {e : TypeId} {enc : α → Value} {w : World} {own : Nat → Prop} {v : Value} {l : List α} (h : Row e enc w own v l) : ∃ a c, v = .slice a l.length c ∧ l.length ≤ c ∧ c ≤ maxLen := by
  rcases h with ⟨rfl, a, rfl⟩ | ⟨b, cap, cs, rfl, hb, hh, h1, h2, h3, h4⟩
  · exact ⟨a, 0, rfl, Nat.le_refl _, Nat.zero_le _⟩
  · exact ⟨_, cap, rfl, h1, h2⟩
theorem Row.block {α : Type} {e : TypeId} {enc : α → Value} {w : World} {own : Nat → Prop} {v : Value} {l : List α} (h : Row e enc w own v l) (hne : l ≠ []) : ∃ b c, v = .slice (some ⟨b, 0, none⟩) l.length c ∧ l.length ≤ c ∧ c ≤ maxLen ∧ own b := by
  rcases h with ⟨rfl, a, rfl⟩ | ⟨b, cap, cs, rfl, hb, hh, h1, h2, h3, h4⟩
  · exact absurd rfl hne
  · exact ⟨b, cap, rfl, h1, h2, hb⟩

abbrev Wr (w : World) (own : Nat → Prop) (v : Value) (l : List UInt8) : Prop := Row 5 byteV w own v l

/-- The block of a slice that has room in one. -/
def blockIs (v : Value) (b : Nat) : Prop := ∃ off n cap, v = .slice (some ⟨b, off, none⟩) n cap ∧ 0 < cap

theorem blockIs_eq {b g o n c : Nat} (h : blockIs (.slice (some ⟨g, o, none⟩) n c) b) : b = g := by
  obtain ⟨o', n', c', hv, _⟩ := h
  have := congrArg Value.ownBlock hv
  simp only [Value.ownBlock, Option.some.injEq] at this
  exact this.symm

theorem Row.blk_lt {α : Type} {e : TypeId} {enc : α → Value} {w : World} {own : Nat → Prop} {v : Value} {l : List α} (h : Row e enc w own v l) {b : Nat} (hb : blockIs v b) : b < w.heap.size := by
  obtain ⟨off, n, cap, rfl, hc⟩ := hb
  rcases h with ⟨rfl, a, hv⟩ | ⟨b', cap', cs, hv, hb, hh, h1, h2, h3, h4⟩
  · cases hv; omega
  · cases hv; exact (Array.getElem?_eq_some_iff.1 hh).1

/-- Only blocks with a property have turned. -/
structure Tw (w w' : World) (p : Nat → Prop) : Prop where
  os : w'.os = w.os
  tape : w'.tape = w.tape
  output : w'.output = w.output
  size : w.heap.size ≤ w'.heap.size
  keep : ∀ k, k < w.heap.size → ¬ p k → w'.heap[k]? = w.heap[k]?

theorem Tw.refl (w : World) (p : Nat → Prop) : Tw w w p := ⟨rfl, rfl, rfl, Nat.le_refl _, fun _ _ _ => rfl⟩
theorem Tw.of_grown {w w' : World} {row : Option Nat} {p : Nat → Prop} (h : w.grownBy w' row) (hp : ∀ k, row = some k → p k) : Tw w w' p :=
  ⟨h.os, h.tape, h.output, h.size, fun k hk hn => h.block k hk (fun e => hn (hp k e.symm))⟩

/-- What follows once memory has turned: only the stream's own blocks have, and what it owns now was its own or is new. -/
structure Fr (w w' : World) (own own' : Nat → Prop) : Prop where
  os : w'.os = w.os
  tape : w'.tape = w.tape
  output : w'.output = w.output
  size : w.heap.size ≤ w'.heap.size
  keep : ∀ k, k < w.heap.size → ¬ own k → w'.heap[k]? = w.heap[k]?
  new : ∀ k, own' k → own k ∨ w.heap.size ≤ k

theorem Fr.trans {a b c : World} {o p q : Nat → Prop} (h : Fr a b o p) (k : Fr b c p q) : Fr a c o q where
  os := k.os.trans h.os
  tape := k.tape.trans h.tape
  output := k.output.trans h.output
  size := Nat.le_trans h.size k.size
  keep := fun i hi ho => (k.keep i (Nat.lt_of_lt_of_le hi h.size) (fun hp => (h.new i hp).elim ho (fun e => by omega))).trans (h.keep i hi ho)
  new := fun i hi => (k.new i hi).elim (fun hp => h.new i hp) (fun e => .inr (Nat.le_trans h.size e))

theorem Fr.refl (w : World) (o : Nat → Prop) : Fr w w o o := ⟨rfl, rfl, rfl, Nat.le_refl _, fun _ _ _ => rfl, fun _ h => .inl h⟩
theorem Fr.below {w w' : World} {o p : Nat → Prop} {B : Nat} (h : Fr w w' o p) (hB : B ≤ w.heap.size) (ho : ∀ k, o k → B ≤ k) : Below B w w' :=
  ⟨h.os, h.tape, h.output, h.size, fun k hk => h.keep k (by omega) (fun e => by have := ho k e; omega)⟩
theorem Fr.drewN {w w' : World} {o p : Nat → Prop} (h : Fr w w' o p) (n : Nat) : Fr w (w'.drewN n) o p := ⟨h.os, h.tape, h.output, h.size, h.keep, h.new⟩
theorem Fr.alloc {w w' : World} {o p : Nat → Prop} (h : Fr w w' o p) (x : Obj) : Fr w (w'.alloc x) o p :=
  ⟨h.os, h.tape, h.output, by simp; have := h.size; omega, fun k hk ho => (Below.heap_alloc _ _ _ (by have := h.size; omega)).trans (h.keep k hk ho), h.new⟩
theorem Fr.tw {a b c : World} {o p q : Nat → Prop} (h : Fr a b o p) (k : Tw b c q) (hq : ∀ i, q i → o i ∨ a.heap.size ≤ i) : Fr a c o p where
  os := k.os.trans h.os
  tape := k.tape.trans h.tape
  output := k.output.trans h.output
  size := Nat.le_trans h.size k.size
  keep := fun i hi ho => (k.keep i (Nat.lt_of_lt_of_le hi h.size) (fun hp => (hq i hp).elim ho (fun e => by omega))).trans (h.keep i hi ho)
  new := h.new
theorem Fr.more {w w' : World} {o p q : Nat → Prop} (h : Fr w w' o p) (hq : ∀ k, q k → p k ∨ w.heap.size ≤ k) : Fr w w' o q :=
  ⟨h.os, h.tape, h.output, h.size, h.keep, fun k hk => (hq k hk).elim (h.new k) .inr⟩
theorem Fr.setCell {w w' : World} {o p : Nat → Prop} (h : Fr w w' o p) (a : Addr) (v : Value) (ha : o a.block ∨ w.heap.size ≤ a.block) : Fr w (w'.setCell a v) o p :=
  ⟨h.os, h.tape, h.output, by simp; exact h.size, fun k hk ho => (Below.heap_setCell _ _ _ _ (fun e => by subst e; exact ha.elim ho (fun e => by omega))).trans (h.keep k hk ho), h.new⟩
theorem Fr.of_below {w w' : World} {o : Nat → Prop} (h : Below w.heap.size w w') : Fr w w' o o :=
  ⟨h.os, h.tape, h.output, h.size, fun k hk _ => h.block k hk, fun _ h => .inl h⟩

/-- Rows of different types lie apart. -/
theorem rows_apart {w : World} {a b : Nat} {cs ds : Array Value} {t u : Nat} {f g : Nat × Nat} (ha : w.heap[a]? = some (.cells cs t f)) (hb : w.heap[b]? = some (.cells ds u g)) (hn : t ≠ u) : a ≠ b := by
  intro e
  rw [e, hb] at ha
  injection ha with ha
  injection ha with _ h2 _
  exact hn h2.symm

theorem cell_set_block {w : World} {b o b' o' : Nat} (v : Value) (h : b' ≠ b) : (w.setCell ⟨b, o, none⟩ v).cell? ⟨b', o', none⟩ = w.cell? ⟨b', o', none⟩ :=
  World.cell?_setCell_other _ _ _ _ (fun e => h (by injection e with e; exact e.symm))
theorem cell_set_off {w : World} {b o o' : Nat} (v : Value) (h : o' ≠ o) : (w.setCell ⟨b, o, none⟩ v).cell? ⟨b, o', none⟩ = w.cell? ⟨b, o', none⟩ :=
  World.cell?_setCell_other _ _ _ _ (fun e => h (by injection e with _ e; exact e.symm))

/-- Where the parts of a stream lie. -/
structure Mem where
  bd : Nat
  bx : Nat
  data : Value
  plan : Value
  ahead : Value
  back : Value
  wait : Value
  endm : Bool
  bad : Bool

def Mem.stream (m : Mem) (S : St) : Array Value :=
  #[.pointer (some ⟨m.bd, 0, none⟩), .bool m.endm, .bool m.bad, .bool S.rd, .bool S.wr, .bool S.app, .int .i64 S.size, .bool S.lines, .bool S.opened, .int .i64 S.pos, m.ahead, m.back, m.wait]
def Mem.disk (m : Mem) (S : St) : Array Value :=
  #[m.data, .int .i64 S.max, m.plan, .func (.func 32) #[] #[.pointer (some ⟨m.bx, 0, none⟩)]]

/-- Blocks that the stream only reads. -/
def Mem.only (m : Mem) (own : Nat → Prop) (bs : Nat) (b : Nat) : Prop := own b ∧ b ≠ bs ∧ b ≠ m.bd ∧ b ≠ m.bx ∧ ¬ blockIs m.data b
def Mem.datas (m : Mem) (own : Nat → Prop) (bs : Nat) (b : Nat) : Prop := own b ∧ b ≠ bs ∧ b ≠ m.bd ∧ b ≠ m.bx

/-- A stream at a block. -/
structure SAtM (w : World) (own : Nat → Prop) (bs : Nat) (S : St) (m : Mem) : Prop where
  hs : w.heap[bs]? = some (.cells (m.stream S) 78 (0, 0))
  hd : w.heap[m.bd]? = some (.cells (m.disk S) 74 (0, 0))
  hx : w.heap[m.bx]? = some (.cells #[.pointer (some ⟨m.bd, 0, none⟩)] 70 (0, 0))
  os : own bs
  od : own m.bd
  ox : own m.bx
  lt : ∀ k, own k → k < w.heap.size
  data : Wr w (m.datas own bs) m.data S.data
  plan : Rd w (m.only own bs) intV m.plan S.plan
  ahead : Rd w (m.only own bs) byteV m.ahead S.ahead
  back : Rd w (m.only own bs) byteV m.back S.back
  wait : Rd w (m.only own bs) byteV m.wait S.wait
  marks : S.opened = true → m.endm = S.endm ∧ m.bad = S.bad
  shut : S.opened = false → S.endm = false ∧ S.bad = false

section
variable {w : World} {own : Nat → Prop} {bs : Nat} {S : St} {m : Mem}
theorem SAtM.c (h : SAtM w own bs S m) (j : Nat) : w.cell? ⟨bs, j, none⟩ = (m.stream S)[j]? := cell_of_row w bs j _ _ _ h.hs
theorem SAtM.cd (h : SAtM w own bs S m) (j : Nat) : w.cell? ⟨m.bd, j, none⟩ = (m.disk S)[j]? := cell_of_row w m.bd j _ _ _ h.hd
theorem SAtM.cx (h : SAtM w own bs S m) : w.cell? ⟨m.bx, 0, none⟩ = some (.pointer (some ⟨m.bd, 0, none⟩)) := cell_of_row w m.bx 0 _ _ _ h.hx
theorem SAtM.f (h : SAtM w own bs S m) (j : Nat) : w.frozen? ⟨bs, j, none⟩ = false := frozen_of_row w bs j _ _ h.hs
theorem SAtM.fd (h : SAtM w own bs S m) (j : Nat) : w.frozen? ⟨m.bd, j, none⟩ = false := frozen_of_row w m.bd j _ _ h.hd
theorem SAtM.sd (h : SAtM w own bs S m) : bs ≠ m.bd := rows_apart h.hs h.hd (by decide)
theorem SAtM.sx (h : SAtM w own bs S m) : bs ≠ m.bx := rows_apart h.hs h.hx (by decide)
theorem SAtM.dx (h : SAtM w own bs S m) : m.bd ≠ m.bx := rows_apart h.hd h.hx (by decide)

/-- Whatever has turned, it was none of the stream's blocks. -/
theorem SAtM.keep {w' : World} (h : SAtM w own bs S m) (hs : w.heap.size ≤ w'.heap.size) (hk : ∀ b, own b → w'.heap[b]? = w.heap[b]?) : SAtM w' own bs S m where
  hs := (hk _ h.os).trans h.hs
  hd := (hk _ h.od).trans h.hd
  hx := (hk _ h.ox).trans h.hx
  os := h.os
  od := h.od
  ox := h.ox
  lt := fun k hk' => Nat.lt_of_lt_of_le (h.lt k hk') hs
  data := h.data.keep (fun b hb _ => hk b hb.1) (fun _ hb _ => hb)
  plan := h.plan.keep (fun b hb _ => hk b hb.1) (fun _ hb _ => hb)
  ahead := h.ahead.keep (fun b hb _ => hk b hb.1) (fun _ hb _ => hb)
  back := h.back.keep (fun b hb _ => hk b hb.1) (fun _ hb _ => hb)
  wait := h.wait.keep (fun b hb _ => hk b hb.1) (fun _ hb _ => hb)
  marks := h.marks
  shut := h.shut

theorem SAtM.drewN (h : SAtM w own bs S m) (n : Nat) : SAtM (w.drewN n) own bs S m := h.keep (Nat.le_refl _) (fun _ _ => rfl)
theorem SAtM.alloc (h : SAtM w own bs S m) (o : Obj) : SAtM (w.alloc o) own bs S m := h.keep (by simp) (fun b hb => Below.heap_alloc _ _ _ (h.lt b hb))
theorem SAtM.other (h : SAtM w own bs S m) (a : Addr) (v : Value) (ha : ¬ own a.block) : SAtM (w.setCell a v) own bs S m := h.keep (by simp) (fun b hb => Below.heap_setCell _ _ _ _ (fun e => ha (e ▸ hb)))

/-- A field of the stream is written. -/
theorem SAtM.set (h : SAtM w own bs S m) (j : Nat) (v : Value) (S' : St) (m' : Mem) (hrow : (m.stream S).setIfInBounds j v = m'.stream S') (hbd : m'.bd = m.bd) (hbx : m'.bx = m.bx) (hdisk : m'.disk S' = m.disk S)
    (hd : m'.data = m.data) (hd' : S'.data = S.data) (hp : m'.plan = m.plan) (hp' : S'.plan = S.plan)
    (ha : Rd w (m.only own bs) byteV m'.ahead S'.ahead) (hb : Rd w (m.only own bs) byteV m'.back S'.back) (hw : Rd w (m.only own bs) byteV m'.wait S'.wait)
    (hm : S'.opened = true → m'.endm = S'.endm ∧ m'.bad = S'.bad) (hc : S'.opened = false → S'.endm = false ∧ S'.bad = false) : SAtM (w.setCell ⟨bs, j, none⟩ v) own bs S' m' := by
  have hk : ∀ b, b ≠ bs → (w.setCell ⟨bs, j, none⟩ v).heap[b]? = w.heap[b]? := fun b hb => Below.heap_setCell _ _ _ _ hb
  have ho : ∀ b, m.only own bs b → m'.only own bs b := fun b hb => by unfold Mem.only at hb ⊢; rw [hbd, hbx, hd]; exact hb
  exact {
    hs := by rw [heap_setCell_same w bs j _ _ v h.hs, hrow]
    hd := by rw [hbd, hdisk]; exact (hk _ h.sd.symm).trans h.hd
    hx := by rw [hbx, hbd]; exact (hk _ h.sx.symm).trans h.hx
    os := h.os
    od := hbd ▸ h.od
    ox := hbx ▸ h.ox
    lt := fun k hk' => by simp; exact h.lt k hk'
    data := by rw [hd, hd']; exact h.data.keep (fun b hb _ => hk b hb.2.1) (fun b hb _ => by unfold Mem.datas at hb ⊢; rw [hbd, hbx]; exact hb)
    plan := by rw [hp, hp']; exact h.plan.keep (fun b hb _ => hk b hb.2.1) (fun b hb _ => ho b hb)
    ahead := ha.keep (fun b hb _ => hk b hb.2.1) (fun b hb _ => ho b hb)
    back := hb.keep (fun b hb _ => hk b hb.2.1) (fun b hb _ => ho b hb)
    wait := hw.keep (fun b hb _ => hk b hb.2.1) (fun b hb _ => ho b hb)
    marks := hm
    shut := hc }

theorem SAtM.setPos (h : SAtM w own bs S m) (p : Int) : SAtM (w.setCell ⟨bs, 9, none⟩ (.int .i64 p)) own bs { S with pos := p } m :=
  h.set 9 _ _ _ rfl rfl rfl rfl rfl rfl rfl rfl h.ahead h.back h.wait h.marks h.shut
theorem SAtM.setAhead (h : SAtM w own bs S m) (v : Value) (l : List UInt8) (hr : Rd w (m.only own bs) byteV v l) : SAtM (w.setCell ⟨bs, 10, none⟩ v) own bs { S with ahead := l } { m with ahead := v } :=
  h.set 10 _ _ { m with ahead := v } rfl rfl rfl rfl rfl rfl rfl rfl hr h.back h.wait h.marks h.shut
theorem SAtM.setBack (h : SAtM w own bs S m) (v : Value) (l : List UInt8) (hr : Rd w (m.only own bs) byteV v l) : SAtM (w.setCell ⟨bs, 11, none⟩ v) own bs { S with back := l } { m with back := v } :=
  h.set 11 _ _ { m with back := v } rfl rfl rfl rfl rfl rfl rfl rfl h.ahead hr h.wait h.marks h.shut
theorem SAtM.setWait (h : SAtM w own bs S m) (v : Value) (l : List UInt8) (hr : Rd w (m.only own bs) byteV v l) : SAtM (w.setCell ⟨bs, 12, none⟩ v) own bs { S with wait := l } { m with wait := v } :=
  h.set 12 _ _ { m with wait := v } rfl rfl rfl rfl rfl rfl rfl rfl h.ahead h.back hr h.marks h.shut
theorem SAtM.setEnd (h : SAtM w own bs S m) (e : Bool) (ho : S.opened = true) : SAtM (w.setCell ⟨bs, 1, none⟩ (.bool e)) own bs { S with endm := e } { m with endm := e } :=
  h.set 1 _ _ { m with endm := e } rfl rfl rfl rfl rfl rfl rfl rfl h.ahead h.back h.wait (fun _ => ⟨rfl, (h.marks ho).2⟩) (fun hc => by rw [ho] at hc; cases hc)
theorem SAtM.setBad (h : SAtM w own bs S m) (e : Bool) (ho : S.opened = true) : SAtM (w.setCell ⟨bs, 2, none⟩ (.bool e)) own bs { S with bad := e } { m with bad := e } :=
  h.set 2 _ _ { m with bad := e } rfl rfl rfl rfl rfl rfl rfl rfl h.ahead h.back h.wait (fun _ => ⟨(h.marks ho).1, rfl⟩) (fun hc => by rw [ho] at hc; cases hc)
theorem SAtM.setShut (h : SAtM w own bs S m) : SAtM (w.setCell ⟨bs, 8, none⟩ (.bool false)) own bs { S with opened := false, endm := false, bad := false } m :=
  h.set 8 _ { S with opened := false, endm := false, bad := false } m rfl rfl rfl rfl rfl rfl rfl rfl h.ahead h.back h.wait (fun e => by cases e) (fun _ => ⟨rfl, rfl⟩)

/-- The plan, or the data, of the disk are written. -/
theorem SAtM.setPlan (h : SAtM w own bs S m) (v : Value) (l : List Int) (hr : Rd w (m.only own bs) intV v l) : SAtM (w.setCell ⟨m.bd, 2, none⟩ v) own bs { S with plan := l } { m with plan := v } := by
  have hk : ∀ b, b ≠ m.bd → (w.setCell ⟨m.bd, 2, none⟩ v).heap[b]? = w.heap[b]? := fun b hb => Below.heap_setCell _ _ _ _ hb
  exact {
    hs := (hk _ h.sd).trans h.hs
    hd := by rw [heap_setCell_same w m.bd 2 _ _ v h.hd]; rfl
    hx := (hk _ h.dx.symm).trans h.hx
    os := h.os
    od := h.od
    ox := h.ox
    lt := fun k hk' => by simp; exact h.lt k hk'
    data := h.data.keep (fun b hb _ => hk b hb.2.2.1) (fun b hb _ => hb)
    plan := hr.keep (fun b hb _ => hk b hb.2.2.1) (fun b hb _ => hb)
    ahead := h.ahead.keep (fun b hb _ => hk b hb.2.2.1) (fun b hb _ => hb)
    back := h.back.keep (fun b hb _ => hk b hb.2.2.1) (fun b hb _ => hb)
    wait := h.wait.keep (fun b hb _ => hk b hb.2.2.1) (fun b hb _ => hb)
    marks := h.marks
    shut := h.shut }

/-- The data of the disk have been written, or moved to a new block. -/
theorem SAtM.setData {w' : World} {a : Option Addr} {n c : Nat} {d' : List UInt8} (h : SAtM w own bs S m) (ht : Tw w w' (fun b => m.datas own bs b ∧ blockIs m.data b))
    (hr : Wr w' (fun b => m.datas own bs b ∨ b = w.heap.size) (.slice a n c) d') (hb : ∀ b, blockIs (.slice a n c) b → blockIs m.data b ∨ b = w.heap.size) :
    SAtM (w'.setCell ⟨m.bd, 0, none⟩ (.slice a n c)) (fun k => own k ∨ (w.heap.size ≤ k ∧ k < w'.heap.size)) bs { S with data := d' } { m with data := .slice a n c } := by
  have hk1 : ∀ b, b ≠ m.bd → (w'.setCell ⟨m.bd, 0, none⟩ (.slice a n c)).heap[b]? = w'.heap[b]? := fun b hb => Below.heap_setCell _ _ _ _ hb
  have hbs : w'.heap[bs]? = w.heap[bs]? := ht.keep _ (h.lt _ h.os) (fun e => e.1.2.1 rfl)
  have hbd : w'.heap[m.bd]? = w.heap[m.bd]? := ht.keep _ (h.lt _ h.od) (fun e => e.1.2.2.1 rfl)
  have hbx : w'.heap[m.bx]? = w.heap[m.bx]? := ht.keep _ (h.lt _ h.ox) (fun e => e.1.2.2.2 rfl)
  have hon : ∀ b, m.only own bs b → b < w.heap.size → (w'.setCell ⟨m.bd, 0, none⟩ (.slice a n c)).heap[b]? = w.heap[b]? := fun b hb hlt =>
    (hk1 b hb.2.2.1).trans (ht.keep b hlt (fun e => hb.2.2.2.2 e.2))
  have hmo : ∀ b, m.only own bs b → b < w.heap.size → Mem.only { m with data := .slice a n c } (fun k => own k ∨ (w.heap.size ≤ k ∧ k < w'.heap.size)) bs b := fun b ho hlt =>
    ⟨.inl ho.1, ho.2.1, ho.2.2.1, ho.2.2.2.1, fun e => (hb b e).elim ho.2.2.2.2 (fun e => by omega)⟩
  exact {
    hs := (hk1 _ h.sd).trans (hbs.trans h.hs)
    hd := by rw [heap_setCell_same w' m.bd 0 _ _ _ (hbd.trans h.hd)]; rfl
    hx := (hk1 _ h.dx.symm).trans (hbx.trans h.hx)
    os := .inl h.os
    od := .inl h.od
    ox := .inl h.ox
    lt := fun k hk' => by simp; exact hk'.elim (fun e => Nat.lt_of_lt_of_le (h.lt k e) ht.size) (fun e => e.2)
    data := hr.keep (fun b hb _ => hk1 b (hb.elim (fun e => e.2.2.1) (fun e => by have := h.lt _ h.od; omega)))
      (fun b hb hlt => hb.elim (fun e => ⟨.inl e.1, e.2⟩) (fun e => ⟨.inr ⟨by omega, hlt⟩, by have := h.lt _ h.os; omega, by have := h.lt _ h.od; exact fun e => by simp at e; omega, by have := h.lt _ h.ox; exact fun e => by simp at e; omega⟩))
    plan := h.plan.keep (fun b hb hlt => hon b hb hlt) (fun b hb hlt => hmo b hb hlt)
    ahead := h.ahead.keep (fun b hb hlt => hon b hb hlt) (fun b hb hlt => hmo b hb hlt)
    back := h.back.keep (fun b hb hlt => hon b hb hlt) (fun b hb hlt => hmo b hb hlt)
    wait := h.wait.keep (fun b hb hlt => hon b hb hlt) (fun b hb hlt => hmo b hb hlt)
    marks := h.marks
    shut := h.shut }

/-- The data of the disk have been written in place. -/
theorem SAtM.inData {w' : World} {d' : List UInt8} (h : SAtM w own bs S m) (ht : Tw w w' (fun b => m.datas own bs b ∧ blockIs m.data b))
    (hr : Wr w' (m.datas own bs) m.data d') : SAtM w' own bs { S with data := d' } m := by
  have hon : ∀ b, m.only own bs b → b < w.heap.size → w'.heap[b]? = w.heap[b]? := fun b hb hlt => ht.keep b hlt (fun e => hb.2.2.2.2 e.2)
  exact {
    hs := (ht.keep _ (h.lt _ h.os) (fun e => e.1.2.1 rfl)).trans h.hs
    hd := (ht.keep _ (h.lt _ h.od) (fun e => e.1.2.2.1 rfl)).trans h.hd
    hx := (ht.keep _ (h.lt _ h.ox) (fun e => e.1.2.2.2 rfl)).trans h.hx
    os := h.os
    od := h.od
    ox := h.ox
    lt := fun k hk' => Nat.lt_of_lt_of_le (h.lt k hk') ht.size
    data := hr
    plan := h.plan.keep (fun b hb hlt => hon b hb hlt) (fun b hb hlt => hb)
    ahead := h.ahead.keep (fun b hb hlt => hon b hb hlt) (fun b hb hlt => hb)
    back := h.back.keep (fun b hb hlt => hon b hb hlt) (fun b hb hlt => hb)
    wait := h.wait.keep (fun b hb hlt => hon b hb hlt) (fun b hb hlt => hb)
    marks := h.marks
    shut := h.shut }

/-- What a stream owns once memory has grown. -/
def grownOwn (own : Nat → Prop) (w w' : World) (k : Nat) : Prop := own k ∨ (w.heap.size ≤ k ∧ k < w'.heap.size)

theorem SAtM.newOnly {w' : World} (h : SAtM w own bs S m) (b : Nat) (h1 : w.heap.size ≤ b) (h2 : b < w'.heap.size) : m.only (grownOwn own w w') bs b :=
  ⟨.inr ⟨h1, h2⟩, by have := h.lt _ h.os; omega, by have := h.lt _ h.od; exact fun e => by omega, by have := h.lt _ h.ox; exact fun e => by omega, fun e => by have := h.data.blk_lt e; omega⟩

theorem SAtM.grow {w' : World} (h : SAtM w own bs S m) (hb : Below w.heap.size w w') : SAtM w' (grownOwn own w w') bs S m := by
  have ho : ∀ b, m.only own bs b → m.only (grownOwn own w w') bs b := fun b hb => ⟨.inl hb.1, hb.2⟩
  have h' := h.keep hb.size (fun b hb2 => hb.block b (h.lt b hb2))
  exact {
    hs := h'.hs
    hd := h'.hd
    hx := h'.hx
    os := .inl h.os
    od := .inl h.od
    ox := .inl h.ox
    lt := fun k hk => hk.elim (fun e => Nat.lt_of_lt_of_le (h.lt k e) hb.size) (fun e => e.2)
    data := h'.data.keep (fun _ _ _ => rfl) (fun b hb _ => ⟨.inl hb.1, hb.2⟩)
    plan := h'.plan.keep (fun _ _ _ => rfl) (fun b hb _ => ho b hb)
    ahead := h'.ahead.keep (fun _ _ _ => rfl) (fun b hb _ => ho b hb)
    back := h'.back.keep (fun _ _ _ => rfl) (fun b hb _ => ho b hb)
    wait := h'.wait.keep (fun _ _ _ => rfl) (fun b hb _ => ho b hb)
    marks := h.marks
    shut := h.shut }

theorem Fr.grow {w w1 w' : World} {o p : Nat → Prop} (h : Fr w w1 o p) (hb : Below w1.heap.size w1 w') : Fr w w' o (grownOwn p w1 w') where
  os := hb.os.trans h.os
  tape := hb.tape.trans h.tape
  output := hb.output.trans h.output
  size := Nat.le_trans h.size hb.size
  keep := fun k hk ho => (hb.block k (Nat.lt_of_lt_of_le hk h.size)).trans (h.keep k hk ho)
  new := fun k hk => hk.elim (h.new k) (fun e => .inr (Nat.le_trans h.size e.1))
end

def SAt (w : World) (own : Nat → Prop) (bs : Nat) (S : St) : Prop := ∃ m, SAtM w own bs S m

end Go.Proofs.Ytgihclflndlomaa
