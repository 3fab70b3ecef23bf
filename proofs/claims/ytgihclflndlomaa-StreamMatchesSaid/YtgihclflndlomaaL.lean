/- Laws on slices of the call's own: append, append of zeros, copy, storing an element. -/
import Derived.Test.YtgihclflndlomaaM
import Derived.Lib.AppendZerosOnto
import Derived.Laws.CopyOwn
import Derived.Deep.Upon
import Derived.Deep.AppendLies
import Derived.Deep.RegionHeld3
import Derived.Deep.RegionLaw
import Derived.Deep.DeepCutAuto
import Derived.Lib.Hide
namespace Go.Proofs.Ytgihclflndlomaa
open Go.RowKit

theorem info5 : (Try.prog.info? 5).map (fun i => (i.zero, i.size, i.bytes)) = some (some (.int .u8 0), 1, 1) := by kernel_rfl
theorem info3 : (Try.prog.info? 3).map (fun i => (i.zero, i.size, i.bytes)) = some (some (.int .i64 0), 1, 8) := by kernel_rfl

/-- What is asked of a slice type's elements: one cell each. -/
structure Elem {α : Type} (t e : TypeId) (enc : α → Value) (bytes : Nat) (z : Value) : Prop where
  under : Try.prog.underlying t = some (.slice e)
  info : ∃ i, Try.prog.info? e = some i ∧ i.zero = some z ∧ i.size = 1 ∧ i.bytes = bytes
  zc : z.cells.size = 1
  one : ∀ x, (enc x).oneCell' = true

theorem bytesElem : Elem 22 5 byteV 1 (.int .u8 0) := by
  obtain ⟨i, hi, h1, h2, h3⟩ := info_parts info5
  exact ⟨Try.underlying22, ⟨i, hi, h1, h2, h3⟩, rfl, fun _ => rfl⟩
theorem intsElem : Elem 23 3 intV 8 (.int .i64 0) := by
  obtain ⟨i, hi, h1, h2, h3⟩ := info_parts info3
  exact ⟨Try.underlying23, ⟨i, hi, h1, h2, h3⟩, rfl, fun _ => rfl⟩

theorem addr_add (b off j : Nat) : (⟨b, off, none⟩ : Addr).add j = ⟨b, off + j, none⟩ := by unfold Addr.add; split <;> simp_all

theorem Rd.src {α : Type} {t e : TypeId} {enc : α → Value} {bytes : Nat} {z : Value} (he : Elem t e enc bytes z) {w : World} {own : Nat → Prop} {v : Value} {l : List α} (h : Rd w own enc v l) :
    Src Try.prog 1 t v l.length (l.map enc) w := by
  obtain ⟨a, cap, rfl, hl, hc, hn, hr⟩ := h
  by_cases hne : l = []
  · subst hne
    cases a with
    | none => exact Src.ofNil w he.under cap
    | some a => exact Src.ofSlice w he.under a 0 cap [] (by simp) (fun j u h => by simp at h) (fun u h => by cases h)
  · obtain ⟨b, off, rfl, hb, hcell⟩ := hr hne
    refine Src.ofSlice w he.under _ _ cap _ (by simp) (fun j u hu => ?_) (fun u hu => ?_)
    · rw [List.getElem?_map] at hu
      cases hx : l[j]? with
      | none => rw [hx] at hu; cases hu
      | some x =>
        rw [hx] at hu
        cases hu
        rw [addr_add]
        exact hcell j x hx
    · obtain ⟨x, _, rfl⟩ := List.mem_map.1 hu
      exact he.one x

/-- APPEND: onto a slice of the call's own, out of whatever reads. -/
theorem run_app {α : Type} {t e : TypeId} {enc : α → Value} {bytes : Nat} {z : Value} (he : Elem t e enc bytes z) (w : World) (own any : Nat → Prop) (vd vx : Value) (d l : List α) (hd : Row e enc w own vd d) (hx : Rd w any enc vx l) (ty : TypeId)
    (hlen : (d.length + l.length) * bytes ≤ 140737488355328) (hb8 : 0 < bytes) :
    ∃ a n c w', (Builtin.append_ #[t, t] ty #[vd, vx]).run Try.prog w = .ok (.slice a n c) w' ∧ Row e enc w' (fun b => own b ∨ b = w.heap.size) (.slice a n c) (d ++ l) ∧ Tw w w' (fun b => own b ∧ blockIs vd b) ∧
      (∀ b, blockIs (.slice a n c) b → blockIs vd b ∨ b = w.heap.size) := by
  obtain ⟨i, hi, hz, hsz, hby⟩ := he.info
  have hsmall : d.length + l.length ≤ 140737488355328 := Nat.le_trans (Nat.le_mul_of_pos_right _ hb8) hlen
  have hsrc := hx.src he
  rw [← hsz] at hsrc
  by_cases hl : l = []
  · subst hl
    rw [List.append_nil]
    rcases hd with ⟨rfl, a, rfl⟩ | ⟨b, cap, cs, rfl, hb, hh, h1, h2, h3, h4⟩
    · exact ⟨a, 0, 0, w, run_append_nothing w t t ty e i he.under hi a 0 0 (Nat.le_refl _) vx hsrc, .inl ⟨rfl, a, rfl⟩, Tw.refl _ _, fun b hb => .inl hb⟩
    · exact ⟨_, _, _, w, run_append_nothing w t t ty e i he.under hi _ _ _ h1 vx hsrc, .inr ⟨b, cap, cs, rfl, .inl hb, hh, h1, h2, h3, h4⟩, Tw.refl _ _, fun b hb => .inl hb⟩
  · have hlp : 0 < l.length := by cases l with | nil => exact absurd rfl hl | cons x r => simp
    have grow : ∀ (a : Option Addr) (cap : Nat), d.length = 0 → cap = 0 → ∃ a' n c w', (Builtin.append_ #[t, t] ty #[.slice a d.length cap, vx]).run Try.prog w = .ok (.slice a' n c) w' ∧ Row e enc w' (fun b => own b ∨ b = w.heap.size) (.slice a' n c) (d ++ l) ∧ Tw w w' (fun b => own b ∧ blockIs (.slice a d.length cap) b) ∧
        (∀ b, blockIs (.slice a' n c) b → blockIs (.slice a d.length cap) b ∨ b = w.heap.size) := by
      intro a cap hd0 hc0
      obtain rfl : d = [] := List.length_eq_zero_iff.1 hd0
      subst hc0
      have hrun := run_append_grow_src w t t ty e i z he.under hi hz a 0 0 [] (by cases a with | none => exact run_firstCells_none _ _ _ _ _ | some a => exact run_firstCells_some w.drew i.size 0 a 0 0 [] (by simp) (fun j v h => by simp at h)) vx l.length (l.map enc) hsrc (by omega) (by simp at hsmall ⊢; omega) (by rw [Nat.zero_add, nextslicecap_zero hlp, hby]; simp at hlen; omega)
      rw [Nat.zero_add] at hrun
      have hge := grownCap_ge w l.length 0 e
      refine ⟨_, _, _, _, hrun, .inr ⟨w.heap.size, grownCap w l.length 0 e, _, rfl, .inr rfl, heap_alloc_new w.drew _, by simpa using hge, grownCap_le_maxLen w _ 0 e (by unfold maxLen; simp at hsmall ⊢; omega), ?_, ?_⟩, ⟨rfl, rfl, rfl, by simp, fun k hk _ => Below.heap_alloc w.drew _ k hk⟩, fun b hb => .inr ?_⟩
      · simp [size_zeroCells, he.zc]; omega
      · simp
      · exact blockIs_eq hb
    rcases hd with ⟨rfl, a, rfl⟩ | ⟨b, cap, cs, rfl, hb, hh, h1, h2, h3, h4⟩
    · exact grow a 0 rfl rfl
    · by_cases hc0 : cap = 0
      · have hd0 : d.length = 0 := by rw [hc0] at h1; exact Nat.le_zero.1 h1
        exact grow (some ⟨b, 0, none⟩) cap hd0 hc0
      have hown : w.ownsRow 0 e 1 (.slice (some ⟨b, 0, none⟩) d.length cap) d.length (d.map enc) := ⟨by simp, .inr ⟨b, cap, cs, rfl, Nat.zero_le _, hh, h1, h2, by rw [h3]; simp, by simpa using h4⟩⟩
      obtain ⟨a, c0, rfl, hl1, hc1, hn1, hr1⟩ := hx
      obtain ⟨xb, xo, rfl, hxb, hxc⟩ := hr1 hl
      obtain ⟨g, cap', w', hrun, hown', hg, hgb, _⟩ := run_append_lies w t ty 0 e i z 1 bytes he.under hi hz hsz hby he.zc (by decide) _ _ _ hown ⟨xb, xo, none⟩ l.length c0 (l.map enc) (by simp)
        (fun j u hu => by
          rw [List.getElem?_map] at hu
          cases hx : l[j]? with
          | none => rw [hx] at hu; cases hu
          | some x => rw [hx] at hu; cases hu; rw [addr_add]; exact hxc j x hx)
        (fun u hu => by obtain ⟨x, _, rfl⟩ := List.mem_map.1 hu; exact he.one x) hlp (by unfold maxLen; omega) hlen (Nat.zero_le _) _ rfl
      rcases hown'.2 with ⟨h0, _⟩ | ⟨g', cap'', cur, hv, _, hg1, hg2, hg3, hg4, hg5⟩
      · cases h0
      · cases hv
        have hgb : g = b ∨ g = w.heap.size := hgb.imp (fun h => by simpa [Value.ownBlock] using h.symm) id
        refine ⟨_, _, _, w', hrun, .inr ⟨g, cap', cur, by simp, ?_, hg1, by simpa using hg2, hg3, by simpa using hg4, by simpa using hg5⟩, Tw.of_grown hg (fun k e => by cases e; exact ⟨hb, _, _, _, rfl, by omega⟩), fun b' hb' => ?_⟩
        · rcases hgb with rfl | rfl
          · exact .inl hb
          · exact .inr rfl
        · have hv := blockIs_eq hb'
          rcases hgb with rfl | rfl
          · exact .inl ⟨0, d.length, cap, by rw [hv], by omega⟩
          · exact .inr hv

theorem zeroCells_one (z : Value) (hz : z.cells = #[z]) (n : Nat) : (Builtin.zeroCells z.cells n).toList = List.replicate n z := by
  rw [hz]
  unfold Builtin.zeroCells
  apply List.ext_getElem
  · simp
  · intro i h1 h2
    simp [Nat.mod_one]

theorem map_replicate0 (n : Nat) : (List.replicate n (0 : UInt8)).map byteV = List.replicate n (.int .u8 0) := by
  rw [List.map_replicate]; rfl

/-- APPEND OF ZEROS ('append(s, make([]byte, n)...)'). -/
theorem run_app_zeros (w : World) (own : Nat → Prop) (vd : Value) (d : List UInt8) (hd : Wr w own vd d) (gap : Nat) (h0 : 0 < gap) (hlen : d.length + gap ≤ 100000000) (ty : TypeId) :
    ∃ a n c w', (Builtin.append_ #[22, 3] ty #[vd, .int .i64 (gap : Int)]).run Try.prog w = .ok (.slice a n c) w' ∧ Wr w' (fun b => own b ∨ b = w.heap.size) (.slice a n c) (d ++ List.replicate gap 0) ∧ Tw w w' (fun b => own b ∧ blockIs vd b) ∧
      (∀ b, blockIs (.slice a n c) b → blockIs vd b ∨ b = w.heap.size) := by
  obtain ⟨i, hi, hz, hsz, hby⟩ := bytesElem.info
  have hw : IntKind.i64.wrap (gap : Int) = gap := by rw [IntKind.wrap_i64]; omega
  have hneg : ¬ ((gap : Int) < 0) := by omega
  have hcap : ∀ (sl sc : Nat) (base : Option Addr) (olds : List Value) (hold : (Builtin.firstCells i.size sl (.slice base sl sc)).run Try.prog w.drew = .ok olds.toArray w.drew) (hol : olds = d.map byteV) (hsl : sl = d.length) (hg : sc < sl + gap) (hle : sl ≤ sc) (row : Nat → Prop),
      ∃ a n c w', (Builtin.append_ #[22, 3] ty #[.slice base sl sc, .int .i64 (gap : Int)]).run Try.prog w = .ok (.slice a n c) w' ∧ Wr w' (fun b => own b ∨ b = w.heap.size) (.slice a n c) (d ++ List.replicate gap 0) ∧ Tw w w' row ∧
      (∀ b, blockIs (.slice a n c) b → b = w.heap.size) := by
    intro sl sc base olds hold hol hsl hg hle row
    subst hsl
    have hn : Builtin.nextslicecap (d.length + gap) sc ≤ 281474976710656 := by
      have h1 : sc < 100000000 := by omega
      unfold Builtin.nextslicecap
      split
      · omega
      · split
        · omega
        · have gb : ∀ (r c : Nat), c ≤ 300000000 → Builtin.growBy (d.length + gap) r c ≤ 300000000 := by
            intro r
            induction r with
            | zero => intro c hc; simpa [Builtin.growBy] using hc
            | succ r ih =>
              intro c hc
              simp only [Builtin.growBy]
              split
              · omega
              · exact ih _ (by omega)
          have := gb 4 sc (by omega)
          omega
    have hrun := Lib.run_append_grow_zeros (P := Try.prog) w 22 3 ty 5 i (.int .u8 0) .i64 .i64 Try.underlying22 Try.underlying3 hi hz base d.length sc olds hold gap h0 (by omega) hg (by omega) (by rw [hby]; omega) (by rw [hby, Nat.mul_one]; exact hn)
    have hge := grownCap_ge w (d.length + gap) sc 5
    refine ⟨_, _, _, _, hrun, .inr ⟨w.heap.size, grownCap w (d.length + gap) sc 5, _, by simp, .inr rfl, heap_alloc_new w.drew _, by simpa using hge, grownCap_le_maxLen w _ sc 5 (by unfold maxLen; omega), ?_, ?_⟩, ⟨rfl, rfl, rfl, by simp, fun k hk _ => Below.heap_alloc w.drew _ k hk⟩, fun b hb => ?_⟩
    · rw [hol]; simp [size_zeroCells, Value.cells]; omega
    · have hzc := zeroCells_one (.int .u8 0) rfl gap
      simp only [Array.toList_append, hol, hzc, List.map_append, map_replicate0, List.length_append, List.length_replicate]
      rw [List.append_assoc, ← List.append_assoc]
      exact List.take_left' (by simp)
    · exact blockIs_eq hb
  rcases hd with ⟨rfl, a, rfl⟩ | ⟨b, cap, cs, rfl, hb, hh, h1, h2, h3, h4⟩
  · obtain ⟨a', n, c, w', r1, r2, r3, r4⟩ := hcap 0 0 a [] (by cases a with | none => exact run_firstCells_none _ _ _ _ _ | some a => exact run_firstCells_some w.drew i.size 0 a 0 0 [] (by simp) (fun j v h => by simp at h)) rfl rfl (by omega) (Nat.le_refl _) _
    exact ⟨a', n, c, w', r1, r2, r3, fun b hb => .inr (r4 b hb)⟩
  · by_cases hroom : d.length + gap ≤ cap
    · have hst := run_storeCells_at Try.prog b d.length 5 (List.replicate gap (Value.int .u8 0)) 0 cs w hh (by simp; omega) (fun v hv => by obtain ⟨_, rfl⟩ := List.mem_replicate.1 hv; rfl)
      have hrun : (Builtin.append_ #[22, 3] ty #[.slice (some ⟨b, 0, none⟩) d.length cap, .int .i64 (gap : Int)]).run Try.prog w = .ok (.slice (some ⟨b, 0, none⟩) (d.length + gap) cap) (w.setRow b (cs.toList.take d.length ++ List.replicate gap (Value.int .u8 0) ++ cs.toList.drop (d.length + gap)).toArray) := by
        have h48 : ¬ (281474976710656 < (gap : Int)) := by omega
        have hg0 : ¬ gap = 0 := by omega
        have hzc : (Builtin.zeroCells #[Value.int .u8 0] gap).toList = List.replicate gap (Value.int .u8 0) := zeroCells_one (.int .u8 0) rfl gap
        simp only [List.length_replicate, Nat.add_zero] at hst
        simp [Builtin.append_, run_underlying Try.underlying22, run_underlying Try.underlying3, sizeOf, typeInfo, zeroValue, hi, hz, hsz, hby, asInt, asIntOf, hw, hneg, h48, hg0, hroom, addr_add, Value.cells, hzc, hst]
      have hh' := setRow_heap w b cs (cs.toList.take d.length ++ List.replicate gap (Value.int .u8 0) ++ cs.toList.drop (d.length + gap)).toArray 5 (0, 0) hh
      refine ⟨_, _, _, _, hrun, .inr ⟨b, cap, _, by simp, .inl hb, hh', by simpa using hroom, h2, ?_, ?_⟩, ⟨rfl, rfl, rfl, by simp, fun k _ hk => setRow_other w b k _ (fun e => hk (by rw [e]; exact ⟨hb, _, _, _, rfl, by omega⟩))⟩, fun b' hb' => .inl ?_⟩
      · simp; omega
      · rw [h4, List.map_append, map_replicate0, List.length_append, List.length_replicate]
        exact List.take_left' (by simp)
      · have hv := blockIs_eq hb'; exact ⟨0, d.length, cap, by rw [hv], by omega⟩
    · obtain ⟨a', n, c, w', r1, r2, r3, r4⟩ := hcap d.length cap (some ⟨b, 0, none⟩) (d.map byteV) (run_firstCells_some w.drew i.size d.length ⟨b, 0, none⟩ d.length cap _ (by simp [hsz]) (fun j v h => by
        rw [addr_add]
        show w.cell? _ = _
        rw [cell_of_row w b _ cs 5 (0, 0) hh, Nat.zero_add]
        rw [← h4, List.getElem?_take] at h
        split at h
        · simpa using h
        · cases h)) rfl rfl (by omega) h1 _
      exact ⟨a', n, c, w', r1, r2, r3, fun b hb => .inr (r4 b hb)⟩

/-- COPY into a part of a row of the call's own. -/
theorem run_copy_wr (w : World) (own any : Nat → Prop) (b cap : Nat) (d : List UInt8) (hd : Wr w own (.slice (some ⟨b, 0, none⟩) d.length cap) d) (off dl dc : Nat) (vx : Value) (l : List UInt8) (hx : Rd w any byteV vx l) (ty : TypeId)
    (hne : l ≠ []) (hl : off + l.length ≤ d.length) (hdl : l.length ≤ dl) :
    ∃ w', (Builtin.copy_ #[22, 22] ty #[.slice (some ⟨b, off, none⟩) dl dc, vx]).run Try.prog w = .ok (goInt l.length) w' ∧ Wr w' own (.slice (some ⟨b, 0, none⟩) d.length cap) (d.take off ++ l ++ d.drop (off + l.length)) ∧ Tw w w' (fun k => own k ∧ k = b) := by
  have hlp : 0 < l.length := by cases l with | nil => exact absurd rfl hne | cons x r => simp
  rcases hd with ⟨rfl, _⟩ | ⟨b', cap', cs, hv, hb, hh, h1, h2, h3, h4⟩
  · rw [List.length_nil] at hl; omega
  · cases hv
    obtain ⟨a, c, rfl, hlc, hcm, hn, hr⟩ := hx
    obtain ⟨xb, xo, rfl, hxb, hxc⟩ := hr hne
    have hinfo : (Try.prog.info? 5).map (·.size) = some 1 := by kernel_rfl
    have hrun := run_copy_row (P := Try.prog) w 22 22 ty 5 b off dl dc ⟨xb, xo, none⟩ l.length c cs 5 (l.map byteV) Try.underlying22 hinfo hh (by simp [Nat.min_eq_left hdl])
      (fun j v hv => by
        rw [List.getElem?_map] at hv
        cases hx : l[j]? with
        | none => rw [hx] at hv; cases hv
        | some x => rw [hx] at hv; cases hv; rw [addr_add]; exact hxc j x hx)
      (by simp; omega) (fun v hv => by obtain ⟨x, _, rfl⟩ := List.mem_map.1 hv; rfl)
    rw [List.length_map] at hrun
    have hlen : (d.take off ++ l ++ d.drop (off + l.length)).length = d.length := by simp; omega
    refine ⟨_, hrun, .inr ⟨b, cap, _, by rw [hlen], hb, setRow_heap w b cs _ 5 (0, 0) hh, by rw [hlen]; exact h1, h2, ?_, ?_⟩, ⟨rfl, rfl, rfl, by simp, fun k _ hk => setRow_other w b k _ (fun e => hk (by rw [e]; exact ⟨hb, rfl⟩))⟩⟩
    · simp; omega
    · rw [hlen]
      have h5 : cs.toList = d.map byteV ++ cs.toList.drop d.length := by rw [← h4, List.take_append_drop]
      simp only
      rw [List.map_append, List.map_append, List.map_take, List.map_drop]
      have h6 : cs.toList.take off = (d.map byteV).take off := by rw [← h4, List.take_take, Nat.min_eq_left (by omega)]
      have h7 : cs.toList.drop (off + l.length) = (d.map byteV).drop (off + l.length) ++ cs.toList.drop d.length := by
        conv => lhs; rw [h5]
        rw [List.drop_append_of_le_length (by simp; omega)]
      rw [h6, h7, ← List.append_assoc]
      exact List.take_left' (by simp; omega)

/-- A STORE of one element. -/
theorem Row.store {α : Type} {e : TypeId} {enc : α → Value} {w : World} {own : Nat → Prop} {b cap : Nat} {d : List α} (h : Row e enc w own (.slice (some ⟨b, 0, none⟩) d.length cap) d) (i : Nat) (x : α) (hi : i < d.length) :
    Row e enc (w.setCell ⟨b, i, none⟩ (enc x)) own (.slice (some ⟨b, 0, none⟩) d.length cap) (d.set i x) := by
  rcases h with ⟨rfl, _⟩ | ⟨b', cap', cs, hv, hb, hh, h1, h2, h3, h4⟩
  · simp at hi
  · cases hv
    refine .inr ⟨b, cap, _, by simp, hb, heap_setCell_same w b i cs e _ hh, by simpa using h1, h2, by simpa using h3, ?_⟩
    rw [List.length_set, Array.toList_setIfInBounds, List.take_set, h4, List.map_set]

/-! ### One step of a region, an operation's run known -/
section
variable {P : Program} {ops : Array Oper} {o : Oper} {a : Act} {w : World} {Q : Exit → Act → World → Prop}
theorem step_append_run {K : Act → World → Prop} {E : Prop} (hg : o.guard = none) (s x : Operand) (t tn : TypeId) (ho : o.op = .call { callee := .builtin .append, args := #[s, x], argTypes := #[t, tn] }) (vs vx : Value) (hs : a.eval s = vs) (hx : a.eval x = vx)
    (v' : Value) (w' : World) (hr : (Builtin.append_ #[t, tn] o.type #[vs, vx]).run P w = .ok v' w') (h : K (a.put o.dst v') w') : if Region.wanted o (yielded ops a.tmps) = true then Oper.wp P o a w K Q else E := by
  have hw : Region.wanted o (yielded ops a.tmps) = true := by simp [Region.wanted, hg]
  rw [if_pos hw]
  exact Lib.wp_append_run w s x t tn ho vs vx hs hx v' w' hr h
theorem wp_copy_run {K : Act → World → Prop} (s x : Operand) (t tn : TypeId) (ho : o.op = .call { callee := .builtin .copy, args := #[s, x], argTypes := #[t, tn] }) (vs vx : Value) (hs : a.eval s = vs) (hx : a.eval x = vx)
    (v' : Value) (w' : World) (hr : (Builtin.copy_ #[t, tn] o.type #[vs, vx]).run P w = .ok v' w') (h : K (a.put o.dst v') w') : o.wp P a w K Q := by
  unfold Oper.wp execOp
  simp only [ho, resolve, invoke, builtin, Sem.run_bind, Sem.run_pure, Result.andThen_ok, List.map_toArray, List.map_cons, List.map_nil, hs, hx, hr]
  exact h
theorem step_copy_run {K : Act → World → Prop} {E : Prop} (hg : o.guard = none) (s x : Operand) (t tn : TypeId) (ho : o.op = .call { callee := .builtin .copy, args := #[s, x], argTypes := #[t, tn] }) (vs vx : Value) (hs : a.eval s = vs) (hx : a.eval x = vx)
    (v' : Value) (w' : World) (hr : (Builtin.copy_ #[t, tn] o.type #[vs, vx]).run P w = .ok v' w') (h : K (a.put o.dst v') w') : if Region.wanted o (yielded ops a.tmps) = true then Oper.wp P o a w K Q else E := by
  have hw : Region.wanted o (yielded ops a.tmps) = true := by simp [Region.wanted, hg]
  rw [if_pos hw]
  exact wp_copy_run s x t tn ho vs vx hs hx v' w' hr h
end
end Go.Proofs.Ytgihclflndlomaa
