/- Calls among the arguments; small. -/
import Derived.Test.YtgihclflndlomaaBr
import Derived.Test.YtgihclflndlomaaBc
import Derived.Deep.LoopGhost
import Derived.Outline
namespace Go.Proofs.Ytgihclflndlomaa
open Go.ChangeShapes Go.WideShapes Go.ChangeAt Go.RowKit Go.Joins Go.Deep

/-- Where a call lies. -/
structure AcAt (w : World) (low : Nat) (b o : Nat) (x : Ac) : Prop where
  c0 : w.cell? ⟨b, o, none⟩ = some (.int .i64 x.kind)
  c1 : w.cell? ⟨b, o + 1, none⟩ = some (.int .i64 x.n)
  c2 : w.cell? ⟨b, o + 2, none⟩ = some (.int .i64 x.whence)
  c3 : ∃ ab nb cb, w.cell? ⟨b, o + 3, none⟩ = some (.slice ab nb cb) ∧ Rd w (fun b => b < low) byteV (.slice ab nb cb) x.b

/-- A list of calls among the arguments. -/
def Acts (w : World) (low : Nat) (a : Option Addr) (n : Nat) (l : List Ac) : Prop :=
  l.length = n ∧ (0 < n → ∃ b off, a = some ⟨b, off, none⟩ ∧ b < low ∧ ∀ i x, l[i]? = some x → AcAt w low b (off + i * 4) x)

theorem list4 {α : Type} {l : List α} (h : l.length = 4) : ∃ c0 c1 c2 c3, l = [c0, c1, c2, c3] := by
  match l, h with
  | [c0, c1, c2, c3], _ => exact ⟨c0, c1, c2, c3, rfl⟩
theorem Try.cells22 : Try.prog.cellsOf 22 = 1 := by kernel_rfl

theorem AcAt.below {w W : World} {low b o : Nat} {x : Ac} (h : AcAt w low b o x) (hb : Below w.heap.size w W) (hlt : b < w.heap.size) : AcAt W low b o x where
  c0 := (hb.cell (p := ⟨b, o, none⟩) hlt).trans h.c0
  c1 := (hb.cell (p := ⟨b, o + 1, none⟩) hlt).trans h.c1
  c2 := (hb.cell (p := ⟨b, o + 2, none⟩) hlt).trans h.c2
  c3 := by
    obtain ⟨ab, nb, cb, h1, h2⟩ := h.c3
    exact ⟨ab, nb, cb, (hb.cell (p := ⟨b, o + 3, none⟩) hlt).trans h1, h2.keep (fun k _ hk => hb.block k hk) (fun _ h _ => h)⟩

theorem Acts.below {w W : World} {low : Nat} {a : Option Addr} {n : Nat} {l : List Ac} (h : Acts w low a n l) (hlow : low ≤ w.heap.size) (hb : Below w.heap.size w W) : Acts W low a n l := by
  refine ⟨h.1, fun hn => ?_⟩
  obtain ⟨b, off, ha, hlt, hc⟩ := h.2 hn
  exact ⟨b, off, ha, hlt, fun i x hx => (hc i x hx).below hb (Nat.lt_of_lt_of_le hlt hlow)⟩

section
variable {H : Type} {enc : TypeId × Value → H} {W : World}

theorem arg_acts {r : Reach} {b0 : Nat} {v : Value} {d : DataW H} {p : List MemPlace} (hv : Value.okWide Try.prog W r b0 49 v) (h : DataW.Trod enc Try.prog W 0 (fun _ => true) true 49 v d p) :
    ∃ (l : List Ac) (a : Option Addr) (n c : Nat), v = .slice a n c ∧ n ≤ c ∧ c ≤ maxLen ∧ Acts W W.heap.size a n l := by
  obtain ⟨a, n, c, rfl⟩ := okWide_slice Try.underlying49 hv
  obtain ⟨fuel, hf⟩ := h
  rcases open_slice Try.underlying49 (by simpa [Value.cells] using hf) with ⟨hcs, -⟩ | ⟨a', len, cap, m, k, D, Pl, hcs, -, hl, hm, hmm, -, hx⟩
  · simp only [List.cons.injEq, and_true] at hcs
    cases hcs
    exact ⟨[], none, 0, 0, rfl, Nat.le_refl _, Nat.zero_le _, rfl, fun h => absurd h (by decide)⟩
  · simp only [List.cons.injEq, and_true] at hcs
    cases hcs
    simp only [if_true] at hmm
    have hmm' := hmm.symm
    subst hmm'
    rw [Try.cells58] at hx
    have each : ∀ i, i < c → ∃ x : Ac, ∃ ab nb cb, W.cell? ((a'.add (i * 4)).add 0) = some (.int .i64 x.kind) ∧ W.cell? ((a'.add (i * 4)).add 1) = some (.int .i64 x.n) ∧ W.cell? ((a'.add (i * 4)).add 2) = some (.int .i64 x.whence) ∧
        W.cell? ((a'.add (i * 4)).add 3) = some (.slice ab nb cb) ∧ Rd W (fun b => b < W.heap.size) byteV (.slice ab nb cb) x.b := by
      intro i hi
      obtain ⟨cs', h1, h2⟩ := hx i hi
      obtain ⟨-, hlen, hat⟩ := World.cells?_some h1
      obtain ⟨y0, y1, y2, y3, n', -, -, h0, h1', h2', h3'⟩ := trod_struct4 Try.underlying58 h2
      obtain ⟨c0, c1, c2, c3, rfl⟩ := list4 hlen
      simp only [Try.cells3, Try.cells22, List.drop_zero, List.take_succ_cons, List.take_zero, List.drop_succ_cons] at h0 h1' h2' h3'
      obtain ⟨k, e0, -, -⟩ := DataW.trod_int Try.underlying3 h0
      obtain ⟨m, e1, -, -⟩ := DataW.trod_int Try.underlying3 h1'
      obtain ⟨wh, e2, -, -⟩ := DataW.trod_int Try.underlying3 h2'
      obtain ⟨l, ab, nb, cb, e3, hl⟩ := trod_bytes h3'
      simp only [List.cons.injEq, and_true] at e0 e1 e2
      subst e0 e1 e2 e3
      exact ⟨⟨k, m, wh, l⟩, ab, nb, cb, hat 0 (by decide), hat 1 (by decide), hat 2 (by decide), hat 3 (by decide), hl⟩
    haveI : Inhabited Ac := ⟨⟨0, 0, 0, []⟩⟩
    obtain ⟨f, hf⟩ := choose_lt each
    refine ⟨(List.range n).map f, some a', n, c, rfl, hl, hm, by simp, fun hn => ?_⟩
    obtain ⟨ab, nb, cb, k0, -⟩ := hf 0 (by omega)
    have ha := plain_addr (a := a') (by simpa [Addr.add] using k0)
    have hlt : a'.block < W.heap.size := World.block_lt_of_cell? _ _ (show W.cell? a' = some (.int .i64 (f 0).kind) by simpa [Addr.add] using k0)
    obtain ⟨b, o, s⟩ := a'
    simp only at ha hlt
    cases ha
    refine ⟨b, o, rfl, hlt, fun i x hx => ?_⟩
    have hi : i < n := by have := (List.getElem?_eq_some_iff.1 hx).1; simpa using this
    rw [List.getElem?_map, List.getElem?_range hi] at hx
    simp only [Option.map_some, Option.some.injEq] at hx
    subst hx
    obtain ⟨ab, nb, cb, k0, k1, k2, k3, k4⟩ := hf i (by omega)
    simp only [add_off, Nat.add_zero] at k0 k1 k2 k3
    exact ⟨k0, k1, k2, ab, nb, cb, k3, k4⟩
end

/-- What small lets in. -/
def Small (data : List UInt8) (plan : List Int) (l : List Ac) : Prop := data.length ≤ 2000 ∧ plan.length ≤ 60 ∧ l.length ≤ 60 ∧ ∀ x ∈ l, x.b.length ≤ 300

def SmallPost (w : World) (data : List UInt8) (plan : List Int) (l : List Ac) (e : Ending) (w' : World) : Prop :=
  ∃ r : Bool, e = .returned (.bool r) ∧ (r = true → Small data plan l) ∧ Below w.heap.size w w'

set_option maxRecDepth 100000 in
set_option maxHeartbeats 4000000 in
theorem small_calls (w : World) (low : Nat) (hlow : low ≤ w.heap.size) (a a2 : Option Addr) (n c n2 c2 : Nat) (max : Int) (al : Option Addr) (nl cl : Nat) (data : List UInt8) (plan : List Int) (l : List Ac)
    (hd : data.length = n) (hp : plan.length = n2) (hl : Acts w low al nl l) (hm : nl ≤ maxLen) :
    Calls Try.prog 23 #[.agg #[.slice a n c, .int .i64 max, .slice a2 n2 c2], .slice al nl cl] w (SmallPost w data plan l) := by
  obtain ⟨W0, hW0⟩ : ∃ W0, w.alloc (.cells #[.slice a n c, .int .i64 max, .slice a2 n2 c2] 25) = W0 := ⟨_, rfl⟩
  have hbe : Below w.heap.size w W0 := by rw [← hW0]; exact (Below.refl _ w).alloc (Nat.le_refl _) _
  have k0 : W0.cell? ⟨w.heap.size, 0, none⟩ = some (.slice a n c) := by rw [← hW0]; simp [go_sem]
  have k2 : W0.cell? ⟨w.heap.size, 2, none⟩ = some (.slice a2 n2 c2) := by rw [← hW0]; simp [go_sem]
  have Hbe := Lib.hid hbe
  have Hd := Lib.hid hd
  have Hp := Lib.hid hp
  have Hl := Lib.hid hl
  have hno : ∀ q, SmallPost w data plan l (.returned (.bool false)) (W0.drewN q) := fun q => ⟨false, rfl, fun e => (by cases e), ⟨hbe.os, hbe.tape, hbe.output, hbe.size, hbe.block⟩⟩
  have Hno := Lib.hid hno
  have Hl0 := Lib.hid (hl.below hlow hbe)
  have hln := hl.1
  have Hln := Lib.hid hln
  unfold maxLen at hm
  clear hbe hd hp hl hno hln
  by_cases h1 : (2000 : Int) < n
  · go_enter Try.func23, Try.ntmps23
    go_wp2_with fail
    go_ret
    exact Hno.out 0
  by_cases h2 : (60 : Int) < n2
  · go_enter Try.func23, Try.ntmps23
    go_wp2_with fail
    go_ret
    exact Hno.out 0
  by_cases h3 : (60 : Int) < nl
  · go_enter Try.func23, Try.ntmps23
    go_wp2_with fail
    go_ret
    exact Hno.out 0
  have h1' : decide ((2000 : Int) < n) = false := decide_eq_false h1
  have h2' : decide ((60 : Int) < n2) = false := decide_eq_false h2
  have h3' : decide ((60 : Int) < nl) = false := decide_eq_false h3
  go_enter Try.func23, Try.ntmps23
  go_wp2_with fail
  go_loopg [5] nl (fun g i wr => ∃ k : Nat, k + g = nl ∧ i = .int .i64 (k : Int) ∧ (∀ j x, j < k → l[j]? = some x → x.b.length ≤ 300) ∧ wr = W0)
  case atStart => exact ⟨0, by omega, rfl, fun j x hj => absurd hj (Nat.not_lt_zero _), rfl⟩
  case round =>
    obtain ⟨k, hkg, rfl, hin, rfl⟩ := hrel
    have Hkg := Lib.hid hkg
    have Hin := Lib.hid hin
    have hk16 : k ≤ nl := by omega
    clear hkg hin
    by_cases hlt : k < nl
    · obtain ⟨b, off, rfl, hb, hat⟩ := Hl0.out.2 (by omega)
      have hkl : k < l.length := by have := Hln.out; omega
      obtain ⟨x, hx⟩ : ∃ x, l[k]? = some x := ⟨_, List.getElem?_eq_getElem hkl⟩
      obtain ⟨c0, c1, -, ab, nb, cb, c3, hrd⟩ := hat k x hx
      have hnb := (rd_len hrd).1
      have Hnext := Lib.hid (show (nb : Int) ≤ 300 → ∀ j y, j < k + 1 → l[j]? = some y → y.b.length ≤ 300 from fun h j y hj hy => by
        by_cases e : j = k
        · subst e; rw [hx] at hy; cases hy; omega
        · exact Hin.out j y (by omega) hy)
      clear hat hx hrd hnb hkl
      by_cases g1 : (300 : Int) < nb
      · go_wp2_with fail
        go_ret
        exact Hno.out 0
      have g1' : decide ((300 : Int) < nb) = false := decide_eq_false g1
      by_cases g2 : x.kind = 5
      · have g2' : (x.kind == 5) = true := by simpa using g2
        have G2 := Lib.hid g2
        clear g2
        by_cases g3 : 5000 < x.n
        · have g3' : decide (5000 < x.n) = true := decide_eq_true g3
          by_cases g4 : x.n ≤ 1048576
          · go_wp2_with fail
            go_ret
            exact Hno.out 0
          · have g4' : decide (x.n ≤ 1048576) = false := decide_eq_false g4
            go_wp2_with fail
            go_roundg (gk - 1)
            case measure => have := Hkg.out; omega
            case rel => exact ⟨k + 1, by have := Hkg.out; omega, by rw [show ((k : Int) + 1) = ((k + 1 : Nat) : Int) by omega], Hnext.out (by omega), rfl⟩
        · have g3' : decide (5000 < x.n) = false := decide_eq_false g3
          go_wp2_with fail
          go_roundg (gk - 1)
          case measure => have := Hkg.out; omega
          case rel => exact ⟨k + 1, by have := Hkg.out; omega, by rw [show ((k : Int) + 1) = ((k + 1 : Nat) : Int) by omega], Hnext.out (by omega), rfl⟩
      · have g2' : (x.kind == 5) = false := by simpa using g2
        go_wp2_with fail
        go_roundg (gk - 1)
        case measure => have := Hkg.out; omega
        case rel => exact ⟨k + 1, by have := Hkg.out; omega, by rw [show ((k : Int) + 1) = ((k + 1 : Nat) : Int) by omega], Hnext.out (by omega), rfl⟩
    · go_wp2_with fail
      go_ret
      have hn := Hln.out
      refine ⟨true, rfl, fun _ => ⟨by have := Hd.out; omega, by have := Hp.out; omega, by omega, fun x hx => ?_⟩, Hbe.out⟩
      obtain ⟨j, hj, rfl⟩ := List.mem_iff_getElem.1 hx
      exact Hin.out j _ (by omega) (List.getElem?_eq_getElem hj)
end Go.Proofs.Ytgihclflndlomaa
