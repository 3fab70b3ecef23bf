/- The reference package's Valid, Clone, Open; The reference package's Open; should on the reference's stream. -/
import Derived.Test.YtgihclflndlomaaEh
import Derived.Test.YtgihclflndlomaaU
import Derived.Test.YtgihclflndlomaaAo
namespace Go.Proofs.Ytgihclflndlomaa
open Go.RowKit

def RValidPost (w : World) (data : List UInt8) (max : Int) (plan : List Int) (e : Ending) (w' : World) : Prop :=
  ∃ d : Bool, e = .returned (.bool d) ∧ (d = true ↔ ¬ devBad data max plan) ∧ Below w.heap.size w w'

set_option maxRecDepth 100000 in
set_option maxHeartbeats 2000000 in
theorem rvalid_calls (w : World) (any : Nat → Prop) (a a2 : Option Addr) (n c n2 c2 : Nat) (max : Int) (data : List UInt8) (plan : List Int) (hd : data.length = n) (hp : Rd w any intV (.slice a2 n2 c2) plan) :
    Calls Try.prog 43 #[.agg #[.slice a n c, .int .i64 max, .slice a2 n2 c2]] w (RValidPost w data max plan) := by
  obtain ⟨W0, hW0⟩ : ∃ W0, w.alloc (.cells #[.slice a n c, .int .i64 max, .slice a2 n2 c2] 25) = W0 := ⟨_, rfl⟩
  have hb0 : Below w.heap.size w W0 := by rw [← hW0]; exact (Below.refl _ w).alloc (Nat.le_refl _) _
  have c0 : W0.cell? ⟨w.heap.size, 0, none⟩ = some (.slice a n c) := by rw [← hW0]; simp [go_sem]
  have c1 : W0.cell? ⟨w.heap.size, 1, none⟩ = some (.int .i64 max) := by rw [← hW0]; simp [go_sem]
  have c2' : W0.cell? ⟨w.heap.size, 2, none⟩ = some (.slice a2 n2 c2) := by rw [← hW0]; simp [go_sem]
  have hn2 := rd_len hp
  have hlim : n2 ≤ 9223372036854775807 := by have := hn2.2.2; unfold maxLen at this; omega
  have Hn2 := Lib.hid hn2.1
  have Hd := Lib.hid hd
  have Hb0 := Lib.hid hb0
  have Hp := Lib.hid (hp.keep (fun b _ hl => hb0.block b hl) (fun _ h _ => h))
  clear hd hp hb0 hn2
  by_cases h1 : max < 0
  · have h1' : decide (max < 0) = true := decide_eq_true h1
    go_enter Try.func43, Try.ntmps43
    go_wp2_with fail
    go_ret
    exact ⟨false, rfl, ⟨fun e => (by cases e), fun e => absurd (.inl h1) e⟩, Hb0.out⟩
  have h1' : decide (max < 0) = false := decide_eq_false h1
  by_cases h2 : 1048576 < max
  · have h2' : decide (1048576 < max) = true := decide_eq_true h2
    go_enter Try.func43, Try.ntmps43
    go_wp2_with fail
    go_ret
    exact ⟨false, rfl, ⟨fun e => (by cases e), fun e => absurd (.inr (.inl h2)) e⟩, Hb0.out⟩
  have h2' : decide (1048576 < max) = false := decide_eq_false h2
  by_cases h3 : max < n
  · have h3' : decide (max < n) = true := decide_eq_true h3
    go_enter Try.func43, Try.ntmps43
    go_wp2_with fail
    go_ret
    exact ⟨false, rfl, ⟨fun e => (by cases e), fun e => absurd (.inr (.inr (.inl (by rw [Hd.out]; exact h3)))) e⟩, Hb0.out⟩
  have h3' : decide (max < n) = false := decide_eq_false h3
  go_enter Try.func43, Try.ntmps43
  go_wp2_with fail
  go_loopg [3] n2 (fun g i wr => ∃ k : Nat, k + g = n2 ∧ i = .int .i64 (k : Int) ∧ (∀ j z, j < k → plan[j]? = some z → -1 ≤ z) ∧ wr = W0)
  case atStart => exact ⟨0, by omega, rfl, fun j z hj => absurd hj (Nat.not_lt_zero _), rfl⟩
  case round =>
    obtain ⟨k, hkg, rfl, hin, rfl⟩ := hrel
    have Hkg := Lib.hid hkg
    have Hin := Lib.hid hin
    have hk16 : k ≤ n2 := by omega
    clear hkg hin
    by_cases hlt : k < n2
    · obtain ⟨y, hy⟩ : ∃ y, plan[k]? = some y := ⟨_, List.getElem?_eq_getElem (by have := Hn2.out; omega)⟩
      obtain ⟨A, e1, B, rfl, hA⟩ : ∃ A e1, ∃ B : Unit, a2 = some ⟨A, e1, none⟩ ∧ ∀ i x, plan[i]? = some x → wr.cell? ⟨A, e1 + i, none⟩ = some (intV x) := by
        obtain ⟨a', cap, hv, -, -, -, hr⟩ := Hp.out
        cases hv
        obtain ⟨b', off, h1, -, h3⟩ := hr (fun e => by rw [e] at hy; simp at hy)
        exact ⟨b', off, (), h1, h3⟩
      have z1 : wr.cell? ⟨A, e1 + k, none⟩ = some (.int .i64 y) := hA k y hy
      have Hy := Lib.hid hy
      clear hA hy
      by_cases hneg : y < -1
      · go_wp2_with fail
        go_ret
        exact ⟨false, rfl, ⟨fun e => (by cases e), fun e => absurd (.inr (.inr (.inr ⟨y, List.mem_of_getElem? Hy.out, hneg⟩))) e⟩, Hb0.out⟩
      · go_wp2_with fail
        go_roundg (gk - 1)
        case measure => have := Hkg.out; omega
        case rel =>
          refine ⟨k + 1, by have := Hkg.out; omega, by rw [show ((k : Int) + 1) = ((k + 1 : Nat) : Int) by omega], fun j z hj hz => ?_, rfl⟩
          by_cases e : j = k
          · subst e; rw [Hy.out] at hz; cases hz; omega
          · exact Hin.out j z (by omega) hz
    · go_wp2_with fail
      go_ret
      refine ⟨true, rfl, ⟨fun _ e => ?_, fun _ => rfl⟩, Hb0.out⟩
      rcases e with e | e | e | ⟨y, hy, hx⟩
      · omega
      · omega
      · rw [Hd.out] at e; omega
      · obtain ⟨j, hj, rfl⟩ := List.mem_iff_getElem.1 hy
        have := Hin.out j _ (by have := Hn2.out; omega) (List.getElem?_eq_getElem hj)
        omega

theorem cell_set3 {w : World} {b b' o1 o2 o3 o' : Nat} (v1 v2 v3 : Value) (h : b' ≠ b) : (((w.setCell ⟨b, o1, none⟩ v1).setCell ⟨b, o2, none⟩ v2).setCell ⟨b, o3, none⟩ v3).cell? ⟨b', o', none⟩ = w.cell? ⟨b', o', none⟩ :=
  (cell_set_block _ h).trans ((cell_set_block _ h).trans (cell_set_block _ h))

theorem bdrew {B : Nat} {w W : World} (h : Below B w W) : Below B w W.drew := ⟨h.os, h.tape, h.output, h.size, h.block⟩

/-- An append onto a new empty slice, as a step of a region. -/
theorem step_app_new {α : Type} {t e : TypeId} {enc : α → Value} {bytes : Nat} {z : Value} (he : Elem t e enc bytes z) {ops : Array Oper} {o : Oper} {a : Act} {W0 W : World} {Q : Exit → Act → World → Prop} {K : Act → World → Prop} {E : Prop}
    (hg : o.guard = none) (s x : Operand) (ho : o.op = .call { callee := .builtin .append, args := #[s, x], argTypes := #[t, t] }) (x0 : Option Addr) (vx : Value) (hs : a.eval s = .slice x0 0 0) (hx : a.eval x = vx)
    (any : Nat → Prop) (l : List α) (hr : Rd W0 any enc vx l) (hlen : l.length * bytes ≤ 140737488355328) (hb8 : 0 < bytes) (hb : Below W0.heap.size W0 W)
    (h : ∀ (p : Option Addr) (n c : Nat) (W' : World), Row e enc W' (fun b => W0.heap.size ≤ b ∧ b < W'.heap.size) (.slice p n c) l → Below W0.heap.size W0 W' → Below W.heap.size W W' → K (a.put o.dst (.slice p n c)) W') :
    if Region.wanted o (yielded ops a.tmps) = true then Oper.wp Try.prog o a W K Q else E := by
  obtain ⟨p, n, c, w', hrun, hrow, htw, hbl⟩ := run_app he W (fun _ => False) any (.slice x0 0 0) vx [] l (.inl ⟨rfl, x0, rfl⟩) (hr.keep (fun b _ hk => hb.block b hk) (fun _ h _ => h)) o.type (by simpa using hlen) hb8
  refine step_append_run hg s x t t ho _ _ hs hx _ w' hrun (h p n c w' ?_ ?_ ?_)
  · rw [List.nil_append] at hrow
    exact hrow.keep (fun _ _ _ => rfl) (fun b hb2 hlt => ⟨hb2.elim False.elim (fun e => by rw [e]; exact hb.size), hlt⟩)
  · exact hb.trans ⟨htw.os, htw.tape, htw.output, htw.size, fun k hk => htw.keep k (Nat.lt_of_lt_of_le hk hb.size) (fun e => e.1)⟩
  · exact ⟨htw.os, htw.tape, htw.output, htw.size, fun k hk => htw.keep k hk (fun e => e.1)⟩

theorem dev_fin {w W0 V : World} {data : List UInt8} {max : Int} {plan : List Int} {a5 a6 : Option Addr} {n5 c5 n6 c6 : Nat} (hb0 : Below w.heap.size w W0) (l1 : w.heap.size + 1 < W0.heap.size) (hbl : Below W0.heap.size W0 V)
    (h1 : Row 5 byteV V (fun b => W0.heap.size ≤ b ∧ b < V.heap.size) (.slice a5 n5 c5) data) (h2 : Row 3 intV V (fun b => W0.heap.size ≤ b ∧ b < V.heap.size) (.slice a6 n6 c6) plan) :
    DevPost w data max plan (.returned (.agg #[.slice a5 n5 c5, .int .i64 max, .slice a6 n6 c6])) (((V.setCell ⟨w.heap.size + 1, 0, none⟩ (.slice a5 n5 c5)).setCell ⟨w.heap.size + 1, 1, none⟩ (.int .i64 max)).setCell ⟨w.heap.size + 1, 2, none⟩ (.slice a6 n6 c6)) := by
  have hk : ∀ b, b ≠ w.heap.size + 1 → (((V.setCell ⟨w.heap.size + 1, 0, none⟩ (.slice a5 n5 c5)).setCell ⟨w.heap.size + 1, 1, none⟩ (.int .i64 max)).setCell ⟨w.heap.size + 1, 2, none⟩ (.slice a6 n6 c6)).heap[b]? = V.heap[b]? := fun b hb => by
    rw [Below.heap_setCell _ _ _ _ hb, Below.heap_setCell _ _ _ _ hb, Below.heap_setCell _ _ _ _ hb]
  refine ⟨a5, n5, c5, a6, n6, c6, rfl, ?_, ?_, ?_⟩
  · exact h1.keep (fun b hb hlt => hk b (by have := hb.1; omega)) (fun b hb hlt => ⟨by have := hb.1; omega, by simp; omega⟩)
  · exact h2.keep (fun b hb hlt => hk b (by have := hb.1; omega)) (fun b hb hlt => ⟨by have := hb.1; omega, by simp; omega⟩)
  · have h3 : Below w.heap.size W0 V := ⟨hbl.os, hbl.tape, hbl.output, hbl.size, fun k hk => hbl.block k (by omega)⟩
    exact (((hb0.trans h3).setCell (by simp) _).setCell (by simp) _).setCell (by simp) _

set_option maxRecDepth 100000 in
set_option maxHeartbeats 2000000 in
theorem rclone_calls (w : World) (any : Nat → Prop) (a a2 : Option Addr) (n c n2 c2 : Nat) (max : Int) (data : List UInt8) (plan : List Int) (hd : Rd w any byteV (.slice a n c) data) (hp : Rd w any intV (.slice a2 n2 c2) plan)
    (hl1 : data.length * 1 ≤ 140737488355328) (hl2 : plan.length * 8 ≤ 140737488355328) :
    Calls Try.prog 44 #[.agg #[.slice a n c, .int .i64 max, .slice a2 n2 c2]] w (DevPost w data max plan) := by
  obtain ⟨W0, hW0⟩ : ∃ W0, (w.alloc (.cells #[.slice a n c, .int .i64 max, .slice a2 n2 c2] 25)).alloc (.cells #[.slice none 0 0, .int .i64 0, .slice none 0 0] 25) = W0 := ⟨_, rfl⟩
  have hb0 : Below w.heap.size w W0 := by rw [← hW0]; exact ((Below.refl _ w).alloc (Nat.le_refl _) _).alloc (by simp) _
  have hsz : W0.heap.size = w.heap.size + 2 := by rw [← hW0]; simp
  have c0 : W0.cell? ⟨w.heap.size, 0, none⟩ = some (.slice a n c) := by rw [← hW0]; simp [go_sem]
  have c1 : W0.cell? ⟨w.heap.size, 1, none⟩ = some (.int .i64 max) := by rw [← hW0]; simp [go_sem]
  have c2' : W0.cell? ⟨w.heap.size, 2, none⟩ = some (.slice a2 n2 c2) := by rw [← hW0]; simp [go_sem]
  have z0 : W0.cell? ⟨w.heap.size + 1, 0, none⟩ = some (.slice none 0 0) := by rw [← hW0]; simp [go_sem]
  have z1 : W0.cell? ⟨w.heap.size + 1, 1, none⟩ = some (.int .i64 0) := by rw [← hW0]; simp [go_sem]
  have z2 : W0.cell? ⟨w.heap.size + 1, 2, none⟩ = some (.slice none 0 0) := by rw [← hW0]; simp [go_sem]
  have y0 : W0.frozen? ⟨w.heap.size + 1, 0, none⟩ = false := by rw [← hW0]; simp [go_sem]
  have y1 : W0.frozen? ⟨w.heap.size + 1, 1, none⟩ = false := by rw [← hW0]; simp [go_sem]
  have y2 : W0.frozen? ⟨w.heap.size + 1, 2, none⟩ = false := by rw [← hW0]; simp [go_sem]
  have l0 : w.heap.size < W0.heap.size := by omega
  have l1 : w.heap.size + 1 < W0.heap.size := by omega
  have hne : ¬ w.heap.size = w.heap.size + 1 := by omega
  have Hd := Lib.hid (hd.keep (own' := any) (fun b _ hb => hb0.block b hb) (fun _ h _ => h))
  have Hp := Lib.hid (hp.keep (own' := any) (fun b _ hb => hb0.block b hb) (fun _ h _ => h))
  have Hl1 := Lib.hid hl1
  have Hl2 := Lib.hid hl2
  have Hb0 := Lib.hid hb0
  clear hd hp hl1 hl2 hsz hb0
  go_enter Try.func44, Try.ntmps44
  go_wp2_with fail
  clear hW0
  have HS := Lib.hid (fun (W : World) (hb : Below W0.heap.size W0 W) => show W.cell? ⟨w.heap.size, 0, none⟩ = some (.slice a n c) ∧ W.cell? ⟨w.heap.size, 1, none⟩ = some (.int .i64 max) ∧ W.cell? ⟨w.heap.size, 2, none⟩ = some (.slice a2 n2 c2) from
    ⟨(hb.cell (p := ⟨w.heap.size, 0, none⟩) l0).trans c0, (hb.cell (p := ⟨w.heap.size, 1, none⟩) l0).trans c1, (hb.cell (p := ⟨w.heap.size, 2, none⟩) l0).trans c2'⟩)
  have HZ := Lib.hid (fun (W : World) (hb : Below W0.heap.size W0 W) => show (W.cell? ⟨w.heap.size + 1, 0, none⟩ = some (.slice none 0 0) ∧ W.cell? ⟨w.heap.size + 1, 1, none⟩ = some (.int .i64 0) ∧ W.cell? ⟨w.heap.size + 1, 2, none⟩ = some (.slice none 0 0)) ∧ W.frozen? ⟨w.heap.size + 1, 0, none⟩ = false ∧ W.frozen? ⟨w.heap.size + 1, 1, none⟩ = false ∧ W.frozen? ⟨w.heap.size + 1, 2, none⟩ = false from
    ⟨⟨(hb.cell (p := ⟨w.heap.size + 1, 0, none⟩) l1).trans z0, (hb.cell (p := ⟨w.heap.size + 1, 1, none⟩) l1).trans z1, (hb.cell (p := ⟨w.heap.size + 1, 2, none⟩) l1).trans z2⟩, (hb.frozen (p := ⟨w.heap.size + 1, 0, none⟩) l1).trans y0, (hb.frozen (p := ⟨w.heap.size + 1, 1, none⟩) l1).trans y1, (hb.frozen (p := ⟨w.heap.size + 1, 2, none⟩) l1).trans y2⟩)
  clear c1 c2' z0 z1 z2 y0 y1 y2
  go_region_held3 (fun w' => w'.cell? ⟨w.heap.size, 0, none⟩ = some (.slice a n c) ∧ w'.cell? ⟨w.heap.size, 1, none⟩ = some (.int .i64 max) ∧ w'.cell? ⟨w.heap.size, 2, none⟩ = some (.slice a2 n2 c2))
    (first | (refine HS.out _ ?_; focus (first | exact bdrew (Below.refl _ W0) | exact bdrew ((Below.refl _ W0).alloc (Nat.le_refl _) _) | exact bdrew (((Below.refl _ W0).alloc (Nat.le_refl _) _).alloc (by simp) _) | exact hbl1 | exact hbl2 | exact hbl1.alloc hbl1.size _ | exact hbl2.alloc hbl2.size _)) | exact ⟨(cell_set3 _ _ _ hne).trans d0, (cell_set3 _ _ _ hne).trans d1, (cell_set3 _ _ _ hne).trans d2⟩ | exact ⟨(cell_set3 _ _ _ hne).trans e0, (cell_set3 _ _ _ hne).trans e1, (cell_set3 _ _ _ hne).trans e2⟩)
    (first
      | (refine step_app_new bytesElem (W0 := W0) rfl (.tmp 3) (.tmp 5) rfl _ _ rfl rfl any data Hd.out Hl1.out (by decide) ?_ ?_; (focus (first | exact bdrew (Below.refl _ W0) | exact bdrew ((Below.refl _ W0).alloc (Nat.le_refl _) _) | exact bdrew (((Below.refl _ W0).alloc (Nat.le_refl _) _).alloc (by simp) _) | exact hbl1 | exact hbl2 | exact hbl1.alloc hbl1.size _ | exact hbl2.alloc hbl2.size _)); intro a5 n5 c5 W1 hrow1 hbl1 hx1; obtain ⟨d0, d1, d2⟩ := HS.out _ hbl1; obtain ⟨⟨p0, p1, p2⟩, q0, q1, q2⟩ := HZ.out _ hbl1)
      | (refine step_app_new intsElem (W0 := W0) rfl (.tmp 9) (.tmp 11) rfl _ _ rfl rfl any plan Hp.out Hl2.out (by decide) ?_ ?_; (focus (first | exact bdrew (Below.refl _ W0) | exact bdrew ((Below.refl _ W0).alloc (Nat.le_refl _) _) | exact bdrew (((Below.refl _ W0).alloc (Nat.le_refl _) _).alloc (by simp) _) | exact hbl1 | exact hbl2 | exact hbl1.alloc hbl1.size _ | exact hbl2.alloc hbl2.size _)); intro a6 n6 c6 W2 hrow2 hbl2 hx2; obtain ⟨e0, e1, e2⟩ := HS.out _ hbl2; obtain ⟨⟨r0, r1, r2⟩, s0, s1, s2⟩ := HZ.out _ hbl2))
  all_goals first
    | (have hb12 : Below W1.heap.size W1 W2 := (by first | exact hx2 | exact ((Below.refl _ W1).alloc (Nat.le_refl _) _).trans (hx2.mono (by simp)))
       have kk0 : (((W2.setCell ⟨w.heap.size + 1, 0, none⟩ (.slice a5 n5 c5)).setCell ⟨w.heap.size + 1, 1, none⟩ (.int .i64 max)).setCell ⟨w.heap.size + 1, 2, none⟩ (.slice a6 n6 c6)).cell? ⟨w.heap.size + 1, 0, none⟩ = some (.slice a5 n5 c5) := (cell_set_off _ (by decide)).trans ((cell_set_off _ (by decide)).trans (World.cell?_setCell_same _ _ _ r0))
       have kk1 : (((W2.setCell ⟨w.heap.size + 1, 0, none⟩ (.slice a5 n5 c5)).setCell ⟨w.heap.size + 1, 1, none⟩ (.int .i64 max)).setCell ⟨w.heap.size + 1, 2, none⟩ (.slice a6 n6 c6)).cell? ⟨w.heap.size + 1, 1, none⟩ = some (.int .i64 max) := (cell_set_off _ (by decide)).trans (World.cell?_setCell_same _ _ _ ((cell_set_off _ (by decide)).trans r1))
       have kk2 : (((W2.setCell ⟨w.heap.size + 1, 0, none⟩ (.slice a5 n5 c5)).setCell ⟨w.heap.size + 1, 1, none⟩ (.int .i64 max)).setCell ⟨w.heap.size + 1, 2, none⟩ (.slice a6 n6 c6)).cell? ⟨w.heap.size + 1, 2, none⟩ = some (.slice a6 n6 c6) := World.cell?_setCell_same _ _ _ ((cell_set_off _ (by decide)).trans ((cell_set_off _ (by decide)).trans r2))
       have Hfin := Lib.hid (dev_fin (max := max) Hb0.out l1 hbl2 (hrow1.keep (fun b hb hl => hb12.block b hl) (fun b hb hl => ⟨hb.1, Nat.lt_of_lt_of_le hl hb12.size⟩)) hrow2)
       go_wp2_with fail
       refine bodyPost_ret (v := .agg #[.slice a5 n5 c5, .int .i64 max, .slice a6 n6 c6]) ?_ rfl Hfin.out
       simp [results, Try.results44, go_sem, kk0, kk1, kk2])
    | (have hb21 : Below W2.heap.size W2 W1 := (by first | exact hx1 | exact ((Below.refl _ W2).alloc (Nat.le_refl _) _).trans (hx1.mono (by simp)))
       have kk0 : (((W1.setCell ⟨w.heap.size + 1, 0, none⟩ (.slice a5 n5 c5)).setCell ⟨w.heap.size + 1, 1, none⟩ (.int .i64 max)).setCell ⟨w.heap.size + 1, 2, none⟩ (.slice a6 n6 c6)).cell? ⟨w.heap.size + 1, 0, none⟩ = some (.slice a5 n5 c5) := (cell_set_off _ (by decide)).trans ((cell_set_off _ (by decide)).trans (World.cell?_setCell_same _ _ _ p0))
       have kk1 : (((W1.setCell ⟨w.heap.size + 1, 0, none⟩ (.slice a5 n5 c5)).setCell ⟨w.heap.size + 1, 1, none⟩ (.int .i64 max)).setCell ⟨w.heap.size + 1, 2, none⟩ (.slice a6 n6 c6)).cell? ⟨w.heap.size + 1, 1, none⟩ = some (.int .i64 max) := (cell_set_off _ (by decide)).trans (World.cell?_setCell_same _ _ _ ((cell_set_off _ (by decide)).trans p1))
       have kk2 : (((W1.setCell ⟨w.heap.size + 1, 0, none⟩ (.slice a5 n5 c5)).setCell ⟨w.heap.size + 1, 1, none⟩ (.int .i64 max)).setCell ⟨w.heap.size + 1, 2, none⟩ (.slice a6 n6 c6)).cell? ⟨w.heap.size + 1, 2, none⟩ = some (.slice a6 n6 c6) := World.cell?_setCell_same _ _ _ ((cell_set_off _ (by decide)).trans ((cell_set_off _ (by decide)).trans p2))
       have Hfin := Lib.hid (dev_fin (max := max) Hb0.out l1 hbl1 hrow1 (hrow2.keep (fun b hb hl => hb21.block b hl) (fun b hb hl => ⟨hb.1, Nat.lt_of_lt_of_le hl hb21.size⟩)))
       go_wp2_with fail
       refine bodyPost_ret (v := .agg #[.slice a5 n5 c5, .int .i64 max, .slice a6 n6 c6]) ?_ rfl Hfin.out
       simp [results, Try.results44, go_sem, kk0, kk1, kk2])

def ROpenPost (w : World) (data : List UInt8) (max : Int) (plan : List Int) (m : Md) (e : Ending) (w' : World) : Prop :=
  (openRefused data max plan m ∧ e = .returned (.tuple #[.pointer none, .int .i64 1]) ∧ Below w.heap.size w w') ∨
  (¬ openRefused data max plan m ∧ ∃ bs own, e = .returned (.tuple #[.pointer (some ⟨bs, 0, none⟩), .int .i64 0]) ∧ (∃ mm, RAtM w' own bs (St.fresh data max plan m) mm) ∧ (∀ k, own k → w.heap.size ≤ k) ∧ Below w.heap.size w w')

/-- What Open has made is a reference stream. -/
theorem ropen_mem (B : Nat) (W : World) (a5 a6 : Option Addr) (n5 c5 n6 c6 : Nat) (max : Int) (data : List UInt8) (plan : List Int) (md : Md)
    (hrow1 : Row 5 byteV W (fun b => B ≤ b ∧ b < W.heap.size) (.slice a5 n5 c5) data) (hrow2 : Row 3 intV W (fun b => B ≤ b ∧ b < W.heap.size) (.slice a6 n6 c6) plan) (hB : B ≤ W.heap.size) :
    RAtM (W.alloc (.cells #[.slice a5 n5 c5, .int .i64 max, .slice a6 n6 c6, .bool md.rd, .bool md.wr, .bool md.app, .int .i64 md.size, .bool md.lines, .int .i64 0, .slice none 0 0, .slice none 0 0, .slice none 0 0, .bool false, .bool false, .bool false] 61))
      (fun k => B ≤ k ∧ k < W.heap.size + 1) W.heap.size (St.fresh data max plan md) ⟨.slice a5 n5 c5, .slice a6 n6 c6, .slice none 0 0, .slice none 0 0, .slice none 0 0⟩ where
  hs := alloc_at W _
  os := ⟨hB, by omega⟩
  lt := fun k hk => by simp; omega
  data := hrow1.keep (fun b _ hl => Below.heap_alloc _ _ _ hl) (fun b hb hl => ⟨⟨hb.1, by omega⟩, by omega⟩)
  plan := hrow2.typed.rd.keep (fun b _ hl => Below.heap_alloc _ _ _ hl) (fun b hb hl => ⟨⟨hb.1.1, by omega⟩, by omega, fun hbi => by
    obtain ⟨cs, h1⟩ := hb.2
    obtain ⟨ds, h2⟩ := hrow1.blk_typed hbi
    exact rows_apart h1 h2 (by decide) rfl⟩)
  ahead := Rd.nil _ _ _
  back := Rd.nil _ _ _
  wait := Rd.nil _ _ _

set_option maxRecDepth 100000 in
set_option maxHeartbeats 4000000 in
theorem ropen_calls (w : World) (any : Nat → Prop) (a a2 : Option Addr) (n c n2 c2 : Nat) (max : Int) (data : List UInt8) (plan : List Int) (md : Md) (hd : Rd w any byteV (.slice a n c) data) (hp : Rd w any intV (.slice a2 n2 c2) plan)
    (hl2 : plan.length * 8 ≤ 140737488355328) :
    Calls Try.prog 24 #[.agg #[.slice a n c, .int .i64 max, .slice a2 n2 c2], .agg #[.bool md.rd, .bool md.wr, .bool md.app, .int .i64 md.size, .bool md.lines]] w (ROpenPost w data max plan md) := by
  obtain ⟨W0, hW0⟩ : ∃ W0, (w.alloc (.cells #[.slice a n c, .int .i64 max, .slice a2 n2 c2] 25)).alloc (.cells #[.bool md.rd, .bool md.wr, .bool md.app, .int .i64 md.size, .bool md.lines] 32) = W0 := ⟨_, rfl⟩
  have hb0 : Below w.heap.size w W0 := by rw [← hW0]; exact ((Below.refl _ w).alloc (Nat.le_refl _) _).alloc (by simp) _
  have hn : data.length = n := (rd_len hd).1
  have hsz : W0.heap.size = w.heap.size + 2 := by rw [← hW0]; simp
  have l0 : w.heap.size < W0.heap.size := by omega
  have l1 : w.heap.size + 1 < W0.heap.size := by omega
  have c0 : W0.cell? ⟨w.heap.size, 0, none⟩ = some (.slice a n c) := by rw [← hW0]; simp [go_sem]
  have c1 : W0.cell? ⟨w.heap.size, 1, none⟩ = some (.int .i64 max) := by rw [← hW0]; simp [go_sem]
  have c2' : W0.cell? ⟨w.heap.size, 2, none⟩ = some (.slice a2 n2 c2) := by rw [← hW0]; simp [go_sem]
  have d0 : W0.cell? ⟨w.heap.size + 1, 0, none⟩ = some (.bool md.rd) := by rw [← hW0]; simp [go_sem]
  have d1 : W0.cell? ⟨w.heap.size + 1, 1, none⟩ = some (.bool md.wr) := by rw [← hW0]; simp [go_sem]
  have d2 : W0.cell? ⟨w.heap.size + 1, 2, none⟩ = some (.bool md.app) := by rw [← hW0]; simp [go_sem]
  have d3 : W0.cell? ⟨w.heap.size + 1, 3, none⟩ = some (.int .i64 md.size) := by rw [← hW0]; simp [go_sem]
  have d4 : W0.cell? ⟨w.heap.size + 1, 4, none⟩ = some (.bool md.lines) := by rw [← hW0]; simp [go_sem]
  have HS := Lib.hid (fun (W : World) (hb : Below W0.heap.size W0 W) => show W.cell? ⟨w.heap.size, 0, none⟩ = some (.slice a n c) ∧ W.cell? ⟨w.heap.size, 1, none⟩ = some (.int .i64 max) ∧ W.cell? ⟨w.heap.size, 2, none⟩ = some (.slice a2 n2 c2) ∧
      W.cell? ⟨w.heap.size + 1, 0, none⟩ = some (.bool md.rd) ∧ W.cell? ⟨w.heap.size + 1, 1, none⟩ = some (.bool md.wr) ∧ W.cell? ⟨w.heap.size + 1, 2, none⟩ = some (.bool md.app) ∧ W.cell? ⟨w.heap.size + 1, 3, none⟩ = some (.int .i64 md.size) ∧ W.cell? ⟨w.heap.size + 1, 4, none⟩ = some (.bool md.lines) from
    ⟨(hb.cell (p := ⟨w.heap.size, 0, none⟩) l0).trans c0, (hb.cell (p := ⟨w.heap.size, 1, none⟩) l0).trans c1, (hb.cell (p := ⟨w.heap.size, 2, none⟩) l0).trans c2', (hb.cell (p := ⟨w.heap.size + 1, 0, none⟩) l1).trans d0, (hb.cell (p := ⟨w.heap.size + 1, 1, none⟩) l1).trans d1, (hb.cell (p := ⟨w.heap.size + 1, 2, none⟩) l1).trans d2, (hb.cell (p := ⟨w.heap.size + 1, 3, none⟩) l1).trans d3, (hb.cell (p := ⟨w.heap.size + 1, 4, none⟩) l1).trans d4⟩)
  have Hd := Lib.hid (hd.keep (own' := any) (fun b _ hb => hb0.block b hb) (fun _ h _ => h))
  have Hp := Lib.hid (hp.keep (own' := any) (fun b _ hb => hb0.block b hb) (fun _ h _ => h))
  have Hl2 := Lib.hid hl2
  have Hn := Lib.hid hn
  have Hb0 := Lib.hid hb0
  have Hv := Lib.hid (rvalid_calls W0 any a a2 n c n2 c2 max data plan hn Hp.out)
  clear hd hp hl2 hn hb0 hsz
  go_enter Try.func24, Try.ntmps24
  go_upto_region 1 with fail
  clear hW0
  go_cut [37] from 6 to 36 (fun s wx => ∃ d : Bool, s = .bool d ∧ (d = true ↔ openRefused data max plan md) ∧ Below W0.heap.size W0 wx)
  case first =>
    clear d0 d1 d2 d3 d4
    go_wp2_with fail
    refine Calls.mono Hv.out ?_
    rintro e W1 ⟨d, rfl, hdv, hb1⟩
    obtain ⟨-, -, -, d0, d1, d2, d3, -⟩ := HS.out _ hb1
    have Hb1 := Lib.hid hb1
    clear hb1 c0 c1 c2'
    cases d
    · have hr : openRefused data max plan md := .inl (Classical.byContradiction fun e => by cases hdv.2 e)
      have Hr := Lib.hid hr
      clear hr hdv
      go_wp2_with fail
      go_meet
      exact ⟨true, rfl, ⟨fun _ => Hr.out, fun _ => rfl⟩, Hb1.out⟩
    have hnb := hdv.1 rfl
    have Hnb := Lib.hid hnb
    clear hnb hdv
    by_cases h1 : md.size < 1
    · have h1' : decide (md.size < 1) = true := decide_eq_true h1
      go_wp2_with fail
      go_meet
      exact ⟨true, rfl, ⟨fun _ => .inr (.inr (.inl h1)), fun _ => rfl⟩, Hb1.out⟩
    have h1' : decide (md.size < 1) = false := decide_eq_false h1
    by_cases h2 : 65536 < md.size
    · have h2' : decide (65536 < md.size) = true := decide_eq_true h2
      go_wp2_with fail
      go_meet
      exact ⟨true, rfl, ⟨fun _ => .inr (.inr (.inr (.inl h2))), fun _ => rfl⟩, Hb1.out⟩
    have h2' : decide (65536 < md.size) = false := decide_eq_false h2
    obtain ⟨b1, Hr⟩ : ∃ b, Hid (md.rd = b) := ⟨_, Lib.hid rfl⟩
    obtain ⟨b2, Hw⟩ : ∃ b, Hid (md.wr = b) := ⟨_, Lib.hid rfl⟩
    obtain ⟨b3, Ha⟩ : ∃ b, Hid (md.app = b) := ⟨_, Lib.hid rfl⟩
    have HR := Lib.hid (show openRefused data max plan md ↔ ((b1 = false ∧ b2 = false) ∨ (b3 = true ∧ b2 = false)) from by
      unfold openRefused Md.bad
      rw [Hr.out, Hw.out, Ha.out]
      constructor
      · rintro (e | e | e | e | e)
        · exact absurd e Hnb.out
        · exact .inl e
        · exact absurd e h1
        · exact absurd e h2
        · exact .inr e
      · rintro (e | e)
        · exact .inr (.inl e)
        · exact .inr (.inr (.inr (.inr e))))
    rw [Hr.out] at d0
    rw [Hw.out] at d1
    rw [Ha.out] at d2
    clear h1 h2
    cases b1 <;> cases b2 <;> cases b3
    all_goals go_wp2_with fail
    all_goals go_meet
    all_goals first
      | exact ⟨true, rfl, by rw [HR.out]; decide, Hb1.out⟩
      | exact ⟨false, rfl, by rw [HR.out]; decide, Hb1.out⟩
  case rest =>
    obtain ⟨d, rfl, hdr, hb1⟩ := hcut
    clear c0 c1 c2' d0 d1 d2 d3 d4
    cases d
    case true =>
      have Hpost := Lib.hid (show ROpenPost w data max plan md (.returned (.tuple #[.pointer none, .int .i64 1])) wc from .inl ⟨hdr.1 rfl, rfl, Hb0.out.trans (hb1.mono Hb0.out.size)⟩)
      clear hdr hb1
      go_wp2_with fail
      go_ret2
      exact Hpost.out
    case false =>
      have hnr : ¬ openRefused data max plan md := fun e => by cases hdr.2 e
      have Hnr := Lib.hid hnr
      have Hb1 := Lib.hid hb1
      have Hdl := Lib.hid (show data.length * 1 ≤ 140737488355328 from by unfold openRefused devBad at hnr; omega)
      obtain ⟨c0, c1, c2', d0, d1, d2, d3, d4⟩ := HS.out _ hb1
      have Hc := Lib.hid (fun q => rclone_calls (wc.drewN q) any a a2 n c n2 c2 max data plan (Hd.out.keep (own' := any) (fun b _ hb => hb1.block b hb) (fun _ h _ => h)) (Hp.out.keep (own' := any) (fun b _ hb => hb1.block b hb) (fun _ h _ => h)) Hdl.out Hl2.out)
      clear hdr hb1 hnr
      have HS2 := Lib.hid (fun (W : World) (hb : Below wc.heap.size wc W) => HS.out W (Hb1.out.trans (hb.mono Hb1.out.size)))
      go_upto_region 3 with fail
      go_region_held3 (fun w' => w'.cell? ⟨w.heap.size, 0, none⟩ = some (.slice a n c) ∧ w'.cell? ⟨w.heap.size, 1, none⟩ = some (.int .i64 max) ∧ w'.cell? ⟨w.heap.size, 2, none⟩ = some (.slice a2 n2 c2) ∧ w'.cell? ⟨w.heap.size + 1, 0, none⟩ = some (.bool md.rd) ∧ w'.cell? ⟨w.heap.size + 1, 1, none⟩ = some (.bool md.wr) ∧ w'.cell? ⟨w.heap.size + 1, 2, none⟩ = some (.bool md.app) ∧ w'.cell? ⟨w.heap.size + 1, 3, none⟩ = some (.int .i64 md.size) ∧ w'.cell? ⟨w.heap.size + 1, 4, none⟩ = some (.bool md.lines))
        (first | exact ⟨c0, c1, c2', d0, d1, d2, d3, d4⟩ | exact HS2.out _ hbl2 | exact HS2.out _ (hbl2.alloc hbl2.size _))
        (first
          | (go_at_call 44; refine (Hc.out 1).mono ?_; rintro e W2 ⟨a5, n5, c5, a6, n6, c6, rfl, hrow1, hrow2, hbl2'⟩; have hbl2 : Below wc.heap.size wc W2 := ⟨hbl2'.os, hbl2'.tape, hbl2'.output, hbl2'.size, hbl2'.block⟩; obtain ⟨k0, k1, k2, k3, k4, k5, k6, k7⟩ := HS2.out _ hbl2; dsimp only))
      have hww : w.heap.size ≤ wc.heap.size := Nat.le_trans Hb0.out.size Hb1.out.size
      have hm := ropen_mem w.heap.size W2 a5 a6 n5 c5 n6 c6 max data plan md (hrow1.keep (fun _ _ _ => rfl) (fun b hb _ => ⟨Nat.le_trans hww hb.1, hb.2⟩)) (hrow2.keep (fun _ _ _ => rfl) (fun b hb _ => ⟨Nat.le_trans hww hb.1, hb.2⟩)) (Nat.le_trans hww hbl2.size)
      have hbe : Below w.heap.size w W2 := (Hb0.out.trans (Hb1.out.mono Hb0.out.size)).trans (hbl2.mono hww)
      have Hpost := Lib.hid (show ROpenPost w data max plan md (.returned (.tuple #[.pointer (some ⟨W2.heap.size, 0, none⟩), .int .i64 0])) _ from .inr ⟨Hnr.out, W2.heap.size, _, rfl, ⟨_, hm⟩, fun k hk => hk.1, hbe.alloc hbe.size _⟩)
      clear hm hbe hrow1 hrow2 hbl2 hbl2' k0 k1 k2 k3 k4 k5 k6 k7
      rename_i hHeld
      clear hHeld
      go_wp2_with fail
      go_ret2
      exact Hpost.out

theorem RAt'.outer {w w0 w1 W : World} {own : Nat → Prop} {bs : Nat} {S : St} (h : RAt' w0 w1 own bs S) (hlt : ∀ k, own k → k < w.heap.size) (h0 : Below w.heap.size w w0)
    (hW : Tw w1 W (fun k => w.heap.size ≤ k ∧ k < w0.heap.size ∨ w1.heap.size ≤ k)) : RAt' w W own bs S := by
  obtain ⟨own', m', hs, hf⟩ := h
  have hno : ∀ b, own' b → ¬ (w.heap.size ≤ b ∧ b < w0.heap.size ∨ w1.heap.size ≤ b) := fun b hb hn => by
    have h1 := hs.lt b hb
    rcases hn with ⟨h2, h3⟩ | h2
    · rcases hf.new b hb with h4 | h4
      · have := hlt b h4; omega
      · omega
    · omega
  refine ⟨own', m', hs.keep hW.size (fun b hb => hW.keep b (hs.lt b hb) (hno b hb)), ?_⟩
  have hsz := hf.size
  have hsz0 := h0.size
  exact {
    os := hW.os.trans (hf.os.trans h0.os)
    tape := hW.tape.trans (hf.tape.trans h0.tape)
    output := hW.output.trans (hf.output.trans h0.output)
    size := Nat.le_trans hsz0 (Nat.le_trans hsz hW.size)
    keep := fun k hk ho => (hW.keep k (by omega) (fun e => by omega)).trans ((hf.keep k (by omega) ho).trans (h0.block k hk))
    new := fun k hk => (hf.new k hk).imp id (fun e => by omega) }

/-- A block of the caller's is as it was behind a stream's call. -/
theorem RAt'.mine {w0 w1 : World} {own : Nat → Prop} {bs : Nat} {S : St} (h : RAt' w0 w1 own bs S) {k : Nat} (hk : k < w0.heap.size) (hn : ¬ own k) : w1.heap[k]? = w0.heap[k]? ∧ k < w1.heap.size := by
  obtain ⟨own', m', hs, hf⟩ := h
  exact ⟨hf.keep k hk hn, Nat.lt_of_lt_of_le hk hf.size⟩

/-- What should comes to. -/
def ShouldPost (w : World) (own : Nat → Prop) (bs : Nat) (r : Gt × St) (e : Ending) (w' : World) : Prop :=
  e = .returned (.agg #[.int .i64 r.1.n, strV r.1.b, .int .i64 r.1.e]) ∧ RAt' w w' own bs r.2

/-- The result of should is laid over its own block. -/
theorem should_shut {w w1 : World} {k n wh : Int} {ab : Option Addr} {nb cb : Nat} {own : Nat → Prop} {bs : Nat} {S : St} (h : RAt' (doW w k n wh ab nb cb) w1 own bs S) (hlt : ∀ i, own i → i < w.heap.size) (v0 v1 v2 : Value) :
    RAt' w (((w1.setCell ⟨w.heap.size + 1, 0, none⟩ v0).setCell ⟨w.heap.size + 1, 1, none⟩ v1).setCell ⟨w.heap.size + 1, 2, none⟩ v2) own bs S := by
  refine h.outer hlt (((Below.refl _ w).alloc (Nat.le_refl _) _).alloc (by simp) _) ?_
  have hne : ∀ (i : Nat), ¬ (w.heap.size ≤ i ∧ i < (doW w k n wh ab nb cb).heap.size ∨ w1.heap.size ≤ i) → i ≠ w.heap.size + 1 := fun i hi e => hi (.inl ⟨by omega, by simp [doW]; omega⟩)
  exact ⟨rfl, rfl, rfl, by simp, fun i hi hn => by
    rw [Below.heap_setCell _ _ _ _ (hne i hn), Below.heap_setCell _ _ _ _ (hne i hn), Below.heap_setCell _ _ _ _ (hne i hn)]⟩

theorem should_cells {w w1 : World} {k n wh : Int} {ab : Option Addr} {nb cb : Nat} {own : Nat → Prop} {bs : Nat} {S : St} (h : RAt' (doW w k n wh ab nb cb) w1 own bs S) (hlt : ∀ i, own i → i < w.heap.size) :
    w1.cell? ⟨w.heap.size + 1, 0, none⟩ = some (.int .i64 0) ∧ w1.cell? ⟨w.heap.size + 1, 1, none⟩ = some (.string ByteArray.empty) ∧ w1.cell? ⟨w.heap.size + 1, 2, none⟩ = some (.int .i64 0) ∧
    w1.frozen? ⟨w.heap.size + 1, 0, none⟩ = false ∧ w1.frozen? ⟨w.heap.size + 1, 1, none⟩ = false ∧ w1.frozen? ⟨w.heap.size + 1, 2, none⟩ = false := by
  obtain ⟨h1, -⟩ := h.mine (k := w.heap.size + 1) (by simp [doW]) (fun e => by have := hlt _ e; omega)
  refine ⟨(World.cell?_of_block (a := ⟨w.heap.size + 1, 0, none⟩) h1).trans ?_, (World.cell?_of_block (a := ⟨w.heap.size + 1, 1, none⟩) h1).trans ?_, (World.cell?_of_block (a := ⟨w.heap.size + 1, 2, none⟩) h1).trans ?_,
    (World.frozen?_of_block (a := ⟨w.heap.size + 1, 0, none⟩) h1).trans ?_, (World.frozen?_of_block (a := ⟨w.heap.size + 1, 1, none⟩) h1).trans ?_, (World.frozen?_of_block (a := ⟨w.heap.size + 1, 2, none⟩) h1).trans ?_⟩ <;> simp [doW, go_sem]

set_option maxRecDepth 100000 in
set_option maxHeartbeats 1000000 in
theorem should_0 {w : World} {own : Nat → Prop} {bs : Nat} {S : St} {m : RMem} (h : RAtM w own bs S m) (hok : S.Ok) (n wh : Int) (ab : Option Addr) (nb cb : Nat) (b : List UInt8) :
    Calls Try.prog 26 #[.pointer (some ⟨bs, 0, none⟩), .agg #[.int .i64 0, .int .i64 n, .int .i64 wh, .slice ab nb cb]] w (ShouldPost w own bs (S.act ⟨0, n, wh, b⟩)) := by
  have hlt := h.lt
  have hd : RAtM (doW w 0 n wh ab nb cb) own bs S m := (h.alloc _).alloc _
  have Hc := Lib.hid (rgetc_calls hd hok)
  clear h hok hd
  go_enter Try.func26, Try.ntmps26
  go_wp2_with fail
  refine Calls.mono Hc.out ?_
  rintro e w1 ⟨rfl, hs⟩
  obtain ⟨k0, k1, k2, j0, j1, j2⟩ := should_cells hs hlt
  obtain ⟨g0, g1, g2⟩ := got_cells (v0 := .int .i64 (S.getc.1.toNat : Int)) (v1 := .string ⟨#[]⟩) (v2 := .int .i64 S.getc.2.1) k0 k1 k2
  have Hs := Lib.hid (should_shut hs hlt (.int .i64 (S.getc.1.toNat : Int)) (.string ⟨#[]⟩) (.int .i64 S.getc.2.1))
  clear hs hlt
  have hbv : byteV S.getc.1 = .int .u8 (S.getc.1.toNat : Int) := rfl
  have hw64 : wrap64 (S.getc.1.toNat : Int) = (S.getc.1.toNat : Int) := by have := S.getc.1.toNat_lt; unfold wrap64; omega
  go_wp2_with fail
  refine bodyPost_ret (v := .agg #[.int .i64 (S.getc.1.toNat : Int), .string ⟨#[]⟩, .int .i64 S.getc.2.1]) ?_ rfl ⟨rfl, Hs.out⟩
  simp [results, Try.results26, go_sem, g0, g1, g2]

set_option maxRecDepth 100000 in
set_option maxHeartbeats 1000000 in
theorem should_1 {w : World} {own : Nat → Prop} {bs : Nat} {S : St} {m : RMem} (h : RAtM w own bs S m) (hok : S.Ok) (n wh : Int) (ab : Option Addr) (nb cb : Nat) (b : List UInt8) :
    Calls Try.prog 26 #[.pointer (some ⟨bs, 0, none⟩), .agg #[.int .i64 1, .int .i64 n, .int .i64 wh, .slice ab nb cb]] w (ShouldPost w own bs (S.act ⟨1, n, wh, b⟩)) := by
  have hlt := h.lt
  have hd : RAtM (doW w 1 n wh ab nb cb) own bs S m := (h.alloc _).alloc _
  have hc := rungetc_calls hd hok (byteOf n)
  have hbv : (Value.int .u8 ((byteOf n).toNat : Int)) = .int .u8 (n % 256) := byteOf_v n
  rw [hbv] at hc
  have Hc := Lib.hid hc
  clear h hok hd hc hbv
  go_enter Try.func26, Try.ntmps26
  go_wp2_with fail
  refine Calls.mono Hc.out ?_
  rintro e w1 ⟨rfl, hs⟩
  obtain ⟨k0, k1, k2, j0, j1, j2⟩ := should_cells hs hlt
  obtain ⟨g0, g1, g2⟩ := got_cells (v0 := .int .i64 0) (v1 := .string ⟨#[]⟩) (v2 := .int .i64 (S.ungetc (byteOf n)).1) k0 k1 k2
  have Hs := Lib.hid (should_shut hs hlt (.int .i64 0) (.string ⟨#[]⟩) (.int .i64 (S.ungetc (byteOf n)).1))
  clear hs hlt
  go_wp2_with fail
  refine bodyPost_ret (v := .agg #[.int .i64 0, .string ⟨#[]⟩, .int .i64 (S.ungetc (byteOf n)).1]) ?_ rfl ⟨rfl, Hs.out⟩
  simp [results, Try.results26, go_sem, g0, g1, g2]

set_option maxRecDepth 100000 in
set_option maxHeartbeats 1000000 in
theorem should_2 {w : World} {own : Nat → Prop} {bs : Nat} {S : St} {m : RMem} (h : RAtM w own bs S m) (hok : S.Ok) (n wh : Int) (ab : Option Addr) (nb cb : Nat) (b : List UInt8) :
    Calls Try.prog 26 #[.pointer (some ⟨bs, 0, none⟩), .agg #[.int .i64 2, .int .i64 n, .int .i64 wh, .slice ab nb cb]] w (ShouldPost w own bs (S.act ⟨2, n, wh, b⟩)) := by
  have hlt := h.lt
  have hd : RAtM (doW w 2 n wh ab nb cb) own bs S m := (h.alloc _).alloc _
  have Hc := Lib.hid (rread_calls hd hok n)
  clear h hok hd
  go_enter Try.func26, Try.ntmps26
  go_wp2_with fail
  refine Calls.mono Hc.out ?_
  rintro e w1 ⟨ar, nr, cr, own2, m2, rfl, hs1, hf1, hrow⟩
  have hs : RAt' (doW w 2 n wh ab nb cb) w1 own bs (S.read n).2.2 := ⟨own2, m2, hs1, hf1⟩
  have kc : (convert 22 9 (.slice ar nr cr)).run Try.prog w1 = .ok (.string ⟨(S.read n).1.toArray⟩) w1 := conv_str hrow.rd
  obtain ⟨k0, k1, k2, j0, j1, j2⟩ := should_cells hs hlt
  obtain ⟨g0, g1, g2⟩ := got_cells (v0 := .int .i64 0) (v1 := .string ⟨(S.read n).1.toArray⟩) (v2 := .int .i64 (S.read n).2.1) k0 k1 k2
  have Hs := Lib.hid (should_shut hs hlt (.int .i64 0) (.string ⟨(S.read n).1.toArray⟩) (.int .i64 (S.read n).2.1))
  clear hs hlt hs1 hf1 hrow
  go_wp2_with fail
  refine bodyPost_ret (v := .agg #[.int .i64 0, .string ⟨(S.read n).1.toArray⟩, .int .i64 (S.read n).2.1]) ?_ rfl ⟨rfl, Hs.out⟩
  simp [results, Try.results26, go_sem, g0, g1, g2]

set_option maxRecDepth 100000 in
set_option maxHeartbeats 1000000 in
theorem should_3 {w : World} {own : Nat → Prop} {bs : Nat} {S : St} {m : RMem} (h : RAtM w own bs S m) (hok : S.Ok) (n wh : Int) (any : Nat → Prop) (hany : ∀ k, any k → ¬ own k) (ab : Option Addr) (nb cb : Nat) (b : List UInt8) (hb : Rd w any byteV (.slice ab nb cb) b) :
    Calls Try.prog 26 #[.pointer (some ⟨bs, 0, none⟩), .agg #[.int .i64 3, .int .i64 n, .int .i64 wh, .slice ab nb cb]] w (ShouldPost w own bs (S.act ⟨3, n, wh, b⟩)) := by
  have hlt := h.lt
  have hd : RAtM (doW w 3 n wh ab nb cb) own bs S m := (h.alloc _).alloc _
  have hbe : Below w.heap.size w (doW w 3 n wh ab nb cb) := ((Below.refl _ w).alloc (Nat.le_refl _) _).alloc (by simp) _
  have hbd : Rd (doW w 3 n wh ab nb cb) any byteV (.slice ab nb cb) b := hb.keep (fun k _ hk => hbe.block k hk) (fun _ h _ => h)
  have Hc := Lib.hid (rwrite_calls hd hok any hany ab nb cb b hbd)
  clear h hok hd hb hbd hbe
  go_enter Try.func26, Try.ntmps26
  go_wp2_with fail
  refine Calls.mono Hc.out ?_
  rintro e w1 ⟨rfl, hs⟩
  obtain ⟨k0, k1, k2, j0, j1, j2⟩ := should_cells hs hlt
  obtain ⟨g0, g1, g2⟩ := got_cells (v0 := .int .i64 (S.write b).1) (v1 := .string ⟨#[]⟩) (v2 := .int .i64 (S.write b).2.1) k0 k1 k2
  have Hs := Lib.hid (should_shut hs hlt (.int .i64 (S.write b).1) (.string ⟨#[]⟩) (.int .i64 (S.write b).2.1))
  clear hs hlt
  go_wp2_with fail
  refine bodyPost_ret (v := .agg #[.int .i64 (S.write b).1, .string ⟨#[]⟩, .int .i64 (S.write b).2.1]) ?_ rfl ⟨rfl, Hs.out⟩
  simp [results, Try.results26, go_sem, g0, g1, g2]

set_option maxRecDepth 100000 in
set_option maxHeartbeats 1000000 in
theorem should_4 {w : World} {own : Nat → Prop} {bs : Nat} {S : St} {m : RMem} (h : RAtM w own bs S m) (hok : S.Ok) (n wh : Int) (ab : Option Addr) (nb cb : Nat) (b : List UInt8) :
    Calls Try.prog 26 #[.pointer (some ⟨bs, 0, none⟩), .agg #[.int .i64 4, .int .i64 n, .int .i64 wh, .slice ab nb cb]] w (ShouldPost w own bs (S.act ⟨4, n, wh, b⟩)) := by
  have hlt := h.lt
  have hd : RAtM (doW w 4 n wh ab nb cb) own bs S m := (h.alloc _).alloc _
  have Hc := Lib.hid (rflush_calls hd hok)
  clear h hok hd
  go_enter Try.func26, Try.ntmps26
  go_wp2_with fail
  refine Calls.mono Hc.out ?_
  rintro e w1 ⟨rfl, hs⟩
  obtain ⟨k0, k1, k2, j0, j1, j2⟩ := should_cells hs hlt
  obtain ⟨g0, g1, g2⟩ := got_cells (v0 := .int .i64 0) (v1 := .string ⟨#[]⟩) (v2 := .int .i64 S.flush.1) k0 k1 k2
  have Hs := Lib.hid (should_shut hs hlt (.int .i64 0) (.string ⟨#[]⟩) (.int .i64 S.flush.1))
  clear hs hlt
  go_wp2_with fail
  refine bodyPost_ret (v := .agg #[.int .i64 0, .string ⟨#[]⟩, .int .i64 S.flush.1]) ?_ rfl ⟨rfl, Hs.out⟩
  simp [results, Try.results26, go_sem, g0, g1, g2]

set_option maxRecDepth 100000 in
set_option maxHeartbeats 1000000 in
theorem should_5 {w : World} {own : Nat → Prop} {bs : Nat} {S : St} {m : RMem} (h : RAtM w own bs S m) (hok : S.Ok) (n wh : Int) (ab : Option Addr) (nb cb : Nat) (b : List UInt8) :
    Calls Try.prog 26 #[.pointer (some ⟨bs, 0, none⟩), .agg #[.int .i64 5, .int .i64 n, .int .i64 wh, .slice ab nb cb]] w (ShouldPost w own bs (S.act ⟨5, n, wh, b⟩)) := by
  have hlt := h.lt
  have hd : RAtM (doW w 5 n wh ab nb cb) own bs S m := (h.alloc _).alloc _
  have Hc := Lib.hid (rseek_calls hd hok n wh)
  clear h hok hd
  go_enter Try.func26, Try.ntmps26
  go_wp2_with fail
  refine Calls.mono Hc.out ?_
  rintro e w1 ⟨rfl, hs⟩
  obtain ⟨k0, k1, k2, j0, j1, j2⟩ := should_cells hs hlt
  obtain ⟨g0, g1, g2⟩ := got_cells (v0 := .int .i64 0) (v1 := .string ⟨#[]⟩) (v2 := .int .i64 (S.seek n wh).1) k0 k1 k2
  have Hs := Lib.hid (should_shut hs hlt (.int .i64 0) (.string ⟨#[]⟩) (.int .i64 (S.seek n wh).1))
  clear hs hlt
  go_wp2_with fail
  refine bodyPost_ret (v := .agg #[.int .i64 0, .string ⟨#[]⟩, .int .i64 (S.seek n wh).1]) ?_ rfl ⟨rfl, Hs.out⟩
  simp [results, Try.results26, go_sem, g0, g1, g2]

set_option maxRecDepth 100000 in
set_option maxHeartbeats 1000000 in
theorem should_6 {w : World} {own : Nat → Prop} {bs : Nat} {S : St} {m : RMem} (h : RAtM w own bs S m) (hok : S.Ok) (n wh : Int) (ab : Option Addr) (nb cb : Nat) (b : List UInt8) :
    Calls Try.prog 26 #[.pointer (some ⟨bs, 0, none⟩), .agg #[.int .i64 6, .int .i64 n, .int .i64 wh, .slice ab nb cb]] w (ShouldPost w own bs (S.act ⟨6, n, wh, b⟩)) := by
  have hlt := h.lt
  have hd : RAtM (doW w 6 n wh ab nb cb) own bs S m := (h.alloc _).alloc _
  have Hc := Lib.hid (rtell_calls hd hok)
  clear h hok hd
  go_enter Try.func26, Try.ntmps26
  go_wp2_with fail
  refine Calls.mono Hc.out ?_
  rintro e w1 ⟨rfl, hs⟩
  obtain ⟨k0, k1, k2, j0, j1, j2⟩ := should_cells hs hlt
  obtain ⟨g0, g1, g2⟩ := got_cells (v0 := .int .i64 S.tell.1) (v1 := .string ⟨#[]⟩) (v2 := .int .i64 S.tell.2) k0 k1 k2
  have Hs := Lib.hid (should_shut hs hlt (.int .i64 S.tell.1) (.string ⟨#[]⟩) (.int .i64 S.tell.2))
  clear hs hlt
  go_wp2_with fail
  refine bodyPost_ret (v := .agg #[.int .i64 S.tell.1, .string ⟨#[]⟩, .int .i64 S.tell.2]) ?_ rfl ⟨rfl, Hs.out⟩
  simp [results, Try.results26, go_sem, g0, g1, g2]

set_option maxRecDepth 100000 in
set_option maxHeartbeats 1000000 in
theorem should_8 {w : World} {own : Nat → Prop} {bs : Nat} {S : St} {m : RMem} (h : RAtM w own bs S m) (hok : S.Ok) (n wh : Int) (ab : Option Addr) (nb cb : Nat) (b : List UInt8) :
    Calls Try.prog 26 #[.pointer (some ⟨bs, 0, none⟩), .agg #[.int .i64 8, .int .i64 n, .int .i64 wh, .slice ab nb cb]] w (ShouldPost w own bs (S.act ⟨8, n, wh, b⟩)) := by
  have hlt := h.lt
  have hd : RAtM (doW w 8 n wh ab nb cb) own bs S m := (h.alloc _).alloc _
  have Hc := Lib.hid (rclose_calls hd hok)
  clear h hok hd
  go_enter Try.func26, Try.ntmps26
  go_wp2_with fail
  refine Calls.mono Hc.out ?_
  rintro e w1 ⟨rfl, hs⟩
  obtain ⟨k0, k1, k2, j0, j1, j2⟩ := should_cells hs hlt
  obtain ⟨g0, g1, g2⟩ := got_cells (v0 := .int .i64 0) (v1 := .string ⟨#[]⟩) (v2 := .int .i64 S.close.1) k0 k1 k2
  have Hs := Lib.hid (should_shut hs hlt (.int .i64 0) (.string ⟨#[]⟩) (.int .i64 S.close.1))
  clear hs hlt
  go_wp2_with fail
  refine bodyPost_ret (v := .agg #[.int .i64 0, .string ⟨#[]⟩, .int .i64 S.close.1]) ?_ rfl ⟨rfl, Hs.out⟩
  simp [results, Try.results26, go_sem, g0, g1, g2]

set_option maxRecDepth 100000 in
set_option maxHeartbeats 1000000 in
theorem should_7 {w : World} {own : Nat → Prop} {bs : Nat} {S : St} {m : RMem} (h : RAtM w own bs S m) (n wh : Int) (ab : Option Addr) (nb cb : Nat) (b : List UInt8) :
    Calls Try.prog 26 #[.pointer (some ⟨bs, 0, none⟩), .agg #[.int .i64 7, .int .i64 n, .int .i64 wh, .slice ab nb cb]] w (ShouldPost w own bs (S.act ⟨7, n, wh, b⟩)) := by
  have hlt := h.lt
  have hd : RAtM (doW w 7 n wh ab nb cb) own bs S m := (h.alloc _).alloc _
  have c12 : (doW w 7 n wh ab nb cb).cell? ⟨bs, 12, none⟩ = some (.bool S.endm) := hd.c 12
  have c13 : (doW w 7 n wh ab nb cb).cell? ⟨bs, 13, none⟩ = some (.bool S.bad) := hd.c 13
  have f12 := hd.f 12
  have f13 := hd.f 13
  have hs : RAt' (doW w 7 n wh ab nb cb) (((doW w 7 n wh ab nb cb).setCell ⟨bs, 12, none⟩ (.bool false)).setCell ⟨bs, 13, none⟩ (.bool false)) own bs S.clear :=
    ⟨own, m, (hd.setEnd false).setBad false, ((Fr.refl _ own).setCell _ _ (.inl h.os)).setCell _ _ (.inl h.os)⟩
  obtain ⟨k0, k1, k2, j0, j1, j2⟩ := should_cells hs hlt
  obtain ⟨g0, g1, g2⟩ := got_cells (v0 := .int .i64 0) (v1 := .string ⟨#[]⟩) (v2 := .int .i64 0) k0 k1 k2
  have Hs := Lib.hid (should_shut hs hlt (.int .i64 0) (.string ⟨#[]⟩) (.int .i64 0))
  clear hs hlt h hd
  go_enter Try.func26, Try.ntmps26
  go_upto_region 21 with fail
  have hW0 : (w.alloc (.cells #[.int .i64 7, .int .i64 n, .int .i64 wh, .slice ab nb cb] 58)).alloc (.cells #[.int .i64 0, .string ⟨#[]⟩, .int .i64 0] 55) = doW w 7 n wh ab nb cb := rfl
  rw [hW0]
  generalize doW w 7 n wh ab nb cb = W0 at *
  clear hW0
  go_wp2_with fail
  refine bodyPost_ret (v := .agg #[.int .i64 0, .string ⟨#[]⟩, .int .i64 0]) ?_ rfl ⟨rfl, Hs.out⟩
  simp [results, Try.results26, go_sem, g0, g1, g2]

set_option maxRecDepth 100000 in
set_option maxHeartbeats 1000000 in
theorem should_else {w : World} {own : Nat → Prop} {bs : Nat} {S : St} {m : RMem} (h : RAtM w own bs S m) (k n wh : Int) (ab : Option Addr) (nb cb : Nat) (b : List UInt8) (hk : k < 0 ∨ 8 < k) :
    Calls Try.prog 26 #[.pointer (some ⟨bs, 0, none⟩), .agg #[.int .i64 k, .int .i64 n, .int .i64 wh, .slice ab nb cb]] w (ShouldPost w own bs (S.act ⟨k, n, wh, b⟩)) := by
  rw [act_else S k n wh b hk]
  have hd : RAtM (doW w k n wh ab nb cb) own bs S m := (h.alloc _).alloc _
  have hf : Fr w (doW w k n wh ab nb cb) own own := ((Fr.refl w own).alloc _).alloc _
  have Hd := Lib.hid (show RAt' w (doW w k n wh ab nb cb) own bs S from ⟨own, m, hd, hf⟩)
  have e0 : (k == 0) = false := by simp; omega
  have e1 : (k == 1) = false := by simp; omega
  have e2 : (k == 2) = false := by simp; omega
  have e3 : (k == 3) = false := by simp; omega
  have e4 : (k == 4) = false := by simp; omega
  have e5 : (k == 5) = false := by simp; omega
  have e6 : (k == 6) = false := by simp; omega
  have e7 : (k == 7) = false := by simp; omega
  have e8 : (k == 8) = false := by simp; omega
  clear h hd hf hk
  go_enter Try.func26, Try.ntmps26
  go_wp2_with fail
  refine bodyPost_ret (v := .agg #[.int .i64 0, .string ⟨#[]⟩, .int .i64 0]) ?_ rfl ⟨rfl, Hd.out⟩
  simp [results, Try.results26, go_sem]

theorem should_calls {w : World} {own : Nat → Prop} {bs : Nat} {S : St} {m : RMem} (h : RAtM w own bs S m) (hok : S.Ok) (k n wh : Int) (any : Nat → Prop) (hany : ∀ k, any k → ¬ own k) (ab : Option Addr) (nb cb : Nat) (b : List UInt8) (hb : Rd w any byteV (.slice ab nb cb) b) :
    Calls Try.prog 26 #[.pointer (some ⟨bs, 0, none⟩), .agg #[.int .i64 k, .int .i64 n, .int .i64 wh, .slice ab nb cb]] w (ShouldPost w own bs (S.act ⟨k, n, wh, b⟩)) := by
  by_cases hk : k < 0 ∨ 8 < k
  · exact should_else h k n wh ab nb cb b hk
  · have : k = 0 ∨ k = 1 ∨ k = 2 ∨ k = 3 ∨ k = 4 ∨ k = 5 ∨ k = 6 ∨ k = 7 ∨ k = 8 := by omega
    rcases this with rfl | rfl | rfl | rfl | rfl | rfl | rfl | rfl | rfl
    · exact should_0 h hok n wh ab nb cb b
    · exact should_1 h hok n wh ab nb cb b
    · exact should_2 h hok n wh ab nb cb b
    · exact should_3 h hok n wh any hany ab nb cb b hb
    · exact should_4 h hok n wh ab nb cb b
    · exact should_5 h hok n wh ab nb cb b
    · exact should_6 h hok n wh ab nb cb b
    · exact should_7 h n wh ab nb cb b
    · exact should_8 h hok n wh ab nb cb b
end Go.Proofs.Ytgihclflndlomaa
