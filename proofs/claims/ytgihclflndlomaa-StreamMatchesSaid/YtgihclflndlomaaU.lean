/- Open. -/
import Derived.Test.YtgihclflndlomaaR
import Derived.Test.YtgihclflndlomaaT
namespace Go.Proofs.Ytgihclflndlomaa
open Go.RowKit

/-- A mode as a value. -/
structure Md where
  rd : Bool
  wr : Bool
  app : Bool
  size : Int
  lines : Bool
def Md.v (m : Md) : Value := .agg #[.bool m.rd, .bool m.wr, .bool m.app, .int .i64 m.size, .bool m.lines]

/-- What Open refuses of a device. -/
def devBad (data : List UInt8) (max : Int) (plan : List Int) : Prop := max < 0 ∨ 1048576 < max ∨ max < data.length ∨ ∃ y ∈ plan, y < -1
def Md.bad (m : Md) : Prop := (m.rd = false ∧ m.wr = false) ∨ m.size < 1 ∨ 65536 < m.size ∨ (m.app = true ∧ m.wr = false)
def openRefused (data : List UInt8) (max : Int) (plan : List Int) (m : Md) : Prop := devBad data max plan ∨ m.bad

/-- A stream as Open hands it back. -/
def St.fresh (data : List UInt8) (max : Int) (plan : List Int) (m : Md) : St :=
  { data, max, plan, rd := m.rd, wr := m.wr, app := m.app, size := m.size, lines := m.lines, opened := true, endm := false, bad := false, pos := 0, ahead := [], back := [], wait := [] }

def OpenPost (w : World) (data : List UInt8) (max : Int) (plan : List Int) (m : Md) (e : Ending) (w' : World) : Prop :=
  (openRefused data max plan m ∧ e = .returned (.tuple #[.pointer none, .int .i64 1]) ∧ Below w.heap.size w w') ∨
  (¬ openRefused data max plan m ∧ ∃ bs own, e = .returned (.tuple #[.pointer (some ⟨bs, 0, none⟩), .int .i64 0]) ∧ SAt w' own bs (St.fresh data max plan m) ∧ (∀ k, own k → w.heap.size ≤ k) ∧ Below w.heap.size w w')

theorem Row.typed {α : Type} {e : TypeId} {enc : α → Value} {w : World} {own : Nat → Prop} {v : Value} {l : List α} (h : Row e enc w own v l) :
    Row e enc w (fun b => own b ∧ ∃ cs, w.heap[b]? = some (.cells cs e (0, 0))) v l := by
  rcases h with h | ⟨b, cap, cs, hv, hb, hh, r⟩
  · exact .inl h
  · exact .inr ⟨b, cap, cs, hv, ⟨hb, cs, hh⟩, hh, r⟩

theorem Row.blk_typed {α : Type} {e : TypeId} {enc : α → Value} {w : World} {own : Nat → Prop} {v : Value} {l : List α} (h : Row e enc w own v l) {b : Nat} (hb : blockIs v b) : ∃ cs, w.heap[b]? = some (.cells cs e (0, 0)) := by
  obtain ⟨off, n, cap, rfl, hc⟩ := hb
  rcases h with ⟨rfl, a, hv⟩ | ⟨b', cap', cs, hv, hb, hh, h1, h2, h3, h4⟩
  · cases hv; omega
  · cases hv; exact ⟨cs, hh⟩

theorem alloc_at (w : World) (o : Obj) : (w.alloc o).heap[w.heap.size]? = some o := by
  show (w.heap.push o)[w.heap.size]? = some o
  simp

/-- What Open has made is a stream. -/
theorem open_mem (B : Nat) (W1 : World) (v1 v2 : Value) (max : Int) (data : List UInt8) (plan : List Int) (md : Md)
    (hrow1 : Row 5 byteV W1 (fun b => B ≤ b ∧ b < W1.heap.size) v1 data) (hrow2 : Row 3 intV W1 (fun b => B ≤ b ∧ b < W1.heap.size) v2 plan) (hB : B ≤ W1.heap.size) :
    SAtM ((((W1.alloc (.cells #[v1, .int .i64 max, v2, .nilFunc] 74)).alloc (.cells #[.pointer (some ⟨W1.heap.size, 0, none⟩)] 70)).setCell ⟨W1.heap.size, 3, none⟩ (.func (.func 32) #[] #[.pointer (some ⟨W1.heap.size + 1, 0, none⟩)])).alloc
        (.cells #[.pointer (some ⟨W1.heap.size, 0, none⟩), .bool false, .bool false, .bool md.rd, .bool md.wr, .bool md.app, .int .i64 md.size, .bool md.lines, .bool true, .int .i64 0, .slice none 0 0, .slice none 0 0, .slice none 0 0] 78))
      (fun k => B ≤ k ∧ k < W1.heap.size + 3) (W1.heap.size + 2) (St.fresh data max plan md)
      { bd := W1.heap.size, bx := W1.heap.size + 1, data := v1, plan := v2, ahead := .slice none 0 0, back := .slice none 0 0, wait := .slice none 0 0, endm := false, bad := false } := by
  have e1 : ∀ k, k < W1.heap.size → ((((W1.alloc (.cells #[v1, .int .i64 max, v2, .nilFunc] 74)).alloc (.cells #[.pointer (some ⟨W1.heap.size, 0, none⟩)] 70)).setCell ⟨W1.heap.size, 3, none⟩ (.func (.func 32) #[] #[.pointer (some ⟨W1.heap.size + 1, 0, none⟩)])).alloc
        (.cells #[.pointer (some ⟨W1.heap.size, 0, none⟩), .bool false, .bool false, .bool md.rd, .bool md.wr, .bool md.app, .int .i64 md.size, .bool md.lines, .bool true, .int .i64 0, .slice none 0 0, .slice none 0 0, .slice none 0 0] 78)).heap[k]? = W1.heap[k]? := fun k hk =>
    (Below.heap_alloc _ _ _ (by simp; omega)).trans ((Below.heap_setCell _ _ _ _ (by show k ≠ W1.heap.size; omega)).trans ((Below.heap_alloc _ _ _ (by simp; omega)).trans (Below.heap_alloc _ _ _ hk)))
  exact {
    hs := by
      have h := alloc_at (((W1.alloc (.cells #[v1, .int .i64 max, v2, .nilFunc] 74)).alloc (.cells #[.pointer (some ⟨W1.heap.size, 0, none⟩)] 70)).setCell ⟨W1.heap.size, 3, none⟩ (.func (.func 32) #[] #[.pointer (some ⟨W1.heap.size + 1, 0, none⟩)]))
        (.cells #[.pointer (some ⟨W1.heap.size, 0, none⟩), .bool false, .bool false, .bool md.rd, .bool md.wr, .bool md.app, .int .i64 md.size, .bool md.lines, .bool true, .int .i64 0, .slice none 0 0, .slice none 0 0, .slice none 0 0] 78)
      have hsz : (((W1.alloc (.cells #[v1, .int .i64 max, v2, .nilFunc] 74)).alloc (.cells #[.pointer (some ⟨W1.heap.size, 0, none⟩)] 70)).setCell ⟨W1.heap.size, 3, none⟩ (.func (.func 32) #[] #[.pointer (some ⟨W1.heap.size + 1, 0, none⟩)])).heap.size = W1.heap.size + 2 := by simp
      rw [hsz] at h
      exact h
    hd := by
      refine (Below.heap_alloc _ _ _ (by simp; omega)).trans ?_
      have h := heap_setCell_same ((W1.alloc (.cells #[v1, .int .i64 max, v2, .nilFunc] 74)).alloc (.cells #[.pointer (some ⟨W1.heap.size, 0, none⟩)] 70)) W1.heap.size 3 #[v1, .int .i64 max, v2, .nilFunc] 74 (.func (.func 32) #[] #[.pointer (some ⟨W1.heap.size + 1, 0, none⟩)])
        ((Below.heap_alloc _ _ _ (by simp)).trans (alloc_at _ _))
      exact h
    hx := by
      refine (Below.heap_alloc _ _ _ (by simp)).trans ((Below.heap_setCell _ _ _ _ (by show W1.heap.size + 1 ≠ W1.heap.size; omega)).trans ?_)
      have h := alloc_at (W1.alloc (.cells #[v1, .int .i64 max, v2, .nilFunc] 74)) (.cells #[.pointer (some ⟨W1.heap.size, 0, none⟩)] 70)
      simpa using h
    os := ⟨by omega, by omega⟩
    od := ⟨by omega, by show W1.heap.size < _; omega⟩
    ox := ⟨by show B ≤ W1.heap.size + 1; omega, by show W1.heap.size + 1 < _; omega⟩
    lt := fun k hk => by simp; omega
    data := hrow1.keep (fun b _ hl => e1 b hl) (fun b hb hl => ⟨⟨hb.1, by omega⟩, by omega, by show b ≠ W1.heap.size; omega, by show b ≠ W1.heap.size + 1; omega⟩)
    plan := hrow2.typed.rd.keep (fun b _ hl => e1 b hl) (fun b hb hl => ⟨⟨hb.1.1, by omega⟩, by omega, by show b ≠ W1.heap.size; omega, by show b ≠ W1.heap.size + 1; omega, fun hbi => by
      obtain ⟨cs, h1⟩ := hb.2
      obtain ⟨ds, h2⟩ := hrow1.blk_typed hbi
      exact rows_apart h1 h2 (by decide) rfl⟩)
    ahead := Rd.nil _ _ _
    back := Rd.nil _ _ _
    wait := Rd.nil _ _ _
    marks := fun _ => ⟨rfl, rfl⟩
    shut := fun h => by cases h }

set_option maxRecDepth 100000 in
set_option maxHeartbeats 4000000 in
theorem open_calls (w : World) (any : Nat → Prop) (a a2 : Option Addr) (n c n2 c2 : Nat) (max : Int) (data : List UInt8) (plan : List Int) (md : Md) (hd : Rd w any byteV (.slice a n c) data) (hp : Rd w any intV (.slice a2 n2 c2) plan)
    (hl2 : plan.length * 8 ≤ 140737488355328) :
    Calls Try.prog 11 #[.agg #[.slice a n c, .int .i64 max, .slice a2 n2 c2], .agg #[.bool md.rd, .bool md.wr, .bool md.app, .int .i64 md.size, .bool md.lines]] w (OpenPost w data max plan md) := by
  obtain ⟨W0, hW0⟩ : ∃ W0, (w.alloc (.cells #[.slice a n c, .int .i64 max, .slice a2 n2 c2] 25)).alloc (.cells #[.bool md.rd, .bool md.wr, .bool md.app, .int .i64 md.size, .bool md.lines] 32) = W0 := ⟨_, rfl⟩
  have hb0 : Below w.heap.size w W0 := by rw [← hW0]; exact ((Below.refl _ w).alloc (Nat.le_refl _) _).alloc (by simp) _
  have hn : data.length = n := by obtain ⟨_, _, e, _⟩ := hd; injection e with _ e; exact e.symm
  have c0 : W0.cell? ⟨w.heap.size, 0, none⟩ = some (.slice a n c) := by rw [← hW0]; simp [go_sem]
  have c1 : W0.cell? ⟨w.heap.size, 1, none⟩ = some (.int .i64 max) := by rw [← hW0]; simp [go_sem]
  have c2' : W0.cell? ⟨w.heap.size, 2, none⟩ = some (.slice a2 n2 c2) := by rw [← hW0]; simp [go_sem]
  have d0 : W0.cell? ⟨w.heap.size + 1, 0, none⟩ = some (.bool md.rd) := by rw [← hW0]; simp [go_sem]
  have d1 : W0.cell? ⟨w.heap.size + 1, 1, none⟩ = some (.bool md.wr) := by rw [← hW0]; simp [go_sem]
  have d2 : W0.cell? ⟨w.heap.size + 1, 2, none⟩ = some (.bool md.app) := by rw [← hW0]; simp [go_sem]
  have d3 : W0.cell? ⟨w.heap.size + 1, 3, none⟩ = some (.int .i64 md.size) := by rw [← hW0]; simp [go_sem]
  have d4 : W0.cell? ⟨w.heap.size + 1, 4, none⟩ = some (.bool md.lines) := by rw [← hW0]; simp [go_sem]
  have Hd := Lib.hid (show Rd W0 any byteV (.slice a n c) data from hd.keep (fun b _ hb => hb0.block b hb) (fun _ h _ => h))
  have Hp := Lib.hid (show Rd W0 any intV (.slice a2 n2 c2) plan from hp.keep (fun b _ hb => hb0.block b hb) (fun _ h _ => h))
  have Hl2 := Lib.hid hl2
  have Hn := Lib.hid hn
  have Hb0 := Lib.hid hb0
  have HW0 := Lib.hid hW0
  clear hd hp hl2 hn
  go_enter Try.func11, Try.ntmps11
  go_upto_region 1 with fail
  clear hW0
  go_cut [6] from 9 to 29 (fun s wx => ∃ d : Bool, s = .bool d ∧ (d = true ↔ devBad data max plan) ∧ wx = W0)
  case first =>
    have Hc := Lib.hid (containsFunc_calls W0 any a2 n2 c2 plan Hp.out)
    have hdl : (data.length : Int) = n := by rw [Hn.out]
    have Hdl := Lib.hid hdl
    clear hdl
    by_cases h1 : max < 0
    · have h1' : decide (max < 0) = true := decide_eq_true h1
      go_wp2_with fail
      go_meet
      exact ⟨true, rfl, ⟨fun _ => .inl h1, fun _ => rfl⟩, rfl⟩
    · have h1' : decide (max < 0) = false := decide_eq_false h1
      by_cases h2 : 1048576 < max
      · have h2' : decide (1048576 < max) = true := decide_eq_true h2
        go_wp2_with fail
        go_meet
        exact ⟨true, rfl, ⟨fun _ => .inr (.inl h2), fun _ => rfl⟩, rfl⟩
      · have h2' : decide (1048576 < max) = false := decide_eq_false h2
        by_cases h3 : max < n
        · have h3' : decide (max < n) = true := decide_eq_true h3
          go_wp2_with fail
          go_meet
          exact ⟨true, rfl, ⟨fun _ => .inr (.inr (.inl (by rw [Hdl.out]; exact h3))), fun _ => rfl⟩, rfl⟩
        · have h3' : decide (max < n) = false := decide_eq_false h3
          by_cases h4 : ∃ y ∈ plan, y < -1
          · simp only [decide_eq_true h4] at Hc
            have H4 := Lib.hid h4
            clear h4
            go_wp2_with (go_at_call 29; refine Hc.out.mono ?_; rintro _ w' ⟨rfl, rfl⟩)
            go_meet
            exact ⟨true, rfl, ⟨fun _ => .inr (.inr (.inr H4.out)), fun _ => rfl⟩, rfl⟩
          · simp only [decide_eq_false h4] at Hc
            have H4 := Lib.hid h4
            clear h4
            go_wp2_with (go_at_call 29; refine Hc.out.mono ?_; rintro _ w' ⟨rfl, rfl⟩)
            go_meet
            exact ⟨false, rfl, ⟨fun e => (by cases e), fun e => by
              rcases e with e | e | e | e
              · omega
              · omega
              · rw [Hdl.out] at e; omega
              · exact absurd e H4.out⟩, rfl⟩
  case rest =>
    obtain ⟨d, rfl, hd, rfl⟩ := hcut
    have HC := Lib.hid (And.intro c0 (And.intro c1 c2'))
    clear c0 c1 c2'
    go_upto_region 2 with fail
    go_cut [7] from 30 to 36 (fun s wx => ∃ d2 : Bool, s = .bool d2 ∧ (d2 = true ↔ md.rd = false ∧ md.wr = false) ∧ wx = wc)
    case first =>
      obtain ⟨b1, Hr⟩ : ∃ b, Hid (md.rd = b) := ⟨_, Lib.hid rfl⟩
      obtain ⟨b2, Hw⟩ : ∃ b, Hid (md.wr = b) := ⟨_, Lib.hid rfl⟩
      rw [Hr.out] at d0
      rw [Hw.out] at d1
      cases b1 <;> cases b2
      all_goals go_wp2_with fail
      all_goals go_meet
      · exact ⟨true, rfl, ⟨fun _ => ⟨Hr.out, Hw.out⟩, fun _ => rfl⟩, rfl⟩
      · exact ⟨false, rfl, ⟨fun e => (by cases e), fun e => (by rw [Hw.out] at e; cases e.2)⟩, rfl⟩
      · exact ⟨false, rfl, ⟨fun e => (by cases e), fun e => (by rw [Hr.out] at e; cases e.1)⟩, rfl⟩
      · exact ⟨false, rfl, ⟨fun e => (by cases e), fun e => (by rw [Hr.out] at e; cases e.1)⟩, rfl⟩
    case rest =>
      obtain ⟨dd, rfl, hdd, rfl⟩ := hcut
      go_upto_region 3 with fail
      go_cut [59] from 37 to 58 (fun s wx => ∃ e : Bool, s = .bool e ∧ (e = true ↔ openRefused data max plan md) ∧ wx = wc)
      case first =>
        cases d
        case true =>
          have hr : openRefused data max plan md := .inl (hd.1 rfl)
          clear hd hdd
          go_wp2_with fail
          go_meet
          exact ⟨true, rfl, ⟨fun _ => hr, fun _ => rfl⟩, rfl⟩
        case false =>
          have hnb : ¬ devBad data max plan := fun e => by cases hd.2 e
          clear hd
          cases dd
          case true =>
            have hr : openRefused data max plan md := .inr (.inl (hdd.1 rfl))
            clear hnb hdd
            go_wp2_with fail
            go_meet
            exact ⟨true, rfl, ⟨fun _ => hr, fun _ => rfl⟩, rfl⟩
          case false =>
            have hni : ¬ (md.rd = false ∧ md.wr = false) := fun e => by cases hdd.2 e
            clear hdd
            have Hnb := Lib.hid hnb
            have Hni := Lib.hid hni
            clear hnb hni
            by_cases h1 : md.size < 1
            · have h1' : decide (md.size < 1) = true := decide_eq_true h1
              go_wp2_with fail
              go_meet
              exact ⟨true, rfl, ⟨fun _ => .inr (.inr (.inl h1)), fun _ => rfl⟩, rfl⟩
            · have h1' : decide (md.size < 1) = false := decide_eq_false h1
              by_cases h2 : 65536 < md.size
              · have h2' : decide (65536 < md.size) = true := decide_eq_true h2
                go_wp2_with fail
                go_meet
                exact ⟨true, rfl, ⟨fun _ => .inr (.inr (.inr (.inl h2))), fun _ => rfl⟩, rfl⟩
              · have h2' : decide (65536 < md.size) = false := decide_eq_false h2
                obtain ⟨b1, Ha⟩ : ∃ b, Hid (md.app = b) := ⟨_, Lib.hid rfl⟩
                obtain ⟨b2, Hw⟩ : ∃ b, Hid (md.wr = b) := ⟨_, Lib.hid rfl⟩
                rw [Ha.out] at d2
                rw [Hw.out] at d1
                cases b1 <;> cases b2
                all_goals go_wp2_with fail
                all_goals go_meet
                · exact ⟨false, rfl, ⟨fun e => (by cases e), fun e => e.elim (fun e => absurd e Hnb.out) (fun e => by
                    rcases e with e | e | e | e
                    · exact absurd e Hni.out
                    · omega
                    · omega
                    · rw [Ha.out] at e; cases e.1)⟩, rfl⟩
                · exact ⟨false, rfl, ⟨fun e => (by cases e), fun e => e.elim (fun e => absurd e Hnb.out) (fun e => by
                    rcases e with e | e | e | e
                    · exact absurd e Hni.out
                    · omega
                    · omega
                    · rw [Ha.out] at e; cases e.1)⟩, rfl⟩
                · exact ⟨true, rfl, ⟨fun _ => .inr (.inr (.inr (.inr ⟨Ha.out, Hw.out⟩))), fun _ => rfl⟩, rfl⟩
                · exact ⟨false, rfl, ⟨fun e => (by cases e), fun e => e.elim (fun e => absurd e Hnb.out) (fun e => by
                    rcases e with e | e | e | e
                    · exact absurd e Hni.out
                    · omega
                    · omega
                    · rw [Hw.out] at e; cases e.2)⟩, rfl⟩
      case rest =>
        obtain ⟨rf, rfl, hrf, rfl⟩ := hcut
        cases rf
        case true =>
          have hR := Lib.hid (hrf.1 rfl)
          clear hrf
          go_wp2_with fail
          go_ret2
          exact .inl ⟨hR.out, rfl, Hb0.out⟩
        case false =>
          have hR := Lib.hid (show ¬ openRefused data max plan md from fun e => by cases hrf.2 e)
          clear hrf
          obtain ⟨c0, c1, c2'⟩ := HC.out
          have hl1 : data.length * 1 ≤ 140737488355328 := by
            have h := hR.out
            unfold openRefused devBad at h
            have h1 : ¬ 1048576 < max := fun e => h (.inl (.inr (.inl e)))
            have h2 : ¬ max < data.length := fun e => h (.inl (.inr (.inr (.inl e))))
            omega
          have Hcl := Lib.hid (clone_calls wc any a a2 n c n2 c2 max data plan Hd.out Hp.out hl1 Hl2.out)
          clear hl1
          go_wp2_with fail
          refine Hcl.out.mono ?_
          rintro e W1 ⟨a5, n5, c5, a6, n6, c6, rfl, hrow1, hrow2, hbl⟩
          have hl0 : w.heap.size + 1 < wc.heap.size := by rw [← HW0.out]; simp
          have k0 := (hbl.cell (p := ⟨w.heap.size + 1, 0, none⟩) hl0).trans d0
          have k1 := (hbl.cell (p := ⟨w.heap.size + 1, 1, none⟩) hl0).trans d1
          have k2 := (hbl.cell (p := ⟨w.heap.size + 1, 2, none⟩) hl0).trans d2
          have k3 := (hbl.cell (p := ⟨w.heap.size + 1, 3, none⟩) hl0).trans d3
          have k4 := (hbl.cell (p := ⟨w.heap.size + 1, 4, none⟩) hl0).trans d4
          have hl1 : w.heap.size + 1 < W1.heap.size := Nat.lt_of_lt_of_le hl0 hbl.size
          have hmf : ∀ fn first cap w, (Instr.makeFunc fn first cap).run Try.prog w = .ok (.func fn first cap) w := fun _ _ _ _ => rfl
          go_upto_region 6 with fail
          obtain ⟨bd, hbd⟩ : ∃ bd, W1.heap.size = bd := ⟨_, rfl⟩
          obtain ⟨W2, hW2⟩ : ∃ W2, (W1.alloc (.cells #[.slice a5 n5 c5, .int .i64 max, .slice a6 n6 c6, .nilFunc] 74)).alloc (.cells #[.pointer (some ⟨W1.heap.size, 0, none⟩)] 70) = W2 := ⟨_, rfl⟩
          have q3 : W2.cell? ⟨bd, 3, none⟩ = some .nilFunc := by rw [← hW2, ← hbd]; simp [go_sem]
          have qf3 : W2.frozen? ⟨bd, 3, none⟩ = false := by rw [← hW2, ← hbd]; simp [go_sem]
          have q4 : W2.cell? ⟨bd + 1, 0, none⟩ = some (.pointer (some ⟨bd, 0, none⟩)) := by rw [← hW2, ← hbd]; simp [go_sem]
          have q5 : ∀ v, (W2.setCell ⟨bd, 3, none⟩ v).cell? ⟨bd + 1, 0, none⟩ = some (.pointer (some ⟨bd, 0, none⟩)) := fun v => (cell_set_block _ (by omega)).trans q4
          have hbl2 : Below W1.heap.size W1 W2 := by rw [← hW2]; exact ((Below.refl _ W1).alloc (Nat.le_refl _) _).alloc (by simp) _
          have hne : ¬ w.heap.size + 1 = bd := by omega
          have m0 : ∀ v, (W2.setCell ⟨bd, 3, none⟩ v).cell? ⟨w.heap.size + 1, 0, none⟩ = some (.bool md.rd) := fun v => (cell_set_block _ hne).trans ((hbl2.cell (p := ⟨w.heap.size + 1, 0, none⟩) hl1).trans k0)
          have m1 : ∀ v, (W2.setCell ⟨bd, 3, none⟩ v).cell? ⟨w.heap.size + 1, 1, none⟩ = some (.bool md.wr) := fun v => (cell_set_block _ hne).trans ((hbl2.cell (p := ⟨w.heap.size + 1, 1, none⟩) hl1).trans k1)
          have m2 : ∀ v, (W2.setCell ⟨bd, 3, none⟩ v).cell? ⟨w.heap.size + 1, 2, none⟩ = some (.bool md.app) := fun v => (cell_set_block _ hne).trans ((hbl2.cell (p := ⟨w.heap.size + 1, 2, none⟩) hl1).trans k2)
          have m3 : ∀ v, (W2.setCell ⟨bd, 3, none⟩ v).cell? ⟨w.heap.size + 1, 3, none⟩ = some (.int .i64 md.size) := fun v => (cell_set_block _ hne).trans ((hbl2.cell (p := ⟨w.heap.size + 1, 3, none⟩) hl1).trans k3)
          have m4 : ∀ v, (W2.setCell ⟨bd, 3, none⟩ v).cell? ⟨w.heap.size + 1, 4, none⟩ = some (.bool md.lines) := fun v => (cell_set_block _ hne).trans ((hbl2.cell (p := ⟨w.heap.size + 1, 4, none⟩) hl1).trans k4)
          rw [hW2, hbd]
          have hsf : ∀ (a : Addr) (fn : Fn) (first cap : Array Value) (w : World), (store a (.func fn first cap)).run Try.prog w = stored Try.prog w a (.func fn first cap) .plain := fun a fn first cap w => run_store Try.prog w a _ _ rfl
          have HW2 := Lib.hid hW2
          have Hbd := Lib.hid hbd
          clear hW2 hbd
          go_wp2_with fail
          go_ret2
          have hsz : W2.heap.size = W1.heap.size + 2 := by rw [← HW2.out]; simp
          have h := open_mem w.heap.size W1 (.slice a5 n5 c5) (.slice a6 n6 c6) max data plan md (hrow1.keep (fun _ _ _ => rfl) (fun b hb hl => ⟨by have := hb.1; omega, hl⟩)) (hrow2.keep (fun _ _ _ => rfl) (fun b hb hl => ⟨by have := hb.1; omega, hl⟩)) (by omega)
          rw [HW2.out, Hbd.out] at h
          have h1 : Below w.heap.size wc W1 := ⟨hbl.os, hbl.tape, hbl.output, hbl.size, fun k hk => hbl.block k (by omega)⟩
          have h2 : Below w.heap.size W1 W2 := ⟨hbl2.os, hbl2.tape, hbl2.output, hbl2.size, fun k hk => hbl2.block k (by omega)⟩
          exact .inr ⟨hR.out, bd + 2, _, (by rw [show bd + 2 = W2.heap.size by rw [hsz, Hbd.out]]; rfl), ⟨_, h⟩, fun k hk => hk.1, (((Hb0.out.trans h1).trans h2).setCell (by show w.heap.size ≤ bd; rw [← Hbd.out]; omega) _).alloc (by simp; omega) _⟩
end Go.Proofs.Ytgihclflndlomaa
