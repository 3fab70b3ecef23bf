/- Writing without a plan, in plain Lean. -/
import Derived.Test.YtgihclflndlomaaBa
import Derived.Test.YtgihclflndlomaaU
namespace Go.Proofs.Ytgihclflndlomaa

theorem putAt_more (d : List UInt8) (p : Nat) (m w : List UInt8) : putAt (putAt d p m) (p + m.length) w = putAt d p (m ++ w) := by
  obtain ⟨A, hA, hAe⟩ : ∃ A : List UInt8, A.length = p ∧ (d ++ List.replicate (p - d.length) 0).take p = A := ⟨_, by simp; omega, rfl⟩
  have h1 : putAt d p m = A ++ m ++ d.drop (p + m.length) := by unfold putAt; rw [hAe]
  have h2 : putAt d p (m ++ w) = A ++ (m ++ w) ++ d.drop (p + (m ++ w).length) := by unfold putAt; rw [hAe]
  rw [h2, h1]
  unfold putAt
  have e1 : (A ++ m ++ d.drop (p + m.length) ++ List.replicate (p + m.length - (A ++ m ++ d.drop (p + m.length)).length) 0).take (p + m.length) = A ++ m := by
    rw [List.append_assoc (A ++ m)]
    exact List.take_left' (by simp [hA])
  have e2 : (A ++ m ++ d.drop (p + m.length)).drop (p + m.length + w.length) = d.drop (p + (m ++ w).length) := by
    rw [← List.drop_drop, List.drop_left' (by simp [hA]), List.drop_drop]
    simp [Nat.add_assoc]
  rw [e1, e2]
  simp [List.append_assoc]

/-- A move without a plan that has room. -/
theorem move_room (T : St) (hp : T.plan = []) (hw : T.wait ≠ []) (hr : T.pos + T.wait.length ≤ T.max) :
    T.move = ((T.wait.length : Int), 0, { T with data := putAt T.data T.pos.toNat T.wait, pos := T.pos + T.wait.length, wait := [] }) := by
  have hk : T.moveK = T.wait.length := by
    unfold St.moveK mayN
    rw [hp]
    simp only
    rw [Int.min_def, Int.max_def]
    repeat' split
    all_goals omega
  have h0 : 0 < T.wait.length := by
    cases h : T.wait with
    | nil => exact absurd h hw
    | cons x r => simp
  unfold St.move
  rw [if_neg hw, hk, if_neg (by omega)]
  unfold St.moved
  rw [hk, if_pos (by omega), hp]
  have hd : decide ((T.wait.length : Int) < T.wait.length) = false := decide_eq_false (by omega)
  rw [hd, Bool.or_false, Int.toNat_natCast, List.take_of_length_le (Nat.le_refl _)]
  cases T
  simp only at hp
  subst hp
  rfl

/-- The data once bytes have been written at a place. -/
def putted (d : List UInt8) (p : Nat) (m : List UInt8) : List UInt8 := if m = [] then d else putAt d p m

/-- What has been written so far, on a device without a plan. -/
structure Wrote (T : St) (d0 : List UInt8) (P : Nat) (mx : Int) (xs : List UInt8) : Prop where
  ok : T.Ok
  op : T.opened = true
  wr : T.wr = true
  pl : T.plan = []
  ah : T.ahead = []
  bk : T.back = []
  mx : T.max = mx
  app : T.app = true → P = d0.length
  cut : ∃ m, xs = m ++ T.wait ∧ T.data = putted d0 P m ∧ T.pos = P + m.length

theorem putted_more (d : List UInt8) (p : Nat) (m w : List UInt8) (hw : w ≠ []) : putAt (putted d p m) (p + m.length) w = putted d p (m ++ w) := by
  unfold putted
  have hmw : m ++ w ≠ [] := fun e => hw (List.append_eq_nil_iff.1 e).2
  by_cases hm : m = []
  · subst hm
    rw [if_pos rfl, if_neg hmw]
    simp
  · rw [if_neg hm, if_neg hmw, putAt_more]

theorem wrote_move {T : St} {d0 : List UInt8} {P : Nat} {mx : Int} {xs : List UInt8} (h : Wrote T d0 P mx xs) (hr : P + (xs.length : Int) ≤ mx) (hw : T.wait ≠ []) :
    ∃ U, T.move = ((T.wait.length : Int), 0, U) ∧ U.opened = true ∧ U.wr = true ∧ U.plan = [] ∧ U.ahead = [] ∧ U.back = [] ∧ U.max = mx ∧ U.app = T.app ∧ U.wait = [] ∧ U.data = putted d0 P xs ∧ U.pos = P + (xs.length : Int) := by
  obtain ⟨m, h1, h2, h3⟩ := h.cut
  have hl : xs.length = m.length + T.wait.length := by rw [h1]; simp
  refine ⟨_, move_room T h.pl hw (by rw [h.mx]; omega), h.op, h.wr, h.pl, h.ah, h.bk, h.mx, rfl, rfl, ?_, ?_⟩
  · show putAt T.data T.pos.toNat T.wait = _
    rw [h2, h3, show ((P : Int) + m.length).toNat = P + m.length by omega, putted_more _ _ _ _ hw, ← h1]
  · show T.pos + T.wait.length = _
    omega

theorem putted_length (d : List UInt8) (m : List UInt8) : (putted d d.length m).length = d.length + m.length := by
  unfold putted
  split
  · rename_i h; rw [h]; simp
  · rw [putAt_length]; exact Nat.max_eq_right (by omega)

theorem wrote_write {T : St} {d0 : List UInt8} {P : Nat} {mx : Int} {xs : List UInt8} (h : Wrote T d0 P mx xs) (b : List UInt8) (hr : P + (xs.length : Int) + b.length ≤ mx) (hb : b.length ≤ 1048576) :
    ∃ U, T.write b = ((b.length : Int), 0, U) ∧ Wrote U d0 P mx (xs ++ b) := by
  have hok := write_ok T h.ok b
  obtain ⟨m, h1, h2, h3⟩ := h.cut
  have hl : xs.length = m.length + T.wait.length := by rw [h1]; simp
  have hpos : (if T.app = true ∧ T.wait = [] then (T.data.length : Int) else T.pos - T.ahead.length) = T.pos := by
    split
    · rename_i hc
      have hP := h.app hc.1
      subst hP
      rw [h2, putted_length]
      omega
    · rw [h.ah]; simp
  have hlaid : T.laid b = { T with ahead := [], back := [], wait := T.wait ++ b } := by
    unfold St.laid
    rw [hpos]
  unfold St.write at hok ⊢
  rw [if_neg (by rw [h.op]; decide), if_neg (by rw [h.wr]; decide), if_neg (by omega)] at hok ⊢
  by_cases hc : ((T.wait ++ b).length : Int) < T.size ∧ ¬ (T.lines = true ∧ (10 : UInt8) ∈ b)
  · rw [if_pos hc] at hok ⊢
    rw [hlaid] at hok ⊢
    exact ⟨_, rfl, hok, h.op, h.wr, h.pl, rfl, rfl, h.mx, h.app, m, by simp [h1], h2, h3⟩
  · rw [if_neg hc] at hok ⊢
    rw [hlaid] at hok ⊢
    by_cases hw : T.wait ++ b = []
    · have hmv : ({ T with ahead := [], back := [], wait := T.wait ++ b } : St).move = (0, 0, { T with ahead := [], back := [], wait := T.wait ++ b }) := by
        unfold St.move
        rw [if_pos hw]
      rw [hmv] at hok ⊢
      have hb0 : b = [] := (List.append_eq_nil_iff.1 hw).2
      have hw0 : T.wait = [] := (List.append_eq_nil_iff.1 hw).1
      subst hb0
      exact ⟨_, by rw [hw0]; rfl, hok, h.op, h.wr, h.pl, rfl, rfl, h.mx, h.app, m, by simp [h1], h2, h3⟩
    · have hmv := move_room ({ T with ahead := [], back := [], wait := T.wait ++ b } : St) h.pl hw (by show T.pos + ((T.wait ++ b).length : Int) ≤ T.max; rw [h.mx]; simp; omega)
      rw [hmv] at hok ⊢
      refine ⟨_, ?_, hok, h.op, h.wr, h.pl, rfl, rfl, h.mx, h.app, xs ++ b, by simp, ?_, ?_⟩
      · show (Max.max 0 (((T.wait ++ b).length : Int) - T.wait.length), (0 : Int), _) = _
        rw [show Max.max 0 (((T.wait ++ b).length : Int) - T.wait.length) = (b.length : Int) by simp; omega]
      · show putAt T.data T.pos.toNat (T.wait ++ b) = _
        rw [h2, h3, show ((P : Int) + m.length).toNat = P + m.length by omega, putted_more _ _ _ _ hw, ← List.append_assoc, ← h1]
      · show T.pos + ((T.wait ++ b).length : Int) = _
        simp; omega

theorem wrote_flush {T : St} {d0 : List UInt8} {P : Nat} {mx : Int} {xs : List UInt8} (h : Wrote T d0 P mx xs) (hr : P + (xs.length : Int) ≤ mx) :
    ∃ U, T.flush = (0, U) ∧ U.Ok ∧ U.plan = [] ∧ U.data = putted d0 P xs ∧ U.tell = (P + (xs.length : Int), 0) := by
  have hok := flush_ok' T h.ok
  unfold St.flush at hok ⊢
  rw [if_neg (by rw [h.op]; decide)] at hok ⊢
  by_cases hw : T.wait = []
  · have hmv : T.move = (0, 0, T) := by unfold St.move; rw [if_pos hw]
    rw [hmv]
    obtain ⟨m, h1, h2, h3⟩ := h.cut
    rw [hw, List.append_nil] at h1
    subst h1
    refine ⟨T, rfl, h.ok, h.pl, h2, ?_⟩
    unfold St.tell St.tellAt
    rw [if_neg (by rw [h.op]; decide), hw, h.ah, h.bk, h3]
    simp only [List.length_nil]
    rw [if_neg (by omega)]
    congr 1
    first | done | omega
  · obtain ⟨U, e, h1, h2, h3, h4, h5, h6, h7, h8, h9, h10⟩ := wrote_move h hr hw
    rw [e] at hok ⊢
    refine ⟨U, rfl, hok, h3, h9, ?_⟩
    unfold St.tell St.tellAt
    rw [if_neg (by rw [h1]; decide), h8, h4, h5, h10]
    simp only [List.length_nil]
    rw [if_neg (by omega)]
    congr 1
    first | done | omega

/-- The first write finds its place. -/
theorem wrote_begin {T : St} (hok : T.Ok) (op : T.opened = true) (wr : T.wr = true) (pl : T.plan = []) (ah : T.ahead = []) (bk : T.back = []) (wt : T.wait = []) (P : Nat) (hP : (P : Int) = if T.app = true then (T.data.length : Int) else T.pos)
    (b : List UInt8) (hr : P + (b.length : Int) ≤ T.max) (hb : b.length ≤ 1048576) : ∃ V, T.write b = ((b.length : Int), 0, V) ∧ Wrote V T.data P T.max b := by
  have hlaid : T.laid b = ({ T with pos := (P : Int) } : St).laid b := by
    unfold St.laid
    simp only [ah, wt, List.length_nil, and_true]
    rw [hP]
    congr 1
    split <;> simp_all
  have hwrite : T.write b = ({ T with pos := (P : Int) } : St).write b := by
    unfold St.write
    simp only
    have h1 : ¬ T.opened = false := by rw [op]; decide
    have h2 : ¬ T.wr = false := by rw [wr]; decide
    have h3 : ¬ 1048576 < b.length := by omega
    rw [if_neg h1, if_neg h1, if_neg h2, if_neg h2, if_neg h3, if_neg h3, hlaid]
  have hw0 : Wrote ({ T with pos := (P : Int) } : St) T.data P T.max [] := ⟨⟨hok.max0, hok.max1, hok.dlen, hok.size1, hok.size2, by show (T.ahead.length : Int) ≤ P; rw [ah]; simp, by show (P : Int) ≤ T.max; omega, hok.back16, hok.wlen⟩, op, wr, pl, ah, bk, rfl,
    fun h => by have h' : T.app = true := h; rw [if_pos h'] at hP; omega, [], by simp [wt], rfl, by simp⟩
  rw [hwrite]
  exact wrote_write hw0 b (by simpa using hr) hb

theorem fresh_seek {data : List UInt8} {max : Int} {md : Md} (at_ : Int) (h0 : 0 ≤ at_) (h1 : at_ ≤ 2000) :
    (St.fresh data max [] md).seek at_ 0 = if max < at_ then (3, St.fresh data max [] md) else (0, (St.fresh data max [] md).seekTo at_) := by
  have hm : (St.fresh data max [] md).move = (0, 0, St.fresh data max [] md) := by unfold St.move; rw [if_pos (show (St.fresh data max [] md).wait = [] from rfl)]
  unfold St.seek
  rw [hm, if_neg (by simp [St.fresh]), if_neg e00, if_pos rfl]
  unfold St.seekFrom
  by_cases h : max < at_
  · rw [if_pos h, if_pos (.inr (.inr (.inr (by show max < 0 + at_; omega))))]
  · rw [if_neg h, if_neg (by show ¬ (at_ < -1048576 ∨ 1048576 < at_ ∨ 0 + at_ < 0 ∨ max < 0 + at_); omega), Int.zero_add]

end Go.Proofs.Ytgihclflndlomaa
