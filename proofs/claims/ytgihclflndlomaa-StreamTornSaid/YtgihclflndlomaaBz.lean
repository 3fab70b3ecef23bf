/- Torn writes, in plain Lean. -/
import Derived.Test.YtgihclflndlomaaBv
namespace Go.Proofs.Ytgihclflndlomaa

/-- A stream that only writes, plainly. -/
structure TornInv (S : St) (sz : Int) : Prop where
  ok : S.Ok
  op : S.opened = true
  wr : S.wr = true
  app : S.app = false
  ln : S.lines = false
  ah : S.ahead = []
  bk : S.back = []
  sz : S.size = sz
  pl : S.plan.length ≤ 60

/-- What a write, and perhaps a flush, come to: all is moved, or nothing yet, or the device has failed. -/
def TornOut (S : St) (wt : List UInt8) (fl : Bool) (f : Int) (U : St) : Prop :=
  (f = 0 ∧ U.data = putted S.data S.pos.toNat wt ∧ U.pos = S.pos + wt.length ∧ U.wait = [] ∧ (S.size ≤ wt.length ∨ fl = true)) ∨
  (f = 0 ∧ U.data = S.data ∧ U.pos = S.pos ∧ U.wait = wt ∧ (wt.length : Int) < S.size ∧ fl = false) ∨
  (f = 14 ∧ U.bad = true ∧ U.wait = [] ∧ ∃ j : Nat, j ≤ wt.length ∧ U.data = putted S.data S.pos.toNat (wt.take j) ∧ U.pos = S.pos + j)

/-- A move, whatever the plan. -/
theorem move_torn (T : St) (hf : T.Fit) (hw : T.wait ≠ []) : ∃ k : Nat, k ≤ T.wait.length ∧ T.move = ((k : Int), if (k : Int) < T.wait.length then 14 else 0, T.moved) ∧
    T.moved.data = putted T.data T.pos.toNat (T.wait.take k) ∧ T.moved.pos = T.pos + k ∧ T.moved.wait = [] ∧ (k < T.wait.length → T.moved.bad = true) := by
  have hb := moveK_bd T hf.pos1
  obtain ⟨k, hk⟩ : ∃ k : Nat, T.moveK = k := ⟨T.moveK.toNat, by omega⟩
  have hkl : k ≤ T.wait.length := by omega
  refine ⟨k, hkl, ?_, ?_, ?_, rfl, fun h => ?_⟩
  · unfold St.move
    rw [if_neg hw, hk]
  · show (if 0 < T.moveK then putAt T.data T.pos.toNat (T.wait.take T.moveK.toNat) else T.data) = _
    rw [hk, Int.toNat_natCast]
    unfold putted
    by_cases h0 : k = 0
    · subst h0
      rw [if_neg (by omega), if_pos (by simp)]
    · rw [if_pos (by omega), if_neg (fun e => by have h9 : (T.wait.take k).length = 0 := (by rw [e]; rfl); rw [List.length_take] at h9; omega)]
  · show T.pos + T.moveK = _
    rw [hk]
  · show (T.bad || decide (T.moveK < T.wait.length)) = true
    rw [hk, decide_eq_true (by omega : (k : Int) < T.wait.length), Bool.or_true]

theorem moved_inv {T : St} {sz : Int} (hok : T.moved.Ok) (op : T.opened = true) (wr : T.wr = true) (app : T.app = false) (ln : T.lines = false) (ah : T.ahead = []) (bk : T.back = []) (hs : T.size = sz) (hp : T.plan.length ≤ 60) : TornInv T.moved sz :=
  ⟨hok, op, wr, app, ln, ah, bk, hs, by show T.plan.tail.length ≤ 60; rw [List.length_tail]; omega⟩

/-- The end of it all. -/
theorem torn_step {S : St} {sz : Int} (h : TornInv S sz) (b : List UInt8) (hb : b.length ≤ 60) (fl : Bool) :
    ∃ n f1 S1, S.write b = (n, f1, S1) ∧ S1.Ok ∧ ∃ f U, ((fl = true ∧ f1 = 0 ∧ S1.flush = (f, U)) ∨ ((fl = false ∨ f1 ≠ 0) ∧ f = f1 ∧ U = S1)) ∧ TornInv U sz ∧ TornOut S (S.wait ++ b) fl f U := by
  have hok1 := write_ok S h.ok b
  have hp0 : 0 ≤ S.pos := by have := h.ok.pos0; omega
  have hlaid : S.laid b = { S with ahead := [], back := [], wait := S.wait ++ b } := by
    unfold St.laid
    rw [if_neg (by rw [h.app]; simp), h.ah]
    simp
  have hfit := laid_fit S h.ok b (by omega)
  have hs1 := h.ok.size1
  generalize hwt : S.wait ++ b = wt at *
  refine ⟨(S.write b).1, (S.write b).2.1, (S.write b).2.2, rfl, hok1, ?_⟩
  unfold St.write at hok1 ⊢
  rw [if_neg (show ¬ S.opened = false by rw [h.op]; decide), if_neg (show ¬ S.wr = false by rw [h.wr]; decide), if_neg (show ¬ 1048576 < b.length by omega), hwt] at hok1 ⊢
  by_cases hc : (wt.length : Int) < S.size
  · rw [if_pos ⟨hc, by rw [h.ln]; simp⟩] at hok1 ⊢
    rw [hlaid] at hok1 hfit ⊢
    cases fl with
    | false => exact ⟨_, _, .inr ⟨.inl rfl, rfl, rfl⟩, ⟨hok1, h.op, h.wr, h.app, h.ln, rfl, rfl, h.sz, h.pl⟩, .inr (.inl ⟨rfl, rfl, rfl, rfl, hc, rfl⟩)⟩
    | true =>
      have hfok : ({ S with ahead := [], back := [], wait := wt } : St).flush.2.Ok := flush_ok' _ hok1
      have hfl : ({ S with ahead := [], back := [], wait := wt } : St).flush = (({ S with ahead := [], back := [], wait := wt } : St).move.2.1, ({ S with ahead := [], back := [], wait := wt } : St).move.2.2) := by
        unfold St.flush
        rw [if_neg (show ¬ S.opened = false by rw [h.op]; decide)]
      rw [hfl] at hfok
      refine ⟨({ S with ahead := [], back := [], wait := wt } : St).move.2.1, ({ S with ahead := [], back := [], wait := wt } : St).move.2.2, .inl ⟨rfl, rfl, hfl⟩, ?_⟩
      by_cases hw : wt = []
      · have hmv : ({ S with ahead := [], back := [], wait := wt } : St).move = (0, 0, { S with ahead := [], back := [], wait := wt }) := by
          unfold St.move
          rw [if_pos hw]
        rw [hmv]
        exact ⟨⟨hok1, h.op, h.wr, h.app, h.ln, rfl, rfl, h.sz, h.pl⟩, .inl ⟨rfl, by show S.data = _; rw [hw]; rfl, by show S.pos = _; rw [hw]; simp, hw, .inr rfl⟩⟩
      · obtain ⟨k, hk, hmv, hd, hp, hwa, hbad⟩ := move_torn _ hfit hw
        rw [hmv] at hfok ⊢
        refine ⟨moved_inv hfok h.op h.wr h.app h.ln rfl rfl h.sz h.pl, ?_⟩
        by_cases hlt : (k : Int) < wt.length
        · exact .inr (.inr ⟨if_pos hlt, hbad (by show k < wt.length; omega), hwa, k, hk, hd, hp⟩)
        · refine .inl ⟨if_neg hlt, ?_, ?_, hwa, .inr rfl⟩
          · have he : wt.take k = wt := List.take_of_length_le (by omega)
            rw [hd]
            show putted S.data S.pos.toNat (wt.take k) = _
            rw [he]
          · rw [hp]
            show S.pos + (k : Int) = _
            have : k ≤ wt.length := hk
            omega
  · rw [if_neg (fun e => hc e.1)] at hok1 ⊢
    rw [hlaid] at hok1 hfit ⊢
    have hw : wt ≠ [] := fun e => by rw [e] at hc; simp at hc; omega
    obtain ⟨k, hk, hmv, hd, hp, hwa, hbad⟩ := move_torn _ hfit hw
    rw [hmv] at hok1 ⊢
    have hinv := moved_inv (sz := sz) hok1 h.op h.wr h.app h.ln rfl rfl h.sz h.pl
    by_cases hlt : (k : Int) < wt.length
    · refine ⟨_, _, .inr ⟨.inr ?_, rfl, rfl⟩, hinv, .inr (.inr ⟨if_pos hlt, hbad (by show k < wt.length; omega), hwa, k, hk, hd, hp⟩)⟩
      show (if (k : Int) < wt.length then (14 : Int) else 0) ≠ 0
      rw [if_pos hlt]
      decide
    · have he : wt.take k = wt := List.take_of_length_le (by omega)
      have hkk : k = wt.length := by have : k ≤ wt.length := hk; omega
      have hout : TornOut S wt fl 0 ({ S with ahead := [], back := [], wait := wt } : St).moved := .inl ⟨rfl, by
        rw [hd]
        show putted S.data S.pos.toNat (wt.take k) = _
        rw [he], by
        rw [hp]
        show S.pos + (k : Int) = _
        omega, hwa, .inl (by omega)⟩
      cases fl with
      | false => exact ⟨_, _, .inr ⟨.inl rfl, rfl, rfl⟩, hinv, by
          show TornOut S wt false (if (k : Int) < wt.length then (14 : Int) else 0) _
          rw [if_neg hlt]
          exact hout⟩
      | true =>
        refine ⟨0, _, .inl ⟨rfl, if_neg hlt, ?_⟩, hinv, hout⟩
        have hmv2 : ({ S with ahead := [], back := [], wait := wt } : St).moved.move = (0, 0, ({ S with ahead := [], back := [], wait := wt } : St).moved) := by
          unfold St.move
          rw [if_pos hwa]
        show ({ S with ahead := [], back := [], wait := wt } : St).moved.flush = (0, ({ S with ahead := [], back := [], wait := wt } : St).moved)
        unfold St.flush
        rw [if_neg (show ¬ ({ S with ahead := [], back := [], wait := wt } : St).moved.opened = false from fun e => by have e2 : S.opened = false := e; rw [h.op] at e2; cases e2), hmv2]

theorem torn_tell {U : St} {sz : Int} (h : TornInv U sz) : U.tell = (U.pos + U.wait.length, 0) := by
  have hp0 : 0 ≤ U.pos := by have := h.ok.pos0; omega
  unfold St.tell St.tellAt
  rw [if_neg (by rw [h.op]; decide), h.ah, h.bk]
  simp only [List.length_nil]
  rw [if_neg (by omega)]
  congr 1
  omega

end Go.Proofs.Ytgihclflndlomaa
