/- Reading without a plan, in plain Lean. -/
import Derived.Test.YtgihclflndlomaaAg
namespace Go.Proofs.Ytgihclflndlomaa

theorem e00 : ¬ (0 : Int) ≠ 0 := by decide
theorem e11 : (11 : Int) ≠ 0 := by decide

/-- What is still to be read. -/
def St.rest (S : St) : List UInt8 := S.back.reverse ++ (S.ahead ++ S.data.drop S.pos.toNat)

/-- A stream without a plan in which nothing is pending. -/
structure St.Still (S : St) : Prop where
  ok : S.Ok
  op : S.opened = true
  rd : S.rd = true
  wt : S.wait = []
  pl : S.plan = []

theorem St.Still.move {S : St} (h : S.Still) : S.move = (0, 0, S) := by
  unfold St.move
  rw [if_pos h.wt]

theorem St.Still.getc {S : St} (h : S.Still) : S.getc = S.getc2 := by
  unfold St.getc
  rw [h.move, if_neg (by rw [h.op]; decide), if_neg (by rw [h.rd]; decide), if_neg e00]

/-- What a read, a putting back and a seek leave as it was. -/
structure St.Core (S T : St) : Prop where
  data : T.data = S.data
  max : T.max = S.max
  plan : T.plan = S.plan
  rd : T.rd = S.rd
  wr : T.wr = S.wr
  app : T.app = S.app
  size : T.size = S.size
  lines : T.lines = S.lines
  opened : T.opened = S.opened
  bad : T.bad = S.bad
  wait : T.wait = S.wait

theorem St.Core.refl (S : St) : S.Core S := ⟨rfl, rfl, rfl, rfl, rfl, rfl, rfl, rfl, rfl, rfl, rfl⟩
theorem St.Core.trans {S T U : St} (h : S.Core T) (k : T.Core U) : S.Core U :=
  ⟨k.data.trans h.data, k.max.trans h.max, k.plan.trans h.plan, k.rd.trans h.rd, k.wr.trans h.wr, k.app.trans h.app, k.size.trans h.size, k.lines.trans h.lines, k.opened.trans h.opened, k.bad.trans h.bad, k.wait.trans h.wait⟩
theorem St.Core.seek {S T : St} (h : S.Core T) (p : Int) : T.seekTo p = S.seekTo p := by
  obtain ⟨h1, h2, h3, h4, h5, h6, h7, h8, h9, h10, h11⟩ := h
  cases S; cases T
  simp only at h1 h2 h3 h4 h5 h6 h7 h8 h9 h10 h11
  subst h1 h2 h3 h4 h5 h6 h7 h8 h9 h10 h11
  rfl

/-- Getc on a stream that holds still. -/
structure St.Got (S : St) (r : UInt8 × Int × St) : Prop where
  core : S.Core r.2.2
  still : r.2.2.Still
  e : r.2.1 = 0 ∨ r.2.1 = 11
  tell : r.2.1 = 0 → r.2.2.tellAt = S.tellAt + 1
  rest : r.2.1 = 0 → S.endm = false → S.rest = r.1 :: r.2.2.rest
  endm : r.2.1 = 0 → r.2.2.endm = S.endm
  full : r.2.1 = 11 → S.endm = false → S.rest = []
  done : r.2.1 = 11 → r.2.2.endm = true ∧ r.2.2.back = [] ∧ r.2.2.ahead = []
  back : r.2.2.back.length ≤ S.back.length

theorem getc_still (S : St) (h : S.Still) : S.Got S.getc := by
  have hok := (getc_ok S h.ok).1
  rw [h.getc] at hok ⊢
  unfold St.getc2 at hok ⊢
  by_cases hb : S.back ≠ []
  · rw [if_pos hb] at hok ⊢
    obtain ⟨l, x, hl⟩ : ∃ l x, S.back = l ++ [x] := ⟨S.back.dropLast, S.back.getLast hb, (List.dropLast_concat_getLast hb).symm⟩
    refine ⟨⟨rfl, rfl, rfl, rfl, rfl, rfl, rfl, rfl, rfl, rfl, rfl⟩, ⟨hok, h.op, h.rd, h.wt, h.pl⟩, .inl rfl, fun _ => ?_, fun _ _ => ?_, fun _ => rfl, fun e => (by cases e), fun e => (by cases e), ?_⟩
    · show S.pos + S.wait.length - S.ahead.length - S.back.dropLast.length = S.pos + S.wait.length - S.ahead.length - S.back.length + 1
      rw [hl]; simp; omega
    · show S.back.reverse ++ (S.ahead ++ S.data.drop S.pos.toNat) = S.back.getLastD 0 :: (S.back.dropLast.reverse ++ (S.ahead ++ S.data.drop S.pos.toNat))
      rw [hl]; simp
    · show S.back.dropLast.length ≤ S.back.length
      simp
  · rw [if_neg hb] at hok ⊢
    have hb' : S.back = [] := Decidable.not_not.1 hb
    by_cases ha : S.ahead ≠ []
    · rw [if_pos ha] at hok ⊢
      obtain ⟨x, l, hl⟩ : ∃ x l, S.ahead = x :: l := by
        cases e : S.ahead with
        | nil => exact absurd e ha
        | cons x l => exact ⟨x, l, rfl⟩
      refine ⟨⟨rfl, rfl, rfl, rfl, rfl, rfl, rfl, rfl, rfl, rfl, rfl⟩, ⟨hok, h.op, h.rd, h.wt, h.pl⟩, .inl rfl, fun _ => ?_, fun _ _ => ?_, fun _ => rfl, fun e => (by cases e), fun e => (by cases e), Nat.le_refl _⟩
      · show S.pos + S.wait.length - S.ahead.tail.length - S.back.length = S.pos + S.wait.length - S.ahead.length - S.back.length + 1
        rw [hl]; simp; omega
      · show S.back.reverse ++ (S.ahead ++ S.data.drop S.pos.toNat) = S.ahead.headD 0 :: (S.back.reverse ++ (S.ahead.tail ++ S.data.drop S.pos.toNat))
        rw [hl, hb']; simp
    · rw [if_neg ha] at hok ⊢
      have ha' : S.ahead = [] := Decidable.not_not.1 ha
      have hp0 := h.ok.pos0
      have hs1 := h.ok.size1
      unfold St.fill at hok ⊢
      by_cases he : S.endm = true ∨ (S.data.length : Int) ≤ S.pos
      · rw [if_pos he] at hok ⊢
        rw [if_pos e11] at hok ⊢
        refine ⟨⟨rfl, rfl, rfl, rfl, rfl, rfl, rfl, rfl, rfl, rfl, rfl⟩, ⟨hok, h.op, h.rd, h.wt, h.pl⟩, .inr rfl, fun e => (by cases e), fun e => (by cases e), fun e => (by cases e), fun _ hf => ?_, fun _ => ⟨rfl, hb', ha'⟩, Nat.le_refl _⟩
        rcases he with he | he
        · rw [hf] at he; cases he
        · show S.back.reverse ++ (S.ahead ++ S.data.drop S.pos.toNat) = []
          rw [hb', ha', List.drop_of_length_le (by omega)]
          rfl
      · rw [if_neg he] at hok ⊢
        have hlt : S.pos < S.data.length := by
          by_cases h' : S.pos < S.data.length
          · exact h'
          · exact absurd (.inr (by omega)) he
        have hen : S.endm = false := by
          cases e : S.endm with
          | true => exact absurd (.inl e) he
          | false => rfl
        rw [ha'] at hp0
        simp only [List.length_nil, Int.ofNat_zero] at hp0
        have hk : S.fillK = min S.size ((S.data.length : Int) - S.pos) := by unfold St.fillK mayN; rw [h.pl]
        have hk1 : 1 ≤ S.fillK ∧ S.fillK ≤ S.data.length - S.pos := by rw [hk, Int.min_def]; split <;> omega
        rw [if_neg (show ¬ S.fillK = 0 by omega)] at hok ⊢
        rw [if_neg e00] at hok ⊢
        obtain ⟨k, hkk⟩ : ∃ k : Nat, S.fillK = (k : Int) + 1 := ⟨S.fillK.toNat - 1, by omega⟩
        have hpt : (S.pos + S.fillK).toNat = S.pos.toNat + (k + 1) := by omega
        have hft : S.fillK.toNat = k + 1 := by omega
        obtain ⟨x, l, hl⟩ : ∃ x l, S.data.drop S.pos.toNat = x :: l := by
          cases e : S.data.drop S.pos.toNat with
          | nil => have := congrArg List.length e; simp at this; omega
          | cons x l => exact ⟨x, l, rfl⟩
        have hll : l.length = S.data.length - S.pos.toNat - 1 := by
          have := congrArg List.length hl
          simp at this; omega
        refine ⟨⟨rfl, rfl, by show S.plan.tail = S.plan; rw [h.pl]; rfl, rfl, rfl, rfl, rfl, rfl, rfl, rfl, rfl⟩, ⟨hok, h.op, h.rd, h.wt, by show S.plan.tail = []; rw [h.pl]; rfl⟩, .inl rfl, fun _ => ?_, fun _ _ => ?_, fun _ => rfl, fun e => (by cases e), fun e => (by cases e), Nat.le_refl _⟩
        · show S.pos + S.fillK + S.wait.length - ((S.data.drop S.pos.toNat).take S.fillK.toNat).tail.length - S.back.length = S.pos + S.wait.length - S.ahead.length - S.back.length + 1
          rw [hl, hft, ha']
          simp [hll]; omega
        · show S.back.reverse ++ (S.ahead ++ S.data.drop S.pos.toNat) = ((S.data.drop S.pos.toNat).take S.fillK.toNat).headD 0 :: (S.back.reverse ++ (((S.data.drop S.pos.toNat).take S.fillK.toNat).tail ++ S.data.drop (S.pos + S.fillK).toNat))
          rw [hpt, ← List.drop_drop, hl, hft, ha', hb']
          simp

/-- Reads, up to the end. -/
theorem readN_still (n : Nat) : ∀ S : St, S.Still → S.endm = false → n ≤ S.rest.length →
    ∃ T, S.readN n = (S.rest.take n, 0, T) ∧ S.Core T ∧ T.Still ∧ T.endm = false ∧ T.rest = S.rest.drop n ∧ T.back.length ≤ S.back.length := by
  induction n with
  | zero => exact fun S h he _ => ⟨S, rfl, St.Core.refl S, h, he, rfl, Nat.le_refl _⟩
  | succ n ih =>
    intro S h he hn
    have hg := getc_still S h
    have h0 : S.getc.2.1 = 0 := by
      rcases hg.e with e | e
      · exact e
      · rw [hg.full e he] at hn; simp at hn
    have hr := hg.rest h0 he
    obtain ⟨T, h1, h2, h3, h4, h5, h6⟩ := ih S.getc.2.2 hg.still ((hg.endm h0).trans he) (by rw [hr] at hn; simpa using hn)
    refine ⟨T, ?_, hg.core.trans h2, h3, h4, ?_, Nat.le_trans h6 hg.back⟩
    · rw [St.readN, if_neg (by rw [h0]; decide), h1, hr]
      rfl
    · rw [h5, hr]
      rfl

/-- Reads, past the end. -/
theorem readN_over (n : Nat) : ∀ S : St, S.Still → S.endm = false → S.rest.length < n →
    ∃ T, S.readN n = (S.rest, 11, T) ∧ S.Core T ∧ T.Still ∧ T.endm = true ∧ T.back = [] ∧ T.ahead = [] := by
  induction n with
  | zero => exact fun S _ _ hn => absurd hn (Nat.not_lt_zero _)
  | succ n ih =>
    intro S h he hn
    have hg := getc_still S h
    rcases hg.e with e | e
    · have hr := hg.rest e he
      obtain ⟨T, h1, h2, h3, h4, h5, h6⟩ := ih S.getc.2.2 hg.still ((hg.endm e).trans he) (by rw [hr] at hn; simpa using hn)
      refine ⟨T, ?_, hg.core.trans h2, h3, h4, h5, h6⟩
      rw [St.readN, if_neg (by rw [e]; decide), h1, hr]
    · refine ⟨S.getc.2.2, ?_, hg.core, hg.still, (hg.done e).1, (hg.done e).2.1, (hg.done e).2.2⟩
      rw [St.readN, if_pos (by rw [e]; decide), e, hg.full e he]

theorem readN_core (n : Nat) : ∀ S : St, S.Still → S.Core (S.readN n).2.2 ∧ (S.readN n).2.2.Still := by
  induction n with
  | zero => exact fun S h => ⟨St.Core.refl S, h⟩
  | succ n ih =>
    intro S h
    have hg := getc_still S h
    rw [St.readN]
    split
    · exact ⟨hg.core, hg.still⟩
    · exact ⟨hg.core.trans (ih _ hg.still).1, (ih _ hg.still).2⟩

theorem read_still (S : St) (h : S.Still) (n : Int) (h0 : 0 ≤ n) (h1 : n ≤ 1048576) : S.read n = S.readN n.toNat := by
  unfold St.read
  rw [if_neg (by rw [h.op]; decide), if_neg (by omega), if_neg (by rw [h.rd]; decide)]

/-- At the end nothing is read. -/
theorem read_done (S : St) (h : S.Still) (he : S.endm = true) (hb : S.back = []) (ha : S.ahead = []) : ∃ T, S.read 1 = ([], 11, T) ∧ T.endm = true := by
  have hg : S.getc = (0, 11, { S with endm := true }) := by
    rw [h.getc]
    unfold St.getc2
    rw [if_neg (by rw [hb]; simp), if_neg (by rw [ha]; simp)]
    have : S.fill = (11, { S with endm := true }) := by unfold St.fill; rw [if_pos (.inl he)]
    rw [this, if_pos e11]
  rw [read_still S h 1 (by decide) (by decide)]
  refine ⟨S.getc.2.2, ?_, by rw [hg]⟩
  show S.readN 1 = _
  rw [St.readN, hg, if_pos e11]

theorem ungetc_still (S : St) (h : S.Still) (c : UInt8) (hb : S.back.length < 16) : S.ungetc c = (0, { S with back := S.back ++ [c], endm := false }) := by
  unfold St.ungetc
  rw [h.move, if_neg (by rw [h.op]; decide), if_neg (by rw [h.rd]; decide), if_neg e00, if_neg (show ¬ 16 ≤ S.back.length by omega)]

end Go.Proofs.Ytgihclflndlomaa
