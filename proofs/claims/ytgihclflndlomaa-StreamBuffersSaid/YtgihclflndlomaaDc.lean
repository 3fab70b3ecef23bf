/- Getc, as it is seen without the buffer. -/
import Derived.Test.YtgihclflndlomaaDb
namespace Go.Proofs.Ytgihclflndlomaa

theorem seen_getc {S : St} {v : Vw} (h : Seen S v) (h14 : S.getc.2.1 ≠ 14) : S.getc.1 = v.getc.1 ∧ S.getc.2.1 = v.getc.2.1 ∧ Seen S.getc.2.2 v.getc.2.2 := by
  have hok := (getc_ok S h.ok).1
  unfold St.getc Vw.getc at *
  rw [h.opened, h.rd] at *
  by_cases ho : v.opened = false
  · rw [if_pos ho, if_pos ho]; exact ⟨rfl, rfl, h⟩
  rw [if_neg ho] at h14 hok ⊢
  rw [if_neg ho]
  by_cases hr : v.rd = false
  · rw [if_pos hr, if_pos hr]; exact ⟨rfl, rfl, h⟩
  rw [if_neg hr] at h14 hok ⊢
  rw [if_neg hr]
  by_cases hm : S.move.2.1 ≠ 0
  · rw [if_pos hm] at h14
    exact absurd (seen_move h h14).1 hm
  rw [if_neg hm] at h14 hok ⊢
  obtain ⟨-, hs, hw⟩ := seen_move h (fun e => hm (by rw [e]; decide))
  generalize S.move.2.2 = U at *
  have hdat : U.data = v.data := by have := hs.data; rw [hw] at this; exact this
  have hpl : U.pos - U.ahead.length = v.place := by have := hs.place; rw [hw] at this; simpa using this
  have hp0 := hs.ok.pos0
  have hs1 := hs.ok.size1
  unfold St.getc2 at *
  by_cases hb : v.back ≠ []
  · rw [hs.back] at *
    rw [if_pos hb] at hok ⊢
    rw [if_pos hb]
    exact ⟨rfl, rfl, hok, hs.pl, hs.data, hs.place, rfl, hs.endm, hs.opened, hs.rd, hs.wr, hs.app, hs.max, hs.bad, fun e => absurd hw e, hs.w2, hs.w3, hs.w4⟩
  rw [hs.back] at *
  rw [if_neg hb] at h14 hok ⊢
  rw [if_neg hb]
  by_cases ha : U.ahead ≠ []
  · rw [if_pos ha] at hok ⊢
    obtain ⟨x, l, hl⟩ : ∃ x l, U.ahead = x :: l := by
      cases e : U.ahead with
      | nil => exact absurd e ha
      | cons x l => exact ⟨x, l, rfl⟩
    have hen : v.endm = false := by
      rw [← hs.endm]
      cases e : U.endm with
      | false => rfl
      | true => exact absurd (hs.w2 e) ha
    have h3 := hs.w3
    rw [hl] at h3 hpl hp0
    simp only [List.length_cons] at h3 hpl hp0
    have hdl : (U.data.drop (U.pos.toNat - (l.length + 1))).length ≠ 0 := fun e => by
      have := congrArg List.length h3
      rw [List.length_take, e] at this
      simp at this
    rw [List.length_drop] at hdl
    rw [if_neg (by rw [hen, ← hdat]; intro e; rcases e with e | e; cases e; omega)]
    have hpt : v.place.toNat = U.pos.toNat - (l.length + 1) := by omega
    have hhead : (v.data.drop v.place.toNat).headD 0 = x := by
      rw [← hdat, hpt]
      have := congrArg (fun z : List UInt8 => z.headD 0) h3
      simp only [List.headD_cons] at this
      rw [this]
      cases U.data.drop (U.pos.toNat - (l.length + 1)) <;> rfl
    have htail : l = (U.data.drop (U.pos.toNat - l.length)).take l.length := by
      cases hc : U.data.drop (U.pos.toNat - (l.length + 1)) with
      | nil => rw [hc] at h3; simp at h3
      | cons y r =>
        rw [hc] at h3
        have h4 : l = r.take l.length := by simpa using (List.cons.inj h3).2
        have h5 := congrArg List.tail hc
        rw [List.tail_drop] at h5
        rw [show U.pos.toNat - (l.length + 1) + 1 = U.pos.toNat - l.length by omega] at h5
        rw [h5]
        exact h4
    refine ⟨?_, rfl, hok, hs.pl, hs.data, ?_, hs.back, hs.endm, hs.opened, hs.rd, hs.wr, hs.app, hs.max, hs.bad, fun e => absurd hw e, (fun e => by have e2 : U.endm = true := e; rw [hs.endm, hen] at e2; cases e2), ?_, hs.w4⟩
    · show U.ahead.headD 0 = _
      rw [hhead, hl]
      rfl
    · show U.pos + U.wait.length - U.ahead.tail.length = v.place + 1
      rw [hw, hl]
      simp only [List.length_nil, List.tail_cons]
      omega
    · show U.ahead.tail = (U.data.drop (U.pos.toNat - U.ahead.tail.length)).take U.ahead.tail.length
      rw [hl]
      exact htail
  rw [if_neg ha] at h14 hok ⊢
  have ha' : U.ahead = [] := Decidable.not_not.1 ha
  rw [ha'] at hpl hp0
  simp only [List.length_nil] at hpl hp0
  have hcond : (v.endm = true ∨ (v.data.length : Int) ≤ v.place) ↔ (U.endm = true ∨ (U.data.length : Int) ≤ U.pos) := by
    rw [hs.endm, hdat]
    constructor
    · intro e; rcases e with e | e
      · exact .inl e
      · exact .inr (by omega)
    · intro e; rcases e with e | e
      · exact .inl e
      · exact .inr (by omega)
  unfold St.fill at h14 hok ⊢
  by_cases he : U.endm = true ∨ (U.data.length : Int) ≤ U.pos
  · rw [if_pos he] at hok ⊢
    rw [if_pos (hcond.2 he)]
    rw [if_pos e11] at hok ⊢
    exact ⟨rfl, rfl, hok, hs.pl, hs.data, hs.place, hs.back, rfl, hs.opened, hs.rd, hs.wr, hs.app, hs.max, hs.bad, fun e => absurd hw e, fun _ => ha', hs.w3, hs.w4⟩
  · rw [if_neg he] at h14 hok ⊢
    rw [if_neg (fun e => he (hcond.1 e))]
    have hlt : U.pos < U.data.length := by
      by_cases h' : U.pos < U.data.length
      · exact h'
      · exact absurd (.inr (by omega)) he
    have hen : U.endm = false := by
      cases e : U.endm with
      | true => exact absurd (.inl e) he
      | false => rfl
    have hk : U.fillK = min U.size ((U.data.length : Int) - U.pos) := by unfold St.fillK mayN; rw [hs.pl]
    have hk1 : 1 ≤ U.fillK ∧ U.fillK ≤ U.data.length - U.pos := by rw [hk, Int.min_def]; split <;> omega
    rw [if_neg (show ¬ U.fillK = 0 by omega)] at hok ⊢
    rw [if_neg e00] at hok ⊢
    obtain ⟨k, hkk⟩ : ∃ k : Nat, U.fillK = (k : Int) + 1 := ⟨U.fillK.toNat - 1, by omega⟩
    have hft : U.fillK.toNat = k + 1 := by omega
    obtain ⟨y, r, hc⟩ : ∃ y r, U.data.drop U.pos.toNat = y :: r := by
      cases e : U.data.drop U.pos.toNat with
      | nil => have := congrArg List.length e; simp at this; omega
      | cons y r => exact ⟨y, r, rfl⟩
    have h5 := congrArg List.tail hc
    rw [List.tail_drop] at h5
    simp only [List.tail_cons] at h5
    have hrl : k ≤ r.length := by have := congrArg List.length hc; simp at this; omega
    refine ⟨?_, rfl, hok, by show U.plan.tail = []; rw [hs.pl]; rfl, ?_, ?_, hs.back, hs.endm, hs.opened, hs.rd, hs.wr, hs.app, hs.max, hs.bad, fun e => absurd hw e, (fun e => by have e2 : U.endm = true := e; rw [hen] at e2; cases e2), ?_, fun _ e => absurd hw e⟩
    · show ((U.data.drop U.pos.toNat).take U.fillK.toNat).headD 0 = (v.data.drop v.place.toNat).headD 0
      rw [← hdat, show v.place.toNat = U.pos.toNat by omega, hc, hft]
      rfl
    · show putted U.data (U.pos + U.fillK).toNat U.wait = v.data
      rw [hw]
      exact hdat
    · show U.pos + U.fillK + U.wait.length - ((U.data.drop U.pos.toNat).take U.fillK.toNat).tail.length = v.place + 1
      rw [hw, hc, hft]
      simp only [List.take_succ_cons, List.tail_cons, List.length_take, List.length_nil]
      omega
    · show ((U.data.drop U.pos.toNat).take U.fillK.toNat).tail = (U.data.drop ((U.pos + U.fillK).toNat - ((U.data.drop U.pos.toNat).take U.fillK.toNat).tail.length)).take ((U.data.drop U.pos.toNat).take U.fillK.toNat).tail.length
      rw [hc, hft]
      simp only [List.take_succ_cons, List.tail_cons, List.length_take]
      rw [Nat.min_eq_left hrl, show (U.pos + U.fillK).toNat - k = U.pos.toNat + 1 by omega, h5]
end Go.Proofs.Ytgihclflndlomaa
