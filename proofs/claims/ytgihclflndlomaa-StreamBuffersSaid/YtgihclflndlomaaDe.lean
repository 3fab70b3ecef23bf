/- Write and any call, as they are seen without the buffer; two streams that are seen alike. -/
import Derived.Test.YtgihclflndlomaaDd
namespace Go.Proofs.Ytgihclflndlomaa

/-- Where a write begins. -/
def Vw.from_ (v : Vw) : Int := if v.app = true then (v.data.length : Int) else v.place

def Vw.write (v : Vw) (b : List UInt8) : Int × Int × Vw :=
  if v.opened = false then (0, 4, v)
  else if v.wr = false then (0, 4, v)
  else if 1048576 < b.length then (0, 2, v)
  else (b.length, 0, { v with data := putted v.data v.from_.toNat b, place := v.from_ + b.length, back := [] })

theorem putted_nil (d : List UInt8) (p : Nat) : putted d p [] = d := by unfold putted; rw [if_pos rfl]

theorem putted_putted (d : List UInt8) (p : Nat) (m w : List UInt8) : putted (putted d p m) (p + m.length) w = putted d p (m ++ w) := by
  by_cases hw : w = []
  · subst hw; rw [putted_nil, List.append_nil]
  · rw [← putted_more d p m w hw]
    generalize putted d p m = e
    unfold putted
    rw [if_neg hw]

/-- The bytes laid behind what is pending, as they are seen. -/
theorem seen_laid {S : St} {v : Vw} (h : Seen S v) (b : List UInt8) :
    putted (S.laid b).data (S.laid b).pos.toNat (S.laid b).wait = putted v.data v.from_.toNat b ∧ (S.laid b).pos + (S.laid b).wait.length = v.from_ + b.length ∧
    (S.app = true → (S.laid b).wait ≠ [] → (S.laid b).pos = S.data.length) ∧ 0 ≤ (S.laid b).pos := by
  have hp0 := h.ok.pos0
  have hd := h.data
  have hp := h.place
  by_cases hw : S.wait = []
  · rw [hw, putted_nil] at hd
    rw [hw] at hp
    simp only [List.length_nil] at hp
    have hpos : (S.laid b).pos = v.from_ := by
      show (if S.app = true ∧ S.wait = [] then (S.data.length : Int) else S.pos - S.ahead.length) = v.from_
      unfold Vw.from_
      rw [h.app, hd]
      by_cases ha : v.app = true
      · rw [if_pos ⟨ha, hw⟩, if_pos ha]
      · rw [if_neg (fun e => ha e.1), if_neg ha]; omega
    have hwt : (S.laid b).wait = b := by show S.wait ++ b = b; rw [hw]; rfl
    rw [hpos, hwt]
    refine ⟨by show putted S.data _ _ = _; rw [hd], rfl, fun ha _ => ?_, ?_⟩
    · unfold Vw.from_; rw [if_pos (h.app ▸ ha), hd]
    · unfold Vw.from_; split <;> omega
  · obtain ⟨ha, hb⟩ := h.w1 hw
    rw [ha] at hp
    simp only [List.length_nil] at hp
    have hpos : (S.laid b).pos = S.pos := by
      show (if S.app = true ∧ S.wait = [] then (S.data.length : Int) else S.pos - S.ahead.length) = S.pos
      rw [if_neg (fun e => hw e.2), ha]; simp
    have hsp : 0 ≤ S.pos := by omega
    have hfrom : v.from_ = S.pos + S.wait.length := by
      unfold Vw.from_
      by_cases hap : v.app = true
      · rw [if_pos hap, ← hd]
        have h4 := h.w4 (h.app ▸ hap) hw
        rw [h4, Int.toNat_natCast, putted_length]
        omega
      · rw [if_neg hap]; omega
    rw [hpos, hfrom]
    refine ⟨?_, ?_, fun hap _ => h.w4 hap hw, hsp⟩
    · show putted S.data S.pos.toNat (S.wait ++ b) = _
      rw [← hd, show (S.pos + (S.wait.length : Int)).toNat = S.pos.toNat + S.wait.length by omega, putted_putted]
    · show S.pos + ((S.wait ++ b).length : Int) = _
      simp; omega

theorem seen_write {S : St} {v : Vw} (h : Seen S v) (b : List UInt8) (h14 : (S.write b).2.1 ≠ 14) : (S.write b).1 = (v.write b).1 ∧ (S.write b).2.1 = (v.write b).2.1 ∧ Seen (S.write b).2.2 (v.write b).2.2 := by
  have hok := write_ok S h.ok b
  obtain ⟨l1, l2, l3, l4⟩ := seen_laid h b
  unfold St.write Vw.write at *
  rw [h.opened, h.wr] at *
  by_cases ho : v.opened = false
  · rw [if_pos ho, if_pos ho]; exact ⟨rfl, rfl, h⟩
  rw [if_neg ho] at h14 hok ⊢
  rw [if_neg ho]
  by_cases hr : v.wr = false
  · rw [if_pos hr, if_pos hr]; exact ⟨rfl, rfl, h⟩
  rw [if_neg hr] at h14 hok ⊢
  rw [if_neg hr]
  by_cases hl : 1048576 < b.length
  · rw [if_pos hl, if_pos hl]; exact ⟨rfl, rfl, h⟩
  rw [if_neg hl] at h14 hok ⊢
  rw [if_neg hl]
  by_cases hc : ((S.wait ++ b).length : Int) < S.size ∧ ¬ (S.lines = true ∧ (10 : UInt8) ∈ b)
  · rw [if_pos hc] at hok ⊢
    exact ⟨rfl, rfl, hok, h.pl, l1, by show (S.laid b).pos + ((S.laid b).wait.length : Int) - (([] : List UInt8).length : Int) = _; rw [l2]; simp, rfl, h.endm, h.opened, h.rd, h.wr, h.app, h.max, h.bad, fun _ => ⟨rfl, rfl⟩, fun _ => rfl, rfl, l3⟩
  rw [if_neg hc] at h14 hok ⊢
  have hlw : (S.laid b).wait.length = S.wait.length + b.length := by show (S.wait ++ b).length = _; simp
  by_cases hw : (S.laid b).wait = []
  · have hmv : (S.laid b).move = (0, 0, S.laid b) := by unfold St.move; rw [if_pos hw]
    rw [hmv] at hok ⊢
    rw [hw] at hlw
    simp only [List.length_nil] at hlw
    refine ⟨?_, rfl, hok, h.pl, l1, by show (S.laid b).pos + ((S.laid b).wait.length : Int) - (([] : List UInt8).length : Int) = _; rw [l2]; simp, rfl, h.endm, h.opened, h.rd, h.wr, h.app, h.max, h.bad, fun _ => ⟨rfl, rfl⟩, fun _ => rfl, rfl, l3⟩
    show Max.max (0 : Int) (0 - S.wait.length) = b.length
    omega
  · by_cases hrm : (S.laid b).pos + (S.laid b).wait.length ≤ (S.laid b).max
    · have hmv := move_room (S.laid b) h.pl hw hrm
      rw [hmv] at hok ⊢
      have l1' := l1
      rw [putted, if_neg hw] at l1'
      refine ⟨?_, rfl, hok, h.pl, by show putted (putAt (S.laid b).data (S.laid b).pos.toNat (S.laid b).wait) _ [] = _; rw [l1']; rfl, by show (S.laid b).pos + (S.laid b).wait.length + (([] : List UInt8).length : Int) - (([] : List UInt8).length : Int) = _; rw [l2]; simp,
        rfl, h.endm, h.opened, h.rd, h.wr, h.app, h.max, h.bad, fun e => absurd rfl e, fun _ => rfl, rfl, fun _ e => absurd rfl e⟩
      show Max.max (0 : Int) (((S.laid b).wait.length : Int) - S.wait.length) = b.length
      omega
    · exfalso
      apply h14
      unfold St.move
      rw [if_neg hw]
      have hk : (S.laid b).moveK < (S.laid b).wait.length := by
        unfold St.moveK mayN
        rw [show (S.laid b).plan = [] from h.pl]
        simp only
        rw [Int.min_def, Int.max_def]
        have : 0 < (S.laid b).wait.length := List.length_pos_iff.2 hw
        repeat' split
        all_goals omega
      show (if (S.laid b).moveK < (S.laid b).wait.length then (14 : Int) else 0) = 14
      rw [if_pos hk]

def Vw.act (v : Vw) (x : Ac) : Gt × Vw :=
  if x.kind = 0 then (⟨v.getc.1.toNat, [], v.getc.2.1⟩, v.getc.2.2)
  else if x.kind = 1 then (⟨0, [], (v.ungetc (byteOf x.n)).1⟩, (v.ungetc (byteOf x.n)).2)
  else if x.kind = 2 then (⟨0, (v.read x.n).1, (v.read x.n).2.1⟩, (v.read x.n).2.2)
  else if x.kind = 3 then (⟨(v.write x.b).1, [], (v.write x.b).2.1⟩, (v.write x.b).2.2)
  else if x.kind = 4 then (⟨0, [], v.flush.1⟩, v.flush.2)
  else if x.kind = 5 then (⟨0, [], (v.seek x.n x.whence).1⟩, (v.seek x.n x.whence).2)
  else if x.kind = 6 then (⟨v.tell.1, [], v.tell.2⟩, v)
  else if x.kind = 7 then (⟨0, [], 0⟩, v.clear)
  else if x.kind = 8 then (⟨0, [], v.close.1⟩, v.close.2)
  else (⟨0, [], 0⟩, v)

theorem seen_act {S : St} {v : Vw} (h : Seen S v) (x : Ac) (h14 : (S.act x).1.e ≠ 14) : (S.act x).1 = (v.act x).1 ∧ Seen (S.act x).2 (v.act x).2 := by
  unfold St.act Vw.act at *
  by_cases h0 : x.kind = 0
  · rw [if_pos h0] at h14 ⊢
    rw [if_pos h0]
    obtain ⟨a, b, c⟩ := seen_getc h h14
    exact ⟨by rw [a, b], c⟩
  rw [if_neg h0] at h14 ⊢
  rw [if_neg h0]
  by_cases h1 : x.kind = 1
  · rw [if_pos h1] at h14 ⊢
    rw [if_pos h1]
    obtain ⟨a, c⟩ := seen_ungetc h _ h14
    exact ⟨by rw [a], c⟩
  rw [if_neg h1] at h14 ⊢
  rw [if_neg h1]
  by_cases h2 : x.kind = 2
  · rw [if_pos h2] at h14 ⊢
    rw [if_pos h2]
    obtain ⟨a, b, c⟩ := seen_read h _ h14
    exact ⟨by rw [a, b], c⟩
  rw [if_neg h2] at h14 ⊢
  rw [if_neg h2]
  by_cases h3 : x.kind = 3
  · rw [if_pos h3] at h14 ⊢
    rw [if_pos h3]
    obtain ⟨a, b, c⟩ := seen_write h _ h14
    exact ⟨by rw [a, b], c⟩
  rw [if_neg h3] at h14 ⊢
  rw [if_neg h3]
  by_cases h4 : x.kind = 4
  · rw [if_pos h4] at h14 ⊢
    rw [if_pos h4]
    obtain ⟨a, c⟩ := seen_flush h h14
    exact ⟨by rw [a], c⟩
  rw [if_neg h4] at h14 ⊢
  rw [if_neg h4]
  by_cases h5 : x.kind = 5
  · rw [if_pos h5] at h14 ⊢
    rw [if_pos h5]
    obtain ⟨a, c⟩ := seen_seek h _ _ h14
    exact ⟨by rw [a], c⟩
  rw [if_neg h5] at h14 ⊢
  rw [if_neg h5]
  by_cases h6 : x.kind = 6
  · rw [if_pos h6, if_pos h6]
    exact ⟨by rw [h.tell], h⟩
  rw [if_neg h6] at h14 ⊢
  rw [if_neg h6]
  by_cases h7 : x.kind = 7
  · rw [if_pos h7, if_pos h7]
    exact ⟨rfl, seen_clear h⟩
  rw [if_neg h7] at h14 ⊢
  rw [if_neg h7]
  by_cases h8 : x.kind = 8
  · rw [if_pos h8] at h14 ⊢
    rw [if_pos h8]
    obtain ⟨a, c⟩ := seen_close h h14
    exact ⟨by rw [a], c⟩
  rw [if_neg h8, if_neg h8]
  exact ⟨rfl, h⟩

/-- A closed stream has nothing pending. -/
def St.Shut (S : St) : Prop := S.opened = false → S.wait = []

theorem move_wait (S : St) : S.move.2.2.wait = [] ∧ S.move.2.2.opened = S.opened := by
  unfold St.move
  split
  · rename_i h; exact ⟨h, rfl⟩
  · exact ⟨rfl, rfl⟩

theorem getc2_opened (S : St) : S.getc2.2.2.opened = S.opened := by
  unfold St.getc2 St.fill
  repeat' split
  all_goals rfl

theorem getc_opened (S : St) : S.getc.2.2.opened = S.opened := by
  unfold St.getc
  repeat' split
  · rfl
  · rfl
  · exact (move_wait S).2
  · rw [getc2_opened]; exact (move_wait S).2

theorem readN_opened (n : Nat) : ∀ S : St, (S.readN n).2.2.opened = S.opened := by
  induction n with
  | zero => exact fun _ => rfl
  | succ n ih =>
    intro S
    rw [St.readN]
    split
    · exact getc_opened S
    · rw [ih]; exact getc_opened S

theorem seekFrom_opened (S : St) (a b : Int) : (S.seekFrom a b).2.opened = S.opened := by
  unfold St.seekFrom
  split <;> rfl

theorem act_shut (S : St) (x : Ac) (h : S.Shut) : (S.act x).2.Shut := by
  by_cases ho : S.opened = false
  · intro _
    have hw := h ho
    unfold St.act St.getc St.ungetc St.read St.write St.flush St.seek St.close St.clear
    repeat' split
    all_goals first | exact hw | contradiction
  · by_cases h8 : x.kind = 8
    · intro _
      unfold St.act
      rw [h8]
      simp only [Int.reduceEq, if_false, if_true]
      unfold St.close
      rw [if_neg ho]
      exact (move_wait S).1
    · intro e
      exfalso
      apply ho
      rw [← e]
      have hm := (move_wait S).2
      unfold St.act
      split
      · exact (getc_opened S).symm
      split
      · show _ = (S.ungetc _).2.opened
        unfold St.ungetc
        repeat' split
        all_goals first | rfl | exact hm.symm
      split
      · show _ = (S.read _).2.2.opened
        unfold St.read
        repeat' split
        all_goals first | rfl | exact (readN_opened _ S).symm
      split
      · show _ = (S.write _).2.2.opened
        unfold St.write
        repeat' split
        all_goals first | rfl | exact ((move_wait (S.laid x.b)).2).symm
      split
      · show _ = S.flush.2.opened
        unfold St.flush
        split
        · rfl
        · exact hm.symm
      split
      · show _ = (S.seek _ _).2.opened
        unfold St.seek
        repeat' split
        all_goals first | rfl | exact hm.symm | (rw [seekFrom_opened]; exact hm.symm)
      split
      · rfl
      split
      · rfl
      first | rfl | (rw [if_neg h8]) | (split <;> first | contradiction | rfl)

/-- Two streams that are seen alike. -/
def Alike (S T : St) : Prop := ∃ v, Seen S v ∧ Seen T v ∧ S.Shut ∧ T.Shut

theorem Alike.act {S T : St} (h : Alike S T) (x : Ac) (h1 : (S.act x).1.e ≠ 14) (h2 : (T.act x).1.e ≠ 14) : (S.act x).1 = (T.act x).1 ∧ Alike (S.act x).2 (T.act x).2 := by
  obtain ⟨v, a, b, c, d⟩ := h
  obtain ⟨p1, p2⟩ := seen_act a x h1
  obtain ⟨q1, q2⟩ := seen_act b x h2
  exact ⟨p1.trans q1.symm, _, p2, q2, act_shut S x c, act_shut T x d⟩

theorem Alike.marks {S T : St} (h : Alike S T) : S.opened = T.opened ∧ S.endm = T.endm ∧ S.bad = T.bad := by
  obtain ⟨v, a, b, -, -⟩ := h
  exact ⟨a.opened.trans b.opened.symm, a.endm.trans b.endm.symm, a.bad.trans b.bad.symm⟩

theorem Alike.flush {S T : St} (h : Alike S T) (h1 : S.flush.1 ≠ 14) (h2 : T.flush.1 ≠ 14) :
    S.flush.1 = T.flush.1 ∧ S.flush.2.data = T.flush.2.data ∧ S.flush.2.max = T.flush.2.max ∧ S.flush.2.plan = [] ∧ T.flush.2.plan = [] := by
  obtain ⟨v, a, b, c, d⟩ := h
  obtain ⟨p1, p2⟩ := seen_flush a h1
  obtain ⟨q1, q2⟩ := seen_flush b h2
  have hw : ∀ U : St, U.Shut → U.flush.2.wait = [] := fun U hU => by
    unfold St.flush
    split
    · rename_i e; exact hU e
    · exact (move_wait U).1
  have hda := p2.data
  have hdb := q2.data
  rw [hw S c, putted_nil] at hda
  rw [hw T d, putted_nil] at hdb
  exact ⟨p1.trans q1.symm, hda.trans hdb.symm, p2.max.trans q2.max.symm, p2.pl, q2.pl⟩
end Go.Proofs.Ytgihclflndlomaa
