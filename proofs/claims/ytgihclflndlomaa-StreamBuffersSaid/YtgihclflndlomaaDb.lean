/- Each call, as it is seen without the buffer. -/
import Derived.Test.YtgihclflndlomaaDa
namespace Go.Proofs.Ytgihclflndlomaa

def Vw.getc (v : Vw) : UInt8 × Int × Vw :=
  if v.opened = false then (0, 4, v)
  else if v.rd = false then (0, 4, v)
  else if v.back ≠ [] then (v.back.getLastD 0, 0, { v with back := v.back.dropLast })
  else if v.endm = true ∨ (v.data.length : Int) ≤ v.place then (0, 11, { v with endm := true })
  else ((v.data.drop v.place.toNat).headD 0, 0, { v with place := v.place + 1 })

def Vw.ungetc (v : Vw) (c : UInt8) : Int × Vw :=
  if v.opened = false then (4, v)
  else if v.rd = false then (4, v)
  else if 16 ≤ v.back.length then (2, v)
  else (0, { v with back := v.back ++ [c], endm := false })

def Vw.flush (v : Vw) : Int × Vw := if v.opened = false then (4, v) else (0, v)
def Vw.close (v : Vw) : Int × Vw := if v.opened = false then (4, v) else (0, { v with opened := false, endm := false })
def Vw.tellAt (v : Vw) : Int := v.place - v.back.length
def Vw.tell (v : Vw) : Int × Int := if v.opened = false then (0, 4) else if v.tellAt < 0 then (0, 4) else (v.tellAt, 0)

theorem Seen.tellAt {S : St} {v : Vw} (h : Seen S v) : S.tellAt = v.tellAt := by
  unfold St.tellAt Vw.tellAt
  rw [← h.place, ← h.back]

theorem Seen.tell {S : St} {v : Vw} (h : Seen S v) : S.tell = v.tell := by
  unfold St.tell Vw.tell
  rw [h.tellAt, h.opened]

theorem seen_flush {S : St} {v : Vw} (h : Seen S v) (h14 : S.flush.1 ≠ 14) : S.flush.1 = v.flush.1 ∧ Seen S.flush.2 v.flush.2 := by
  unfold St.flush Vw.flush at *
  rw [h.opened] at *
  by_cases ho : v.opened = false
  · rw [if_pos ho, if_pos ho]
    exact ⟨rfl, h⟩
  · rw [if_neg ho] at h14 ⊢
    rw [if_neg ho]
    obtain ⟨h1, h2, -⟩ := seen_move h h14
    exact ⟨h1, h2⟩

theorem seen_ungetc {S : St} {v : Vw} (h : Seen S v) (c : UInt8) (h14 : (S.ungetc c).1 ≠ 14) : (S.ungetc c).1 = (v.ungetc c).1 ∧ Seen (S.ungetc c).2 (v.ungetc c).2 := by
  have hok := ungetc_ok S h.ok c
  unfold St.ungetc Vw.ungetc at *
  rw [h.opened, h.rd] at *
  by_cases ho : v.opened = false
  · rw [if_pos ho, if_pos ho]; exact ⟨rfl, h⟩
  rw [if_neg ho] at h14 hok ⊢
  rw [if_neg ho]
  by_cases hr : v.rd = false
  · rw [if_pos hr, if_pos hr]; exact ⟨rfl, h⟩
  rw [if_neg hr] at h14 hok ⊢
  rw [if_neg hr]
  by_cases hm : S.move.2.1 ≠ 0
  · rw [if_pos hm] at h14
    exact absurd (seen_move h h14).1 hm
  rw [if_neg hm] at h14 hok ⊢
  obtain ⟨-, hs, hw⟩ := seen_move h (fun e => hm (by rw [e]; decide))
  rw [hs.back] at h14 hok ⊢
  by_cases hb : 16 ≤ v.back.length
  · rw [if_pos hb, if_pos hb]; exact ⟨rfl, hs⟩
  rw [if_neg hb] at hok ⊢
  rw [if_neg hb]
  exact ⟨rfl, hok, hs.pl, hs.data, hs.place, rfl, rfl, hs.opened, hs.rd, hs.wr, hs.app, hs.max, hs.bad, fun e => absurd hw e, (fun e => by cases e), hs.w3, hs.w4⟩

theorem seen_close {S : St} {v : Vw} (h : Seen S v) (h14 : S.close.1 ≠ 14) : S.close.1 = v.close.1 ∧ Seen S.close.2 v.close.2 := by
  have hok := close_ok S h.ok
  unfold St.close Vw.close at *
  rw [h.opened] at *
  by_cases ho : v.opened = false
  · rw [if_pos ho, if_pos ho]; exact ⟨rfl, h⟩
  rw [if_neg ho] at h14 hok ⊢
  rw [if_neg ho]
  obtain ⟨h1, hs, hw⟩ := seen_move h h14
  exact ⟨h1, hok, hs.pl, hs.data, hs.place, hs.back, rfl, rfl, hs.rd, hs.wr, hs.app, hs.max, rfl, hs.w1, (fun e => by cases e), hs.w3, hs.w4⟩
end Go.Proofs.Ytgihclflndlomaa
