/- Read, Seek, Clear, as they are seen without the buffer. -/
import Derived.Test.YtgihclflndlomaaDc
namespace Go.Proofs.Ytgihclflndlomaa

def Vw.readN : Nat → Vw → List UInt8 × Int × Vw
  | 0, v => ([], 0, v)
  | n + 1, v =>
    if v.getc.2.1 ≠ 0 then ([], v.getc.2.1, v.getc.2.2)
    else (v.getc.1 :: (Vw.readN n v.getc.2.2).1, (Vw.readN n v.getc.2.2).2.1, (Vw.readN n v.getc.2.2).2.2)

def Vw.read (v : Vw) (n : Int) : List UInt8 × Int × Vw :=
  if v.opened = false then ([], 4, v)
  else if n < 0 ∨ 1048576 < n then ([], 1, v)
  else if v.rd = false then ([], 4, v)
  else v.readN n.toNat

theorem seen_readN (n : Nat) : ∀ {S : St} {v : Vw}, Seen S v → (S.readN n).2.1 ≠ 14 → (S.readN n).1 = (v.readN n).1 ∧ (S.readN n).2.1 = (v.readN n).2.1 ∧ Seen (S.readN n).2.2 (v.readN n).2.2 := by
  induction n with
  | zero => exact fun h _ => ⟨rfl, rfl, h⟩
  | succ n ih =>
    intro S v h h14
    rw [St.readN] at h14 ⊢
    rw [Vw.readN]
    by_cases he : S.getc.2.1 ≠ 0
    · rw [if_pos he] at h14 ⊢
      obtain ⟨h1, h2, h3⟩ := seen_getc h h14
      rw [if_pos (by rw [← h2]; exact he)]
      exact ⟨rfl, h2, h3⟩
    · rw [if_neg he] at h14 ⊢
      obtain ⟨h1, h2, h3⟩ := seen_getc h (fun e => he (by rw [e]; decide))
      rw [if_neg (by rw [← h2]; exact he)]
      obtain ⟨k1, k2, k3⟩ := ih h3 h14
      exact ⟨by rw [h1, k1], k2, k3⟩

theorem seen_read {S : St} {v : Vw} (h : Seen S v) (n : Int) (h14 : (S.read n).2.1 ≠ 14) : (S.read n).1 = (v.read n).1 ∧ (S.read n).2.1 = (v.read n).2.1 ∧ Seen (S.read n).2.2 (v.read n).2.2 := by
  unfold St.read Vw.read at *
  rw [h.opened, h.rd] at *
  by_cases ho : v.opened = false
  · rw [if_pos ho, if_pos ho]; exact ⟨rfl, rfl, h⟩
  rw [if_neg ho] at h14 ⊢
  rw [if_neg ho]
  by_cases hn : n < 0 ∨ 1048576 < n
  · rw [if_pos hn, if_pos hn]; exact ⟨rfl, rfl, h⟩
  rw [if_neg hn] at h14 ⊢
  rw [if_neg hn]
  by_cases hr : v.rd = false
  · rw [if_pos hr, if_pos hr]; exact ⟨rfl, rfl, h⟩
  rw [if_neg hr] at h14 ⊢
  rw [if_neg hr]
  exact seen_readN _ h h14

def Vw.seekFrom (v : Vw) (off from_ : Int) : Int × Vw :=
  if off < -1048576 ∨ 1048576 < off ∨ from_ + off < 0 ∨ v.max < from_ + off then (3, v) else (0, { v with place := from_ + off, back := [], endm := false })

def Vw.seek (v : Vw) (off whence : Int) : Int × Vw :=
  if v.opened = false then (4, v)
  else if whence = 0 then v.seekFrom off 0
  else if whence = 1 then (if v.tellAt < 0 then (4, v) else v.seekFrom off v.tellAt)
  else if whence = 2 then v.seekFrom off v.data.length
  else (1, v)

def Vw.clear (v : Vw) : Vw := { v with endm := false }

theorem seen_clear {S : St} {v : Vw} (h : Seen S v) : Seen S.clear v.clear :=
  ⟨clear_ok S h.ok, h.pl, h.data, h.place, h.back, rfl, h.opened, h.rd, h.wr, h.app, h.max, rfl, h.w1, (fun e => by cases e), h.w3, h.w4⟩

theorem seen_seekFrom {U : St} {v : Vw} (h : Seen U v) (hw : U.wait = []) (off p : Int) : (U.seekFrom off p).1 = (v.seekFrom off p).1 ∧ Seen (U.seekFrom off p).2 (v.seekFrom off p).2 := by
  have hok := seekFrom_ok U h.ok off p
  have hd := h.data
  rw [hw] at hd
  unfold St.seekFrom Vw.seekFrom at *
  rw [h.max] at *
  by_cases hc : off < -1048576 ∨ 1048576 < off ∨ p + off < 0 ∨ v.max < p + off
  · rw [if_pos hc, if_pos hc]; exact ⟨rfl, h⟩
  rw [if_neg hc] at hok ⊢
  rw [if_neg hc]
  refine ⟨rfl, hok, h.pl, ?_, ?_, rfl, rfl, h.opened, h.rd, h.wr, h.app, h.max, h.bad, fun e => absurd hw e, (fun e => by cases e), rfl, fun _ e => absurd hw e⟩
  · show putted U.data _ U.wait = _
    rw [hw]
    exact hd
  · show p + off + (U.wait.length : Int) - (([] : List UInt8).length : Int) = p + off
    rw [hw]
    simp

theorem seen_seek {S : St} {v : Vw} (h : Seen S v) (off wh : Int) (h14 : (S.seek off wh).1 ≠ 14) : (S.seek off wh).1 = (v.seek off wh).1 ∧ Seen (S.seek off wh).2 (v.seek off wh).2 := by
  unfold St.seek Vw.seek at *
  rw [h.opened] at *
  by_cases ho : v.opened = false
  · rw [if_pos ho, if_pos ho]; exact ⟨rfl, h⟩
  rw [if_neg ho] at h14 ⊢
  rw [if_neg ho]
  by_cases hm : S.move.2.1 ≠ 0
  · rw [if_pos hm] at h14
    exact absurd (seen_move h h14).1 hm
  rw [if_neg hm] at h14 ⊢
  obtain ⟨-, hs, hw⟩ := seen_move h (fun e => hm (by rw [e]; decide))
  generalize S.move.2.2 = U at *
  have hdat : U.data = v.data := by have := hs.data; rw [hw] at this; exact this
  by_cases h0 : wh = 0
  · rw [if_pos h0, if_pos h0]; exact seen_seekFrom hs hw _ _
  rw [if_neg h0, if_neg h0]
  by_cases h1 : wh = 1
  · rw [if_pos h1, if_pos h1, hs.tellAt]
    by_cases ht : v.tellAt < 0
    · rw [if_pos ht, if_pos ht]; exact ⟨rfl, hs⟩
    · rw [if_neg ht, if_neg ht]; exact seen_seekFrom hs hw _ _
  rw [if_neg h1, if_neg h1]
  by_cases h2 : wh = 2
  · rw [if_pos h2, if_pos h2, hdat]; exact seen_seekFrom hs hw _ _
  rw [if_neg h2, if_neg h2]
  exact ⟨rfl, hs⟩
end Go.Proofs.Ytgihclflndlomaa
