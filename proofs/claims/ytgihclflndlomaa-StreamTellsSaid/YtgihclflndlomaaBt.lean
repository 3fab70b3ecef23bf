/- Tell, put back and seek on a stream without a plan, in plain Lean. -/
import Derived.Test.YtgihclflndlomaaBa
namespace Go.Proofs.Ytgihclflndlomaa

theorem St.Still.tell {S : St} (h : S.Still) : S.tell = if S.tellAt < 0 then (0, 4) else (S.tellAt, 0) := by
  unfold St.tell
  rw [if_neg (by rw [h.op]; decide)]

theorem ungetc_keep (S : St) (h : S.Still) (c : UInt8) : (S.ungetc c).2.Still ∧ ((S.ungetc c).1 = 0 → (S.ungetc c).2.tellAt = S.tellAt - 1) := by
  have hok := ungetc_ok S h.ok c
  by_cases hb : S.back.length < 16
  · rw [ungetc_still S h c hb] at hok ⊢
    refine ⟨⟨hok, h.op, h.rd, h.wt, h.pl⟩, fun _ => ?_⟩
    show S.pos + S.wait.length - S.ahead.length - (S.back ++ [c]).length = S.pos + S.wait.length - S.ahead.length - S.back.length - 1
    simp; omega
  · have : S.ungetc c = (2, S) := by
      unfold St.ungetc
      rw [h.move, if_neg (by rw [h.op]; decide), if_neg (by rw [h.rd]; decide), if_neg e00, if_pos (show 16 ≤ S.back.length by omega)]
    rw [this]
    exact ⟨h, fun e => by cases e⟩

theorem seekFrom_keep (S : St) (h : S.Still) (off p : Int) : (S.seekFrom off p).2.Still := by
  have hok := seekFrom_ok S h.ok off p
  unfold St.seekFrom at hok ⊢
  split
  · exact h
  · rename_i hc
    rw [if_neg hc] at hok
    exact ⟨hok, h.op, h.rd, h.wt, h.pl⟩

theorem St.Still.seek {S : St} (h : S.Still) (off wh : Int) : S.seek off wh =
    if wh = 0 then S.seekFrom off 0 else if wh = 1 then (if S.tellAt < 0 then (4, S) else S.seekFrom off S.tellAt) else if wh = 2 then S.seekFrom off S.data.length else (1, S) := by
  unfold St.seek
  rw [h.move, if_neg (by rw [h.op]; decide), if_neg e00]

theorem seek_keep (S : St) (h : S.Still) (off wh : Int) : (S.seek off wh).2.Still := by
  rw [h.seek]
  split
  · exact seekFrom_keep S h _ _
  · split
    · split
      · exact h
      · exact seekFrom_keep S h _ _
    · split
      · exact seekFrom_keep S h _ _
      · exact h

/-- What the law asks of a call. -/
def TellRel (S : St) (x : Ac) : Prop :=
  (S.act x).2.Still ∧ (x.kind = 0 → (S.act x).1.e = 0 → (S.act x).2.tellAt = S.tellAt + 1) ∧ (x.kind = 1 → (S.act x).1.e = 0 → (S.act x).2.tellAt = S.tellAt - 1)

theorem tellRel (S : St) (h : S.Still) (x : Ac) (hk : x.kind = 0 ∨ x.kind = 1 ∨ x.kind = 5) : TellRel S x := by
  unfold TellRel St.act
  rcases hk with hk | hk | hk
  · rw [if_pos hk]
    have hg := getc_still S h
    exact ⟨hg.still, fun _ he => hg.tell he, fun e => by omega⟩
  · rw [if_neg (by omega), if_pos hk]
    have hg := ungetc_keep S h (byteOf x.n)
    exact ⟨hg.1, fun e => by omega, fun _ he => hg.2 he⟩
  · rw [if_neg (by omega), if_neg (by omega), if_neg (by omega), if_neg (by omega), if_neg (by omega), if_pos hk]
    exact ⟨seek_keep S h _ _, fun e => by omega, fun e => by omega⟩

/-- Seeking to a place that is in reach. -/
theorem seekFrom_in (S : St) (off p : Int) (h0 : 0 ≤ p + off) (h1 : p + off ≤ S.max) (h2 : -1048576 ≤ off) (h3 : off ≤ 1048576) : S.seekFrom off p = (0, S.seekTo (p + off)) := by
  unfold St.seekFrom
  rw [if_neg (by omega)]

/-- Back to where Tell was. -/
theorem tells_back (S : St) (h : S.Still) (ht : 0 ≤ S.tellAt) : ∃ S1 r, S.seek 0 1 = (0, S1) ∧ S1.Ok ∧ S1.read 50 = r ∧ r.2.2.Ok ∧ r.2.2.seek S.tellAt 0 = (0, S1) := by
  have hle : S.tellAt ≤ S.pos := by unfold St.tellAt; rw [h.wt]; simp; omega
  have hp1 := h.ok.pos1
  have hm1 := h.ok.max1
  have hs1 : S.seek 0 1 = (0, S.seekTo S.tellAt) := by
    rw [h.seek, if_neg (by decide), if_pos rfl, if_neg (by omega), seekFrom_in S 0 S.tellAt (by omega) (by omega) (by decide) (by decide), Int.add_zero]
  have hst1 : (S.seekTo S.tellAt).Still := by
    have := seek_keep S h 0 1
    rw [hs1] at this
    exact this
  refine ⟨_, _, hs1, hst1.ok, rfl, read_ok _ hst1.ok 50, ?_⟩
  have hr := readN_core 50 (S.seekTo S.tellAt) hst1
  rw [read_still _ hst1 50 (by decide) (by decide)]
  have hc : (S.seekTo S.tellAt).Core ((S.seekTo S.tellAt).readN (50 : Int).toNat).2.2 := hr.1
  have hst2 : ((S.seekTo S.tellAt).readN (50 : Int).toNat).2.2.Still := hr.2
  have hmx : ((S.seekTo S.tellAt).readN (50 : Int).toNat).2.2.max = S.max := hc.max
  rw [hst2.seek, if_pos rfl, seekFrom_in _ _ _ (by omega) (by rw [hmx]; omega) (by omega) (by omega), Int.zero_add, hc.seek]
  rfl

end Go.Proofs.Ytgihclflndlomaa
