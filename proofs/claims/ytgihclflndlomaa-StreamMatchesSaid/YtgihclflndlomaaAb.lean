/- Every call keeps what every state fulfils. -/
import Derived.Test.YtgihclflndlomaaZ
import Derived.Test.YtgihclflndlomaaR
namespace Go.Proofs.Ytgihclflndlomaa

theorem ungetc_ok (S : St) (h : S.Ok) (c : UInt8) : (S.ungetc c).2.Ok := by
  have h1 := (move_ok S h).1
  unfold St.ungetc
  split
  · exact h
  · split
    · exact h
    · split
      · exact h1
      · split
        · exact h1
        · rename_i hb
          exact ⟨h1.max0, h1.max1, h1.dlen, h1.size1, h1.size2, h1.pos0, h1.pos1, (by show (S.move.2.2.back ++ [c]).length ≤ 16; rw [List.length_append]; simp; omega), h1.wlen⟩

theorem readN_ok (n : Nat) : ∀ S : St, S.Ok → (S.readN n).2.2.Ok := by
  induction n with
  | zero => exact fun S h => h
  | succ n ih =>
    intro S h
    have h1 := (getc_ok S h).1
    rw [St.readN]
    split
    · exact h1
    · exact ih _ h1

theorem read_ok (S : St) (h : S.Ok) (n : Int) : (S.read n).2.2.Ok := by
  unfold St.read
  split
  · exact h
  · split
    · exact h
    · split
      · exact h
      · exact readN_ok _ S h

theorem write_ok (S : St) (h : S.Ok) (b : List UInt8) : (S.write b).2.2.Ok := by
  unfold St.write
  split
  · exact h
  · split
    · exact h
    · split
      · exact h
      · rename_i hl
        have hf := laid_fit S h b (by omega)
        split
        · rename_i hc
          exact ⟨h.max0, h.max1, h.dlen, h.size1, h.size2, hf.pos0, hf.pos1, (Nat.zero_le _), hc.1⟩
        · show (S.laid b).move.2.2.Ok
          by_cases hw : (S.laid b).wait = []
          · have hm : (S.laid b).move = (0, 0, S.laid b) := by unfold St.move; rw [if_pos hw]
            rw [hm]
            exact ⟨h.max0, h.max1, h.dlen, h.size1, h.size2, hf.pos0, hf.pos1, (Nat.zero_le _), (by show ((S.laid b).wait.length : Int) < S.size; rw [hw]; have := h.size1; simp; omega)⟩
          · have hm : (S.laid b).move = ((S.laid b).moveK, if (S.laid b).moveK < (S.laid b).wait.length then 14 else 0, (S.laid b).moved) := by unfold St.move; rw [if_neg hw]
            rw [hm]
            have hb := moveK_bd (S.laid b) hf.pos1
            have h0 := hf.pos0
            refine ⟨h.max0, h.max1, ?_, h.size1, h.size2, ?_, ?_, (Nat.zero_le _), ?_⟩
            · show (((if 0 < (S.laid b).moveK then putAt (S.laid b).data (S.laid b).pos.toNat ((S.laid b).wait.take (S.laid b).moveK.toNat) else (S.laid b).data) : List UInt8).length : Int) ≤ (S.laid b).max
              split
              · rw [putAt_length, List.length_take]
                have hd := hf.dlen
                have : (S.laid b).pos.toNat + min (S.laid b).moveK.toNat (S.laid b).wait.length ≤ (S.laid b).max.toNat := by omega
                have h9 : (S.laid b).data.length.max ((S.laid b).pos.toNat + min (S.laid b).moveK.toNat (S.laid b).wait.length) ≤ (S.laid b).max.toNat := Nat.max_le.2 ⟨by omega, this⟩
                have := hf.max0
                omega
              · exact hf.dlen
            · show (([] : List UInt8).length : Int) ≤ (S.laid b).pos + (S.laid b).moveK
              simp; omega
            · exact hb.2.2
            · show (([] : List UInt8).length : Int) < S.size
              have := h.size1
              simp; omega

theorem flush_ok' (S : St) (h : S.Ok) : S.flush.2.Ok := by
  unfold St.flush
  split
  · exact h
  · exact (move_ok S h).1

theorem close_ok (S : St) (h : S.Ok) : S.close.2.Ok := by
  have h1 := (move_ok S h).1
  unfold St.close
  split
  · exact h
  · exact ⟨h1.max0, h1.max1, h1.dlen, h1.size1, h1.size2, h1.pos0, h1.pos1, h1.back16, h1.wlen⟩

theorem clear_ok (S : St) (h : S.Ok) : S.clear.Ok := ⟨h.max0, h.max1, h.dlen, h.size1, h.size2, h.pos0, h.pos1, h.back16, h.wlen⟩

theorem seekFrom_ok (S : St) (h : S.Ok) (off from_ : Int) : (S.seekFrom off from_).2.Ok := by
  unfold St.seekFrom
  split
  · exact h
  · rename_i hc
    exact ⟨h.max0, h.max1, h.dlen, h.size1, h.size2, (by show (([] : List UInt8).length : Int) ≤ from_ + off; simp; omega), (by show from_ + off ≤ S.max; omega), (Nat.zero_le _), h.wlen⟩

theorem seek_ok (S : St) (h : S.Ok) (off whence : Int) : (S.seek off whence).2.Ok := by
  have h1 := (move_ok S h).1
  unfold St.seek
  split
  · exact h
  · split
    · exact h1
    · split
      · exact seekFrom_ok _ h1 _ _
      · split
        · split
          · exact h1
          · exact seekFrom_ok _ h1 _ _
        · split
          · exact seekFrom_ok _ h1 _ _
          · exact h1
end Go.Proofs.Ytgihclflndlomaa
