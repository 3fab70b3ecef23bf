/- Read. -/
import Derived.Test.YtgihclflndlomaaV
namespace Go.Proofs.Ytgihclflndlomaa
open Go.RowKit Go.Shelf
attribute [local go_sem] Oper.semAt_some

theorem bytes_calls (w : World) (v : Option Addr) (n : Int) :
    Calls Try.prog 36 #[.pointer v, .int .i64 n] w fun e w' => e = .returned (.func (.func 59) #[] #[.pointer (some ⟨w.heap.size + 1, 0, none⟩), .pointer (some ⟨w.heap.size, 0, none⟩)]) ∧
      w' = (w.alloc (.cells #[.pointer v] 27)).alloc (.cells #[.int .i64 n] 3) := by
  have hmf : ∀ fn first cap w, (Instr.makeFunc fn first cap).run Try.prog w = .ok (.func fn first cap) w := fun _ _ _ _ => rfl
  go_enter Try.func36, Try.ntmps36
  go_wp2
  go_ret
  exact ⟨rfl, rfl⟩

/-- What Read comes to: the bytes lie apart from the stream. -/
def ReadPost (w : World) (own : Nat → Prop) (bs : Nat) (r : List UInt8 × Int × St) (e : Ending) (w' : World) : Prop :=
  ∃ a n c own' m', e = .returned (.tuple #[.slice a n c, .int .i64 r.2.1]) ∧ SAtM w' own' bs r.2.2 m' ∧ Fr w w' own own' ∧ Row 5 byteV w' (fun b => w.heap.size ≤ b ∧ ¬ own' b) (.slice a n c) r.1

theorem getc2_ok (S : St) (h : S.Ok) : S.getc2.2.2.Ok ∧ S.getc2.2.2.opened = S.opened ∧ S.getc2.2.2.rd = S.rd := by
  have h0 := h.pos0
  have h1 := h.size1
  have hm1 := h.pos1
  have hd := h.dlen
  have hw := h.wlen
  have next_ok : ∀ T : St, T.Ok → T.next.2.Ok := fun T hT => by
    have := hT.pos0
    exact ⟨hT.max0, hT.max1, hT.dlen, hT.size1, hT.size2, (by show ((T.ahead.tail).length : Int) ≤ T.pos; rw [List.length_tail]; omega), hT.pos1, hT.back16, hT.wlen⟩
  have fill_ok : S.fill.2.Ok ∧ S.fill.2.opened = S.opened ∧ S.fill.2.rd = S.rd := by
    unfold St.fill
    split
    · exact ⟨⟨h.max0, h.max1, h.dlen, h.size1, h.size2, h.pos0, h.pos1, h.back16, h.wlen⟩, rfl, rfl⟩
    · split
      · exact ⟨⟨h.max0, h.max1, h.dlen, h.size1, h.size2, h.pos0, h.pos1, h.back16, h.wlen⟩, rfl, rfl⟩
      · rename_i hn hk
        have hlt : S.pos < S.data.length := by omega
        have hp : 0 ≤ S.pos := by omega
        have hf := mayN_nonneg S.plan (min S.size ((S.data.length : Int) - S.pos)) (by omega)
        have hf2 : S.fillK ≤ (S.data.length : Int) - S.pos := by unfold St.fillK; omega
        have hf3 : 0 ≤ S.fillK := hf.1
        refine ⟨⟨h.max0, h.max1, h.dlen, h.size1, h.size2, ?_, ?_, h.back16, h.wlen⟩, rfl, rfl⟩
        · show (((S.data.drop S.pos.toNat).take S.fillK.toNat).length : Int) ≤ S.pos + S.fillK
          rw [List.length_take]
          omega
        · show S.pos + S.fillK ≤ S.max
          omega
  unfold St.getc2
  split
  · exact ⟨⟨h.max0, h.max1, h.dlen, h.size1, h.size2, h.pos0, h.pos1, (by show (S.back.dropLast).length ≤ 16; rw [List.length_dropLast]; have := h.back16; omega), h.wlen⟩, rfl, rfl⟩
  · split
    · exact ⟨next_ok S h, rfl, rfl⟩
    · split
      · exact fill_ok
      · exact ⟨next_ok _ fill_ok.1, fill_ok.2⟩

theorem getc_ok (S : St) (h : S.Ok) : S.getc.2.2.Ok ∧ S.getc.2.2.opened = S.opened ∧ S.getc.2.2.rd = S.rd := by
  obtain ⟨h1, h2, h3, -⟩ := move_ok S h
  unfold St.getc
  split
  · exact ⟨h, rfl, rfl⟩
  · split
    · exact ⟨h, rfl, rfl⟩
    · split
      · exact ⟨h1, h2, h3⟩
      · obtain ⟨a, b, c⟩ := getc2_ok _ h1
        exact ⟨a, b.trans h2, c.trans h3⟩

/-- Between two rounds of Read. -/
structure RdIn (w : World) (own : Nat → Prop) (bs N : Nat) (lp : Loop) (x : Int) (pre : List UInt8) (S : St) (W : World) (own' : Nat → Prop) (m' : Mem) (vout : Value) : Prop where
  sat : SAtM W own' bs S m'
  fr : Fr w W own own'
  new : ∀ k, own' k → own k ∨ w.heap.size + 6 ≤ k
  low : ∀ k, own k → k < w.heap.size
  out : W.heap[w.heap.size]? = some (.cells #[vout] 22 (0, 0))
  err : W.heap[w.heap.size + 1]? = some (.cells #[.int .i64 x] 28 (0, 0))
  bx : W.heap[w.heap.size + 2]? = some (.cells #[.pointer (some ⟨bs, 0, none⟩)] 27 (0, 0))
  bn : W.heap[w.heap.size + 3]? = some (.cells #[.int .i64 (N : Int)] 3 (0, 0))
  df : W.heap[w.heap.size + 4]? = some (.deferred (some []))
  lp : W.heap[w.heap.size + 5]? = some (.loop lp)
  row : Row 5 byteV W (fun b => w.heap.size + 6 ≤ b ∧ ¬ own' b) vout pre

section
variable {w : World} {own : Nat → Prop} {bs N : Nat} {lp : Loop} {x : Int} {pre : List UInt8} {S : St} {W : World} {own' : Nat → Prop} {m' : Mem} {vout : Value}

theorem RdIn.notOwn (h : RdIn w own bs N lp x pre S W own' m' vout) (k : Nat) (h1 : w.heap.size ≤ k) (h2 : k < w.heap.size + 6) : ¬ own' k := fun e =>
  (h.new k e).elim (fun e => by have := h.low k e; omega) (fun e => by omega)
theorem RdIn.big (h : RdIn w own bs N lp x pre S W own' m' vout) : w.heap.size + 6 ≤ W.heap.size := (Array.getElem?_eq_some_iff.1 h.lp).1

/-- The stream has done something. -/
theorem RdIn.step (h : RdIn w own bs N lp x pre S W own' m' vout) {W' : World} {own2 : Nat → Prop} {m2 : Mem} {S' : St} (hs : SAtM W' own2 bs S' m2) (hf : Fr W W' own' own2) :
    RdIn w own bs N lp x pre S' W' own2 m2 vout := by
  have hb := h.big
  have hk : ∀ k, w.heap.size ≤ k → k < w.heap.size + 6 → W'.heap[k]? = W.heap[k]? := fun k h1 h2 => hf.keep k (by omega) (h.notOwn k h1 h2)
  exact {
    sat := hs
    fr := h.fr.trans hf
    new := fun k hk => (hf.new k hk).elim (h.new k) (fun e => .inr (by omega))
    low := h.low
    out := (hk _ (by omega) (by omega)).trans h.out
    err := (hk _ (by omega) (by omega)).trans h.err
    bx := (hk _ (by omega) (by omega)).trans h.bx
    bn := (hk _ (by omega) (by omega)).trans h.bn
    df := (hk _ (by omega) (by omega)).trans h.df
    lp := (hk _ (by omega) (by omega)).trans h.lp
    row := h.row.keep (fun b hb hl => hf.keep b hl hb.2) (fun b hb hl => ⟨hb.1, fun e => (hf.new b e).elim hb.2 (fun e => by omega)⟩) }

/-- The loop's record has turned. -/
theorem RdIn.putLoop (h : RdIn w own bs N lp x pre S W own' m' vout) (lp2 : Loop) :
    RdIn w own bs N lp2 x pre S (W.putObj (w.heap.size + 5) (.loop lp2)) own' m' vout := by
  have hb := h.big
  have ho : ∀ k, k ≠ w.heap.size + 5 → (W.putObj (w.heap.size + 5) (.loop lp2)).heap[k]? = W.heap[k]? := fun k hk => World.putObj_heap_other hk
  have hn := h.notOwn (w.heap.size + 5) (by omega) (by omega)
  have hsz : (W.putObj (w.heap.size + 5) (.loop lp2)).heap.size = W.heap.size := by simp
  exact {
    sat := h.sat.keep (by omega) (fun b hb => ho b (fun e => hn (e ▸ hb)))
    fr := ⟨h.fr.os, h.fr.tape, h.fr.output, by rw [hsz]; exact h.fr.size, fun k hk hno => (ho k (by omega)).trans (h.fr.keep k hk hno), h.fr.new⟩
    new := h.new
    low := h.low
    out := (ho _ (by omega)).trans h.out
    err := (ho _ (by omega)).trans h.err
    bx := (ho _ (by omega)).trans h.bx
    bn := (ho _ (by omega)).trans h.bn
    df := (ho _ (by omega)).trans h.df
    lp := World.putObj_heap_same (by omega)
    row := h.row.keep (fun b hb _ => ho b (by omega)) (fun b hb _ => hb) }

/-- The two result cells are written, other new memory has turned. -/
theorem RdIn.write (h : RdIn w own bs N lp x pre S W own' m' vout) {W2 : World} {p : Nat → Prop} (ht : Tw W W2 p) (hp : ∀ k, p k → w.heap.size + 6 ≤ k ∧ ¬ own' k) (v : Value) (x2 : Int) (l2 : List UInt8) (hrow : Row 5 byteV W2 (fun b => w.heap.size + 6 ≤ b ∧ ¬ own' b) v l2) :
    RdIn w own bs N lp x2 l2 S ((W2.setCell ⟨w.heap.size, 0, none⟩ v).setCell ⟨w.heap.size + 1, 0, none⟩ (.int .i64 x2)) own' m' v := by
  have hb := h.big
  have ho : ∀ k, k ≠ w.heap.size → k ≠ w.heap.size + 1 → ((W2.setCell ⟨w.heap.size, 0, none⟩ v).setCell ⟨w.heap.size + 1, 0, none⟩ (.int .i64 x2)).heap[k]? = W2.heap[k]? := fun k h1 h2 =>
    (Below.heap_setCell _ _ _ _ h2).trans (Below.heap_setCell _ _ _ _ h1)
  have h2 : ∀ k, k < W.heap.size → ¬ p k → W2.heap[k]? = W.heap[k]? := ht.keep
  have hlow : ∀ k, w.heap.size ≤ k → k < w.heap.size + 6 → W2.heap[k]? = W.heap[k]? := fun k h1 h3 => h2 k (by omega) (fun e => by have := (hp k e).1; omega)
  have hno : ∀ k, own' k → k ≠ w.heap.size ∧ k ≠ w.heap.size + 1 := fun k hk => ⟨fun e => h.notOwn _ (Nat.le_refl _) (by omega) (e ▸ hk), fun e => h.notOwn (w.heap.size + 1) (by omega) (by omega) (e ▸ hk)⟩
  have hs2 : ((W2.setCell ⟨w.heap.size, 0, none⟩ v).setCell ⟨w.heap.size + 1, 0, none⟩ (.int .i64 x2)).heap.size = W2.heap.size := by simp
  have hts := ht.size
  exact {
    sat := h.sat.keep (by rw [hs2]; exact ht.size) (fun b hb => (ho b (hno b hb).1 (hno b hb).2).trans (h2 b (h.sat.lt b hb) (fun e => (hp b e).2 hb)))
    fr := ⟨ht.os.trans h.fr.os, ht.tape.trans h.fr.tape, ht.output.trans h.fr.output, by rw [hs2]; have := h.fr.size; omega,
      fun k hk hno => ((ho k (by omega) (by omega)).trans (h2 k (by omega) (fun e => by have := (hp k e).1; omega))).trans (h.fr.keep k hk hno), h.fr.new⟩
    new := h.new
    low := h.low
    out := by
      rw [Below.heap_setCell _ _ _ _ (by show w.heap.size ≠ w.heap.size + 1; omega)]
      exact heap_setCell_same W2 w.heap.size 0 _ _ v ((hlow _ (by omega) (by omega)).trans h.out)
    err := heap_setCell_same _ (w.heap.size + 1) 0 _ _ (.int .i64 x2) ((Below.heap_setCell _ _ _ _ (by show w.heap.size + 1 ≠ w.heap.size; omega)).trans ((hlow _ (by omega) (by omega)).trans h.err))
    bx := (ho _ (by omega) (by omega)).trans ((hlow _ (by omega) (by omega)).trans h.bx)
    bn := (ho _ (by omega) (by omega)).trans ((hlow _ (by omega) (by omega)).trans h.bn)
    df := (ho _ (by omega) (by omega)).trans ((hlow _ (by omega) (by omega)).trans h.df)
    lp := (ho _ (by omega) (by omega)).trans ((hlow _ (by omega) (by omega)).trans h.lp)
    row := hrow.keep (fun b hb _ => ho b (by omega) (by omega)) (fun b hb _ => hb) }
/-- The loop's mark is taken up. -/
theorem RdIn.last (h : RdIn w own bs N lp x pre S W own' m' vout) :
    SAtM (W.putObj (w.heap.size + 4) (.deferred none)) own' bs S m' ∧ Fr w (W.putObj (w.heap.size + 4) (.deferred none)) own own' ∧
    Row 5 byteV (W.putObj (w.heap.size + 4) (.deferred none)) (fun b => w.heap.size ≤ b ∧ ¬ own' b) vout pre ∧
    (W.putObj (w.heap.size + 4) (.deferred none)).cell? ⟨w.heap.size, 0, none⟩ = some vout ∧ (W.putObj (w.heap.size + 4) (.deferred none)).cell? ⟨w.heap.size + 1, 0, none⟩ = some (.int .i64 x) := by
  have hb := h.big
  have ho : ∀ k, k ≠ w.heap.size + 4 → (W.putObj (w.heap.size + 4) (.deferred none)).heap[k]? = W.heap[k]? := fun k hk => World.putObj_heap_other hk
  have hn := h.notOwn (w.heap.size + 4) (by omega) (by omega)
  have hsz : (W.putObj (w.heap.size + 4) (.deferred none)).heap.size = W.heap.size := by simp
  exact ⟨h.sat.keep (by omega) (fun b hb => ho b (fun e => hn (e ▸ hb))),
    ⟨h.fr.os, h.fr.tape, h.fr.output, by rw [hsz]; exact h.fr.size, fun k hk hno => (ho k (by omega)).trans (h.fr.keep k hk hno), h.fr.new⟩,
    h.row.keep (fun b hb _ => ho b (by omega)) (fun b hb _ => ⟨by omega, hb.2⟩),
    cell_of_row _ _ 0 _ _ _ ((ho _ (by omega)).trans h.out), cell_of_row _ _ 0 _ _ _ ((ho _ (by omega)).trans h.err)⟩
end

end Go.Proofs.Ytgihclflndlomaa
