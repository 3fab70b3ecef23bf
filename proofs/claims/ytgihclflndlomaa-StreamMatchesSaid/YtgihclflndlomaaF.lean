/- The door of the functions that defer 'caught'; Getc. -/
import Derived.Test.YtgihclflndlomaaH
import Derived.StillTailTactics
namespace Go.Proofs.Ytgihclflndlomaa
open Go.RowKit

theorem door_ok {fn : Func} {tmps : Array Value} {R : Ending → World → Prop} {eb : Nat} {w : World} {v : Value}
    (hr : (results fn tmps).run Try.prog w = .ok v w) (h : R (.returned v) w) :
    Leaves Try.prog fn tmps R [{ target := .fn (.func 33) #[], args := #[.pointer (some ⟨eb, 0, none⟩)] }] .returning w := by
  refine leaves_cons (f := 33) (args := #[.pointer (some ⟨eb, 0, none⟩)]) (by simp) (by simp [go_sem]) ?_
  refine (caught_idle ⟨eb, 0, none⟩ w).mono ?_
  rintro e u' w'' ⟨rfl, rfl, rfl⟩
  exact ⟨v, hr, h⟩

/-- The world behind a panic that 'caught' has taken. -/
def caughtW (w : World) (eb : Nat) (x : Int) : World := (w.alloc (.cells #[.int .i64 x] 96)).setCell ⟨eb, 0, none⟩ (.int .i64 x)

theorem door_err {fn : Func} {tmps : Array Value} {R : Ending → World → Prop} {eb : Nat} {w : World} {v : Value} {x y : Int} (hb : eb < w.heap.size)
    (hc : w.cell? ⟨eb, 0, none⟩ = some (.int .i64 y)) (hz : w.frozen? ⟨eb, 0, none⟩ = false)
    (hr : (results fn tmps).run Try.prog (caughtW w eb x) = .ok v (caughtW w eb x)) (h : R (.returned v) (caughtW w eb x)) :
    Leaves Try.prog fn tmps R [{ target := .fn (.func 33) #[], args := #[.pointer (some ⟨eb, 0, none⟩)] }] (.panicking (pe x)) w := by
  refine leaves_cons (f := 33) (args := #[.pointer (some ⟨eb, 0, none⟩)]) (by simp) (by simp [go_sem]) ?_
  refine (caught_err eb y x w hb hc hz).mono ?_
  rintro e u' w'' ⟨rfl, rfl, rfl⟩
  exact ⟨v, hr, h⟩

theorem caughtW_cell {w : World} {eb : Nat} {y x : Int} (hc : w.cell? ⟨eb, 0, none⟩ = some (.int .i64 y)) : (caughtW w eb x).cell? ⟨eb, 0, none⟩ = some (.int .i64 x) := by
  have hlt : eb < w.heap.size := World.block_lt_of_cell? w ⟨eb, 0, none⟩ hc
  exact World.cell?_setCell_same _ _ _ ((World.cell?_alloc_lt w _ ⟨eb, 0, none⟩ hlt).trans hc)

/-- The caller's own variables are written; the stream stays. -/
theorem SAt'.outer {w w0 w1 W : World} {own : Nat → Prop} {bs : Nat} {S : St} (h : SAt' w0 w1 own bs S) (hlt : ∀ k, own k → k < w.heap.size) (h0 : Below w.heap.size w w0)
    (hW : Tw w1 W (fun k => w.heap.size ≤ k ∧ k < w0.heap.size ∨ w1.heap.size ≤ k)) : SAt' w W own bs S := by
  obtain ⟨own', m', hs, hf⟩ := h
  have hno : ∀ b, own' b → ¬ (w.heap.size ≤ b ∧ b < w0.heap.size ∨ w1.heap.size ≤ b) := fun b hb hn => by
    have h1 := hs.lt b hb
    rcases hn with ⟨h2, h3⟩ | h2
    · rcases hf.new b hb with h4 | h4
      · have := hlt b h4; omega
      · omega
    · omega
  refine ⟨own', m', hs.keep hW.size (fun b hb => hW.keep b (hs.lt b hb) (hno b hb)), ?_⟩
  have hsz := hf.size
  have hsz0 := h0.size
  exact {
    os := hW.os.trans (hf.os.trans h0.os)
    tape := hW.tape.trans (hf.tape.trans h0.tape)
    output := hW.output.trans (hf.output.trans h0.output)
    size := Nat.le_trans hsz0 (Nat.le_trans hsz hW.size)
    keep := fun k hk ho => (hW.keep k (by omega) (fun e => by omega)).trans ((hf.keep k (by omega) ho).trans (h0.block k hk))
    new := fun k hk => (hf.new k hk).imp id (fun e => by omega) }

theorem Tw.caughtW {w1 : World} {p : Nat → Prop} {eb : Nat} {x : Int} (he : p eb) : Tw w1 (caughtW w1 eb x) p :=
  ⟨rfl, rfl, rfl, by simp [Ytgihclflndlomaa.caughtW], fun k hk hn => (Below.heap_setCell _ _ _ _ (fun e => hn (by rw [e]; exact he))).trans (Below.heap_alloc _ _ _ hk)⟩
theorem Tw.setCell {w1 : World} {p : Nat → Prop} {a : Addr} {v : Value} (he : p a.block) : Tw w1 (w1.setCell a v) p :=
  ⟨rfl, rfl, rfl, by simp, fun k hk hn => Below.heap_setCell _ _ _ _ (fun e => hn (by rw [e]; exact he))⟩
theorem Tw.drewN {w1 w2 : World} {p : Nat → Prop} (h : Tw w1 w2 p) (n : Nat) : Tw w1 (w2.drewN n) p := ⟨h.os, h.tape, h.output, h.size, h.keep⟩

/-- A block of the caller's is as it was behind a stream's call. -/
theorem SAt'.mine {w0 w1 : World} {own : Nat → Prop} {bs : Nat} {S : St} (h : SAt' w0 w1 own bs S) {k : Nat} (hk : k < w0.heap.size) (hn : ¬ own k) : w1.heap[k]? = w0.heap[k]? ∧ k < w1.heap.size := by
  obtain ⟨own', m', hs, hf⟩ := h
  exact ⟨hf.keep k hk hn, Nat.lt_of_lt_of_le hk hf.size⟩

/-- What a call of Getc comes to. -/
def GetcPost (w : World) (own : Nat → Prop) (bs : Nat) (r : UInt8 × Int × St) (e : Ending) (w' : World) : Prop :=
  e = .returned (.tuple #[byteV r.1, .int .i64 r.2.1]) ∧ SAt' w w' own bs r.2.2

theorem getc_closed {w : World} {own : Nat → Prop} {bs : Nat} {S : St} {m : Mem} (h : SAtM w own bs S m) (ho : S.opened = false) :
    Calls Try.prog 45 #[.pointer (some ⟨bs, 0, none⟩)] w (GetcPost w own bs (0, 4, S)) := by
  have c8 : (w.alloc (.cells #[.int .i64 0] 28)).cell? ⟨bs, 8, none⟩ = some (.bool false) := by rw [(h.alloc _).c]; simp [Mem.stream, ho]
  have h0 : SAt' (w.alloc (.cells #[.int .i64 0] 28)) (w.alloc (.cells #[.int .i64 0] 28)) own bs S := ⟨own, m, h.alloc _, Fr.refl _ _⟩
  have hb : w.heap.size < (w.alloc (.cells #[.int .i64 0] 28)).heap.size := by simp
  have hfin := Lib.hid (h0.outer h.lt ((Below.refl _ w).alloc (Nat.le_refl _) _) (Tw.caughtW (x := 4) (.inl ⟨Nat.le_refl _, hb⟩)))
  have hce : (w.alloc (.cells #[.int .i64 0] 28)).cell? ⟨w.heap.size, 0, none⟩ = some (.int .i64 0) := World.cell?_alloc_new w _ _ _
  have hcc := caughtW_cell (x := 4) hce
  clear ho h0
  go_enter_defers Try.func45, Try.ntmps45
  go_wp2_with (go_at_call 34; refine (use_closed _ _ c8).mono ?_; rintro r w' ⟨rfl, rfl⟩)
  refine door_err (y := 0) (v := .tuple #[.int .u8 0, .int .i64 4]) hb hce (World.frozen?_alloc_new w _ _ _) ?_ ⟨rfl, hfin.out⟩
  simp [results, Try.results45, go_sem, hcc]

theorem getc_unread {w : World} {own : Nat → Prop} {bs : Nat} {S : St} {m : Mem} (h : SAtM w own bs S m) (ho : S.opened = true) (hr : S.rd = false) :
    Calls Try.prog 45 #[.pointer (some ⟨bs, 0, none⟩)] w (GetcPost w own bs (0, 4, S)) := by
  have c8 : (w.alloc (.cells #[.int .i64 0] 28)).cell? ⟨bs, 8, none⟩ = some (.bool true) := by rw [(h.alloc _).c]; simp [Mem.stream, ho]
  have c3 : (w.alloc (.cells #[.int .i64 0] 28)).cell? ⟨bs, 3, none⟩ = some (.bool false) := by rw [(h.alloc _).c]; simp [Mem.stream, hr]
  have h0 : SAt' (w.alloc (.cells #[.int .i64 0] 28)) (w.alloc (.cells #[.int .i64 0] 28)) own bs S := ⟨own, m, h.alloc _, Fr.refl _ _⟩
  have hb : w.heap.size < (w.alloc (.cells #[.int .i64 0] 28)).heap.size := by simp
  have hfin := Lib.hid (h0.outer h.lt ((Below.refl _ w).alloc (Nat.le_refl _) _) (Tw.caughtW (x := 4) (.inl ⟨Nat.le_refl _, hb⟩)))
  have hce : (w.alloc (.cells #[.int .i64 0] 28)).cell? ⟨w.heap.size, 0, none⟩ = some (.int .i64 0) := World.cell?_alloc_new w _ _ _
  have hcc := caughtW_cell (x := 4) hce
  clear ho h0 hr
  go_enter_defers Try.func45, Try.ntmps45
  go_wp2_with (first | (go_at_call 34; refine (use_open _ _ c8).mono ?_; rintro r w' ⟨rfl, rfl⟩) | (go_at_call 35; refine (want_bad _ 4 _ rfl rfl).mono ?_; rintro r w' ⟨rfl, rfl⟩))
  refine door_err (y := 0) (v := .tuple #[.int .u8 0, .int .i64 4]) hb hce (World.frozen?_alloc_new w _ _ _) ?_ ⟨rfl, hfin.out⟩
  simp [results, Try.results45, go_sem, hcc]

/-- The caller's new cell behind a stream's call. -/
theorem SAt'.cellMine {w w1 : World} {own : Nat → Prop} {bs : Nat} {S : St} {v : Value} {t : TypeId} (h : SAt' (w.alloc (.cells #[v] t)) w1 own bs S) (hlt : ∀ k, own k → k < w.heap.size) :
    w.heap.size < w1.heap.size ∧ w1.cell? ⟨w.heap.size, 0, none⟩ = some v ∧ w1.frozen? ⟨w.heap.size, 0, none⟩ = false := by
  obtain ⟨h1, h2⟩ := h.mine (k := w.heap.size) (by simp) (fun e => by have := hlt _ e; omega)
  exact ⟨h2, (World.cell?_of_block (a := ⟨w.heap.size, 0, none⟩) h1).trans (World.cell?_alloc_new w _ _ _), (World.frozen?_of_block (a := ⟨w.heap.size, 0, none⟩) h1).trans (World.frozen?_alloc_new w _ _ _)⟩

theorem getc_stuck {w : World} {own : Nat → Prop} {bs : Nat} {S : St} {m : Mem} (h : SAtM w own bs S m) (ho : S.opened = true) (hr : S.rd = true) (hf : S.Fit) (x : Int) (he : S.move.2.1 = x) (hx : (x != 0) = true) :
    Calls Try.prog 45 #[.pointer (some ⟨bs, 0, none⟩)] w (GetcPost w own bs (0, x, S.move.2.2)) := by
  have c8 : (w.alloc (.cells #[.int .i64 0] 28)).cell? ⟨bs, 8, none⟩ = some (.bool true) := by rw [(h.alloc _).c]; simp [Mem.stream, ho]
  have c3 : (w.alloc (.cells #[.int .i64 0] 28)).cell? ⟨bs, 3, none⟩ = some (.bool true) := by rw [(h.alloc _).c]; simp [Mem.stream, hr]
  have Hset := Lib.hid (settle_bad (h.alloc (.cells #[.int .i64 0] 28)) ho hf x he hx)
  clear ho hr hf he
  go_enter_defers Try.func45, Try.ntmps45
  go_wp2_with (first | (go_at_call 34; refine (use_open _ _ c8).mono ?_; rintro r w' ⟨rfl, rfl⟩) | (go_at_call 35; refine (want_ok _ 4 _ rfl).mono ?_; rintro r w' ⟨rfl, rfl⟩) | (go_at_call 37; refine Hset.out.mono ?_; rintro r w1 ⟨rfl, hs⟩))
  obtain ⟨hb, hce, hz⟩ := hs.cellMine h.lt
  have hcc := caughtW_cell (x := x) hce
  refine door_err (y := 0) (v := .tuple #[.int .u8 0, .int .i64 x]) hb hce hz ?_ ⟨rfl, hs.outer h.lt ((Below.refl _ w).alloc (Nat.le_refl _) _) (Tw.caughtW (.inl ⟨Nat.le_refl _, by simp⟩))⟩
  simp [results, Try.results45, go_sem, hcc]

theorem Rd.some {α : Type} {w : World} {own : Nat → Prop} {enc : α → Value} {v : Value} {l : List α} (h : Rd w own enc v l) (hne : l ≠ []) :
    ∃ b off c, v = .slice (some ⟨b, off, none⟩) l.length c ∧ l.length ≤ c ∧ c ≤ maxLen ∧ own b ∧ ∀ i x, l[i]? = Option.some x → w.cell? ⟨b, off + i, none⟩ = Option.some (enc x) := by
  obtain ⟨a, cap, hv, hl, hc, hn, hr⟩ := h
  obtain ⟨b, off, rfl, hb, hcell⟩ := hr hne
  exact ⟨b, off, cap, hv, hl, hc, hb, hcell⟩

theorem Rd.front {α : Type} {w : World} {own : Nat → Prop} {enc : α → Value} {a : Option Addr} {n c : Nat} {l : List α} (h : Rd w own enc (.slice a n c) l) : Rd w own enc (.slice a (n - 1) c) l.dropLast := by
  have hn : n = l.length := by obtain ⟨a', cap, hv, _⟩ := h; cases hv; rfl
  rw [List.dropLast_eq_take, hn]
  exact h.take (l.length - 1) (by omega)

theorem fill_ahead (S : St) (hf : S.Ok) (h : S.fill.1 = 0) : S.fill.2.ahead ≠ [] := by
  unfold St.fill at h ⊢
  have hp0 : 0 ≤ S.pos := by have := hf.pos0; omega
  split at h
  · cases h
  · rename_i h1
    rw [if_neg h1]
    split at h
    · cases h
    · rename_i h2
      rw [if_neg h2]
      have h3 : S.pos < S.data.length := by omega
      have h4 : 0 ≤ S.fillK := (mayN_nonneg S.plan _ (by have := hf.size1; omega)).1
      intro e
      have h5 := congrArg List.length e
      simp only [List.length_take, List.length_drop, List.length_nil] at h5
      omega

set_option maxRecDepth 100000 in
set_option maxHeartbeats 2000000 in
theorem getc_go {w : World} {own : Nat → Prop} {bs : Nat} {S : St} {m : Mem} (h : SAtM w own bs S m) (ho : S.opened = true) (hr : S.rd = true) (hf : S.Fit) (he : S.move.2.1 = 0) (S1 : St) (hS : S.move.2.2 = S1) (ho1 : S1.opened = true) (hf1 : S1.Ok) (r : UInt8 × Int × St) (hr1 : S1.getc2 = r) :
    Calls Try.prog 45 #[.pointer (some ⟨bs, 0, none⟩)] w (GetcPost w own bs r) := by
  have c8 : (w.alloc (.cells #[.int .i64 0] 28)).cell? ⟨bs, 8, none⟩ = some (.bool true) := by rw [(h.alloc _).c]; simp [Mem.stream, ho]
  have c3 : (w.alloc (.cells #[.int .i64 0] 28)).cell? ⟨bs, 3, none⟩ = some (.bool true) := by rw [(h.alloc _).c]; simp [Mem.stream, hr]
  have Hset := Lib.hid (settle_ok (h.alloc (.cells #[.int .i64 0] 28)) ho hf he)
  rw [hS] at Hset
  have hlt := h.lt
  have hown := h.os
  have hbs : bs < w.heap.size := hlt bs h.os
  have hnb : ¬ bs = w.heap.size := by omega
  have hnb' : ¬ w.heap.size = bs := by omega
  have Hr := Lib.hid hr1
  clear ho hr hf he hS h hr1
  go_enter_defers Try.func45, Try.ntmps45
  go_wp2_with (first | (go_at_call 34; refine (use_open _ _ c8).mono ?_; rintro r w' ⟨rfl, rfl⟩) | (go_at_call 35; refine (want_ok _ 4 _ rfl).mono ?_; rintro r w' ⟨rfl, rfl⟩))
  refine Hset.out.mono ?_
  rintro _ w1 ⟨rfl, hs⟩
  have Hout := Lib.hid hs
  obtain ⟨hb, hce, hz⟩ := hs.cellMine hlt
  obtain ⟨own1, m1, h1, hg1⟩ := hs
  clear c8 c3 Hset
  by_cases hbk : S1.back = []
  · obtain ⟨ab, cb, hvb, _, _⟩ := h1.back.shape
    have c11 : w1.cell? ⟨bs, 11, none⟩ = some (.slice ab 0 cb) := by rw [h1.c]; simp [Mem.stream, hvb, hbk]
    obtain ⟨aa, ca, hva, _, _⟩ := h1.ahead.shape
    have c10 : w1.cell? ⟨bs, 10, none⟩ = some (.slice aa S1.ahead.length ca) := by rw [h1.c]; simp [Mem.stream, hva]
    clear hvb hva
    go_upto_if 46 with fail
    go_cut [2] from 41 to 48 (fun s2 wx => s2 = .int .u8 0 ∧ ∃ S2, S2.ahead ≠ [] ∧ SAt' (w.alloc (.cells #[.int .i64 0] 28)) wx own bs S2 ∧ r = (S2.next.1, 0, S2.next.2))
    case first =>
      by_cases hah : S1.ahead = []
      · have hz0 : ((S1.ahead.length : Int) == 0) = true := by rw [hah]; rfl
        have hfill := fill_calls h1 ho1 (by have := hf1.pos0; omega) (by have := hf1.dlen; have := hf1.max1; omega) hf1.size1 hf1.size2
        have hE : S1.getc2 = if S1.fill.1 ≠ 0 then (0, S1.fill.1, S1.fill.2) else (S1.fill.2.next.1, 0, S1.fill.2.next.2) := by
          unfold St.getc2; rw [if_neg (by simpa using hbk), if_neg (by simpa using hah)]
        by_cases hfe : S1.fill.1 = 0
        · rw [if_neg (by simpa using hfe)] at hE
          simp only [if_pos hfe] at hfill
          have Hfill := Lib.hid hfill
          have HE := Lib.hid hE
          have Hfe := Lib.hid hfe
          clear hfill hE hfe
          go_wp2_with (go_at_call 61; refine Hfill.out.mono ?_; rintro _ w2 ⟨rfl, own2, m2, h2, hg2⟩)
          go_meet
          exact ⟨rfl, S1.fill.2, fill_ahead S1 hf1 Hfe.out, ⟨own2, m2, h2, hg1.trans hg2⟩, by rw [← Hr.out, HE.out]⟩
        · rw [if_pos hfe] at hE
          simp only [if_neg hfe] at hfill
          have Hfill := Lib.hid hfill
          have HE := Lib.hid hE
          have Hfe := Lib.hid hfe
          clear hfill hE hfe
          go_wp2_with (go_at_call 61; refine Hfill.out.mono ?_; rintro _ w2 ⟨rfl, own2, m2, h2, hg2⟩)
          have hs2 : SAt' (w.alloc (.cells #[.int .i64 0] 28)) w2 own bs S1.fill.2 := ⟨own2, m2, h2, hg1.trans hg2⟩
          obtain ⟨hb2, hce2, hz2⟩ := hs2.cellMine hlt
          have hcc2 := caughtW_cell (x := S1.fill.1) hce2
          refine door_err (y := 0) (v := .tuple #[.int .u8 0, .int .i64 S1.fill.1]) hb2 hce2 hz2 ?_ ?_
          · simp [results, Try.results45, go_sem, hcc2]
          · rw [← Hr.out, HE.out]
            exact ⟨rfl, hs2.outer hlt ((Below.refl _ w).alloc (Nat.le_refl _) _) (Tw.caughtW (.inl ⟨Nat.le_refl _, by simp⟩))⟩
      · have hz0 : ((S1.ahead.length : Int) == 0) = false := by cases hq : S1.ahead with | nil => exact absurd hq hah | cons x t => simp; omega
        have hE : S1.getc2 = (S1.next.1, 0, S1.next.2) := by
          unfold St.getc2; rw [if_neg (by simpa using hbk), if_pos (by simpa using hah)]
        have HE := Lib.hid hE
        clear hE
        go_wp2_with fail
        go_meet
        exact ⟨rfl, S1, hah, ⟨own1, m1, h1, hg1⟩, by rw [← Hr.out, HE.out]⟩
    case rest =>
      obtain ⟨rfl, S2, hah, hs2, hE⟩ := hcut
      have HE := Lib.hid hE
      clear c10 c11 hb hce hz hbk Hout Hr hE
      obtain ⟨hb, hce, hz⟩ := hs2.cellMine hlt
      obtain ⟨own2, m2, h2, hg2⟩ := hs2
      obtain ⟨b, off, c, hv, hlc, hcm, hob, hcell⟩ := h2.ahead.some hah
      obtain ⟨x, l, hl⟩ : ∃ x l, S2.ahead = x :: l := by cases hq : S2.ahead with | nil => exact absurd hq hah | cons x t => exact ⟨x, t, rfl⟩
      have c0 : wc.cell? ⟨b, off, none⟩ = some (byteV x) := by have := hcell 0 x (by rw [hl]; rfl); rwa [Nat.add_zero] at this
      have hrd := h2.ahead
      rw [hv, hl] at hrd
      have Hrd := Lib.hid hrd.tail
      rw [List.length_cons, Nat.add_sub_cancel] at Hrd
      have hcl : l.length + 1 ≤ c := by rw [hl] at hlc; simpa using hlc
      have c10 : wc.cell? ⟨bs, 10, none⟩ = some (.slice (some ⟨b, off, none⟩) (l.length + 1) c) := by rw [h2.c]; simp [Mem.stream, hv, hl]
      have f10 := h2.f 10
      unfold maxLen at hcm
      have hs3 : SAt' (w.alloc (.cells #[.int .i64 0] 28)) (wc.setCell ⟨bs, 10, none⟩ (.slice (some ⟨b, tlOff off c, none⟩) l.length (c - 1))) own bs { S2 with ahead := l } :=
        ⟨own2, _, h2.setAhead _ _ Hrd.out, hg2.setCell _ _ (.inl hown)⟩
      have hE2 : r = (x, 0, { S2 with ahead := l }) := by rw [HE.out]; unfold St.next; rw [hl]; rfl
      have hpost : ∀ q, GetcPost w own bs r (.returned (.tuple #[byteV x, .int .i64 0])) (((wc.setCell ⟨bs, 10, none⟩ (.slice (some ⟨b, tlOff off c, none⟩) l.length (c - 1))).setCell ⟨w.heap.size, 0, none⟩ (.int .i64 0)).drewN q) := fun q => by
        rw [hE2]
        exact ⟨rfl, hs3.outer hlt ((Below.refl _ w).alloc (Nat.le_refl _) _) ((Tw.setCell (.inl ⟨Nat.le_refl _, by simp⟩)).drewN q)⟩
      have Hpost := Lib.hid hpost
      have hce2 : (wc.setCell ⟨bs, 10, none⟩ (.slice (some ⟨b, tlOff off c, none⟩) l.length (c - 1))).cell? ⟨w.heap.size, 0, none⟩ = some (.int .i64 0) := (cell_set_block _ hnb').trans hce
      have hce3 : ((wc.setCell ⟨bs, 10, none⟩ (.slice (some ⟨b, tlOff off c, none⟩) l.length (c - 1))).setCell ⟨w.heap.size, 0, none⟩ (.int .i64 0)).cell? ⟨w.heap.size, 0, none⟩ = some (.int .i64 0) := World.cell?_setCell_same _ _ _ hce2
      clear hpost hs3 hE2 hrd hcell hv
      generalize hlen : l.length = n at *
      clear hlen
      have hlt2 : (0 : Int) < ↑n + 1 := by omega
      have hlt3 : (1 : Int) ≤ ↑n + 1 := by omega
      by_cases h1c : c = 1
      · subst h1c
        obtain rfl : n = 0 := by omega
        have ht : tlOff off 1 = off := by unfold tlOff; rw [if_pos rfl]
        rw [ht] at Hpost hce2 hce3
        clear ht
        go_wp2_with fail
        go_still_tail 15, (by kernel_rfl)
        go_wp2_with fail
        refine door_ok (v := .tuple #[byteV x, .int .i64 0]) ?_ (Hpost.out 1)
        simp [results, Try.results45, go_sem, hce3]
      · have h1c' : 1 < c := by omega
        have ht : tlOff off c = off + 1 := by unfold tlOff; rw [if_neg h1c]
        rw [ht] at Hpost hce2 hce3
        clear ht
        go_wp2_with fail
        go_still_tail 15, (by kernel_rfl)
        go_wp2_with fail
        refine door_ok (v := .tuple #[byteV x, .int .i64 0]) ?_ (Hpost.out 1)
        simp [results, Try.results45, go_sem, hce3]
  · obtain ⟨b, off, c, hv, hlc, hcm, hob, hcell⟩ := h1.back.some hbk
    obtain ⟨k, hk⟩ : ∃ k, S1.back.length = k + 1 := by cases hq : S1.back with | nil => exact absurd hq hbk | cons x t => exact ⟨t.length, rfl⟩
    have hlast := hcell k (S1.back.getLastD 0) (by rw [List.getLastD_eq_getLast?, List.getLast?_eq_getElem?, hk, Nat.add_sub_cancel]; rw [List.getElem?_eq_getElem (by omega)]; rfl)
    have c11 : w1.cell? ⟨bs, 11, none⟩ = some (.slice (some ⟨b, off, none⟩) (k + 1) c) := by rw [h1.c]; simp [Mem.stream, hv, hk]
    have f11 := h1.f 11
    have hk16 : (k : Int) ≤ 16 := by have := hf1.back16; omega
    have hwr : IntKind.i64.wrap (k : Int) = k := IntWalk.i64_in _ (by omega)
    have hkc : k ≤ c := by omega
    have hlt2 : (k : Int) < ↑k + 1 := by omega
    have hrd := h1.back
    rw [hv] at hrd
    have Hrd := Lib.hid (hrd.front)
    rw [hk, Nat.add_sub_cancel] at Hrd
    have Hv := Lib.hid hv
    have Hk := Lib.hid hk
    clear hcell hv hrd hk
    go_wp2_with fail
    go_still_tail 19, (by kernel_rfl)
    have hs2 : SAt' (w.alloc (.cells #[.int .i64 0] 28)) (w1.setCell ⟨bs, 11, none⟩ (.slice (some ⟨b, off, none⟩) k c)) own bs { S1 with back := S1.back.dropLast } :=
      ⟨own1, _, h1.setBack _ _ Hrd.out, hg1.setCell _ _ (.inl (by have := hlt; exact hown))⟩
    have hE : r = (S1.back.getLastD 0, 0, { S1 with back := S1.back.dropLast }) := by rw [← Hr.out]; unfold St.getc2; rw [if_pos hbk]
    have hpost : ∀ q, GetcPost w own bs r (.returned (.tuple #[byteV (S1.back.getLastD 0), .int .i64 0])) (((w1.setCell ⟨bs, 11, none⟩ (.slice (some ⟨b, off, none⟩) k c)).setCell ⟨w.heap.size, 0, none⟩ (.int .i64 0)).drewN q) := fun q => by
      rw [hE]
      exact ⟨rfl, hs2.outer hlt ((Below.refl _ w).alloc (Nat.le_refl _) _) ((Tw.setCell (.inl ⟨Nat.le_refl _, by simp⟩)).drewN q)⟩
    have Hpost := Lib.hid hpost
    have hce2 : (w1.setCell ⟨bs, 11, none⟩ (.slice (some ⟨b, off, none⟩) k c)).cell? ⟨w.heap.size, 0, none⟩ = some (.int .i64 0) := (cell_set_block _ hnb').trans hce
    have hce3 : ((w1.setCell ⟨bs, 11, none⟩ (.slice (some ⟨b, off, none⟩) k c)).setCell ⟨w.heap.size, 0, none⟩ (.int .i64 0)).cell? ⟨w.heap.size, 0, none⟩ = some (.int .i64 0) := World.cell?_setCell_same _ _ _ hce2
    clear hpost hs2 hE
    go_wp2_with fail
    refine door_ok (v := .tuple #[byteV (S1.back.getLastD 0), .int .i64 0]) ?_ (Hpost.out 1)
    simp [results, Try.results45, go_sem, hce3]

theorem move_ok (S : St) (h : S.Ok) : S.move.2.2.Ok ∧ S.move.2.2.opened = S.opened ∧ S.move.2.2.rd = S.rd ∧ S.move.2.2.wr = S.wr := by
  unfold St.move
  split
  · exact ⟨h, rfl, rfl, rfl⟩
  · refine ⟨?_, rfl, rfl, rfl⟩
    have hb := moveK_bd S h.pos1
    have hp0 := h.pos0
    have hw1 := h.wlen
    have hm1 := h.max1
    refine ⟨h.max0, h.max1, ?_, h.size1, h.size2, ?_, ?_, h.back16, ?_⟩
    · show (((if 0 < S.moveK then putAt S.data S.pos.toNat (S.wait.take S.moveK.toNat) else S.data) : List UInt8).length : Int) ≤ S.max
      split
      · rw [putAt_length, List.length_take]
        have hd := h.dlen
        have : S.pos.toNat + min S.moveK.toNat S.wait.length ≤ S.max.toNat := by omega
        have h9 : S.data.length.max (S.pos.toNat + min S.moveK.toNat S.wait.length) ≤ S.max.toNat := Nat.max_le.2 ⟨by omega, this⟩
        omega
      · exact h.dlen
    · show (S.ahead.length : Int) ≤ S.pos + S.moveK
      omega
    · exact hb.2.2
    · show (([] : List UInt8).length : Int) < S.size
      have := h.size1
      simp; omega

/-- Getc computes what the plain model says. -/
theorem getc_calls {w : World} {own : Nat → Prop} {bs : Nat} {S : St} (h : SAt w own bs S) (hok : S.Ok) :
    Calls Try.prog 45 #[.pointer (some ⟨bs, 0, none⟩)] w (GetcPost w own bs S.getc) := by
  obtain ⟨m, h⟩ := h
  unfold St.getc
  by_cases ho : S.opened = false
  · rw [if_pos ho]; exact getc_closed h ho
  · have ho' : S.opened = true := by simpa using ho
    rw [if_neg ho]
    by_cases hr : S.rd = false
    · rw [if_pos hr]; exact getc_unread h ho' hr
    · have hr' : S.rd = true := by simpa using hr
      rw [if_neg hr]
      by_cases he : S.move.2.1 = 0
      · rw [if_neg (by simpa using he)]
        obtain ⟨h1, h2, h3, h4⟩ := move_ok S hok
        exact getc_go h ho' hr' hok.fit he S.move.2.2 rfl (h2.trans ho') h1 _ rfl
      · rw [if_pos he]
        exact getc_stuck h ho' hr' hok.fit _ rfl (by simpa using he)
end Go.Proofs.Ytgihclflndlomaa
