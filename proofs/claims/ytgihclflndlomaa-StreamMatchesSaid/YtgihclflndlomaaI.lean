/- Flush, Ungetc, Tell, Eof, Failed, Clear: each computes what the plain model says. -/
import Derived.Test.YtgihclflndlomaaF
namespace Go.Proofs.Ytgihclflndlomaa
open Go.RowKit

/-- What a call that gives an error alone comes to. -/
def ErrPost (w : World) (own : Nat → Prop) (bs : Nat) (r : Int × St) (e : Ending) (w' : World) : Prop :=
  e = .returned (.int .i64 r.1) ∧ SAt' w w' own bs r.2

/-- The world with the caller's new error cell. -/
abbrev errW (w : World) : World := w.alloc (.cells #[.int .i64 0] 28)
theorem errW_below (w : World) : Below w.heap.size w (errW w) := (Below.refl _ w).alloc (Nat.le_refl _) _
theorem SAtM.errW {w : World} {own : Nat → Prop} {bs : Nat} {S : St} {m : Mem} (h : SAtM w own bs S m) : SAt' (errW w) (errW w) own bs S := ⟨own, m, h.alloc _, Fr.refl _ _⟩
theorem SAt'.caught {w w1 : World} {own : Nat → Prop} {bs : Nat} {S : St} (h : SAt' (errW w) w1 own bs S) (hlt : ∀ k, own k → k < w.heap.size) (x : Int) : SAt' w (caughtW w1 w.heap.size x) own bs S :=
  h.outer hlt (errW_below w) (Tw.caughtW (.inl ⟨Nat.le_refl _, by simp [Ytgihclflndlomaa.errW]⟩))
theorem SAt'.stored {w w1 : World} {own : Nat → Prop} {bs : Nat} {S : St} (h : SAt' (errW w) w1 own bs S) (hlt : ∀ k, own k → k < w.heap.size) (v : Value) (q : Nat) : SAt' w ((w1.setCell ⟨w.heap.size, 0, none⟩ v).drewN q) own bs S :=
  h.outer hlt (errW_below w) ((Tw.setCell (.inl ⟨Nat.le_refl _, by simp [Ytgihclflndlomaa.errW]⟩)).drewN q)

theorem flush_closed {w : World} {own : Nat → Prop} {bs : Nat} {S : St} {m : Mem} (h : SAtM w own bs S m) (ho : S.opened = false) :
    Calls Try.prog 17 #[.pointer (some ⟨bs, 0, none⟩)] w (ErrPost w own bs (4, S)) := by
  have c8 : (errW w).cell? ⟨bs, 8, none⟩ = some (.bool false) := by rw [(h.alloc _).c]; simp [Mem.stream, ho]
  obtain ⟨hb, hce, hz⟩ := h.errW.cellMine h.lt
  have hfin := Lib.hid (h.errW.caught h.lt 4)
  have hcc := caughtW_cell (x := 4) hce
  clear ho
  go_enter_defers Try.func17, Try.ntmps17
  go_wp2_with (go_at_call 34; refine (use_closed _ _ c8).mono ?_; rintro r w' ⟨rfl, rfl⟩)
  refine door_err (y := 0) (v := .int .i64 4) hb hce hz ?_ ⟨rfl, hfin.out⟩
  simp [results, Try.results17, go_sem, hcc]

theorem flush_stuck {w : World} {own : Nat → Prop} {bs : Nat} {S : St} {m : Mem} (h : SAtM w own bs S m) (ho : S.opened = true) (hf : S.Fit) (x : Int) (he : S.move.2.1 = x) (hx : (x != 0) = true) :
    Calls Try.prog 17 #[.pointer (some ⟨bs, 0, none⟩)] w (ErrPost w own bs (x, S.move.2.2)) := by
  have c8 : (errW w).cell? ⟨bs, 8, none⟩ = some (.bool true) := by rw [(h.alloc _).c]; simp [Mem.stream, ho]
  have Hset := Lib.hid (settle_bad (h.alloc (.cells #[.int .i64 0] 28)) ho hf x he hx)
  clear ho hf he
  go_enter_defers Try.func17, Try.ntmps17
  go_wp2_with (first | (go_at_call 34; refine (use_open _ _ c8).mono ?_; rintro r w' ⟨rfl, rfl⟩) | (go_at_call 37; refine Hset.out.mono ?_; rintro r w1 ⟨rfl, hs⟩))
  obtain ⟨hb, hce, hz⟩ := hs.cellMine h.lt
  have hcc := caughtW_cell (x := x) hce
  refine door_err (y := 0) (v := .int .i64 x) hb hce hz ?_ ⟨rfl, hs.caught h.lt x⟩
  simp [results, Try.results17, go_sem, hcc]

theorem flush_ok {w : World} {own : Nat → Prop} {bs : Nat} {S : St} {m : Mem} (h : SAtM w own bs S m) (ho : S.opened = true) (hf : S.Fit) (he : S.move.2.1 = 0) :
    Calls Try.prog 17 #[.pointer (some ⟨bs, 0, none⟩)] w (ErrPost w own bs (0, S.move.2.2)) := by
  have c8 : (errW w).cell? ⟨bs, 8, none⟩ = some (.bool true) := by rw [(h.alloc _).c]; simp [Mem.stream, ho]
  have Hset := Lib.hid (settle_ok (h.alloc (.cells #[.int .i64 0] 28)) ho hf he)
  clear ho hf he
  go_enter_defers Try.func17, Try.ntmps17
  go_wp2_with (first | (go_at_call 34; refine (use_open _ _ c8).mono ?_; rintro r w' ⟨rfl, rfl⟩) | (go_at_call 37; refine Hset.out.mono ?_; rintro r w1 ⟨rfl, hs⟩; obtain ⟨hb, hce, hz⟩ := hs.cellMine h.lt))
  have hce3 : (w1.setCell ⟨w.heap.size, 0, none⟩ (.int .i64 0)).cell? ⟨w.heap.size, 0, none⟩ = some (.int .i64 0) := World.cell?_setCell_same _ _ _ hce
  refine door_ok (v := .int .i64 0) ?_ ⟨rfl, hs.stored h.lt (.int .i64 0) 0⟩
  simp [results, Try.results17, go_sem, hce3]

theorem flush_calls {w : World} {own : Nat → Prop} {bs : Nat} {S : St} (h : SAt w own bs S) (hok : S.Ok) :
    Calls Try.prog 17 #[.pointer (some ⟨bs, 0, none⟩)] w (ErrPost w own bs S.flush) := by
  obtain ⟨m, h⟩ := h
  unfold St.flush
  by_cases ho : S.opened = false
  · rw [if_pos ho]; exact flush_closed h ho
  · have ho' : S.opened = true := by simpa using ho
    rw [if_neg ho]
    by_cases he : S.move.2.1 = 0
    · rw [he]; exact flush_ok h ho' hok.fit he
    · exact flush_stuck h ho' hok.fit _ rfl (by simpa using he)

theorem ungetc_closed {w : World} {own : Nat → Prop} {bs : Nat} {S : St} {m : Mem} (h : SAtM w own bs S m) (ho : S.opened = false) (c : UInt8) :
    Calls Try.prog 13 #[.pointer (some ⟨bs, 0, none⟩), byteV c] w (ErrPost w own bs (4, S)) := by
  have c8 : (errW w).cell? ⟨bs, 8, none⟩ = some (.bool false) := by rw [(h.alloc _).c]; simp [Mem.stream, ho]
  obtain ⟨hb, hce, hz⟩ := h.errW.cellMine h.lt
  have hfin := Lib.hid (h.errW.caught h.lt 4)
  have hcc := caughtW_cell (x := 4) hce
  clear ho
  go_enter_defers Try.func13, Try.ntmps13
  go_wp2_with (go_at_call 34; refine (use_closed _ _ c8).mono ?_; rintro r w' ⟨rfl, rfl⟩)
  refine door_err (y := 0) (v := .int .i64 4) hb hce hz ?_ ⟨rfl, hfin.out⟩
  simp [results, Try.results13, go_sem, hcc]

theorem ungetc_unrd {w : World} {own : Nat → Prop} {bs : Nat} {S : St} {m : Mem} (h : SAtM w own bs S m) (ho : S.opened = true) (hr : S.rd = false) (c : UInt8) :
    Calls Try.prog 13 #[.pointer (some ⟨bs, 0, none⟩), byteV c] w (ErrPost w own bs (4, S)) := by
  have c8 : (errW w).cell? ⟨bs, 8, none⟩ = some (.bool true) := by rw [(h.alloc _).c]; simp [Mem.stream, ho]
  have c3 : (errW w).cell? ⟨bs, 3, none⟩ = some (.bool false) := by rw [(h.alloc _).c]; simp [Mem.stream, hr]
  obtain ⟨hb, hce, hz⟩ := h.errW.cellMine h.lt
  have hfin := Lib.hid (h.errW.caught h.lt 4)
  have hcc := caughtW_cell (x := 4) hce
  clear ho hr
  go_enter_defers Try.func13, Try.ntmps13
  go_wp2_with (first | (go_at_call 34; refine (use_open _ _ c8).mono ?_; rintro r w' ⟨rfl, rfl⟩) | (go_at_call 35; refine (want_bad _ 4 _ rfl rfl).mono ?_; rintro r w' ⟨rfl, rfl⟩))
  refine door_err (y := 0) (v := .int .i64 4) hb hce hz ?_ ⟨rfl, hfin.out⟩
  simp [results, Try.results13, go_sem, hcc]

theorem ungetc_stuck {w : World} {own : Nat → Prop} {bs : Nat} {S : St} {m : Mem} (h : SAtM w own bs S m) (ho : S.opened = true) (hr : S.rd = true) (hf : S.Fit) (x : Int) (he : S.move.2.1 = x) (hx : (x != 0) = true) (c : UInt8) :
    Calls Try.prog 13 #[.pointer (some ⟨bs, 0, none⟩), byteV c] w (ErrPost w own bs (x, S.move.2.2)) := by
  have c8 : (errW w).cell? ⟨bs, 8, none⟩ = some (.bool true) := by rw [(h.alloc _).c]; simp [Mem.stream, ho]
  have c3 : (errW w).cell? ⟨bs, 3, none⟩ = some (.bool true) := by rw [(h.alloc _).c]; simp [Mem.stream, hr]
  have Hset := Lib.hid (settle_bad (h.alloc (.cells #[.int .i64 0] 28)) ho hf x he hx)
  clear ho hr hf he
  go_enter_defers Try.func13, Try.ntmps13
  go_wp2_with (first | (go_at_call 34; refine (use_open _ _ c8).mono ?_; rintro r w' ⟨rfl, rfl⟩) | (go_at_call 35; refine (want_ok _ 4 _ rfl).mono ?_; rintro r w' ⟨rfl, rfl⟩) | (go_at_call 37; refine Hset.out.mono ?_; rintro r w1 ⟨rfl, hs⟩))
  obtain ⟨hb, hce, hz⟩ := hs.cellMine h.lt
  have hcc := caughtW_cell (x := x) hce
  refine door_err (y := 0) (v := .int .i64 x) hb hce hz ?_ ⟨rfl, hs.caught h.lt x⟩
  simp [results, Try.results13, go_sem, hcc]

/-- An append onto what Clone has made. -/
theorem clone_app (w1 W : World) (hb : Below w1.heap.size w1 W) (v : Value) (l : List UInt8) (hrow : Row 5 byteV W (fun b => w1.heap.size ≤ b ∧ b < W.heap.size) v l) (any : Nat → Prop) (vy : Value) (l2 : List UInt8) (hy : Rd W any byteV vy l2)
    (hlen : (l.length + l2.length) * 1 ≤ 140737488355328) :
    ∃ a n c w', (Builtin.append_ #[22, 22] 22 #[v, vy]).run Try.prog W = .ok (.slice a n c) w' ∧ Row 5 byteV w' (fun b => w1.heap.size ≤ b ∧ b < w'.heap.size) (.slice a n c) (l ++ l2) ∧ Below w1.heap.size w1 w' := by
  obtain ⟨a, n, c, w', hrun, hrow', htw, _⟩ := run_app bytesElem W _ any v vy l l2 hrow hy 22 hlen (by decide)
  refine ⟨a, n, c, w', hrun, ?_, ?_⟩
  · refine hrow'.keep (fun _ _ _ => rfl) (fun b hb2 hlt => ⟨?_, hlt⟩)
    rcases hb2 with h | h
    · exact h.1
    · rw [h]; exact hb.size
  · exact hb.trans ⟨htw.os, htw.tape, htw.output, htw.size, fun k hk => htw.keep k (Nat.lt_of_lt_of_le hk hb.size) (fun e => by have := e.1.1; omega)⟩

theorem rd_one {w : World} (c : UInt8) (t : TypeId) : Rd (w.alloc (.cells #[byteV c] t)) (fun _ => True) byteV (.slice (some ⟨w.heap.size, 0, none⟩) 1 1) [c] := by
  refine ⟨some ⟨w.heap.size, 0, none⟩, 1, rfl, Nat.le_refl _, by unfold maxLen; omega, fun h => (by cases h), fun _ => ⟨w.heap.size, 0, rfl, trivial, fun i x hx => ?_⟩⟩
  cases i with
  | zero => simp at hx; subst hx; exact World.cell?_alloc_new w _ _ _
  | succ i => simp at hx

/-- Behind the moving: room, or none. -/
def St.ungetc2 (S : St) (c : UInt8) : Int × St := if 16 ≤ S.back.length then (2, S) else (0, { S with back := S.back ++ [c], endm := false })

set_option maxRecDepth 100000 in
set_option maxHeartbeats 1000000 in
theorem ungetc_go {w : World} {own : Nat → Prop} {bs : Nat} {S : St} {m : Mem} (h : SAtM w own bs S m) (ho : S.opened = true) (hr : S.rd = true) (hf : S.Fit) (he : S.move.2.1 = 0) (S1 : St) (hS : S.move.2.2 = S1) (ho1 : S1.opened = true) (hb16 : S1.back.length ≤ 16) (c : UInt8) (r : Int × St) (hr1 : S1.ungetc2 c = r) :
    Calls Try.prog 13 #[.pointer (some ⟨bs, 0, none⟩), byteV c] w (ErrPost w own bs r) := by
  have c8 : (errW w).cell? ⟨bs, 8, none⟩ = some (.bool true) := by rw [(h.alloc _).c]; simp [Mem.stream, ho]
  have c3 : (errW w).cell? ⟨bs, 3, none⟩ = some (.bool true) := by rw [(h.alloc _).c]; simp [Mem.stream, hr]
  have Hset := Lib.hid (settle_ok (h.alloc (.cells #[.int .i64 0] 28)) ho hf he)
  rw [hS] at Hset
  have hlt := h.lt
  have hown := h.os
  have hbs : bs < w.heap.size := hlt bs h.os
  have hnb : ¬ bs = w.heap.size := by omega
  have hnb' : ¬ w.heap.size = bs := by omega
  have Hr := Lib.hid hr1
  clear ho hr hf he hS h hr1
  go_enter_defers Try.func13, Try.ntmps13
  go_wp2_with (first | (go_at_call 34; refine (use_open _ _ c8).mono ?_; rintro r w' ⟨rfl, rfl⟩) | (go_at_call 35; refine (want_ok _ 4 _ rfl).mono ?_; rintro r w' ⟨rfl, rfl⟩))
  refine Hset.out.mono ?_
  rintro _ w1 ⟨rfl, hs⟩
  have Hout := Lib.hid hs
  obtain ⟨hb, hce, hz⟩ := hs.cellMine hlt
  obtain ⟨own1, m1, h1, hg1⟩ := hs
  clear c8 c3 Hset
  obtain ⟨ab, cb, hvb, -, -⟩ := h1.back.shape
  have c11 : w1.cell? ⟨bs, 11, none⟩ = some (.slice ab S1.back.length cb) := by rw [h1.c]; simp [Mem.stream, hvb]
  have f11 := h1.f 11
  have f1 := h1.f 1
  by_cases h16 : 16 ≤ S1.back.length
  · have hE : r = (2, S1) := by rw [← Hr.out]; unfold St.ungetc2; rw [if_pos h16]
    have HE := Lib.hid hE
    clear hE hvb
    go_wp2_with (go_at_call 35; refine (want_bad _ 2 _ (by simp; omega) rfl).mono ?_; rintro _ w' ⟨rfl, rfl⟩)
    have hcc := caughtW_cell (x := 2) hce
    refine door_err (y := 0) (v := .int .i64 2) hb hce hz ?_ (by rw [HE.out]; exact ⟨rfl, Hout.out.caught hlt 2⟩)
    simp [results, Try.results13, go_sem, hcc]
  · have hE : r = (0, { S1 with back := S1.back ++ [c], endm := false }) := by rw [← Hr.out]; unfold St.ungetc2; rw [if_neg h16]
    have HE := Lib.hid hE
    have hrd := h1.back
    rw [hvb] at hrd
    have Hrd := Lib.hid hrd
    clear hrd
    clear hE hvb
    go_wp2_with (first | (go_at_call 35; refine (want_ok _ 2 _ (by simp; omega)).mono ?_; rintro _ w' ⟨rfl, rfl⟩))
    refine (clone_bytes w1 _ _ _ Hrd.out (by omega)).mono ?_
    rintro _ W2 ⟨a5, n5, c5, rfl, hrow, hbl⟩
    obtain ⟨a6, n6, c6, W3, hrun, hrow3, hbl3⟩ := clone_app w1 (W2.alloc (.cells #[byteV c] 5)) (hbl.alloc hbl.size _) _ S1.back (hrow.keep (fun b _ hb => Below.heap_alloc _ _ _ hb) (fun b hb _ => ⟨hb.1, by simp; omega⟩)) _ _ [c] (rd_one c 5) (by simp; omega)
    have Hrun := Lib.hid hrun
    have Hrow3 := Lib.hid hrow3
    have hbs1 : bs < w1.heap.size := h1.lt _ h1.os
    have k11 : W3.cell? ⟨bs, 11, none⟩ = some (.slice ab S1.back.length cb) := (hbl3.cell (p := ⟨bs, 11, none⟩) hbs1).trans c11
    have kf11 : W3.frozen? ⟨bs, 11, none⟩ = false := (hbl3.frozen (p := ⟨bs, 11, none⟩) hbs1).trans f11
    have k1 : (W3.setCell ⟨bs, 11, none⟩ (.slice a6 n6 c6)).cell? ⟨bs, 1, none⟩ = some (.bool m1.endm) := (cell_set_off _ (by decide)).trans ((hbl3.cell (p := ⟨bs, 1, none⟩) hbs1).trans (h1.c 1))
    have kf1 : W3.frozen? ⟨bs, 1, none⟩ = false := (hbl3.frozen (p := ⟨bs, 1, none⟩) hbs1).trans f1
    have ke : ((W3.setCell ⟨bs, 11, none⟩ (.slice a6 n6 c6)).setCell ⟨bs, 1, none⟩ (.bool false)).cell? ⟨w.heap.size, 0, none⟩ = some (.int .i64 0) := (cell_set_block _ hnb').trans ((cell_set_block _ hnb').trans ((hbl3.cell (p := ⟨w.heap.size, 0, none⟩) hb).trans hce))
    have kfe : W3.frozen? ⟨w.heap.size, 0, none⟩ = false := (hbl3.frozen (p := ⟨w.heap.size, 0, none⟩) hb).trans hz
    have hs5 : SAt' (errW w) ((W3.setCell ⟨bs, 11, none⟩ (.slice a6 n6 c6)).setCell ⟨bs, 1, none⟩ (.bool false)) own bs r.2 := by
      rw [HE.out]
      exact ⟨_, _, ((h1.grow hbl3).setBack (.slice a6 n6 c6) _ (hrow3.rd.keep (fun _ _ _ => rfl) (fun b hb _ => h1.newOnly b hb.1 hb.2))).setEnd false ho1, ((hg1.grow hbl3).setCell _ _ (.inl hown)).setCell _ _ (.inl hown)⟩
    have hfin : ErrPost w own bs r (.returned (.int .i64 0)) ((((W3.setCell ⟨bs, 11, none⟩ (.slice a6 n6 c6)).setCell ⟨bs, 1, none⟩ (.bool false)).setCell ⟨w.heap.size, 0, none⟩ (.int .i64 0)).drewN 0) := ⟨by rw [HE.out], hs5.stored hlt (.int .i64 0) 0⟩
    have Hfin := Lib.hid hfin
    clear hfin
    have kee : (((W3.setCell ⟨bs, 11, none⟩ (.slice a6 n6 c6)).setCell ⟨bs, 1, none⟩ (.bool false)).setCell ⟨w.heap.size, 0, none⟩ (.int .i64 0)).cell? ⟨w.heap.size, 0, none⟩ = some (.int .i64 0) := World.cell?_setCell_same _ _ _ ke
    clear hrun hrow3 hrow hbl hbl3 hs5 h1 hg1
    have hbv : byteV c = .int .u8 (c.toNat : Int) := rfl
    go_wp2_with (at_builtin; refine Lib.wpList_append_run _ rfl (.tmp 27) (.tmp 29) 22 22 rfl _ _ rfl rfl (.slice a6 n6 c6) W3 (Eq.trans ?_ Hrun.out) ?_; focus kernel_rfl)
    refine door_ok (v := .int .i64 0) ?_ Hfin.out
    simp [results, Try.results13, go_sem, kee]

theorem ungetc_calls {w : World} {own : Nat → Prop} {bs : Nat} {S : St} (h : SAt w own bs S) (hok : S.Ok) (c : UInt8) :
    Calls Try.prog 13 #[.pointer (some ⟨bs, 0, none⟩), byteV c] w (ErrPost w own bs (S.ungetc c)) := by
  obtain ⟨m, h⟩ := h
  unfold St.ungetc
  by_cases ho : S.opened = false
  · rw [if_pos ho]; exact ungetc_closed h ho c
  · have ho' : S.opened = true := by simpa using ho
    rw [if_neg ho]
    by_cases hr : S.rd = false
    · rw [if_pos hr]; exact ungetc_unrd h ho' hr c
    · have hr' : S.rd = true := by simpa using hr
      rw [if_neg hr]
      by_cases he : S.move.2.1 = 0
      · rw [if_neg (by simpa using he)]
        obtain ⟨h1, h2, h3, h4⟩ := move_ok S hok
        exact ungetc_go h ho' hr' hok.fit he S.move.2.2 rfl (h2.trans ho') h1.back16 c _ rfl
      · rw [if_pos he]
        exact ungetc_stuck h ho' hr' hok.fit _ rfl (by simpa using he) c
end Go.Proofs.Ytgihclflndlomaa
