/- Tell, Seek, Eof, Failed, Clear, Close: each computes what the plain model says. -/
import Derived.Test.YtgihclflndlomaaI
namespace Go.Proofs.Ytgihclflndlomaa
open Go.RowKit

theorem eof_calls {w : World} {own : Nat → Prop} {bs : Nat} {S : St} {m : Mem} (h : SAtM w own bs S m) :
    Calls Try.prog 14 #[.pointer (some ⟨bs, 0, none⟩)] w fun e w' => e = .returned (.bool S.endm) ∧ w = w' := by
  have c1 : w.cell? ⟨bs, 1, none⟩ = some (.bool m.endm) := h.c 1
  cases ho : S.opened with
  | false =>
    have c8 : w.cell? ⟨bs, 8, none⟩ = some (.bool false) := by rw [h.c]; simp [Mem.stream, ho]
    have he := Lib.hid (h.shut ho).1
    clear ho h
    go_enter Try.func14, Try.ntmps14
    go_wp2
    go_ret
    rw [he.out]
    exact ⟨rfl, rfl⟩
  | true =>
    have c8 : w.cell? ⟨bs, 8, none⟩ = some (.bool true) := by rw [h.c]; simp [Mem.stream, ho]
    have he := Lib.hid (h.marks ho).1
    clear ho h
    go_enter Try.func14, Try.ntmps14
    go_wp2
    go_ret
    rw [← he.out]
    exact ⟨rfl, rfl⟩

theorem failed_calls {w : World} {own : Nat → Prop} {bs : Nat} {S : St} {m : Mem} (h : SAtM w own bs S m) :
    Calls Try.prog 20 #[.pointer (some ⟨bs, 0, none⟩)] w fun e w' => e = .returned (.bool S.bad) ∧ w = w' := by
  have c1 : w.cell? ⟨bs, 2, none⟩ = some (.bool m.bad) := h.c 2
  cases ho : S.opened with
  | false =>
    have c8 : w.cell? ⟨bs, 8, none⟩ = some (.bool false) := by rw [h.c]; simp [Mem.stream, ho]
    have he := Lib.hid (h.shut ho).2
    clear ho h
    go_enter Try.func20, Try.ntmps20
    go_wp2
    go_ret
    rw [he.out]
    exact ⟨rfl, rfl⟩
  | true =>
    have c8 : w.cell? ⟨bs, 8, none⟩ = some (.bool true) := by rw [h.c]; simp [Mem.stream, ho]
    have he := Lib.hid (h.marks ho).2
    clear ho h
    go_enter Try.func20, Try.ntmps20
    go_wp2
    go_ret
    rw [← he.out]
    exact ⟨rfl, rfl⟩

theorem eof_nil (w : World) : Calls Try.prog 14 #[.pointer none] w fun e w' => e = .returned (.bool false) ∧ w = w' := by
  go_enter Try.func14, Try.ntmps14
  go_wp2
  go_ret
  exact ⟨rfl, rfl⟩
theorem failed_nil (w : World) : Calls Try.prog 20 #[.pointer none] w fun e w' => e = .returned (.bool false) ∧ w = w' := by
  go_enter Try.func20, Try.ntmps20
  go_wp2
  go_ret
  exact ⟨rfl, rfl⟩
theorem clear_nil (w : World) : Calls Try.prog 46 #[.pointer none] w fun e w' => e = .returned (.tuple #[]) ∧ w = w' := by
  go_enter Try.func46, Try.ntmps46
  go_wp2
  go_end0
  exact ⟨rfl, rfl⟩

theorem clear_calls {w : World} {own : Nat → Prop} {bs : Nat} {S : St} {m : Mem} (h : SAtM w own bs S m) :
    Calls Try.prog 46 #[.pointer (some ⟨bs, 0, none⟩)] w fun e w' => e = .returned (.tuple #[]) ∧ SAt' w w' own bs S.clear := by
  have c1 : w.cell? ⟨bs, 1, none⟩ = some (.bool m.endm) := h.c 1
  have c2 : w.cell? ⟨bs, 2, none⟩ = some (.bool m.bad) := h.c 2
  have f1 := h.f 1
  have f2 := h.f 2
  have k2 : (w.setCell ⟨bs, 1, none⟩ (.bool false)).cell? ⟨bs, 2, none⟩ = some (.bool m.bad) := (cell_set_off _ (by decide)).trans c2
  have hA : SAtM (w.setCell ⟨bs, 1, none⟩ (.bool false)) own bs { S with endm := false } { m with endm := false } :=
    h.set 1 _ _ { m with endm := false } rfl rfl rfl rfl rfl rfl rfl rfl h.ahead h.back h.wait (fun ho => ⟨rfl, (h.marks ho).2⟩) (fun hc => ⟨rfl, (h.shut hc).2⟩)
  have hB : SAtM ((w.setCell ⟨bs, 1, none⟩ (.bool false)).setCell ⟨bs, 2, none⟩ (.bool false)) own bs { S with endm := false, bad := false } { m with endm := false, bad := false } :=
    hA.set 2 _ _ { m with endm := false, bad := false } rfl rfl rfl rfl rfl rfl rfl rfl hA.ahead hA.back hA.wait (fun ho => ⟨rfl, rfl⟩) (fun hc => ⟨rfl, rfl⟩)
  go_enter Try.func46, Try.ntmps46
  go_wp2
  go_end0
  exact ⟨rfl, own, _, hB, ((Fr.refl w own).setCell _ _ (.inl h.os)).setCell _ _ (.inl h.os)⟩

/-- What a call of Tell comes to. -/
def TellPost (w : World) (own : Nat → Prop) (bs : Nat) (S : St) (r : Int × Int) (e : Ending) (w' : World) : Prop :=
  e = .returned (.tuple #[.int .i64 r.1, .int .i64 r.2]) ∧ SAt' w w' own bs S

theorem tell_closed {w : World} {own : Nat → Prop} {bs : Nat} {S : St} {m : Mem} (h : SAtM w own bs S m) (ho : S.opened = false) :
    Calls Try.prog 18 #[.pointer (some ⟨bs, 0, none⟩)] w (TellPost w own bs S (0, 4)) := by
  have c8 : (errW w).cell? ⟨bs, 8, none⟩ = some (.bool false) := by rw [(h.alloc _).c]; simp [Mem.stream, ho]
  obtain ⟨hb, hce, hz⟩ := h.errW.cellMine h.lt
  have hfin := Lib.hid (h.errW.caught h.lt 4)
  have hcc := caughtW_cell (x := 4) hce
  clear ho
  go_enter_defers Try.func18, Try.ntmps18
  go_wp2_with (go_at_call 34; refine (use_closed _ _ c8).mono ?_; rintro r w' ⟨rfl, rfl⟩)
  refine door_err (y := 0) (v := .tuple #[.int .i64 0, .int .i64 4]) hb hce hz ?_ ⟨rfl, hfin.out⟩
  simp [results, Try.results18, go_sem, hcc]

theorem tell_open {w : World} {own : Nat → Prop} {bs : Nat} {S : St} {m : Mem} (h : SAtM w own bs S m) (ho : S.opened = true) (hok : S.Ok) :
    Calls Try.prog 18 #[.pointer (some ⟨bs, 0, none⟩)] w (TellPost w own bs S (if S.tellAt < 0 then (0, 4) else (S.tellAt, 0))) := by
  obtain ⟨a10, b10, v10, -, -⟩ := h.ahead.shape
  obtain ⟨a11, b11, v11, -, -⟩ := h.back.shape
  obtain ⟨a12, b12, v12, -, -⟩ := h.wait.shape
  have c8 : (errW w).cell? ⟨bs, 8, none⟩ = some (.bool true) := by rw [(h.alloc _).c]; simp [Mem.stream, ho]
  have c9 : (errW w).cell? ⟨bs, 9, none⟩ = some (.int .i64 S.pos) := (h.alloc _).c 9
  have c10 : (errW w).cell? ⟨bs, 10, none⟩ = some (.slice a10 S.ahead.length b10) := by rw [(h.alloc _).c]; simp [Mem.stream, v10]
  have c11 : (errW w).cell? ⟨bs, 11, none⟩ = some (.slice a11 S.back.length b11) := by rw [(h.alloc _).c]; simp [Mem.stream, v11]
  have c12 : (errW w).cell? ⟨bs, 12, none⟩ = some (.slice a12 S.wait.length b12) := by rw [(h.alloc _).c]; simp [Mem.stream, v12]
  obtain ⟨hb, hce, hz⟩ := h.errW.cellMine h.lt
  have g0 : 0 ≤ S.pos := by have := hok.pos0; omega
  have g1 : S.pos ≤ 2000000 := by have := hok.pos1; have := hok.max1; omega
  have g2 : S.ahead.length ≤ 2000000 := by have := hok.pos0; omega
  have g3 : S.back.length ≤ 2000000 := by have := hok.back16; omega
  have g4 : S.wait.length ≤ 2000000 := by have := hok.wlen; have := hok.size2; omega
  by_cases ht : S.tellAt < 0
  · rw [if_pos ht]
    have Htell := Lib.hid (tell_bad bs S.pos S.ahead.length S.back.length S.wait.length a10 a11 a12 b10 b11 b12 _ c9 c10 c11 c12 g0 g1 g2 g3 g4 ht)
    have hcc := fun n => caughtW_cell (w := (errW w).drewN n) (x := 4) hce
    have hfin := Lib.hid (fun n => SAt'.caught (w := w) (w1 := (errW w).drewN n) ⟨own, m, (h.alloc _).drewN n, (Fr.refl _ _).drewN n⟩ h.lt 4)
    clear ht v10 v11 v12 c9 c10 c11 c12
    go_enter_defers Try.func18, Try.ntmps18
    go_wp2_with (first | (go_at_call 34; refine (use_open _ _ c8).mono ?_; rintro r w' ⟨rfl, rfl⟩) | (go_at_call 41; refine Htell.out.mono ?_; rintro r w' ⟨rfl, n, rfl⟩))
    refine door_err (y := 0) (v := .tuple #[.int .i64 0, .int .i64 4]) hb hce hz ?_ ⟨rfl, hfin.out n⟩
    simp [results, Try.results18, go_sem, hcc]
  · rw [if_neg ht]
    have Htell := Lib.hid (tell_ok bs S.pos S.ahead.length S.back.length S.wait.length a10 a11 a12 b10 b11 b12 _ c9 c10 c11 c12 g0 g1 g2 g3 g4 (by unfold St.tellAt at ht; omega))
    have hce3 : ∀ n, (((errW w).drewN n).setCell ⟨w.heap.size, 0, none⟩ (.int .i64 0)).cell? ⟨w.heap.size, 0, none⟩ = some (.int .i64 0) := fun n => World.cell?_setCell_same _ _ _ hce
    have hpost : ∀ n, TellPost w own bs S (S.tellAt, 0) (.returned (.tuple #[.int .i64 (S.pos + ↑S.wait.length - ↑S.ahead.length - ↑S.back.length), .int .i64 0])) (((errW w).setCell ⟨w.heap.size, 0, none⟩ (.int .i64 0)).drewN n) := fun n =>
      ⟨rfl, h.errW.stored h.lt (.int .i64 0) n⟩
    have Hpost := Lib.hid hpost
    clear ht v10 v11 v12 c9 c10 c11 c12 hpost
    go_enter_defers Try.func18, Try.ntmps18
    go_wp2_with (first | (go_at_call 34; refine (use_open _ _ c8).mono ?_; rintro r w' ⟨rfl, rfl⟩) | (go_at_call 41; refine Htell.out.mono ?_; rintro r w' ⟨rfl, n, rfl⟩))
    refine door_ok (v := .tuple #[.int .i64 (S.pos + ↑S.wait.length - ↑S.ahead.length - ↑S.back.length), .int .i64 0]) ?_ (Hpost.out n)
    simp [results, Try.results18, go_sem, hce3]

theorem tell_calls {w : World} {own : Nat → Prop} {bs : Nat} {S : St} (h : SAt w own bs S) (hok : S.Ok) :
    Calls Try.prog 18 #[.pointer (some ⟨bs, 0, none⟩)] w (TellPost w own bs S S.tell) := by
  obtain ⟨m, h⟩ := h
  unfold St.tell
  by_cases ho : S.opened = false
  · rw [if_pos ho]; exact tell_closed h ho
  · rw [if_neg ho]; exact tell_open h (by simpa using ho) hok

theorem seek_closed {w : World} {own : Nat → Prop} {bs : Nat} {S : St} {m : Mem} (h : SAtM w own bs S m) (ho : S.opened = false) (off whence : Int) :
    Calls Try.prog 22 #[.pointer (some ⟨bs, 0, none⟩), .int .i64 off, .int .i64 whence] w (ErrPost w own bs (4, S)) := by
  have c8 : (errW w).cell? ⟨bs, 8, none⟩ = some (.bool false) := by rw [(h.alloc _).c]; simp [Mem.stream, ho]
  obtain ⟨hb, hce, hz⟩ := h.errW.cellMine h.lt
  have hfin := Lib.hid (h.errW.caught h.lt 4)
  have hcc := caughtW_cell (x := 4) hce
  clear ho
  go_enter_defers Try.func22, Try.ntmps22
  go_wp2_with (go_at_call 34; refine (use_closed _ _ c8).mono ?_; rintro r w' ⟨rfl, rfl⟩)
  refine door_err (y := 0) (v := .int .i64 4) hb hce hz ?_ ⟨rfl, hfin.out⟩
  simp [results, Try.results22, go_sem, hcc]

theorem seek_stuck {w : World} {own : Nat → Prop} {bs : Nat} {S : St} {m : Mem} (h : SAtM w own bs S m) (ho : S.opened = true) (hf : S.Fit) (x : Int) (he : S.move.2.1 = x) (hx : (x != 0) = true) (off whence : Int) :
    Calls Try.prog 22 #[.pointer (some ⟨bs, 0, none⟩), .int .i64 off, .int .i64 whence] w (ErrPost w own bs (x, S.move.2.2)) := by
  have c8 : (errW w).cell? ⟨bs, 8, none⟩ = some (.bool true) := by rw [(h.alloc _).c]; simp [Mem.stream, ho]
  have Hset := Lib.hid (settle_bad (h.alloc (.cells #[.int .i64 0] 28)) ho hf x he hx)
  clear ho hf he
  go_enter_defers Try.func22, Try.ntmps22
  go_wp2_with (first | (go_at_call 34; refine (use_open _ _ c8).mono ?_; rintro r w' ⟨rfl, rfl⟩) | (go_at_call 37; refine Hset.out.mono ?_; rintro r w1 ⟨rfl, hs⟩))
  obtain ⟨hb, hce, hz⟩ := hs.cellMine h.lt
  have hcc := caughtW_cell (x := x) hce
  refine door_err (y := 0) (v := .int .i64 x) hb hce hz ?_ ⟨rfl, hs.caught h.lt x⟩
  simp [results, Try.results22, go_sem, hcc]

/-- Seek behind the moving. -/
def St.seek2 (S : St) (off whence : Int) : Int × St :=
  if whence = 0 then S.seekFrom off 0
  else if whence = 1 then (if S.tellAt < 0 then (4, S) else S.seekFrom off S.tellAt)
  else if whence = 2 then S.seekFrom off S.data.length
  else (1, S)

end Go.Proofs.Ytgihclflndlomaa
