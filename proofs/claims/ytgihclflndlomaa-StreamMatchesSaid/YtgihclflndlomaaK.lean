/- Seek: it computes what the plain model says. -/
import Derived.Test.YtgihclflndlomaaJ
namespace Go.Proofs.Ytgihclflndlomaa
open Go.RowKit

set_option maxRecDepth 100000 in
set_option maxHeartbeats 1000000 in
theorem seek_start_bad {w : World} {own : Nat → Prop} {bs : Nat} {S : St} {m : Mem} (h : SAtM w own bs S m) (ho : S.opened = true) (hf : S.Fit) (he : S.move.2.1 = 0) (S1 : St) (hS : S.move.2.2 = S1) (_ : S1.opened = true) (hok : S1.Ok) (off : Int) (hr : off < -1048576 ∨ 1048576 < off ∨ off < 0 ∨ S1.max < off) :
    Calls Try.prog 22 #[.pointer (some ⟨bs, 0, none⟩), .int .i64 off, .int .i64 0] w (ErrPost w own bs (3, S1)) := by
  have c8 : (errW w).cell? ⟨bs, 8, none⟩ = some (.bool true) := by rw [(h.alloc _).c]; simp [Mem.stream, ho]
  have Hset := Lib.hid (settle_ok (h.alloc (.cells #[.int .i64 0] 28)) ho hf he)
  rw [hS] at Hset
  have hlt := h.lt
  have hown := h.os
  have hbs : bs < w.heap.size := hlt bs h.os
  have hnb' : ¬ w.heap.size = bs := by omega
  clear ho hf he hS h
  go_enter_defers Try.func22, Try.ntmps22
  go_wp2_with (first | (go_at_call 34; refine (use_open _ _ c8).mono ?_; rintro r w' ⟨rfl, rfl⟩))
  refine Hset.out.mono ?_
  rintro _ w1 ⟨rfl, hs⟩
  have Hout := Lib.hid hs
  obtain ⟨hb, hce, hz⟩ := hs.cellMine hlt
  obtain ⟨own1, m1, h1, hg1⟩ := hs
  clear c8 Hset
  obtain ⟨ad, cd, hdv, hdc, hdm⟩ := h1.data.shape
  have c0 : w1.cell? ⟨bs, 0, none⟩ = some (.pointer (some ⟨m1.bd, 0, none⟩)) := h1.c 0
  have e0 : w1.cell? ⟨m1.bd, 0, none⟩ = some (.slice ad S1.data.length cd) := by rw [h1.cd]; simp [Mem.disk, hdv]
  have e1 : w1.cell? ⟨m1.bd, 1, none⟩ = some (.int .i64 S1.max) := h1.cd 1
  have g5 : S1.max ≤ 1048576 := hok.max1
  have g6 : (S1.data.length : Int) ≤ 1048576 := by have := hok.dlen; omega
  have Hcc := Lib.hid (fun (n : Nat) => caughtW_cell (w := w1.drewN n) (x := 3) hce)
  have Hcau := Lib.hid (fun (n : Nat) => SAt'.caught (w := w) (w1 := w1.drewN n) ⟨own1, m1, h1.drewN n, hg1.drewN n⟩ hlt 3)
  clear h1 hg1 hdv hdc hdm hok
  go_wp2_with (first | (go_at_call 35; first | (refine (want_ok _ 3 _ (by first | rfl | (simp; omega))).mono ?_; rintro _ w' ⟨rfl, rfl⟩) | (refine (want_bad _ 3 _ (by first | rfl | (simp; omega)) rfl).mono ?_; rintro _ w' ⟨rfl, rfl⟩)))
  all_goals refine door_err (y := 0) (v := .int .i64 3) hb hce hz ?_ ⟨rfl, Hcau.out 0⟩
  all_goals (have hcc3 : (caughtW w1 w.heap.size 3).cell? ⟨w.heap.size, 0, none⟩ = some (.int .i64 3) := Hcc.out 0; simp [results, Try.results22, go_sem, hcc3])

set_option maxRecDepth 100000 in
set_option maxHeartbeats 1000000 in
theorem seek_start_ok {w : World} {own : Nat → Prop} {bs : Nat} {S : St} {m : Mem} (h : SAtM w own bs S m) (ho : S.opened = true) (hf : S.Fit) (he : S.move.2.1 = 0) (S1 : St) (hS : S.move.2.2 = S1) (ho1 : S1.opened = true) (hok : S1.Ok) (off : Int) (hr1 : -1048576 ≤ off) (hr2 : off ≤ 1048576) (hr3 : 0 ≤ off) (hr4 : off ≤ S1.max) :
    Calls Try.prog 22 #[.pointer (some ⟨bs, 0, none⟩), .int .i64 off, .int .i64 0] w (ErrPost w own bs (0, S1.seekTo off)) := by
  have c8 : (errW w).cell? ⟨bs, 8, none⟩ = some (.bool true) := by rw [(h.alloc _).c]; simp [Mem.stream, ho]
  have Hset := Lib.hid (settle_ok (h.alloc (.cells #[.int .i64 0] 28)) ho hf he)
  rw [hS] at Hset
  have hlt := h.lt
  have hown := h.os
  have hbs : bs < w.heap.size := hlt bs h.os
  have hnb' : ¬ w.heap.size = bs := by omega
  clear ho hf he hS h
  go_enter_defers Try.func22, Try.ntmps22
  go_wp2_with (first | (go_at_call 34; refine (use_open _ _ c8).mono ?_; rintro r w' ⟨rfl, rfl⟩))
  refine Hset.out.mono ?_
  rintro _ w1 ⟨rfl, hs⟩
  have Hout := Lib.hid hs
  obtain ⟨hb, hce, hz⟩ := hs.cellMine hlt
  obtain ⟨own1, m1, h1, hg1⟩ := hs
  clear c8 Hset
  obtain ⟨ad, cd, hdv, hdc, hdm⟩ := h1.data.shape
  have c0 : w1.cell? ⟨bs, 0, none⟩ = some (.pointer (some ⟨m1.bd, 0, none⟩)) := h1.c 0
  have e0 : w1.cell? ⟨m1.bd, 0, none⟩ = some (.slice ad S1.data.length cd) := by rw [h1.cd]; simp [Mem.disk, hdv]
  have e1 : w1.cell? ⟨m1.bd, 1, none⟩ = some (.int .i64 S1.max) := h1.cd 1
  have g5 : S1.max ≤ 1048576 := hok.max1
  have g6 : (S1.data.length : Int) ≤ 1048576 := by have := hok.dlen; omega
  have c1 : w1.cell? ⟨bs, 1, none⟩ = some (.bool m1.endm) := h1.c 1
  have c9 : w1.cell? ⟨bs, 9, none⟩ = some (.int .i64 S1.pos) := h1.c 9
  have c10 : w1.cell? ⟨bs, 10, none⟩ = some m1.ahead := h1.c 10
  have c11 : w1.cell? ⟨bs, 11, none⟩ = some m1.back := h1.c 11
  have f1 := h1.f 1
  have f9 := h1.f 9
  have f10 := h1.f 10
  have f11 := h1.f 11
  have k10 : ∀ p, (w1.setCell ⟨bs, 9, none⟩ (.int .i64 p)).cell? ⟨bs, 10, none⟩ = some m1.ahead := fun p => (cell_set_off _ (by decide)).trans c10
  have k11 : ∀ p, ((w1.setCell ⟨bs, 9, none⟩ (.int .i64 p)).setCell ⟨bs, 10, none⟩ (.slice none 0 0)).cell? ⟨bs, 11, none⟩ = some m1.back := fun p => (cell_set_off _ (by decide)).trans ((cell_set_off _ (by decide)).trans c11)
  have k1 : ∀ p, (((w1.setCell ⟨bs, 9, none⟩ (.int .i64 p)).setCell ⟨bs, 10, none⟩ (.slice none 0 0)).setCell ⟨bs, 11, none⟩ (.slice none 0 0)).cell? ⟨bs, 1, none⟩ = some (.bool m1.endm) := fun p => (cell_set_off _ (by decide)).trans ((cell_set_off _ (by decide)).trans ((cell_set_off _ (by decide)).trans c1))
  have ke : ∀ p, ((((w1.setCell ⟨bs, 9, none⟩ (.int .i64 p)).setCell ⟨bs, 10, none⟩ (.slice none 0 0)).setCell ⟨bs, 11, none⟩ (.slice none 0 0)).setCell ⟨bs, 1, none⟩ (.bool false)).cell? ⟨w.heap.size, 0, none⟩ = some (.int .i64 0) := fun p =>
    (cell_set_block _ hnb').trans ((cell_set_block _ hnb').trans ((cell_set_block _ hnb').trans ((cell_set_block _ hnb').trans hce)))
  have Kee := Lib.hid (fun p => World.cell?_setCell_same _ _ (.int .i64 0) (ke p))
  have Hfin := Lib.hid (fun (p : Int) (n : Nat) => SAt'.stored (w := w) (w1 := (((w1.setCell ⟨bs, 9, none⟩ (.int .i64 p)).setCell ⟨bs, 10, none⟩ (.slice none 0 0)).setCell ⟨bs, 11, none⟩ (.slice none 0 0)).setCell ⟨bs, 1, none⟩ (.bool false)) (S := S1.seekTo p)
    ⟨own1, _, (((h1.setPos p).setAhead (.slice none 0 0) [] (Rd.nil _ _ _)).setBack (.slice none 0 0) [] (Rd.nil _ _ _)).setEnd false ho1, (((hg1.setCell _ _ (.inl hown)).setCell _ _ (.inl hown)).setCell _ _ (.inl hown)).setCell _ _ (.inl hown)⟩ hlt (.int .i64 0) n)
  clear h1 hg1 hdv hdc hdm hok
  go_wp2_with (first | (go_at_call 35; first | (refine (want_ok _ 3 _ (by first | rfl | (simp; omega))).mono ?_; rintro _ w' ⟨rfl, rfl⟩) | (refine (want_bad _ 3 _ (by first | rfl | (simp; omega)) rfl).mono ?_; rintro _ w' ⟨rfl, rfl⟩)))
  have kee := Kee.out
  refine door_ok (v := .int .i64 0) ?_ ⟨rfl, Hfin.out _ 0⟩
  simp [results, Try.results22, go_sem, kee]

set_option maxRecDepth 100000 in
set_option maxHeartbeats 1000000 in
theorem seek_end_bad {w : World} {own : Nat → Prop} {bs : Nat} {S : St} {m : Mem} (h : SAtM w own bs S m) (ho : S.opened = true) (hf : S.Fit) (he : S.move.2.1 = 0) (S1 : St) (hS : S.move.2.2 = S1) (_ : S1.opened = true) (hok : S1.Ok) (off : Int) (hr : off < -1048576 ∨ 1048576 < off ∨ (S1.data.length : Int) + off < 0 ∨ S1.max < (S1.data.length : Int) + off) :
    Calls Try.prog 22 #[.pointer (some ⟨bs, 0, none⟩), .int .i64 off, .int .i64 2] w (ErrPost w own bs (3, S1)) := by
  have c8 : (errW w).cell? ⟨bs, 8, none⟩ = some (.bool true) := by rw [(h.alloc _).c]; simp [Mem.stream, ho]
  have Hset := Lib.hid (settle_ok (h.alloc (.cells #[.int .i64 0] 28)) ho hf he)
  rw [hS] at Hset
  have hlt := h.lt
  have hown := h.os
  have hbs : bs < w.heap.size := hlt bs h.os
  have hnb' : ¬ w.heap.size = bs := by omega
  clear ho hf he hS h
  go_enter_defers Try.func22, Try.ntmps22
  go_wp2_with (first | (go_at_call 34; refine (use_open _ _ c8).mono ?_; rintro r w' ⟨rfl, rfl⟩))
  refine Hset.out.mono ?_
  rintro _ w1 ⟨rfl, hs⟩
  have Hout := Lib.hid hs
  obtain ⟨hb, hce, hz⟩ := hs.cellMine hlt
  obtain ⟨own1, m1, h1, hg1⟩ := hs
  clear c8 Hset
  obtain ⟨ad, cd, hdv, hdc, hdm⟩ := h1.data.shape
  have c0 : w1.cell? ⟨bs, 0, none⟩ = some (.pointer (some ⟨m1.bd, 0, none⟩)) := h1.c 0
  have e0 : w1.cell? ⟨m1.bd, 0, none⟩ = some (.slice ad S1.data.length cd) := by rw [h1.cd]; simp [Mem.disk, hdv]
  have e1 : w1.cell? ⟨m1.bd, 1, none⟩ = some (.int .i64 S1.max) := h1.cd 1
  have g5 : S1.max ≤ 1048576 := hok.max1
  have g6 : (S1.data.length : Int) ≤ 1048576 := by have := hok.dlen; omega
  have Hcc := Lib.hid (fun (n : Nat) => caughtW_cell (w := w1.drewN n) (x := 3) hce)
  have Hcau := Lib.hid (fun (n : Nat) => SAt'.caught (w := w) (w1 := w1.drewN n) ⟨own1, m1, h1.drewN n, hg1.drewN n⟩ hlt 3)
  clear h1 hg1 hdv hdc hdm hok
  go_wp2_with (first | (go_at_call 35; first | (refine (want_ok _ 3 _ (by first | rfl | (simp; omega))).mono ?_; rintro _ w' ⟨rfl, rfl⟩) | (refine (want_bad _ 3 _ (by first | rfl | (simp; omega)) rfl).mono ?_; rintro _ w' ⟨rfl, rfl⟩)))
  all_goals refine door_err (y := 0) (v := .int .i64 3) hb hce hz ?_ ⟨rfl, Hcau.out 0⟩
  all_goals (have hcc3 : (caughtW w1 w.heap.size 3).cell? ⟨w.heap.size, 0, none⟩ = some (.int .i64 3) := Hcc.out 0; simp [results, Try.results22, go_sem, hcc3])

set_option maxRecDepth 100000 in
set_option maxHeartbeats 1000000 in
theorem seek_end_ok {w : World} {own : Nat → Prop} {bs : Nat} {S : St} {m : Mem} (h : SAtM w own bs S m) (ho : S.opened = true) (hf : S.Fit) (he : S.move.2.1 = 0) (S1 : St) (hS : S.move.2.2 = S1) (ho1 : S1.opened = true) (hok : S1.Ok) (off : Int) (hr1 : -1048576 ≤ off) (hr2 : off ≤ 1048576) (hr3 : 0 ≤ (S1.data.length : Int) + off) (hr4 : (S1.data.length : Int) + off ≤ S1.max) :
    Calls Try.prog 22 #[.pointer (some ⟨bs, 0, none⟩), .int .i64 off, .int .i64 2] w (ErrPost w own bs (0, S1.seekTo ((S1.data.length : Int) + off))) := by
  have c8 : (errW w).cell? ⟨bs, 8, none⟩ = some (.bool true) := by rw [(h.alloc _).c]; simp [Mem.stream, ho]
  have Hset := Lib.hid (settle_ok (h.alloc (.cells #[.int .i64 0] 28)) ho hf he)
  rw [hS] at Hset
  have hlt := h.lt
  have hown := h.os
  have hbs : bs < w.heap.size := hlt bs h.os
  have hnb' : ¬ w.heap.size = bs := by omega
  clear ho hf he hS h
  go_enter_defers Try.func22, Try.ntmps22
  go_wp2_with (first | (go_at_call 34; refine (use_open _ _ c8).mono ?_; rintro r w' ⟨rfl, rfl⟩))
  refine Hset.out.mono ?_
  rintro _ w1 ⟨rfl, hs⟩
  have Hout := Lib.hid hs
  obtain ⟨hb, hce, hz⟩ := hs.cellMine hlt
  obtain ⟨own1, m1, h1, hg1⟩ := hs
  clear c8 Hset
  obtain ⟨ad, cd, hdv, hdc, hdm⟩ := h1.data.shape
  have c0 : w1.cell? ⟨bs, 0, none⟩ = some (.pointer (some ⟨m1.bd, 0, none⟩)) := h1.c 0
  have e0 : w1.cell? ⟨m1.bd, 0, none⟩ = some (.slice ad S1.data.length cd) := by rw [h1.cd]; simp [Mem.disk, hdv]
  have e1 : w1.cell? ⟨m1.bd, 1, none⟩ = some (.int .i64 S1.max) := h1.cd 1
  have g5 : S1.max ≤ 1048576 := hok.max1
  have g6 : (S1.data.length : Int) ≤ 1048576 := by have := hok.dlen; omega
  have c1 : w1.cell? ⟨bs, 1, none⟩ = some (.bool m1.endm) := h1.c 1
  have c9 : w1.cell? ⟨bs, 9, none⟩ = some (.int .i64 S1.pos) := h1.c 9
  have c10 : w1.cell? ⟨bs, 10, none⟩ = some m1.ahead := h1.c 10
  have c11 : w1.cell? ⟨bs, 11, none⟩ = some m1.back := h1.c 11
  have f1 := h1.f 1
  have f9 := h1.f 9
  have f10 := h1.f 10
  have f11 := h1.f 11
  have k10 : ∀ p, (w1.setCell ⟨bs, 9, none⟩ (.int .i64 p)).cell? ⟨bs, 10, none⟩ = some m1.ahead := fun p => (cell_set_off _ (by decide)).trans c10
  have k11 : ∀ p, ((w1.setCell ⟨bs, 9, none⟩ (.int .i64 p)).setCell ⟨bs, 10, none⟩ (.slice none 0 0)).cell? ⟨bs, 11, none⟩ = some m1.back := fun p => (cell_set_off _ (by decide)).trans ((cell_set_off _ (by decide)).trans c11)
  have k1 : ∀ p, (((w1.setCell ⟨bs, 9, none⟩ (.int .i64 p)).setCell ⟨bs, 10, none⟩ (.slice none 0 0)).setCell ⟨bs, 11, none⟩ (.slice none 0 0)).cell? ⟨bs, 1, none⟩ = some (.bool m1.endm) := fun p => (cell_set_off _ (by decide)).trans ((cell_set_off _ (by decide)).trans ((cell_set_off _ (by decide)).trans c1))
  have ke : ∀ p, ((((w1.setCell ⟨bs, 9, none⟩ (.int .i64 p)).setCell ⟨bs, 10, none⟩ (.slice none 0 0)).setCell ⟨bs, 11, none⟩ (.slice none 0 0)).setCell ⟨bs, 1, none⟩ (.bool false)).cell? ⟨w.heap.size, 0, none⟩ = some (.int .i64 0) := fun p =>
    (cell_set_block _ hnb').trans ((cell_set_block _ hnb').trans ((cell_set_block _ hnb').trans ((cell_set_block _ hnb').trans hce)))
  have Kee := Lib.hid (fun p => World.cell?_setCell_same _ _ (.int .i64 0) (ke p))
  have Hfin := Lib.hid (fun (p : Int) (n : Nat) => SAt'.stored (w := w) (w1 := (((w1.setCell ⟨bs, 9, none⟩ (.int .i64 p)).setCell ⟨bs, 10, none⟩ (.slice none 0 0)).setCell ⟨bs, 11, none⟩ (.slice none 0 0)).setCell ⟨bs, 1, none⟩ (.bool false)) (S := S1.seekTo p)
    ⟨own1, _, (((h1.setPos p).setAhead (.slice none 0 0) [] (Rd.nil _ _ _)).setBack (.slice none 0 0) [] (Rd.nil _ _ _)).setEnd false ho1, (((hg1.setCell _ _ (.inl hown)).setCell _ _ (.inl hown)).setCell _ _ (.inl hown)).setCell _ _ (.inl hown)⟩ hlt (.int .i64 0) n)
  clear h1 hg1 hdv hdc hdm hok
  go_wp2_with (first | (go_at_call 35; first | (refine (want_ok _ 3 _ (by first | rfl | (simp; omega))).mono ?_; rintro _ w' ⟨rfl, rfl⟩) | (refine (want_bad _ 3 _ (by first | rfl | (simp; omega)) rfl).mono ?_; rintro _ w' ⟨rfl, rfl⟩)))
  have kee := Kee.out
  refine door_ok (v := .int .i64 0) ?_ ⟨rfl, Hfin.out _ 0⟩
  simp [results, Try.results22, go_sem, kee]

set_option maxRecDepth 100000 in
set_option maxHeartbeats 1000000 in
theorem seek_none {w : World} {own : Nat → Prop} {bs : Nat} {S : St} {m : Mem} (h : SAtM w own bs S m) (ho : S.opened = true) (hf : S.Fit) (he : S.move.2.1 = 0) (S1 : St) (hS : S.move.2.2 = S1) (_ : S1.opened = true) (hok : S1.Ok) (off whence : Int) (hw0 : whence ≠ 0) (hw1 : whence ≠ 1) (hw2 : whence ≠ 2) :
    Calls Try.prog 22 #[.pointer (some ⟨bs, 0, none⟩), .int .i64 off, .int .i64 whence] w (ErrPost w own bs (1, S1)) := by
  have c8 : (errW w).cell? ⟨bs, 8, none⟩ = some (.bool true) := by rw [(h.alloc _).c]; simp [Mem.stream, ho]
  have Hset := Lib.hid (settle_ok (h.alloc (.cells #[.int .i64 0] 28)) ho hf he)
  rw [hS] at Hset
  have hlt := h.lt
  have hown := h.os
  have hbs : bs < w.heap.size := hlt bs h.os
  have hnb' : ¬ w.heap.size = bs := by omega
  clear ho hf he hS h
  go_enter_defers Try.func22, Try.ntmps22
  go_wp2_with (first | (go_at_call 34; refine (use_open _ _ c8).mono ?_; rintro r w' ⟨rfl, rfl⟩))
  refine Hset.out.mono ?_
  rintro _ w1 ⟨rfl, hs⟩
  have Hout := Lib.hid hs
  obtain ⟨hb, hce, hz⟩ := hs.cellMine hlt
  obtain ⟨own1, m1, h1, hg1⟩ := hs
  clear c8 Hset
  obtain ⟨ad, cd, hdv, hdc, hdm⟩ := h1.data.shape
  have c0 : w1.cell? ⟨bs, 0, none⟩ = some (.pointer (some ⟨m1.bd, 0, none⟩)) := h1.c 0
  have e0 : w1.cell? ⟨m1.bd, 0, none⟩ = some (.slice ad S1.data.length cd) := by rw [h1.cd]; simp [Mem.disk, hdv]
  have e1 : w1.cell? ⟨m1.bd, 1, none⟩ = some (.int .i64 S1.max) := h1.cd 1
  have g5 : S1.max ≤ 1048576 := hok.max1
  have g6 : (S1.data.length : Int) ≤ 1048576 := by have := hok.dlen; omega
  have Hcc := Lib.hid (fun (n : Nat) => caughtW_cell (w := w1.drewN n) (x := 1) hce)
  have Hcau := Lib.hid (fun (n : Nat) => SAt'.caught (w := w) (w1 := w1.drewN n) ⟨own1, m1, h1.drewN n, hg1.drewN n⟩ hlt 1)
  clear h1 hg1 hdv hdc hdm hok
  have b0 : (whence == 0) = false := by simpa using hw0
  have b1 : (whence == 1) = false := by simpa using hw1
  have b2 : (whence == 2) = false := by simpa using hw2
  go_wp2_with (go_at_call 42; refine (must_bad _ _ rfl).mono ?_; rintro _ w' ⟨rfl, rfl⟩)
  refine door_err (y := 0) (v := .int .i64 1) hb hce hz ?_ ⟨rfl, Hcau.out 0⟩
  have hcc3 : (caughtW w1 w.heap.size 1).cell? ⟨w.heap.size, 0, none⟩ = some (.int .i64 1) := Hcc.out 0
  simp [results, Try.results22, go_sem, hcc3]

set_option maxRecDepth 100000 in
set_option maxHeartbeats 1000000 in
theorem seek_here_neg {w : World} {own : Nat → Prop} {bs : Nat} {S : St} {m : Mem} (h : SAtM w own bs S m) (ho : S.opened = true) (hf : S.Fit) (he : S.move.2.1 = 0) (S1 : St) (hS : S.move.2.2 = S1) (_ : S1.opened = true) (hok : S1.Ok) (off : Int) (ht : (S1.pos + (S1.wait.length : Int) - (S1.ahead.length : Int) - (S1.back.length : Int)) < 0) :
    Calls Try.prog 22 #[.pointer (some ⟨bs, 0, none⟩), .int .i64 off, .int .i64 1] w (ErrPost w own bs (4, S1)) := by
  have c8 : (errW w).cell? ⟨bs, 8, none⟩ = some (.bool true) := by rw [(h.alloc _).c]; simp [Mem.stream, ho]
  have Hset := Lib.hid (settle_ok (h.alloc (.cells #[.int .i64 0] 28)) ho hf he)
  rw [hS] at Hset
  have hlt := h.lt
  have hown := h.os
  have hbs : bs < w.heap.size := hlt bs h.os
  have hnb' : ¬ w.heap.size = bs := by omega
  clear ho hf he hS h
  go_enter_defers Try.func22, Try.ntmps22
  go_wp2_with (first | (go_at_call 34; refine (use_open _ _ c8).mono ?_; rintro r w' ⟨rfl, rfl⟩))
  refine Hset.out.mono ?_
  rintro _ w1 ⟨rfl, hs⟩
  have Hout := Lib.hid hs
  obtain ⟨hb, hce, hz⟩ := hs.cellMine hlt
  obtain ⟨own1, m1, h1, hg1⟩ := hs
  clear c8 Hset
  obtain ⟨ad, cd, hdv, hdc, hdm⟩ := h1.data.shape
  have c0 : w1.cell? ⟨bs, 0, none⟩ = some (.pointer (some ⟨m1.bd, 0, none⟩)) := h1.c 0
  have e0 : w1.cell? ⟨m1.bd, 0, none⟩ = some (.slice ad S1.data.length cd) := by rw [h1.cd]; simp [Mem.disk, hdv]
  have e1 : w1.cell? ⟨m1.bd, 1, none⟩ = some (.int .i64 S1.max) := h1.cd 1
  have g5 : S1.max ≤ 1048576 := hok.max1
  have g6 : (S1.data.length : Int) ≤ 1048576 := by have := hok.dlen; omega
  obtain ⟨a10, b10, v10, -, -⟩ := h1.ahead.shape
  obtain ⟨a11, b11, v11, -, -⟩ := h1.back.shape
  obtain ⟨a12, b12, v12, -, -⟩ := h1.wait.shape
  have c9 : w1.cell? ⟨bs, 9, none⟩ = some (.int .i64 S1.pos) := h1.c 9
  have c10 : w1.cell? ⟨bs, 10, none⟩ = some (.slice a10 S1.ahead.length b10) := by rw [h1.c]; simp [Mem.stream, v10]
  have c11 : w1.cell? ⟨bs, 11, none⟩ = some (.slice a11 S1.back.length b11) := by rw [h1.c]; simp [Mem.stream, v11]
  have c12 : w1.cell? ⟨bs, 12, none⟩ = some (.slice a12 S1.wait.length b12) := by rw [h1.c]; simp [Mem.stream, v12]
  have g0 : 0 ≤ S1.pos := by have := hok.pos0; omega
  have g1 : S1.pos ≤ 2000000 := by have := hok.pos1; have := hok.max1; omega
  have g2 : S1.ahead.length ≤ 2000000 := by have := hok.pos0; omega
  have g3 : S1.back.length ≤ 2000000 := by have := hok.back16; omega
  have g4 : S1.wait.length ≤ 2000000 := by have := hok.wlen; have := hok.size2; omega
  have Ht := Lib.hid (tell_bad bs S1.pos S1.ahead.length S1.back.length S1.wait.length a10 a11 a12 b10 b11 b12 w1 c9 c10 c11 c12 g0 g1 g2 g3 g4 ht)
  clear v10 v11 v12 c9 c10 c11 c12
  have Hcc := Lib.hid (fun (n : Nat) => caughtW_cell (w := w1.drewN n) (x := 4) hce)
  have Hcau := Lib.hid (fun (n : Nat) => SAt'.caught (w := w) (w1 := w1.drewN n) ⟨own1, m1, h1.drewN n, hg1.drewN n⟩ hlt 4)
  clear h1 hg1 hdv hdc hdm hok
  go_wp2_with (first | (go_at_call 41; refine Ht.out.mono ?_; rintro r w' ⟨rfl, n, rfl⟩) )
  refine door_err (y := 0) (v := .int .i64 4) hb hce hz ?_ ⟨rfl, Hcau.out n⟩
  simp [results, Try.results22, go_sem, Hcc.out n]

set_option maxRecDepth 100000 in
set_option maxHeartbeats 1000000 in
theorem seek_here_bad {w : World} {own : Nat → Prop} {bs : Nat} {S : St} {m : Mem} (h : SAtM w own bs S m) (ho : S.opened = true) (hf : S.Fit) (he : S.move.2.1 = 0) (S1 : St) (hS : S.move.2.2 = S1) (_ : S1.opened = true) (hok : S1.Ok) (off : Int) (ht : 0 ≤ (S1.pos + (S1.wait.length : Int) - (S1.ahead.length : Int) - (S1.back.length : Int))) (hr : off < -1048576 ∨ 1048576 < off ∨ (S1.pos + (S1.wait.length : Int) - (S1.ahead.length : Int) - (S1.back.length : Int)) + off < 0 ∨ S1.max < (S1.pos + (S1.wait.length : Int) - (S1.ahead.length : Int) - (S1.back.length : Int)) + off) :
    Calls Try.prog 22 #[.pointer (some ⟨bs, 0, none⟩), .int .i64 off, .int .i64 1] w (ErrPost w own bs (3, S1)) := by
  have c8 : (errW w).cell? ⟨bs, 8, none⟩ = some (.bool true) := by rw [(h.alloc _).c]; simp [Mem.stream, ho]
  have Hset := Lib.hid (settle_ok (h.alloc (.cells #[.int .i64 0] 28)) ho hf he)
  rw [hS] at Hset
  have hlt := h.lt
  have hown := h.os
  have hbs : bs < w.heap.size := hlt bs h.os
  have hnb' : ¬ w.heap.size = bs := by omega
  clear ho hf he hS h
  go_enter_defers Try.func22, Try.ntmps22
  go_wp2_with (first | (go_at_call 34; refine (use_open _ _ c8).mono ?_; rintro r w' ⟨rfl, rfl⟩))
  refine Hset.out.mono ?_
  rintro _ w1 ⟨rfl, hs⟩
  have Hout := Lib.hid hs
  obtain ⟨hb, hce, hz⟩ := hs.cellMine hlt
  obtain ⟨own1, m1, h1, hg1⟩ := hs
  clear c8 Hset
  obtain ⟨ad, cd, hdv, hdc, hdm⟩ := h1.data.shape
  have c0 : w1.cell? ⟨bs, 0, none⟩ = some (.pointer (some ⟨m1.bd, 0, none⟩)) := h1.c 0
  have e0 : w1.cell? ⟨m1.bd, 0, none⟩ = some (.slice ad S1.data.length cd) := by rw [h1.cd]; simp [Mem.disk, hdv]
  have e1 : w1.cell? ⟨m1.bd, 1, none⟩ = some (.int .i64 S1.max) := h1.cd 1
  have g5 : S1.max ≤ 1048576 := hok.max1
  have g6 : (S1.data.length : Int) ≤ 1048576 := by have := hok.dlen; omega
  obtain ⟨a10, b10, v10, -, -⟩ := h1.ahead.shape
  obtain ⟨a11, b11, v11, -, -⟩ := h1.back.shape
  obtain ⟨a12, b12, v12, -, -⟩ := h1.wait.shape
  have c9 : w1.cell? ⟨bs, 9, none⟩ = some (.int .i64 S1.pos) := h1.c 9
  have c10 : w1.cell? ⟨bs, 10, none⟩ = some (.slice a10 S1.ahead.length b10) := by rw [h1.c]; simp [Mem.stream, v10]
  have c11 : w1.cell? ⟨bs, 11, none⟩ = some (.slice a11 S1.back.length b11) := by rw [h1.c]; simp [Mem.stream, v11]
  have c12 : w1.cell? ⟨bs, 12, none⟩ = some (.slice a12 S1.wait.length b12) := by rw [h1.c]; simp [Mem.stream, v12]
  have g0 : 0 ≤ S1.pos := by have := hok.pos0; omega
  have g1 : S1.pos ≤ 2000000 := by have := hok.pos1; have := hok.max1; omega
  have g2 : S1.ahead.length ≤ 2000000 := by have := hok.pos0; omega
  have g3 : S1.back.length ≤ 2000000 := by have := hok.back16; omega
  have g4 : S1.wait.length ≤ 2000000 := by have := hok.wlen; have := hok.size2; omega
  have Ht := Lib.hid (tell_ok bs S1.pos S1.ahead.length S1.back.length S1.wait.length a10 a11 a12 b10 b11 b12 w1 c9 c10 c11 c12 g0 g1 g2 g3 g4 ht)
  clear v10 v11 v12 c9 c10 c11 c12
  have Hcc := Lib.hid (fun (n : Nat) => caughtW_cell (w := w1.drewN n) (x := 3) hce)
  have Hcau := Lib.hid (fun (n : Nat) => SAt'.caught (w := w) (w1 := w1.drewN n) ⟨own1, m1, h1.drewN n, hg1.drewN n⟩ hlt 3)
  clear h1 hg1 hdv hdc hdm hok
  go_wp2_with (first | (go_at_call 41; refine Ht.out.mono ?_; rintro r w' ⟨rfl, n, rfl⟩) | (go_at_call 35; first | (refine (want_ok _ 3 _ (by first | rfl | (simp; omega))).mono ?_; rintro _ w' ⟨rfl, rfl⟩) | (refine (want_bad _ 3 _ (by first | rfl | (simp; omega)) rfl).mono ?_; rintro _ w' ⟨rfl, rfl⟩)))
  all_goals refine door_err (y := 0) (v := .int .i64 3) hb hce hz ?_ ⟨rfl, Hcau.out n⟩
  all_goals (have hcc3 := Hcc.out n; simp [results, Try.results22, go_sem, hcc3])

set_option maxRecDepth 100000 in
set_option maxHeartbeats 6000000 in
theorem seek_here_ok {w : World} {own : Nat → Prop} {bs : Nat} {S : St} {m : Mem} (h : SAtM w own bs S m) (ho : S.opened = true) (hf : S.Fit) (he : S.move.2.1 = 0) (S1 : St) (hS : S.move.2.2 = S1) (ho1 : S1.opened = true) (hok : S1.Ok) (off : Int) (ht : 0 ≤ (S1.pos + (S1.wait.length : Int) - (S1.ahead.length : Int) - (S1.back.length : Int))) (hr1 : -1048576 ≤ off) (hr2 : off ≤ 1048576) (hr3 : 0 ≤ (S1.pos + (S1.wait.length : Int) - (S1.ahead.length : Int) - (S1.back.length : Int)) + off) (hr4 : (S1.pos + (S1.wait.length : Int) - (S1.ahead.length : Int) - (S1.back.length : Int)) + off ≤ S1.max) :
    Calls Try.prog 22 #[.pointer (some ⟨bs, 0, none⟩), .int .i64 off, .int .i64 1] w (ErrPost w own bs (0, S1.seekTo ((S1.pos + (S1.wait.length : Int) - (S1.ahead.length : Int) - (S1.back.length : Int)) + off))) := by
  have c8 : (errW w).cell? ⟨bs, 8, none⟩ = some (.bool true) := by rw [(h.alloc _).c]; simp [Mem.stream, ho]
  have Hset := Lib.hid (settle_ok (h.alloc (.cells #[.int .i64 0] 28)) ho hf he)
  rw [hS] at Hset
  have hlt := h.lt
  have hown := h.os
  have hbs : bs < w.heap.size := hlt bs h.os
  have hnb' : ¬ w.heap.size = bs := by omega
  clear ho hf he hS h
  go_enter_defers Try.func22, Try.ntmps22
  go_wp2_with (first | (go_at_call 34; refine (use_open _ _ c8).mono ?_; rintro r w' ⟨rfl, rfl⟩))
  refine Hset.out.mono ?_
  rintro _ w1 ⟨rfl, hs⟩
  have Hout := Lib.hid hs
  obtain ⟨hb, hce, hz⟩ := hs.cellMine hlt
  obtain ⟨own1, m1, h1, hg1⟩ := hs
  clear c8 Hset
  obtain ⟨ad, cd, hdv, hdc, hdm⟩ := h1.data.shape
  have c0 : w1.cell? ⟨bs, 0, none⟩ = some (.pointer (some ⟨m1.bd, 0, none⟩)) := h1.c 0
  have e0 : w1.cell? ⟨m1.bd, 0, none⟩ = some (.slice ad S1.data.length cd) := by rw [h1.cd]; simp [Mem.disk, hdv]
  have e1 : w1.cell? ⟨m1.bd, 1, none⟩ = some (.int .i64 S1.max) := h1.cd 1
  have g5 : S1.max ≤ 1048576 := hok.max1
  have g6 : (S1.data.length : Int) ≤ 1048576 := by have := hok.dlen; omega
  obtain ⟨a10, b10, v10, -, -⟩ := h1.ahead.shape
  obtain ⟨a11, b11, v11, -, -⟩ := h1.back.shape
  obtain ⟨a12, b12, v12, -, -⟩ := h1.wait.shape
  have c9 : w1.cell? ⟨bs, 9, none⟩ = some (.int .i64 S1.pos) := h1.c 9
  have c10 : w1.cell? ⟨bs, 10, none⟩ = some (.slice a10 S1.ahead.length b10) := by rw [h1.c]; simp [Mem.stream, v10]
  have c11 : w1.cell? ⟨bs, 11, none⟩ = some (.slice a11 S1.back.length b11) := by rw [h1.c]; simp [Mem.stream, v11]
  have c12 : w1.cell? ⟨bs, 12, none⟩ = some (.slice a12 S1.wait.length b12) := by rw [h1.c]; simp [Mem.stream, v12]
  have g0 : 0 ≤ S1.pos := by have := hok.pos0; omega
  have g1 : S1.pos ≤ 2000000 := by have := hok.pos1; have := hok.max1; omega
  have g2 : S1.ahead.length ≤ 2000000 := by have := hok.pos0; omega
  have g3 : S1.back.length ≤ 2000000 := by have := hok.back16; omega
  have g4 : S1.wait.length ≤ 2000000 := by have := hok.wlen; have := hok.size2; omega
  have Ht := Lib.hid (tell_ok bs S1.pos S1.ahead.length S1.back.length S1.wait.length a10 a11 a12 b10 b11 b12 w1 c9 c10 c11 c12 g0 g1 g2 g3 g4 ht)
  clear v10 v11 v12 c9 c10 c11 c12
  have c1 : w1.cell? ⟨bs, 1, none⟩ = some (.bool m1.endm) := h1.c 1
  have c9 : w1.cell? ⟨bs, 9, none⟩ = some (.int .i64 S1.pos) := h1.c 9
  have c10 : w1.cell? ⟨bs, 10, none⟩ = some m1.ahead := h1.c 10
  have c11 : w1.cell? ⟨bs, 11, none⟩ = some m1.back := h1.c 11
  have f1 := h1.f 1
  have f9 := h1.f 9
  have f10 := h1.f 10
  have f11 := h1.f 11
  have k10 : ∀ p, (w1.setCell ⟨bs, 9, none⟩ (.int .i64 p)).cell? ⟨bs, 10, none⟩ = some m1.ahead := fun p => (cell_set_off _ (by decide)).trans c10
  have k11 : ∀ p, ((w1.setCell ⟨bs, 9, none⟩ (.int .i64 p)).setCell ⟨bs, 10, none⟩ (.slice none 0 0)).cell? ⟨bs, 11, none⟩ = some m1.back := fun p => (cell_set_off _ (by decide)).trans ((cell_set_off _ (by decide)).trans c11)
  have k1 : ∀ p, (((w1.setCell ⟨bs, 9, none⟩ (.int .i64 p)).setCell ⟨bs, 10, none⟩ (.slice none 0 0)).setCell ⟨bs, 11, none⟩ (.slice none 0 0)).cell? ⟨bs, 1, none⟩ = some (.bool m1.endm) := fun p => (cell_set_off _ (by decide)).trans ((cell_set_off _ (by decide)).trans ((cell_set_off _ (by decide)).trans c1))
  have ke : ∀ p, ((((w1.setCell ⟨bs, 9, none⟩ (.int .i64 p)).setCell ⟨bs, 10, none⟩ (.slice none 0 0)).setCell ⟨bs, 11, none⟩ (.slice none 0 0)).setCell ⟨bs, 1, none⟩ (.bool false)).cell? ⟨w.heap.size, 0, none⟩ = some (.int .i64 0) := fun p =>
    (cell_set_block _ hnb').trans ((cell_set_block _ hnb').trans ((cell_set_block _ hnb').trans ((cell_set_block _ hnb').trans hce)))
  have Kee := Lib.hid (fun p => World.cell?_setCell_same _ _ (.int .i64 0) (ke p))
  have Hfin := Lib.hid (fun (p : Int) (n : Nat) => SAt'.stored (w := w) (w1 := (((w1.setCell ⟨bs, 9, none⟩ (.int .i64 p)).setCell ⟨bs, 10, none⟩ (.slice none 0 0)).setCell ⟨bs, 11, none⟩ (.slice none 0 0)).setCell ⟨bs, 1, none⟩ (.bool false)) (S := S1.seekTo p)
    ⟨own1, _, (((h1.setPos p).setAhead (.slice none 0 0) [] (Rd.nil _ _ _)).setBack (.slice none 0 0) [] (Rd.nil _ _ _)).setEnd false ho1, (((hg1.setCell _ _ (.inl hown)).setCell _ _ (.inl hown)).setCell _ _ (.inl hown)).setCell _ _ (.inl hown)⟩ hlt (.int .i64 0) n)
  clear h1 hg1 hdv hdc hdm hok
  go_wp2_with (first | (go_at_call 41; refine Ht.out.mono ?_; rintro r w' ⟨rfl, n, rfl⟩) | (go_at_call 35; first | (refine (want_ok _ 3 _ (by first | rfl | (simp; omega))).mono ?_; rintro _ w' ⟨rfl, rfl⟩) | (refine (want_bad _ 3 _ (by first | rfl | (simp; omega)) rfl).mono ?_; rintro _ w' ⟨rfl, rfl⟩)))
  have kee : ∀ p, ((((((w1.drewN n).setCell ⟨bs, 9, none⟩ (.int .i64 p)).setCell ⟨bs, 10, none⟩ (.slice none 0 0)).setCell ⟨bs, 11, none⟩ (.slice none 0 0)).setCell ⟨bs, 1, none⟩ (.bool false)).setCell ⟨w.heap.size, 0, none⟩ (.int .i64 0)).cell? ⟨w.heap.size, 0, none⟩ = some (.int .i64 0) := Kee.out
  refine door_ok (v := .int .i64 0) ?_ ⟨rfl, Hfin.out _ n⟩
  simp [results, Try.results22, go_sem, kee]

theorem seek_calls {w : World} {own : Nat → Prop} {bs : Nat} {S : St} (h : SAt w own bs S) (hok : S.Ok) (off whence : Int) :
    Calls Try.prog 22 #[.pointer (some ⟨bs, 0, none⟩), .int .i64 off, .int .i64 whence] w (ErrPost w own bs (S.seek off whence)) := by
  obtain ⟨m, h⟩ := h
  unfold St.seek
  by_cases ho : S.opened = false
  · rw [if_pos ho]; exact seek_closed h ho off whence
  · have ho' : S.opened = true := by simpa using ho
    rw [if_neg ho]
    by_cases he : S.move.2.1 = 0
    · rw [if_neg (by simpa using he)]
      obtain ⟨h1, h2, -, -⟩ := move_ok S hok
      generalize hS : S.move.2.2 = S1 at h1 h2
      have ho1 : S1.opened = true := h2.trans ho'
      by_cases hw0 : whence = 0
      · subst hw0
        rw [if_pos rfl]
        unfold St.seekFrom
        simp only [Int.zero_add]
        by_cases hr : off < -1048576 ∨ 1048576 < off ∨ off < 0 ∨ S1.max < off
        · rw [if_pos hr]; exact seek_start_bad h ho' hok.fit he S1 hS ho1 h1 off hr
        · rw [if_neg hr]; exact seek_start_ok h ho' hok.fit he S1 hS ho1 h1 off (by omega) (by omega) (by omega) (by omega)
      · rw [if_neg hw0]
        by_cases hw1 : whence = 1
        · subst hw1
          rw [if_pos rfl]
          by_cases ht : S1.tellAt < 0
          · rw [if_pos ht]; exact seek_here_neg h ho' hok.fit he S1 hS ho1 h1 off ht
          · rw [if_neg ht]
            unfold St.seekFrom
            have ht' : 0 ≤ S1.tellAt := by omega
            by_cases hr : off < -1048576 ∨ 1048576 < off ∨ S1.tellAt + off < 0 ∨ S1.max < S1.tellAt + off
            · rw [if_pos hr]; exact seek_here_bad h ho' hok.fit he S1 hS ho1 h1 off ht' hr
            · rw [if_neg hr]; exact seek_here_ok h ho' hok.fit he S1 hS ho1 h1 off ht' (by omega) (by omega) (by show 0 ≤ S1.tellAt + off; omega) (by show S1.tellAt + off ≤ S1.max; omega)
        · rw [if_neg hw1]
          by_cases hw2 : whence = 2
          · subst hw2
            rw [if_pos rfl]
            unfold St.seekFrom
            by_cases hr : off < -1048576 ∨ 1048576 < off ∨ (S1.data.length : Int) + off < 0 ∨ S1.max < (S1.data.length : Int) + off
            · rw [if_pos hr]; exact seek_end_bad h ho' hok.fit he S1 hS ho1 h1 off hr
            · rw [if_neg hr]; exact seek_end_ok h ho' hok.fit he S1 hS ho1 h1 off (by omega) (by omega) (by omega) (by omega)
          · rw [if_neg hw2]; exact seek_none h ho' hok.fit he S1 hS ho1 h1 off whence hw0 hw1 hw2
    · rw [if_pos he]
      exact seek_stuck h ho' hok.fit _ rfl (by simpa using he) off whence
end Go.Proofs.Ytgihclflndlomaa
