/- The reference package's Ungetc, Flush, Close, Tell, Seek; The reference package's Flush, Close, Tell, Seek. -/
import Derived.Test.YtgihclflndlomaaEd
import Derived.Test.YtgihclflndlomaaAb
import Derived.BigQuiet
namespace Go.Proofs.Ytgihclflndlomaa
open Go.RowKit

def RErrPost (w : World) (own : Nat → Prop) (bs : Nat) (r : Int × St) (e : Ending) (w' : World) : Prop :=
  e = .returned (.int .i64 r.1) ∧ RAt' w w' own bs r.2

theorem rungetc_shut {w : World} {own : Nat → Prop} {bs : Nat} {S : St} {m : RMem} (h : RAtM w own bs S m) (ho : S.opened = false ∨ S.rd = false) (c : UInt8) :
    Calls Try.prog 49 #[.pointer (some ⟨bs, 0, none⟩), .int .u8 (c.toNat : Int)] w (RErrPost w own bs (4, S)) := by
  have hpost : RAt' w w own bs S := ⟨own, m, h, Fr.refl _ _⟩
  have Hpost := Lib.hid hpost
  cases ho1 : S.opened with
  | false =>
    have c14 : w.cell? ⟨bs, 14, none⟩ = some (.bool true) := by rw [h.c]; simp [RMem.cells, ho1]
    clear ho ho1 h hpost
    go_enter Try.func49, Try.ntmps49
    go_wp2_with fail
    go_ret
    exact ⟨rfl, Hpost.out⟩
  | true =>
    have hr : S.rd = false := ho.elim (fun e => by rw [ho1] at e; cases e) id
    have c14 : w.cell? ⟨bs, 14, none⟩ = some (.bool false) := by rw [h.c]; simp [RMem.cells, ho1]
    have c3 : w.cell? ⟨bs, 3, none⟩ = some (.bool false) := by rw [h.c]; simp [RMem.cells, hr]
    clear ho ho1 h hr hpost
    go_enter Try.func49, Try.ntmps49
    go_wp2_with fail
    go_ret
    exact ⟨rfl, Hpost.out⟩

set_option maxRecDepth 100000 in
set_option maxHeartbeats 2000000 in
theorem rungetc_go {w : World} {own : Nat → Prop} {bs : Nat} {S : St} {m : RMem} (h : RAtM w own bs S m) (ho : S.opened = true) (hr : S.rd = true) (hok : S.Ok) (c : UInt8) :
    Calls Try.prog 49 #[.pointer (some ⟨bs, 0, none⟩), .int .u8 (c.toNat : Int)] w (RErrPost w own bs (S.ungetc c)) := by
  have c14 : w.cell? ⟨bs, 14, none⟩ = some (.bool false) := by rw [h.c]; simp [RMem.cells, ho]
  have c3 : w.cell? ⟨bs, 3, none⟩ = some (.bool true) := by rw [h.c]; simp [RMem.cells, hr]
  have Hm := Lib.hid (rmove_calls h hok.fit)
  have hE : S.ungetc c = if S.move.2.1 ≠ 0 then (S.move.2.1, S.move.2.2) else if 16 ≤ S.move.2.2.back.length then (2, S.move.2.2) else (0, { S.move.2.2 with back := S.move.2.2.back ++ [c], endm := false }) := by
    unfold St.ungetc; rw [if_neg (by rw [ho]; decide), if_neg (by rw [hr]; decide)]
  have hb16 := (move_ok S hok).1.back16
  generalize S.ungetc c = r at *
  have HE := Lib.hid hE
  have Hb16 := Lib.hid hb16
  clear ho hr hok h hE hb16
  go_enter Try.func49, Try.ntmps49
  go_wp2_with fail
  refine Calls.mono Hm.out ?_
  rintro e w1 ⟨rfl, own1, m1, h1, hg1⟩
  clear c14 c3 Hm
  generalize S.move.2.2 = S1 at *
  generalize S.move.2.1 = x at *
  by_cases hx : x = 0
  · subst hx
    obtain ⟨ab, cb, hvb, _, _⟩ := h1.back.shape
    have c10 : w1.cell? ⟨bs, 10, none⟩ = some (.slice ab S1.back.length cb) := by rw [h1.c]; simp [RMem.cells, hvb]
    by_cases h16 : 16 ≤ S1.back.length
    · have hpost : RErrPost w own bs r (.returned (.int .i64 2)) w1 := by
        rw [HE.out, if_neg (by decide), if_pos h16]
        exact ⟨rfl, own1, m1, h1, hg1⟩
      have Hpost := Lib.hid hpost
      clear hpost h1 hg1
      go_wp2_with fail
      go_ret
      exact Hpost.out
    · have hbk := h1.back
      rw [hvb] at hbk
      obtain ⟨a5, n5, c5, W2, hrun, _, _, _, he5, hrow, hbl⟩ := app_new bytesElem w1 (w1.alloc (.cells #[] 5)) ((Below.refl _ _).alloc (Nat.le_refl _) _) _ (some ⟨w1.heap.size, 0, none⟩) (.slice ab S1.back.length cb) S1.back (hbk.keep (fun b _ hb => Below.heap_alloc _ _ _ hb) (fun _ h _ => h)) 22 (by omega) (by decide)
      cases he5
      obtain ⟨a6, n6, c6, W3, hrun2, hrow3, hbl3⟩ := clone_app w1 (W2.alloc (.cells #[byteV c] 5)) (hbl.alloc hbl.size _) _ S1.back (hrow.keep (fun b _ hb => Below.heap_alloc _ _ _ hb) (fun b hb _ => ⟨hb.1, by simp; omega⟩)) _ _ [c] (rd_one c 5) (by simp; omega)
      have Hrun := Lib.hid hrun
      have Hrun2 := Lib.hid hrun2
      have lbs : bs < w1.heap.size := h1.lt _ h1.os
      have c10a : (w1.alloc (.cells #[] 5)).cell? ⟨bs, 10, none⟩ = some (.slice ab S1.back.length cb) := (World.cell?_alloc_lt _ _ ⟨bs, 10, none⟩ lbs).trans c10
      have k10 : W3.cell? ⟨bs, 10, none⟩ = some (.slice ab S1.back.length cb) := (hbl3.cell (p := ⟨bs, 10, none⟩) lbs).trans c10
      have kf10 : W3.frozen? ⟨bs, 10, none⟩ = false := (hbl3.frozen (p := ⟨bs, 10, none⟩) lbs).trans (h1.f 10)
      have k12 : (W3.setCell ⟨bs, 10, none⟩ (.slice a6 n6 c6)).cell? ⟨bs, 12, none⟩ = some (.bool S1.endm) := (cell_set_off _ (by decide)).trans ((hbl3.cell (p := ⟨bs, 12, none⟩) lbs).trans (h1.c 12))
      have kf12 : W3.frozen? ⟨bs, 12, none⟩ = false := (hbl3.frozen (p := ⟨bs, 12, none⟩) lbs).trans (h1.f 12)
      have h5 := (h1.grow hbl3).setBack (.slice a6 n6 c6) _ (hrow3.rd.keep (fun _ _ _ => rfl) (fun b hb _ => h1.newOnly b hb.1 hb.2))
      have h6 := h5.setEnd false
      have hf6 := ((hg1.grow hbl3).setCell ⟨bs, 10, none⟩ (.slice a6 n6 c6) (hg1.new _ h1.os)).setCell ⟨bs, 12, none⟩ (.bool false) (hg1.new _ h1.os)
      have hpost : RErrPost w own bs r (.returned (.int .i64 0)) ((W3.setCell ⟨bs, 10, none⟩ (.slice a6 n6 c6)).setCell ⟨bs, 12, none⟩ (.bool false)) := by
        rw [HE.out, if_neg (by decide), if_neg h16]
        exact ⟨rfl, _, _, h6, hf6⟩
      have Hpost := Lib.hid hpost
      clear hpost h1 hg1 h5 h6 hf6 hrun hrun2 hrow hrow3 hbl hbl3 hvb hbk
      have hbv : byteV c = .int .u8 (c.toNat : Int) := rfl
      go_wp2_with (first
        | (at_builtin; refine Lib.wpList_append_run _ rfl (.tmp 34) (.tmp 38) 22 22 rfl _ _ rfl rfl (.slice a5 n5 c5) W2 (Eq.trans ?_ Hrun.out) ?_; focus kernel_rfl)
        | (at_builtin; refine Lib.wpList_append_run _ rfl (.tmp 39) (.tmp 41) 22 22 rfl _ _ rfl rfl (.slice a6 n6 c6) W3 (Eq.trans ?_ Hrun2.out) ?_; focus kernel_rfl))
      go_ret
      exact Hpost.out
  · have hx' : (x != 0) = true := by simpa using hx
    have hpost : RErrPost w own bs r (.returned (.int .i64 x)) w1 := by
      rw [HE.out, if_pos hx]
      exact ⟨rfl, own1, m1, h1, hg1⟩
    have Hpost := Lib.hid hpost
    clear hpost h1 hg1
    go_wp2_with fail
    go_ret
    exact Hpost.out

theorem rflush_calls {w : World} {own : Nat → Prop} {bs : Nat} {S : St} {m : RMem} (h : RAtM w own bs S m) (hok : S.Ok) :
    Calls Try.prog 52 #[.pointer (some ⟨bs, 0, none⟩)] w (RErrPost w own bs S.flush) := by
  unfold St.flush
  by_cases ho : S.opened = false
  · rw [if_pos ho]
    have c14 : w.cell? ⟨bs, 14, none⟩ = some (.bool true) := by rw [h.c]; simp [RMem.cells, ho]
    have Hpost := Lib.hid (show RAt' w w own bs S from ⟨own, m, h, Fr.refl _ _⟩)
    clear ho h
    go_enter Try.func52, Try.ntmps52
    go_wp2_with fail
    go_ret
    exact ⟨rfl, Hpost.out⟩
  · rw [if_neg ho]
    have ho' : S.opened = true := by simpa using ho
    have c14 : w.cell? ⟨bs, 14, none⟩ = some (.bool false) := by rw [h.c]; simp [RMem.cells, ho']
    have Hm := Lib.hid (rmove_calls h hok.fit)
    clear ho ho' h
    go_enter Try.func52, Try.ntmps52
    go_wp2_with fail
    refine Calls.mono Hm.out ?_
    rintro e w1 ⟨rfl, h1⟩
    have Hpost := Lib.hid h1
    clear h1 Hm
    go_wp2_with fail
    go_ret
    exact ⟨rfl, Hpost.out⟩

theorem rclose_calls {w : World} {own : Nat → Prop} {bs : Nat} {S : St} {m : RMem} (h : RAtM w own bs S m) (hok : S.Ok) :
    Calls Try.prog 55 #[.pointer (some ⟨bs, 0, none⟩)] w (RErrPost w own bs S.close) := by
  unfold St.close
  by_cases ho : S.opened = false
  · rw [if_pos ho]
    have c14 : w.cell? ⟨bs, 14, none⟩ = some (.bool true) := by rw [h.c]; simp [RMem.cells, ho]
    have Hpost := Lib.hid (show RAt' w w own bs S from ⟨own, m, h, Fr.refl _ _⟩)
    clear ho h
    go_enter Try.func55, Try.ntmps55
    go_wp2_with fail
    go_ret
    exact ⟨rfl, Hpost.out⟩
  · rw [if_neg ho]
    have ho' : S.opened = true := by simpa using ho
    have c14 : w.cell? ⟨bs, 14, none⟩ = some (.bool false) := by rw [h.c]; simp [RMem.cells, ho']
    have Hm := Lib.hid (rmove_calls h hok.fit)
    clear ho ho' h
    go_enter Try.func55, Try.ntmps55
    go_wp2_with fail
    refine Calls.mono Hm.out ?_
    rintro e w1 ⟨rfl, own1, m1, h1, hg1⟩
    have Hpost := Lib.hid (show RAt' w (((w1.setCell ⟨bs, 14, none⟩ (.bool true)).setCell ⟨bs, 12, none⟩ (.bool false)).setCell ⟨bs, 13, none⟩ (.bool false)) own bs { S.move.2.2 with opened := false, endm := false, bad := false } from
      ⟨own1, m1, ((h1.setShut).setEnd false).setBad false, ((hg1.setCell _ _ (hg1.new _ h1.os)).setCell _ _ (hg1.new _ h1.os)).setCell _ _ (hg1.new _ h1.os)⟩)
    have k14 : w1.cell? ⟨bs, 14, none⟩ = some (.bool (!S.move.2.2.opened)) := h1.c 14
    have k12 : w1.cell? ⟨bs, 12, none⟩ = some (.bool S.move.2.2.endm) := h1.c 12
    have k13 : w1.cell? ⟨bs, 13, none⟩ = some (.bool S.move.2.2.bad) := h1.c 13
    have f14 := h1.f 14
    have f12 := h1.f 12
    have f13 := h1.f 13
    clear h1 hg1 Hm
    go_wp2_with fail
    go_ret
    exact ⟨rfl, Hpost.out⟩

def RTellPost (w : World) (own : Nat → Prop) (bs : Nat) (S : St) (e : Ending) (w' : World) : Prop :=
  e = .returned (.tuple #[.int .i64 S.tell.1, .int .i64 S.tell.2]) ∧ RAt' w w' own bs S

theorem tellAt_bd (S : St) (hok : S.Ok) : -16 ≤ S.tellAt ∧ S.tellAt ≤ 1114112 := by
  have := hok.pos0; have := hok.pos1; have := hok.max1; have := hok.wlen; have := hok.size2; have := hok.back16
  unfold St.tellAt
  omega

set_option maxRecDepth 100000 in
theorem rtell_calls {w : World} {own : Nat → Prop} {bs : Nat} {S : St} {m : RMem} (h : RAtM w own bs S m) (hok : S.Ok) :
    Calls Try.prog 54 #[.pointer (some ⟨bs, 0, none⟩)] w (RTellPost w own bs S) := by
  have p0 := hok.pos0
  have p1 := hok.pos1
  have p2 := hok.max1
  have p3 := hok.wlen
  have p4 := hok.size2
  have p5 := hok.back16
  have c8 : w.cell? ⟨bs, 8, none⟩ = some (.int .i64 S.pos) := h.c 8
  have c14 : w.cell? ⟨bs, 14, none⟩ = some (.bool (!S.opened)) := h.c 14
  obtain ⟨a1, k1, v1, -, -⟩ := h.wait.shape
  obtain ⟨a2, k2, v2, -, -⟩ := h.ahead.shape
  obtain ⟨a3, k3, v3, -, -⟩ := h.back.shape
  have c11 : w.cell? ⟨bs, 11, none⟩ = some (.slice a1 S.wait.length k1) := by rw [h.c]; simp [RMem.cells, v1]
  have c9 : w.cell? ⟨bs, 9, none⟩ = some (.slice a2 S.ahead.length k2) := by rw [h.c]; simp [RMem.cells, v2]
  have c10 : w.cell? ⟨bs, 10, none⟩ = some (.slice a3 S.back.length k3) := by rw [h.c]; simp [RMem.cells, v3]
  have hw1 : IntKind.i64.wrap (S.pos + (S.wait.length : Int)) = S.pos + S.wait.length := IntWalk.i64_in _ (by omega)
  have hw2 : IntKind.i64.wrap (S.pos + (S.wait.length : Int) - (S.ahead.length : Int)) = S.pos + S.wait.length - S.ahead.length := IntWalk.i64_in _ (by omega)
  have hw3 : IntKind.i64.wrap (S.pos + (S.wait.length : Int) - (S.ahead.length : Int) - (S.back.length : Int)) = S.pos + S.wait.length - S.ahead.length - S.back.length := IntWalk.i64_in _ (by omega)
  have hE : S.tell = if S.opened = false then (0, 4) else if S.pos + S.wait.length - S.ahead.length - S.back.length < 0 then (0, 4) else (S.pos + S.wait.length - S.ahead.length - S.back.length, 0) := rfl
  have HE := Lib.hid hE
  have Hpost := Lib.hid (fun q => (show RAt' w (w.drewN q) own bs S from ⟨own, m, h.drewN q, (Fr.refl w own).drewN q⟩))
  clear v1 v2 v3 h hok hE
  by_cases ho : S.opened = false
  · rw [ho] at c14
    have e2 : S.tell = (0, 4) := by rw [HE.out, if_pos ho]
    have E2 := Lib.hid e2
    clear e2
    go_enter Try.func54, Try.ntmps54
    go_wp2_with fail
    go_quiet (fail)
    go_wp2_with fail
    go_ret2
    unfold RTellPost
    rw [E2.out]
    exact ⟨rfl, Hpost.out _⟩
  · have ho' : S.opened = true := by simpa using ho
    rw [ho'] at c14
    by_cases hn : S.pos + S.wait.length - S.ahead.length - S.back.length < 0
    · have e2 : S.tell = (0, 4) := by rw [HE.out, if_neg ho, if_pos hn]
      have E2 := Lib.hid e2
      clear e2
      go_enter Try.func54, Try.ntmps54
      go_wp2_with fail
      go_quiet (fail)
      go_wp2_with fail
      go_ret2
      unfold RTellPost
      rw [E2.out]
      exact ⟨rfl, Hpost.out _⟩
    · have e2 : S.tell = (S.pos + S.wait.length - S.ahead.length - S.back.length, 0) := by rw [HE.out, if_neg ho, if_neg hn]
      have E2 := Lib.hid e2
      clear e2
      go_enter Try.func54, Try.ntmps54
      go_wp2_with fail
      go_quiet (fail)
      go_wp2_with fail
      go_ret2
      unfold RTellPost
      rw [E2.out]
      exact ⟨rfl, Hpost.out _⟩

set_option maxRecDepth 100000 in
set_option maxHeartbeats 2000000 in
theorem rseek_go {w : World} {own : Nat → Prop} {bs : Nat} {S : St} {m : RMem} (h : RAtM w own bs S m) (ho : S.opened = true) (hok : S.Ok) (off wh : Int) :
    Calls Try.prog 53 #[.pointer (some ⟨bs, 0, none⟩), .int .i64 off, .int .i64 wh] w (RErrPost w own bs (S.seek off wh)) := by
  have c14 : w.cell? ⟨bs, 14, none⟩ = some (.bool false) := by rw [h.c]; simp [RMem.cells, ho]
  have Hm := Lib.hid (rmove_calls h hok.fit)
  have hok1 := (move_ok S hok).1
  have ho1 : S.move.2.2.opened = true := (move_ok S hok).2.1.trans ho
  have hE : S.seek off wh = if S.move.2.1 ≠ 0 then (S.move.2.1, S.move.2.2) else if wh = 0 then S.move.2.2.seekFrom off 0 else if wh = 1 then (if S.move.2.2.tellAt < 0 then (4, S.move.2.2) else S.move.2.2.seekFrom off S.move.2.2.tellAt) else if wh = 2 then S.move.2.2.seekFrom off S.move.2.2.data.length else (1, S.move.2.2) := by
    unfold St.seek; rw [if_neg (by rw [ho]; decide)]
  generalize S.seek off wh = r at *
  have HE := Lib.hid hE
  clear ho hok h hE
  go_enter Try.func53, Try.ntmps53
  go_wp2_with fail
  refine Calls.mono Hm.out ?_
  rintro e w1 ⟨rfl, own1, m1, h1, hg1⟩
  clear c14 Hm
  generalize S.move.2.2 = S1 at *
  generalize S.move.2.1 = x at *
  by_cases hx : x = 0
  · subst hx
    have hmx := hok1.max1
    have hdl := hok1.dlen
    have hE2 := HE.out
    rw [if_neg (by decide)] at hE2
    clear HE
    by_cases w0 : wh = 0
    · rw [if_pos w0] at hE2
      subst w0
      have Hr2 := Lib.hid hE2
      clear hE2
      have c1 : w1.cell? ⟨bs, 1, none⟩ = some (.int .i64 S1.max) := h1.c 1
      by_cases o1 : off < -1048576
      · have hpost : RErrPost w own bs r (.returned (.int .i64 3)) w1 := by
          rw [Hr2.out]; unfold St.seekFrom; rw [if_pos (.inl o1)]; exact ⟨rfl, own1, m1, h1, hg1⟩
        have Hpost := Lib.hid hpost
        clear hpost h1 hg1
        go_wp2_with fail
        go_ret
        exact Hpost.out
      by_cases o2 : 1048576 < off
      · have hpost : RErrPost w own bs r (.returned (.int .i64 3)) w1 := by
          rw [Hr2.out]; unfold St.seekFrom; rw [if_pos (.inr (.inl o2))]; exact ⟨rfl, own1, m1, h1, hg1⟩
        have Hpost := Lib.hid hpost
        have o1' : decide (off < -1048576) = false := decide_eq_false o1
        clear hpost h1 hg1
        go_wp2_with fail
        go_ret
        exact Hpost.out
      have o1' : decide (off < -1048576) = false := decide_eq_false o1
      have o2' : decide (1048576 < off) = false := decide_eq_false o2
      have hwr : IntKind.i64.wrap (off) = off := IntWalk.i64_in _ (by omega)
      by_cases o3 : off < 0
      · have hpost : RErrPost w own bs r (.returned (.int .i64 3)) w1 := by
          rw [Hr2.out]; unfold St.seekFrom; rw [if_pos (.inr (.inr (.inl (by omega))))]; exact ⟨rfl, own1, m1, h1, hg1⟩
        have Hpost := Lib.hid hpost
        clear hpost h1 hg1
        go_wp2_with fail
        go_ret
        exact Hpost.out
      have o3' : decide (off < 0) = false := decide_eq_false o3
      by_cases o4 : S1.max < off
      · have hpost : RErrPost w own bs r (.returned (.int .i64 3)) w1 := by
          rw [Hr2.out]; unfold St.seekFrom; rw [if_pos (.inr (.inr (.inr (by omega))))]; exact ⟨rfl, own1, m1, h1, hg1⟩
        have Hpost := Lib.hid hpost
        clear hpost h1 hg1
        go_wp2_with fail
        go_ret
        exact Hpost.out
      have o4' : decide (S1.max < off) = false := decide_eq_false o4
      have h6 := (((h1.setPos (off)).setAhead (.slice none 0 0) [] (Rd.nil _ _ _)).setBack (.slice none 0 0) [] (Rd.nil _ _ _)).setEnd false
      have hg6 := (((hg1.setCell ⟨bs, 8, none⟩ (.int .i64 (off)) (hg1.new _ h1.os)).setCell ⟨bs, 9, none⟩ (.slice none 0 0) (hg1.new _ h1.os)).setCell ⟨bs, 10, none⟩ (.slice none 0 0) (hg1.new _ h1.os)).setCell ⟨bs, 12, none⟩ (.bool false) (hg1.new _ h1.os)
      have hpost : RErrPost w own bs r (.returned (.int .i64 0)) ((((w1.setCell ⟨bs, 8, none⟩ (.int .i64 (off))).setCell ⟨bs, 9, none⟩ (.slice none 0 0)).setCell ⟨bs, 10, none⟩ (.slice none 0 0)).setCell ⟨bs, 12, none⟩ (.bool false)) := by
        rw [Hr2.out]; unfold St.seekFrom; rw [if_neg (by omega)]; exact ⟨rfl, own1, _, by show RAtM _ _ _ (S1.seekTo (0 + off)) _; rw [show 0 + off = off by omega]; exact h6, hg6⟩
      have c8 : w1.cell? ⟨bs, 8, none⟩ = some (.int .i64 S1.pos) := h1.c 8
      have c9 : w1.cell? ⟨bs, 9, none⟩ = some m1.ahead := h1.c 9
      have c10 : w1.cell? ⟨bs, 10, none⟩ = some m1.back := h1.c 10
      have c12 : w1.cell? ⟨bs, 12, none⟩ = some (.bool S1.endm) := h1.c 12
      have f8 := h1.f 8
      have f9 := h1.f 9
      have f10 := h1.f 10
      have f12 := h1.f 12
      have Hpost := Lib.hid hpost
      clear hpost h1 hg1 h6 hg6
      go_wp2_with fail
      go_ret
      exact Hpost.out
    have w0' : (wh == 0) = false := by simpa using w0
    rw [if_neg w0] at hE2
    by_cases wt : wh = 2
    · rw [if_neg (by omega), if_pos wt] at hE2
      subst wt
      obtain ⟨ad, cd, hdv, hdc, hdm⟩ := h1.data.shape
      have e0 : w1.cell? ⟨bs, 0, none⟩ = some (.slice ad S1.data.length cd) := by rw [h1.c]; simp [RMem.cells]; exact hdv
      have Hr2 := Lib.hid hE2
      clear hE2 hdv w0
      have c1 : w1.cell? ⟨bs, 1, none⟩ = some (.int .i64 S1.max) := h1.c 1
      by_cases o1 : off < -1048576
      · have hpost : RErrPost w own bs r (.returned (.int .i64 3)) w1 := by
          rw [Hr2.out]; unfold St.seekFrom; rw [if_pos (.inl o1)]; exact ⟨rfl, own1, m1, h1, hg1⟩
        have Hpost := Lib.hid hpost
        clear hpost h1 hg1
        go_wp2_with fail
        go_ret
        exact Hpost.out
      by_cases o2 : 1048576 < off
      · have hpost : RErrPost w own bs r (.returned (.int .i64 3)) w1 := by
          rw [Hr2.out]; unfold St.seekFrom; rw [if_pos (.inr (.inl o2))]; exact ⟨rfl, own1, m1, h1, hg1⟩
        have Hpost := Lib.hid hpost
        have o1' : decide (off < -1048576) = false := decide_eq_false o1
        clear hpost h1 hg1
        go_wp2_with fail
        go_ret
        exact Hpost.out
      have o1' : decide (off < -1048576) = false := decide_eq_false o1
      have o2' : decide (1048576 < off) = false := decide_eq_false o2
      have hwr : IntKind.i64.wrap ((S1.data.length : Int) + off) = (S1.data.length : Int) + off := IntWalk.i64_in _ (by omega)
      by_cases o3 : (S1.data.length : Int) + off < 0
      · have hpost : RErrPost w own bs r (.returned (.int .i64 3)) w1 := by
          rw [Hr2.out]; unfold St.seekFrom; rw [if_pos (.inr (.inr (.inl (by omega))))]; exact ⟨rfl, own1, m1, h1, hg1⟩
        have Hpost := Lib.hid hpost
        clear hpost h1 hg1
        go_wp2_with fail
        go_ret
        exact Hpost.out
      have o3' : decide ((S1.data.length : Int) + off < 0) = false := decide_eq_false o3
      by_cases o4 : S1.max < (S1.data.length : Int) + off
      · have hpost : RErrPost w own bs r (.returned (.int .i64 3)) w1 := by
          rw [Hr2.out]; unfold St.seekFrom; rw [if_pos (.inr (.inr (.inr (by omega))))]; exact ⟨rfl, own1, m1, h1, hg1⟩
        have Hpost := Lib.hid hpost
        clear hpost h1 hg1
        go_wp2_with fail
        go_ret
        exact Hpost.out
      have o4' : decide (S1.max < (S1.data.length : Int) + off) = false := decide_eq_false o4
      have h6 := (((h1.setPos ((S1.data.length : Int) + off)).setAhead (.slice none 0 0) [] (Rd.nil _ _ _)).setBack (.slice none 0 0) [] (Rd.nil _ _ _)).setEnd false
      have hg6 := (((hg1.setCell ⟨bs, 8, none⟩ (.int .i64 ((S1.data.length : Int) + off)) (hg1.new _ h1.os)).setCell ⟨bs, 9, none⟩ (.slice none 0 0) (hg1.new _ h1.os)).setCell ⟨bs, 10, none⟩ (.slice none 0 0) (hg1.new _ h1.os)).setCell ⟨bs, 12, none⟩ (.bool false) (hg1.new _ h1.os)
      have hpost : RErrPost w own bs r (.returned (.int .i64 0)) ((((w1.setCell ⟨bs, 8, none⟩ (.int .i64 ((S1.data.length : Int) + off))).setCell ⟨bs, 9, none⟩ (.slice none 0 0)).setCell ⟨bs, 10, none⟩ (.slice none 0 0)).setCell ⟨bs, 12, none⟩ (.bool false)) := by
        rw [Hr2.out]; unfold St.seekFrom; rw [if_neg (by omega)]; exact ⟨rfl, own1, _, by show RAtM _ _ _ (S1.seekTo ((S1.data.length : Int) + off)) _; rw [show (S1.data.length : Int) + off = (S1.data.length : Int) + off by omega]; exact h6, hg6⟩
      have c8 : w1.cell? ⟨bs, 8, none⟩ = some (.int .i64 S1.pos) := h1.c 8
      have c9 : w1.cell? ⟨bs, 9, none⟩ = some m1.ahead := h1.c 9
      have c10 : w1.cell? ⟨bs, 10, none⟩ = some m1.back := h1.c 10
      have c12 : w1.cell? ⟨bs, 12, none⟩ = some (.bool S1.endm) := h1.c 12
      have f8 := h1.f 8
      have f9 := h1.f 9
      have f10 := h1.f 10
      have f12 := h1.f 12
      have Hpost := Lib.hid hpost
      clear hpost h1 hg1 h6 hg6
      go_wp2_with fail
      go_ret
      exact Hpost.out
    have wt' : (wh == 2) = false := by simpa using wt
    by_cases ww : wh = 1
    · rw [if_pos ww] at hE2
      subst ww
      have htb := tellAt_bd S1 hok1
      have Ht := Lib.hid (rtell_calls h1 hok1)
      have hte : S1.tell = if S1.tellAt < 0 then (0, 4) else (S1.tellAt, 0) := by unfold St.tell; rw [if_neg (by rw [ho1]; decide)]
      have Hte := Lib.hid hte
      have HE2 := Lib.hid hE2
      clear hte hE2 w0 wt
      go_wp2_with fail
      refine Calls.mono Ht.out ?_
      rintro e W ⟨rfl, own2, m2, h2, hg12⟩
      have hg2 := hg1.trans hg12
      rw [Hte.out]
      clear hg12 Ht h1 hg1
      generalize S1.tellAt = f at *
      by_cases hf : f < 0
      · have hpost : RErrPost w own bs r (.returned (.int .i64 4)) W := by
          rw [HE2.out, if_pos hf]; exact ⟨rfl, own2, m2, h2, hg2⟩
        have Hpost := Lib.hid hpost
        rw [if_pos hf]
        clear hpost h2 hg2
        go_wp2_with fail
        go_ret
        exact Hpost.out
      · have hE3 := HE2.out
        rw [if_neg hf] at hE3
        rw [if_neg hf]
        have Hr2 := Lib.hid hE3
        clear hE3 HE2 Hte
        have c1 : W.cell? ⟨bs, 1, none⟩ = some (.int .i64 S1.max) := h2.c 1
        by_cases o1 : off < -1048576
        · have hpost : RErrPost w own bs r (.returned (.int .i64 3)) W := by
            rw [Hr2.out]; unfold St.seekFrom; rw [if_pos (.inl o1)]; exact ⟨rfl, own2, m2, h2, hg2⟩
          have Hpost := Lib.hid hpost
          clear hpost h2 hg2
          go_wp2_with fail
          go_ret
          exact Hpost.out
        by_cases o2 : 1048576 < off
        · have hpost : RErrPost w own bs r (.returned (.int .i64 3)) W := by
            rw [Hr2.out]; unfold St.seekFrom; rw [if_pos (.inr (.inl o2))]; exact ⟨rfl, own2, m2, h2, hg2⟩
          have Hpost := Lib.hid hpost
          have o1' : decide (off < -1048576) = false := decide_eq_false o1
          clear hpost h2 hg2
          go_wp2_with fail
          go_ret
          exact Hpost.out
        have o1' : decide (off < -1048576) = false := decide_eq_false o1
        have o2' : decide (1048576 < off) = false := decide_eq_false o2
        have hwr : IntKind.i64.wrap (f + off) = f + off := IntWalk.i64_in _ (by omega)
        by_cases o3 : f + off < 0
        · have hpost : RErrPost w own bs r (.returned (.int .i64 3)) W := by
            rw [Hr2.out]; unfold St.seekFrom; rw [if_pos (.inr (.inr (.inl (by omega))))]; exact ⟨rfl, own2, m2, h2, hg2⟩
          have Hpost := Lib.hid hpost
          clear hpost h2 hg2
          go_wp2_with fail
          go_ret
          exact Hpost.out
        have o3' : decide (f + off < 0) = false := decide_eq_false o3
        by_cases o4 : S1.max < f + off
        · have hpost : RErrPost w own bs r (.returned (.int .i64 3)) W := by
            rw [Hr2.out]; unfold St.seekFrom; rw [if_pos (.inr (.inr (.inr (by omega))))]; exact ⟨rfl, own2, m2, h2, hg2⟩
          have Hpost := Lib.hid hpost
          clear hpost h2 hg2
          go_wp2_with fail
          go_ret
          exact Hpost.out
        have o4' : decide (S1.max < f + off) = false := decide_eq_false o4
        have h6 := (((h2.setPos (f + off)).setAhead (.slice none 0 0) [] (Rd.nil _ _ _)).setBack (.slice none 0 0) [] (Rd.nil _ _ _)).setEnd false
        have hg6 := (((hg2.setCell ⟨bs, 8, none⟩ (.int .i64 (f + off)) (hg2.new _ h2.os)).setCell ⟨bs, 9, none⟩ (.slice none 0 0) (hg2.new _ h2.os)).setCell ⟨bs, 10, none⟩ (.slice none 0 0) (hg2.new _ h2.os)).setCell ⟨bs, 12, none⟩ (.bool false) (hg2.new _ h2.os)
        have hpost : RErrPost w own bs r (.returned (.int .i64 0)) ((((W.setCell ⟨bs, 8, none⟩ (.int .i64 (f + off))).setCell ⟨bs, 9, none⟩ (.slice none 0 0)).setCell ⟨bs, 10, none⟩ (.slice none 0 0)).setCell ⟨bs, 12, none⟩ (.bool false)) := by
          rw [Hr2.out]; unfold St.seekFrom; rw [if_neg (by omega)]; exact ⟨rfl, own2, _, by show RAtM _ _ _ (S1.seekTo (f + off)) _; rw [show f + off = f + off by omega]; exact h6, hg6⟩
        have c8 : W.cell? ⟨bs, 8, none⟩ = some (.int .i64 S1.pos) := h2.c 8
        have c9 : W.cell? ⟨bs, 9, none⟩ = some m2.ahead := h2.c 9
        have c10 : W.cell? ⟨bs, 10, none⟩ = some m2.back := h2.c 10
        have c12 : W.cell? ⟨bs, 12, none⟩ = some (.bool S1.endm) := h2.c 12
        have f8 := h2.f 8
        have f9 := h2.f 9
        have f10 := h2.f 10
        have f12 := h2.f 12
        have Hpost := Lib.hid hpost
        clear hpost h2 hg2 h6 hg6
        go_wp2_with fail
        go_ret
        exact Hpost.out
    have ww' : (wh == 1) = false := by simpa using ww
    rw [if_neg ww, if_neg wt] at hE2
    have hpost : RErrPost w own bs r (.returned (.int .i64 1)) w1 := by
      rw [hE2]
      exact ⟨rfl, own1, m1, h1, hg1⟩
    have Hpost := Lib.hid hpost
    clear hpost h1 hg1 hE2 w0 ww wt
    go_wp2_with fail
    go_ret
    exact Hpost.out
  · have hx' : (x != 0) = true := by simpa using hx
    have hpost : RErrPost w own bs r (.returned (.int .i64 x)) w1 := by
      rw [HE.out, if_pos hx]
      exact ⟨rfl, own1, m1, h1, hg1⟩
    have Hpost := Lib.hid hpost
    clear hpost h1 hg1
    go_wp2_with fail
    go_ret
    exact Hpost.out

theorem rseek_calls {w : World} {own : Nat → Prop} {bs : Nat} {S : St} {m : RMem} (h : RAtM w own bs S m) (hok : S.Ok) (off wh : Int) :
    Calls Try.prog 53 #[.pointer (some ⟨bs, 0, none⟩), .int .i64 off, .int .i64 wh] w (RErrPost w own bs (S.seek off wh)) := by
  by_cases ho : S.opened = false
  · unfold St.seek
    rw [if_pos ho]
    have c14 : w.cell? ⟨bs, 14, none⟩ = some (.bool true) := by rw [h.c]; simp [RMem.cells, ho]
    have Hpost := Lib.hid (show RAt' w w own bs S from ⟨own, m, h, Fr.refl _ _⟩)
    clear ho h
    go_enter Try.func53, Try.ntmps53
    go_wp2_with fail
    go_ret
    exact ⟨rfl, Hpost.out⟩
  · exact rseek_go h (by simpa using ho) hok off wh

theorem rungetc_calls {w : World} {own : Nat → Prop} {bs : Nat} {S : St} {m : RMem} (h : RAtM w own bs S m) (hok : S.Ok) (c : UInt8) :
    Calls Try.prog 49 #[.pointer (some ⟨bs, 0, none⟩), .int .u8 (c.toNat : Int)] w (RErrPost w own bs (S.ungetc c)) := by
  by_cases ho : S.opened = false
  · have e : S.ungetc c = (4, S) := by unfold St.ungetc; rw [if_pos ho]
    rw [e]; exact rungetc_shut h (.inl ho) c
  · by_cases hr : S.rd = false
    · have e : S.ungetc c = (4, S) := by unfold St.ungetc; rw [if_neg ho, if_pos hr]
      rw [e]; exact rungetc_shut h (.inr hr) c
    · exact rungetc_go h (by simpa using ho) (by simpa using hr) hok c
end Go.Proofs.Ytgihclflndlomaa
