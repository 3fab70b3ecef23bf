/- Write. -/
import Derived.Test.YtgihclflndlomaaP
import Derived.Test.YtgihclflndlomaaQ
import Derived.BigQuiet
namespace Go.Proofs.Ytgihclflndlomaa
open Go.RowKit

/-- What Write comes to. -/
def WritePost (w : World) (own : Nat → Prop) (bs : Nat) (r : Int × Int × St) (e : Ending) (w' : World) : Prop :=
  e = .returned (.tuple #[.int .i64 r.1, .int .i64 r.2.1]) ∧ SAt' w w' own bs r.2.2

theorem write_closed {w : World} {own : Nat → Prop} {bs : Nat} {S : St} {m : Mem} (h : SAtM w own bs S m) (ho : S.opened = false) (ab : Option Addr) (nb cb : Nat) :
    Calls Try.prog 16 #[.pointer (some ⟨bs, 0, none⟩), .slice ab nb cb] w (WritePost w own bs (0, 4, S)) := by
  have c8 : (errW w).cell? ⟨bs, 8, none⟩ = some (.bool false) := by rw [(h.alloc _).c]; simp [Mem.stream, ho]
  obtain ⟨hb, hce, hz⟩ := h.errW.cellMine h.lt
  have hfin := Lib.hid (h.errW.caught h.lt 4)
  have hcc := caughtW_cell (x := 4) hce
  clear ho
  go_enter_defers Try.func16, Try.ntmps16
  go_wp2_with (go_at_call 34; refine (use_closed _ _ c8).mono ?_; rintro r w' ⟨rfl, rfl⟩)
  refine door_err (y := 0) (v := .tuple #[.int .i64 0, .int .i64 4]) hb hce hz ?_ ⟨rfl, hfin.out⟩
  simp [results, Try.results16, go_sem, hcc]

theorem write_unwr {w : World} {own : Nat → Prop} {bs : Nat} {S : St} {m : Mem} (h : SAtM w own bs S m) (ho : S.opened = true) (hr : S.wr = false) (ab : Option Addr) (nb cb : Nat) :
    Calls Try.prog 16 #[.pointer (some ⟨bs, 0, none⟩), .slice ab nb cb] w (WritePost w own bs (0, 4, S)) := by
  have c8 : (errW w).cell? ⟨bs, 8, none⟩ = some (.bool true) := by rw [(h.alloc _).c]; simp [Mem.stream, ho]
  have c4 : (errW w).cell? ⟨bs, 4, none⟩ = some (.bool false) := by rw [(h.alloc _).c]; simp [Mem.stream, hr]
  obtain ⟨hb, hce, hz⟩ := h.errW.cellMine h.lt
  have hfin := Lib.hid (h.errW.caught h.lt 4)
  have hcc := caughtW_cell (x := 4) hce
  clear ho hr
  go_enter_defers Try.func16, Try.ntmps16
  go_wp2_with (first | (go_at_call 34; refine (use_open _ _ c8).mono ?_; rintro r w' ⟨rfl, rfl⟩) | (go_at_call 35; refine (want_bad _ 4 _ rfl rfl).mono ?_; rintro r w' ⟨rfl, rfl⟩))
  refine door_err (y := 0) (v := .tuple #[.int .i64 0, .int .i64 4]) hb hce hz ?_ ⟨rfl, hfin.out⟩
  simp [results, Try.results16, go_sem, hcc]

theorem write_long {w : World} {own : Nat → Prop} {bs : Nat} {S : St} {m : Mem} (h : SAtM w own bs S m) (ho : S.opened = true) (hr : S.wr = true) (ab : Option Addr) (nb cb : Nat) (hl : 1048576 < nb) :
    Calls Try.prog 16 #[.pointer (some ⟨bs, 0, none⟩), .slice ab nb cb] w (WritePost w own bs (0, 2, S)) := by
  have c8 : (errW w).cell? ⟨bs, 8, none⟩ = some (.bool true) := by rw [(h.alloc _).c]; simp [Mem.stream, ho]
  have c4 : (errW w).cell? ⟨bs, 4, none⟩ = some (.bool true) := by rw [(h.alloc _).c]; simp [Mem.stream, hr]
  obtain ⟨hb, hce, hz⟩ := h.errW.cellMine h.lt
  have hfin := Lib.hid (h.errW.caught h.lt 2)
  have hcc := caughtW_cell (x := 2) hce
  clear ho hr
  go_enter_defers Try.func16, Try.ntmps16
  go_wp2_with (first | (go_at_call 34; refine (use_open _ _ c8).mono ?_; rintro r w' ⟨rfl, rfl⟩) | (go_at_call 35; refine (want_ok _ 4 _ rfl).mono ?_; rintro r w' ⟨rfl, rfl⟩) | (go_at_call 35; refine (want_bad _ 2 _ (by simp; omega) rfl).mono ?_; rintro r w' ⟨rfl, rfl⟩))
  refine door_err (y := 0) (v := .tuple #[.int .i64 0, .int .i64 2]) hb hce hz ?_ ⟨rfl, hfin.out⟩
  simp [results, Try.results16, go_sem, hcc]

/-- The state once the position stands and nothing is read ahead. -/
def St.set (S : St) : St := { S with pos := if S.app = true ∧ S.wait = [] then (S.data.length : Int) else S.pos - S.ahead.length, ahead := [], back := [] }

theorem laid_fit (S : St) (h : S.Ok) (b : List UInt8) (hb : b.length ≤ 1048576) : (S.laid b).Fit := by
  refine ⟨h.max0, h.max1, h.dlen, ?_, ?_, ?_⟩
  · show 0 ≤ (if S.app = true ∧ S.wait = [] then (S.data.length : Int) else S.pos - S.ahead.length)
    have := h.pos0
    split <;> omega
  · show (if S.app = true ∧ S.wait = [] then (S.data.length : Int) else S.pos - S.ahead.length) ≤ S.max
    have := h.pos1
    have := h.dlen
    split <;> omega
  · show (S.wait ++ b).length ≤ 2000000
    have := h.wlen
    have := h.size2
    rw [List.length_append]
    omega

theorem move_bd (S : St) (h : S.Fit) : 0 ≤ S.move.1 ∧ S.move.1 ≤ 2000000 := by
  unfold St.move
  have := moveK_bd S h.pos1
  have := h.wlen
  split
  · exact ⟨Int.le_refl _, by show (0:Int) ≤ 2000000; decide⟩
  · constructor
    · show 0 ≤ S.moveK
      omega
    · show S.moveK ≤ 2000000
      omega

set_option maxRecDepth 100000 in
set_option maxHeartbeats 6000000 in
theorem write_go {w : World} {own : Nat → Prop} {bs : Nat} {S : St} {m : Mem} (h : SAtM w own bs S m) (ho : S.opened = true) (hr : S.wr = true) (hok : S.Ok) (any : Nat → Prop) (hany : ∀ k, any k → ¬ own k) (ab : Option Addr) (nb cb : Nat) (b : List UInt8) (hrb : Rd w any byteV (.slice ab nb cb) b) (hl : nb ≤ 1048576) (r : Int × Int × St)
    (hE : r = if ((S.wait ++ b).length : Int) < S.size ∧ ¬ (S.lines = true ∧ (10 : UInt8) ∈ b) then ((b.length : Int), 0, S.laid b) else (Max.max 0 ((S.laid b).move.1 - S.wait.length), (S.laid b).move.2.1, (S.laid b).move.2.2)) :
    Calls Try.prog 16 #[.pointer (some ⟨bs, 0, none⟩), .slice ab nb cb] w (WritePost w own bs r) := by
  have c8 : (errW w).cell? ⟨bs, 8, none⟩ = some (.bool true) := by rw [(h.alloc _).c]; simp [Mem.stream, ho]
  have c4 : (errW w).cell? ⟨bs, 4, none⟩ = some (.bool true) := by rw [(h.alloc _).c]; simp [Mem.stream, hr]
  have h0 : SAtM (errW w) own bs S m := h.alloc _
  have hlt := h.lt
  have hown := h.os
  have hbs : bs < w.heap.size := hlt bs h.os
  have hnb : ¬ bs = w.heap.size := by omega
  have hnb' : ¬ w.heap.size = bs := by omega
  obtain ⟨a10, b10, v10, -, -⟩ := h0.ahead.shape
  obtain ⟨a12, b12, v12, -, -⟩ := h0.wait.shape
  have c9 : (errW w).cell? ⟨bs, 9, none⟩ = some (.int .i64 S.pos) := h0.c 9
  have c10 : (errW w).cell? ⟨bs, 10, none⟩ = some (.slice a10 S.ahead.length b10) := by rw [h0.c]; simp [Mem.stream, v10]
  have c11 : (errW w).cell? ⟨bs, 11, none⟩ = some m.back := h0.c 11
  have f9 := h0.f 9
  have f10 := h0.f 10
  have f11 := h0.f 11
  have hsb : IntKind.i64.wrap (S.pos - (S.ahead.length : Int)) = S.pos - (S.ahead.length : Int) := IntWalk.i64_in _ (by have := hok.pos0; have := hok.pos1; have := hok.max1; omega)
  obtain ⟨W3, hW3⟩ : ∃ W3, (((errW w).setCell ⟨bs, 9, none⟩ (.int .i64 (S.pos - (S.ahead.length : Int)))).setCell ⟨bs, 10, none⟩ (.slice none 0 0)).setCell ⟨bs, 11, none⟩ (.slice none 0 0) = W3 := ⟨_, rfl⟩
  have h3 : SAtM W3 own bs { S with pos := S.pos - (S.ahead.length : Int), ahead := [], back := [] } { m with ahead := .slice none 0 0, back := .slice none 0 0 } := by
    rw [← hW3]; exact ((h0.setPos _).setAhead _ [] (Rd.nil _ _ _)).setBack _ [] (Rd.nil _ _ _)
  have g3 : Fr (errW w) W3 own own := by
    rw [← hW3]; exact (((Fr.refl _ own).setCell _ _ (.inl hown)).setCell _ _ (.inl hown)).setCell _ _ (.inl hown)
  have hwl : S.wait.length ≤ 65536 := by have := hok.wlen; have := hok.size2; omega
  have HE := Lib.hid hE
  have Hfit := Lib.hid (laid_fit S hok b (by obtain ⟨_, _, e, _⟩ := hrb; injection e with _ e; omega))
  have Hbd := Lib.hid (move_bd (S.laid b) Hfit.out)
  clear hr hok hE
  obtain ⟨hb, hce, hz⟩ := h.errW.cellMine h.lt
  have hb' : w.heap.size < (errW w).heap.size := hb
  have Hst := Lib.hid (fun (w1 : World) (S : St) (hs : SAt' (errW w) w1 own bs S) => hs.stored hlt)
  have Hcm := Lib.hid (fun (w1 : World) (S : St) (hs : SAt' (errW w) w1 own bs S) => hs.cellMine hlt)
  go_enter_defers Try.func16, Try.ntmps16
  go_upto_region 5 with (first | (go_at_call 34; refine (use_open _ _ c8).mono ?_; rintro r w' ⟨rfl, rfl⟩) | (go_at_call 35; refine (want_ok _ 4 _ rfl).mono ?_; rintro r w' ⟨rfl, rfl⟩) | (go_at_call 35; refine (want_ok _ 2 _ (by simp; omega)).mono ?_; rintro r w' ⟨rfl, rfl⟩))
  have hbw : Below w.heap.size w (errW w) := errW_below w
  clear h c8 c4 h0
  generalize errW w = W0 at *
  go_cut [] from 20 to 31 (fun wx => ∃ q, wx = (W0.setCell ⟨bs, 9, none⟩ (.int .i64 (S.pos - (S.ahead.length : Int)))).drewN q)
  case first =>
    go_still_tail 12, (by kernel_rfl)
    go_wp2_with fail
    go_meet
    exact ⟨1, rfl⟩
  case rest =>
    obtain ⟨q, rfl⟩ := hcut
    have k10 : ((W0.setCell ⟨bs, 9, none⟩ (.int .i64 (S.pos - (S.ahead.length : Int)))).drewN q).cell? ⟨bs, 10, none⟩ = some (.slice a10 S.ahead.length b10) := (cell_set_off _ (by decide)).trans c10
    have k11 : (((W0.setCell ⟨bs, 9, none⟩ (.int .i64 (S.pos - (S.ahead.length : Int)))).drewN q).setCell ⟨bs, 10, none⟩ (.slice none 0 0)).cell? ⟨bs, 11, none⟩ = some m.back := (cell_set_off _ (by decide)).trans ((cell_set_off _ (by decide)).trans c11)
    go_upto_region 6 with fail
    go_cut [] from 32 to 37 (fun wx => ∃ q, wx = W3.drewN q)
    case first =>
      go_wp2_with fail
      go_meet
      exact ⟨q, by rw [← hW3]; rfl⟩
    case rest =>
      obtain ⟨q', rfl⟩ := hcut
      have h4 := h3.drewN q'
      have c12 : (W3.drewN q').cell? ⟨bs, 12, none⟩ = some (.slice a12 S.wait.length b12) := by rw [h4.c]; simp [Mem.stream, v12]
      have c5 : (W3.drewN q').cell? ⟨bs, 5, none⟩ = some (.bool S.app) := h4.c 5
      have g4 := g3.drewN q'
      clear k10 k11 c9 c10 c11 f9 f10 f11 v10 v12 h3 hsb
      generalize W3.drewN q' = W4 at *
      clear hW3 g3
      go_upto_region 8 with fail
      go_cut [51] from 43 to 50 (fun s wx => ∃ d : Bool, s = .bool d ∧ (d = true ↔ S.app = true ∧ S.wait = []) ∧ wx = W4)
      case first =>
        by_cases ha : S.app = true
        · rw [ha] at c5
          by_cases hw : S.wait = []
          · have hz0 : ((S.wait.length : Int) == 0) = true := by rw [hw]; rfl
            go_wp2_with fail
            go_meet
            exact ⟨true, rfl, ⟨fun _ => ⟨ha, hw⟩, fun _ => rfl⟩, rfl⟩
          · have hz0 : ((S.wait.length : Int) == 0) = false := by cases hq : S.wait with | nil => exact absurd hq hw | cons x t => simp; omega
            go_wp2_with fail
            go_meet
            exact ⟨false, rfl, ⟨fun e => (by cases e), fun e => absurd e.2 hw⟩, rfl⟩
        · have ha' : S.app = false := by simpa using ha
          rw [ha'] at c5
          go_wp2_with fail
          go_meet
          exact ⟨false, rfl, ⟨fun e => (by cases e), fun e => absurd e.1 ha⟩, rfl⟩
      case rest =>
        obtain ⟨d, rfl, hd, rfl⟩ := hcut
        go_upto_if 51 with fail
        go_cut [] from 52 to 63 (fun wx => ∃ m', SAtM wx own bs S.set m' ∧ Fr W0 wx own own)
        case first =>
          cases d
          case true =>
            have hc := hd.1 rfl
            obtain ⟨ad, cd, hdv, hdc, hdm⟩ := h4.data.shape
            have c0 : wc.cell? ⟨bs, 0, none⟩ = some (.pointer (some ⟨m.bd, 0, none⟩)) := h4.c 0
            have e0 : wc.cell? ⟨m.bd, 0, none⟩ = some (.slice ad S.data.length cd) := by rw [h4.cd]; simp [Mem.disk, show m.data = .slice ad S.data.length cd from hdv]
            have c9 : wc.cell? ⟨bs, 9, none⟩ = some (.int .i64 (S.pos - (S.ahead.length : Int))) := h4.c 9
            have f9 := h4.f 9
            have Hp := Lib.hid (h4.setPos (S.data.length : Int))
            have Hg := Lib.hid (g4.setCell ⟨bs, 9, none⟩ (.int .i64 (S.data.length : Int)) (.inl hown))
            have hSE : S.set = { S with pos := (S.data.length : Int), ahead := [], back := [] } := by unfold St.set; rw [if_pos hc]
            clear h4 g4 hdv hdc hdm hc hd
            go_wp2_with fail
            go_meet
            exact ⟨_, hSE ▸ Hp.out, Hg.out⟩
          case false =>
            have hc : ¬ (S.app = true ∧ S.wait = []) := fun e => by cases hd.2 e
            have hSE : S.set = { S with pos := S.pos - (S.ahead.length : Int), ahead := [], back := [] } := by unfold St.set; rw [if_neg hc]
            clear hc hd
            go_wp2_with fail
            go_meet
            exact ⟨_, hSE ▸ h4, g4⟩
        case rest =>
          obtain ⟨m5, h5, g5⟩ := hcut
          clear h4 g4 c12 c5 hd
          obtain ⟨a12, b12, v12, -, -⟩ := h5.wait.shape
          have c12 : wc.cell? ⟨bs, 12, none⟩ = some (.slice a12 S.wait.length b12) := by rw [h5.c]; simp [Mem.stream, v12]; rfl
          have f12 := h5.f 12
          have hrd := h5.wait
          rw [v12] at hrd
          have Hrd := Lib.hid hrd
          have hrbc : Rd wc any byteV (.slice ab nb cb) b := hrb.keep (fun k hk hkl => (g5.keep k (Nat.lt_trans hkl hb') (hany k hk)).trans (hbw.block k hkl)) (fun _ h _ => h)
          have Hrb := Lib.hid hrbc
          have hbs1 : bs < wc.heap.size := h5.lt _ h5.os
          have hnb1 : b.length = nb := by obtain ⟨_, _, e, _⟩ := hrb; injection e with _ e; exact e.symm
          clear hrd v12 hrb hrbc
          go_upto_region 11 with fail
          refine (clone_bytes wc _ _ _ Hrd.out (by show S.wait.length * 1 ≤ _; omega)).mono ?_
          rintro _ W2 ⟨a5, n5, c5, rfl, hrow, hbl⟩
          obtain ⟨a6, n6, c6, W6, hrun, hrow3, hbl3⟩ := clone_app wc W2 hbl _ S.wait hrow any _ b (Hrb.out.keep (fun k _ hkl => hbl.block k hkl) (fun _ h _ => h)) (by omega)
          have Hrun := Lib.hid hrun
          have k12 : W6.cell? ⟨bs, 12, none⟩ = some (.slice a12 S.wait.length b12) := (hbl3.cell (p := ⟨bs, 12, none⟩) hbs1).trans c12
          have kf12 : W6.frozen? ⟨bs, 12, none⟩ = false := (hbl3.frozen (p := ⟨bs, 12, none⟩) hbs1).trans f12
          have h6 := (h5.grow hbl3).setWait (.slice a6 n6 c6) _ (hrow3.rd.keep (fun _ _ _ => rfl) (fun b hb _ => h5.newOnly b hb.1 hb.2))
          have g6 := (g5.grow hbl3).setCell ⟨bs, 12, none⟩ (.slice a6 n6 c6) (.inl hown)
          have hrb6 : Rd (W6.setCell ⟨bs, 12, none⟩ (.slice a6 n6 c6)) any byteV (.slice ab nb cb) b := Hrb.out.keep (fun k hk hkl => (Below.heap_setCell _ _ _ _ (fun e => hany k hk (by rw [e]; exact hown))).trans (hbl3.block k hkl)) (fun _ h _ => h)
          have Hrb6 := Lib.hid hrb6
          have hn6 : n6 = (S.wait ++ b).length := by obtain ⟨_, _, e, _⟩ := hrow3.shape; injection e with _ e
          have Hn6 := Lib.hid hn6
          clear hrun hrow hrow3 hbl hbl3 h5 g5 hrb6 hn6
          go_upto_region 11 with (at_builtin; refine Lib.wpList_append_run _ rfl (.tmp 69) (.tmp 70) 22 22 rfl _ _ rfl rfl (.slice a6 n6 c6) W6 (Eq.trans ?_ Hrun.out) ?_; focus kernel_rfl)
          have h7 : SAtM _ (grownOwn own wc W6) bs (S.laid b) _ := h6
          clear h6 k12 kf12 c12 f12 Hrd Hrb Hrun
          generalize (W6.setCell ⟨bs, 12, none⟩ (.slice a6 n6 c6)) = W7 at *
          have c12 : W7.cell? ⟨bs, 12, none⟩ = some (.slice a6 n6 c6) := h7.c 12
          have c6 : W7.cell? ⟨bs, 6, none⟩ = some (.int .i64 S.size) := h7.c 6
          have c7 : W7.cell? ⟨bs, 7, none⟩ = some (.bool S.lines) := h7.c 7
          have Hc := Lib.hid (fun n => contains_calls (W7.drewN n) any ab nb cb b 10 (Hrb6.out.keep (fun _ _ _ => rfl) (fun _ h _ => h)))
          go_cut [96] from 74 to 95 (fun s wx => ∃ d : Bool, s = .bool d ∧ (d = true ↔ ((n6 : Int) < S.size ∧ ¬ (S.lines = true ∧ (10 : UInt8) ∈ b))) ∧ ∃ q, wx = W7.drewN q)
          case first =>
            by_cases h1 : (n6 : Int) < S.size
            · have h1' : decide ((n6 : Int) < S.size) = true := decide_eq_true h1
              by_cases h2 : S.lines = true
              · rw [h2] at c7
                by_cases h3 : (10 : UInt8) ∈ b
                · simp only [decide_eq_true h3] at Hc
                  go_quiet ((go_at_call 39; exact Calls.quiet_of_same (Hc.out _)))
                  go_wp2
                  go_meet
                  exact ⟨false, rfl, ⟨fun e => (by cases e), fun e => absurd ⟨h2, h3⟩ e.2⟩, _, rfl⟩
                · simp only [decide_eq_false h3] at Hc
                  go_quiet ((go_at_call 39; exact Calls.quiet_of_same (Hc.out _)))
                  go_wp2
                  go_meet
                  exact ⟨true, rfl, ⟨fun e => ⟨h1, fun e => h3 e.2⟩, fun e => rfl⟩, _, rfl⟩
              · rw [show S.lines = false by simpa using h2] at c7
                go_quiet (fail)
                go_wp2
                go_meet
                exact ⟨true, rfl, ⟨fun e => ⟨h1, fun e => h2 e.1⟩, fun e => rfl⟩, _, rfl⟩
            · have h1' : decide ((n6 : Int) < S.size) = false := decide_eq_false h1
              go_quiet (fail)
              go_wp2
              go_meet
              exact ⟨false, rfl, ⟨fun e => (by cases e), fun e => absurd e.1 (by omega)⟩, _, rfl⟩
          case rest =>
            obtain ⟨d, rfl, hd, q, rfl⟩ := hcut
            have h8 := h7.drewN q
            have g8 := g6.drewN q
            clear h7 g6 c12 c6 c7 Hc Hrb6
            generalize W7.drewN q = W8 at *
            have hout : SAt' W0 W8 own bs (S.laid b) := ⟨_, _, h8, g8⟩
            obtain ⟨hb8, hce8, hz8⟩ := Hcm.out _ _ hout
            cases d
            case true =>
              have hE2 : r = ((nb : Int), 0, S.laid b) := by rw [HE.out, if_pos (by rw [← Hn6.out]; exact hd.1 rfl), hnb1]
              have Hfin := Lib.hid (Hst.out _ _ hout (.int .i64 0) 0)
              have hce9 : (W8.setCell ⟨w.heap.size, 0, none⟩ (.int .i64 0)).cell? ⟨w.heap.size, 0, none⟩ = some (.int .i64 0) := World.cell?_setCell_same _ _ _ hce8
              clear hd
              go_wp2_with fail
              refine door_ok (v := .tuple #[.int .i64 nb, .int .i64 0]) ?_ (by rw [hE2]; exact ⟨rfl, Hfin.out⟩)
              simp [results, Try.results16, go_sem, hce9]
            case false =>
              have hE2 : r = (Max.max 0 ((S.laid b).move.1 - S.wait.length), (S.laid b).move.2.1, (S.laid b).move.2.2) := by rw [HE.out, if_neg (by rw [← Hn6.out]; exact fun e => by cases hd.2 e)]
              have HE2 := Lib.hid hE2
              clear hd hE2
              have Hm := Lib.hid (move_calls h8 ho Hfit.out)
              clear hout hb8 hce8 hz8 h8
              go_wp2_with fail
              refine Hm.out.mono ?_
              rintro _ w9 ⟨rfl, own9, m9, h9, g9⟩
              have hout : SAt' W0 w9 own bs (S.laid b).move.2.2 := ⟨_, _, h9, g8.trans g9⟩
              obtain ⟨hb8, hce8, hz8⟩ := Hcm.out _ _ hout
              have hbd := Hbd.out
              generalize hx : (S.laid b).move.1 = x at *
              generalize hy : (S.laid b).move.2.1 = y at *
              have hce9 : (w9.setCell ⟨w.heap.size, 0, none⟩ (.int .i64 y)).cell? ⟨w.heap.size, 0, none⟩ = some (.int .i64 y) := World.cell?_setCell_same _ _ _ hce8
              have hwr : IntKind.i64.wrap (x - (S.wait.length : Int)) = x - (S.wait.length : Int) := IntWalk.i64_in _ (by omega)
              have hpost : ∀ q, WritePost w own bs r (.returned (.tuple #[.int .i64 (Max.max 0 (x - (S.wait.length : Int))), .int .i64 y])) (((w9.setCell ⟨w.heap.size, 0, none⟩ (.int .i64 y)).setCell ⟨w.heap.size, 0, none⟩ (.int .i64 y)).drewN q) := fun q => by
                rw [setCell_self hce9, HE2.out]
                exact ⟨rfl, Hst.out _ _ hout (.int .i64 y) q⟩
              have Hpost := Lib.hid hpost
              have hz9 : (w9.setCell ⟨w.heap.size, 0, none⟩ (.int .i64 y)).frozen? ⟨w.heap.size, 0, none⟩ = false := by simp [go_sem, hz8]
              clear hx hy h9 g9 hpost
              go_wp2_with fail
              clear hce8 hz8 hb8 hout
              generalize w9.setCell ⟨w.heap.size, 0, none⟩ (.int .i64 y) = W10 at *
              have hce10 : (W10.setCell ⟨w.heap.size, 0, none⟩ (.int .i64 y)).cell? ⟨w.heap.size, 0, none⟩ = some (.int .i64 y) := World.cell?_setCell_same _ _ _ hce9
              go_still_tail 6, (by kernel_rfl)
              go_wp2_with fail
              refine door_ok (v := .tuple #[.int .i64 (Max.max 0 (x - (S.wait.length : Int))), .int .i64 y]) ?_ (Hpost.out 1)
              simp [results, Try.results16, go_sem, hce10]

/-- Write computes what the plain model says; what it is given lies outside the stream. -/
theorem write_calls {w : World} {own : Nat → Prop} {bs : Nat} {S : St} (h : SAt w own bs S) (hok : S.Ok) (any : Nat → Prop) (hany : ∀ k, any k → ¬ own k) (ab : Option Addr) (nb cb : Nat) (b : List UInt8) (hb : Rd w any byteV (.slice ab nb cb) b) :
    Calls Try.prog 16 #[.pointer (some ⟨bs, 0, none⟩), .slice ab nb cb] w (WritePost w own bs (S.write b)) := by
  obtain ⟨m, h⟩ := h
  have hn : nb = b.length := by obtain ⟨_, _, e, _⟩ := hb; injection e with _ e
  unfold St.write
  by_cases ho : S.opened = false
  · rw [if_pos ho]; exact write_closed h ho ab nb cb
  · have ho' : S.opened = true := by simpa using ho
    rw [if_neg ho]
    by_cases hr : S.wr = false
    · rw [if_pos hr]; exact write_unwr h ho' hr ab nb cb
    · have hr' : S.wr = true := by simpa using hr
      rw [if_neg hr]
      by_cases hl : 1048576 < b.length
      · rw [if_pos hl]; exact write_long h ho' hr' ab nb cb (by omega)
      · rw [if_neg hl]; exact write_go h ho' hr' hok any hany ab nb cb b hb (by omega) _ rfl
end Go.Proofs.Ytgihclflndlomaa
