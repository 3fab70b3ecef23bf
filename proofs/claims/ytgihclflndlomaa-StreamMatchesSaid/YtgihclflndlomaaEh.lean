/- The reference package's Read; The reference package's Write. -/
import Derived.Test.YtgihclflndlomaaEf
import Derived.Test.YtgihclflndlomaaBc
namespace Go.Proofs.Ytgihclflndlomaa
open Go.RowKit

def RReadPost (w : World) (own : Nat → Prop) (bs : Nat) (r : List UInt8 × Int × St) (e : Ending) (w' : World) : Prop :=
  ∃ a n c own' m', e = .returned (.tuple #[.slice a n c, .int .i64 r.2.1]) ∧ RAtM w' own' bs r.2.2 m' ∧ Fr w w' own own' ∧ Row 5 byteV w' (fun b => w.heap.size ≤ b ∧ ¬ own' b) (.slice a n c) r.1

theorem Row.past {α : Type} {e : TypeId} {enc : α → Value} {B : Nat} {W W' : World} {own own' : Nat → Prop} {v : Value} {l : List α} (h : Row e enc W (fun b => B ≤ b ∧ ¬ own b) v l) (f : Fr W W' own own') : Row e enc W' (fun b => B ≤ b ∧ ¬ own' b) v l :=
  h.keep (fun b hb hk => f.keep b hk hb.2) (fun b hb hk => ⟨hb.1, fun e => (f.new b e).elim hb.2 (fun e => by omega)⟩)

/-- An append of one byte to a row that the call has made besides. -/
theorem RAtM.beside {w W : World} {own own' : Nat → Prop} {bs : Nat} {S : St} {m : RMem} {v : Value} {l : List UInt8} (h : RAtM W own' bs S m) (f : Fr w W own own') (hr : Row 5 byteV W (fun b => w.heap.size ≤ b ∧ ¬ own' b) v l) (c : UInt8) (hl : l.length ≤ 2000000) :
    ∃ a n k W', (Builtin.append_ #[22, 22] 22 #[v, .slice (some ⟨W.heap.size, 0, none⟩) 1 1]).run Try.prog (W.alloc (.cells #[byteV c] 5)) = .ok (.slice a n k) W' ∧ RAtM W' own' bs S m ∧ Fr w W' own own' ∧
      Row 5 byteV W' (fun b => w.heap.size ≤ b ∧ ¬ own' b) (.slice a n k) (l ++ [c]) := by
  have h0 := h.alloc (.cells #[byteV c] 5)
  have hsz := f.size
  obtain ⟨a, n, k, W', hrun, hrow, htw, hbl⟩ := run_app bytesElem (W.alloc (.cells #[byteV c] 5)) _ _ v _ l [c] (hr.keep (fun b _ hb => Below.heap_alloc _ _ _ hb) (fun _ h _ => h)) (rd_one c 5) 22 (by simp; omega) (by decide)
  refine ⟨a, n, k, W', hrun, h0.keep htw.size (fun b hb => htw.keep b (h0.lt b hb) (fun e => e.1.2 hb)), ?_, ?_⟩
  · have f1 := (f.alloc (.cells #[byteV c] 5)).tw htw (fun i hi => .inr hi.1.1)
    exact f1
  · refine hrow.keep (fun _ _ _ => rfl) (fun b hb _ => hb.elim id (fun e => ?_))
    rw [World.size_alloc] at e
    exact ⟨by omega, fun e2 => by have := h.lt _ e2; omega⟩

theorem readN_succ_bad {n : Nat} {S : St} (h : S.getc.2.1 ≠ 0) : S.readN (n + 1) = ([], S.getc.2.1, S.getc.2.2) := by rw [St.readN, if_pos h]
theorem readN_succ_good {n : Nat} {S : St} (h : S.getc.2.1 = 0) : S.readN (n + 1) = (S.getc.1 :: (S.getc.2.2.readN n).1, (S.getc.2.2.readN n).2) := by rw [St.readN, if_neg (by rw [h]; decide)]

set_option maxRecDepth 100000 in
set_option maxHeartbeats 2000000 in
theorem rread_go {w : World} {own : Nat → Prop} {bs : Nat} {S : St} {m : RMem} (h : RAtM w own bs S m) (ho : S.opened = true) (hr : S.rd = true) (hok : S.Ok) (n : Nat) (hn : n ≤ 1048576) :
    Calls Try.prog 50 #[.pointer (some ⟨bs, 0, none⟩), .int .i64 (n : Int)] w (RReadPost w own bs (S.readN n)) := by
  have c14 : w.cell? ⟨bs, 14, none⟩ = some (.bool false) := by rw [h.c]; simp [RMem.cells, ho]
  have c3 : w.cell? ⟨bs, 3, none⟩ = some (.bool true) := by rw [h.c]; simp [RMem.cells, hr]
  have H := Lib.hid h
  have Hok := Lib.hid hok
  have h0' : decide ((n : Int) < 0) = false := decide_eq_false (by omega)
  have h1' : decide (1048576 < (n : Int)) = false := decide_eq_false (by omega)
  clear ho hr hok h
  go_enter Try.func50, Try.ntmps50
  go_wp2_with fail
  go_loopg [6, 7] n (fun g v i wr => ∃ (k : Nat) (own' : Nat → Prop) (m' : RMem) (T : St) (l : List UInt8), k + g = n ∧ i = .int .i64 (k : Int) ∧ RAtM wr own' bs T m' ∧ Fr w wr own own' ∧ Row 5 byteV wr (fun b => w.heap.size ≤ b ∧ ¬ own' b) v l ∧ l.length = k ∧ T.Ok ∧ S.readN n = (l ++ (T.readN g).1, (T.readN g).2))
  case atStart => exact ⟨0, own, m, S, [], by omega, rfl, H.out, Fr.refl _ _, .inl ⟨rfl, none, rfl⟩, rfl, Hok.out, rfl⟩
  case round =>
    obtain ⟨k, own', m', T, l, hkg, rfl, h1, hg1, hrow, hlk, hokT, hE⟩ := hrel
    obtain ⟨av, cv, hv, -, -⟩ := hrow.shape
    subst hv
    have Hkg := Lib.hid hkg
    have HE := Lib.hid hE
    have HokT := Lib.hid hokT
    have Hlk := Lib.hid hlk
    have hkn : k ≤ n := by omega
    clear hkg hE hokT hlk
    by_cases hlt : k < n
    · obtain ⟨g, rfl⟩ : ∃ g, gk = g + 1 := ⟨gk - 1, by have := Hkg.out; omega⟩
      have Hg := Lib.hid (rgetc_calls h1 HokT.out)
      have Hok2 := Lib.hid (getc_ok T HokT.out).1
      have Hg1 := Lib.hid hg1
      have Hrow := Lib.hid hrow
      clear h1 hg1 hrow
      go_wp2_with fail
      refine Calls.mono Hg.out ?_
      rintro e W2 ⟨rfl, own2, m2, h2, hg2⟩
      have hrow2 := Hrow.out.past hg2
      have hg12 := Hg1.out.trans hg2
      by_cases he : T.getc.2.1 = 0
      · rw [he]
        obtain ⟨a3, n3, c3', W3, hrun, h3, hg3, hrow3⟩ := h2.beside hg12 hrow2 T.getc.1 (by have := Hlk.out; omega)
        have hE2 : S.readN n = (l ++ [T.getc.1] ++ (T.getc.2.2.readN g).1, (T.getc.2.2.readN g).2) := by
          rw [HE.out, readN_succ_good he]
          simp
        have Hrun := Lib.hid hrun
        have Hrel := Lib.hid (And.intro h3 (And.intro hg3 (And.intro hrow3 hE2)))
        clear hrun h3 hg3 hrow3 h2 hg2 hrow2 hg12 hE2 he Hg HE Hrow
        have hbv : byteV T.getc.1 = .int .u8 (T.getc.1.toNat : Int) := rfl
        generalize T.getc.1 = x at *
        generalize T.getc.2.2 = T2 at *
        go_wp2_with (at_builtin; refine Lib.wpList_append_run _ rfl (.tmp 40) (.tmp 42) 22 22 rfl _ _ rfl rfl (.slice a3 n3 c3') W3 (Eq.trans ?_ Hrun.out) ?_; focus kernel_rfl)
        go_roundg g
        case measure => omega
        case rel =>
          obtain ⟨q1, q2, q3, q4⟩ := Hrel.out
          exact ⟨k + 1, own2, m2, T2, l ++ [x], by have := Hkg.out; omega, by rw [show ((k : Int) + 1) = ((k + 1 : Nat) : Int) by omega], q1, q2, q3, by have := Hlk.out; simp; omega, Hok2.out, q4⟩
      · have he' : (T.getc.2.1 != 0) = true := by simpa using he
        have hpost : RReadPost w own bs (S.readN n) (.returned (.tuple #[.slice av l.length cv, .int .i64 T.getc.2.1])) W2 := by
          rw [HE.out, readN_succ_bad he]
          exact ⟨av, l.length, cv, own2, m2, rfl, h2, hg12, by simpa using hrow2⟩
        have Hpost := Lib.hid hpost
        clear h2 hg2 hrow2 hg12 hpost Hg HE Hrow
        have hbv : byteV T.getc.1 = .int .u8 (T.getc.1.toNat : Int) := rfl
        generalize T.getc.1 = x at *
        generalize T.getc.2.1 = y at *
        go_wp2_with fail
        go_ret2
        exact Hpost.out
    · have hg0 : gk = 0 := by have := Hkg.out; omega
      subst hg0
      have hpost : RReadPost w own bs (S.readN n) (.returned (.tuple #[.slice av l.length cv, .int .i64 0])) wr := by
        rw [HE.out]
        exact ⟨av, l.length, cv, own', m', rfl, h1, hg1, by simpa [St.readN] using hrow⟩
      have Hpost := Lib.hid hpost
      clear h1 hg1 hrow hpost HE
      go_wp2_with fail
      go_ret2
      exact Hpost.out

theorem rread_calls {w : World} {own : Nat → Prop} {bs : Nat} {S : St} {m : RMem} (h : RAtM w own bs S m) (hok : S.Ok) (n : Int) :
    Calls Try.prog 50 #[.pointer (some ⟨bs, 0, none⟩), .int .i64 n] w (RReadPost w own bs (S.read n)) := by
  have hnil : ∀ x : Int, RReadPost w own bs ([], x, S) (.returned (.tuple #[.slice none 0 0, .int .i64 x])) w := fun x => ⟨none, 0, 0, own, m, rfl, h, Fr.refl _ _, .inl ⟨rfl, none, rfl⟩⟩
  have Hnil := Lib.hid hnil
  clear hnil
  unfold St.read
  by_cases ho : S.opened = false
  · rw [if_pos ho]
    have c14 : w.cell? ⟨bs, 14, none⟩ = some (.bool true) := by rw [h.c]; simp [RMem.cells, ho]
    clear ho h
    go_enter Try.func50, Try.ntmps50
    go_wp2_with fail
    go_ret2
    exact Hnil.out 4
  rw [if_neg ho]
  have ho' : S.opened = true := by simpa using ho
  have c14 : w.cell? ⟨bs, 14, none⟩ = some (.bool false) := by rw [h.c]; simp [RMem.cells, ho']
  by_cases hn : n < 0 ∨ 1048576 < n
  · rw [if_pos hn]
    clear ho ho' h
    by_cases h0 : n < 0
    · go_enter Try.func50, Try.ntmps50
      go_wp2_with fail
      go_ret2
      exact Hnil.out 1
    · have h0' : decide (n < 0) = false := decide_eq_false h0
      have h1' : decide (1048576 < n) = true := decide_eq_true (hn.elim (fun e => absurd e h0) id)
      clear hn
      go_enter Try.func50, Try.ntmps50
      go_wp2_with fail
      go_ret2
      exact Hnil.out 1
  rw [if_neg hn]
  by_cases hr : S.rd = false
  · rw [if_pos hr]
    have c3 : w.cell? ⟨bs, 3, none⟩ = some (.bool false) := by rw [h.c]; simp [RMem.cells, hr]
    have h0' : decide (n < 0) = false := decide_eq_false (by omega)
    have h1' : decide (1048576 < n) = false := decide_eq_false (by omega)
    clear ho ho' h hr hn
    go_enter Try.func50, Try.ntmps50
    go_wp2_with fail
    go_ret2
    exact Hnil.out 4
  · rw [if_neg hr]
    obtain ⟨k, rfl⟩ := Int.eq_ofNat_of_zero_le (show 0 ≤ n by omega)
    exact rread_go h ho' (by simpa using hr) hok k (by omega)

def RWritePost (w : World) (own : Nat → Prop) (bs : Nat) (r : Int × Int × St) (e : Ending) (w' : World) : Prop :=
  e = .returned (.tuple #[.int .i64 r.1, .int .i64 r.2.1]) ∧ RAt' w w' own bs r.2.2

theorem rwrite_shut {w : World} {own : Nat → Prop} {bs : Nat} {S : St} {m : RMem} (h : RAtM w own bs S m) (ho : S.opened = false ∨ S.wr = false) (ab : Option Addr) (nb cb : Nat) :
    Calls Try.prog 51 #[.pointer (some ⟨bs, 0, none⟩), .slice ab nb cb] w (RWritePost w own bs (0, 4, S)) := by
  have hpost : RAt' w w own bs S := ⟨own, m, h, Fr.refl _ _⟩
  have Hpost := Lib.hid hpost
  cases ho1 : S.opened with
  | false =>
    have c14 : w.cell? ⟨bs, 14, none⟩ = some (.bool true) := by rw [h.c]; simp [RMem.cells, ho1]
    clear ho ho1 h hpost
    go_enter Try.func51, Try.ntmps51
    go_wp2_with fail
    go_ret2
    exact ⟨rfl, Hpost.out⟩
  | true =>
    have hr : S.wr = false := ho.elim (fun e => by rw [ho1] at e; cases e) id
    have c14 : w.cell? ⟨bs, 14, none⟩ = some (.bool false) := by rw [h.c]; simp [RMem.cells, ho1]
    have c4 : w.cell? ⟨bs, 4, none⟩ = some (.bool false) := by rw [h.c]; simp [RMem.cells, hr]
    clear ho ho1 h hr hpost
    go_enter Try.func51, Try.ntmps51
    go_wp2_with fail
    go_ret2
    exact ⟨rfl, Hpost.out⟩

theorem rwrite_long {w : World} {own : Nat → Prop} {bs : Nat} {S : St} {m : RMem} (h : RAtM w own bs S m) (ho : S.opened = true) (hr : S.wr = true) (ab : Option Addr) (nb cb : Nat) (hl : 1048576 < nb) :
    Calls Try.prog 51 #[.pointer (some ⟨bs, 0, none⟩), .slice ab nb cb] w (RWritePost w own bs (0, 2, S)) := by
  have hpost : RAt' w w own bs S := ⟨own, m, h, Fr.refl _ _⟩
  have Hpost := Lib.hid hpost
  have c14 : w.cell? ⟨bs, 14, none⟩ = some (.bool false) := by rw [h.c]; simp [RMem.cells, ho]
  have c4 : w.cell? ⟨bs, 4, none⟩ = some (.bool true) := by rw [h.c]; simp [RMem.cells, hr]
  have hl' : decide ((1048576 : Int) < nb) = true := decide_eq_true (by omega)
  clear ho hr h hpost
  go_enter Try.func51, Try.ntmps51
  go_wp2_with fail
  go_ret2
  exact ⟨rfl, Hpost.out⟩

set_option maxRecDepth 100000 in
set_option maxHeartbeats 6000000 in
theorem rwrite_go {w : World} {own : Nat → Prop} {bs : Nat} {S : St} {m : RMem} (h : RAtM w own bs S m) (ho : S.opened = true) (hr : S.wr = true) (hok : S.Ok) (any : Nat → Prop) (hany : ∀ k, any k → ¬ own k) (ab : Option Addr) (nb cb : Nat) (b : List UInt8) (hrb : Rd w any byteV (.slice ab nb cb) b) (hl : nb ≤ 1048576) (r : Int × Int × St)
    (hE : r = if ((S.wait ++ b).length : Int) < S.size ∧ ¬ (S.lines = true ∧ (10 : UInt8) ∈ b) then ((b.length : Int), 0, S.laid b) else (Max.max 0 ((S.laid b).move.1 - S.wait.length), (S.laid b).move.2.1, (S.laid b).move.2.2)) :
    Calls Try.prog 51 #[.pointer (some ⟨bs, 0, none⟩), .slice ab nb cb] w (RWritePost w own bs r) := by
  have c14 : w.cell? ⟨bs, 14, none⟩ = some (.bool false) := by rw [h.c]; simp [RMem.cells, ho]
  have c4 : w.cell? ⟨bs, 4, none⟩ = some (.bool true) := by rw [h.c]; simp [RMem.cells, hr]
  have hlt := h.lt
  have hown := h.os
  obtain ⟨a9, b9, v9, -, -⟩ := h.ahead.shape
  obtain ⟨a11, b11, v11, -, -⟩ := h.wait.shape
  have c8 : w.cell? ⟨bs, 8, none⟩ = some (.int .i64 S.pos) := h.c 8
  have c9 : w.cell? ⟨bs, 9, none⟩ = some (.slice a9 S.ahead.length b9) := by rw [h.c]; simp [RMem.cells, v9]
  have c10 : w.cell? ⟨bs, 10, none⟩ = some m.back := h.c 10
  have f8 := h.f 8
  have f9 := h.f 9
  have f10 := h.f 10
  have hsb : IntKind.i64.wrap (S.pos - (S.ahead.length : Int)) = S.pos - (S.ahead.length : Int) := IntWalk.i64_in _ (by have := hok.pos0; have := hok.pos1; have := hok.max1; omega)
  obtain ⟨W3, hW3⟩ : ∃ W3, ((w.setCell ⟨bs, 8, none⟩ (.int .i64 (S.pos - (S.ahead.length : Int)))).setCell ⟨bs, 9, none⟩ (.slice none 0 0)).setCell ⟨bs, 10, none⟩ (.slice none 0 0) = W3 := ⟨_, rfl⟩
  have h3 : RAtM W3 own bs { S with pos := S.pos - (S.ahead.length : Int), ahead := [], back := [] } { m with ahead := .slice none 0 0, back := .slice none 0 0 } := by
    rw [← hW3]; exact ((h.setPos _).setAhead _ [] (Rd.nil _ _ _)).setBack _ [] (Rd.nil _ _ _)
  have g3 : Fr w W3 own own := by
    rw [← hW3]; exact (((Fr.refl _ own).setCell _ _ (.inl hown)).setCell _ _ (.inl hown)).setCell _ _ (.inl hown)
  have hwl : S.wait.length ≤ 65536 := by have := hok.wlen; have := hok.size2; omega
  have hnb1 : b.length = nb := by obtain ⟨_, _, e, _⟩ := hrb; injection e with _ e; exact e.symm
  have HE := Lib.hid hE
  have Hfit := Lib.hid (laid_fit S hok b (by omega))
  have Hbd := Lib.hid (move_bd (S.laid b) Hfit.out)
  have hl' : decide ((1048576 : Int) < nb) = false := decide_eq_false (by omega)
  have Hnb1 := Lib.hid hnb1
  have Hrb := Lib.hid hrb
  clear hr hok hE h ho hnb1 hrb
  go_enter Try.func51, Try.ntmps51
  go_upto_region 5 with fail
  clear c14 c4
  go_cut [] from 24 to 36 (fun wx => ∃ q, wx = (w.setCell ⟨bs, 8, none⟩ (.int .i64 (S.pos - (S.ahead.length : Int)))).drewN q)
  case first =>
    go_still_tail 13, (by kernel_rfl)
    go_wp2_with fail
    go_meet
    exact ⟨1, rfl⟩
  case rest =>
    obtain ⟨q, rfl⟩ := hcut
    have k9 : ((w.setCell ⟨bs, 8, none⟩ (.int .i64 (S.pos - (S.ahead.length : Int)))).drewN q).cell? ⟨bs, 9, none⟩ = some (.slice a9 S.ahead.length b9) := (cell_set_off _ (by decide)).trans c9
    have k10 : (((w.setCell ⟨bs, 8, none⟩ (.int .i64 (S.pos - (S.ahead.length : Int)))).drewN q).setCell ⟨bs, 9, none⟩ (.slice none 0 0)).cell? ⟨bs, 10, none⟩ = some m.back := (cell_set_off _ (by decide)).trans ((cell_set_off _ (by decide)).trans c10)
    have hW : (((w.setCell ⟨bs, 8, none⟩ (.int .i64 (S.pos - (S.ahead.length : Int)))).drewN q).setCell ⟨bs, 9, none⟩ (.slice none 0 0)).setCell ⟨bs, 10, none⟩ (.slice none 0 0) = W3.drewN q := by rw [← hW3]; rfl
    go_upto_region 8 with fail
    have h4 := h3.drewN q
    have c11 : (W3.drewN q).cell? ⟨bs, 11, none⟩ = some (.slice a11 S.wait.length b11) := by rw [h4.c]; simp [RMem.cells, v11]
    have c5 : (W3.drewN q).cell? ⟨bs, 5, none⟩ = some (.bool S.app) := h4.c 5
    have g4 := g3.drewN q
    clear k9 k10 c8 c9 c10 f8 f9 f10 v9 v11 h3 hsb hW
    generalize W3.drewN q = W4 at *
    clear hW3 g3
    go_upto_region 9 with fail
    go_cut [56] from 48 to 55 (fun s wx => ∃ d : Bool, s = .bool d ∧ (d = true ↔ S.app = true ∧ S.wait = []) ∧ wx = W4)
    case first =>
      by_cases ha : S.app = true
      · rw [ha] at c5
        by_cases hw : S.wait = []
        · have hz0 : ((S.wait.length : Int) == 0) = true := by rw [hw]; rfl
          go_wp2_with fail
          go_meet
          exact ⟨true, rfl, ⟨fun _ => ⟨ha, hw⟩, fun _ => rfl⟩, rfl⟩
        · have hz0 : ((S.wait.length : Int) == 0) = false := by cases hq : S.wait with | nil => exact absurd hq hw | cons x t => simp; omega
          go_wp2_with fail
          go_meet
          exact ⟨false, rfl, ⟨fun e => (by cases e), fun e => absurd e.2 hw⟩, rfl⟩
      · have ha' : S.app = false := by simpa using ha
        rw [ha'] at c5
        go_wp2_with fail
        go_meet
        exact ⟨false, rfl, ⟨fun e => (by cases e), fun e => absurd e.1 ha⟩, rfl⟩
    case rest =>
      obtain ⟨d, rfl, hd, rfl⟩ := hcut
      go_upto_if 56 with fail
      go_cut [] from 57 to 65 (fun wx => ∃ m', RAtM wx own bs S.set m' ∧ Fr w wx own own)
      case first =>
        cases d
        case true =>
          have hc := hd.1 rfl
          obtain ⟨ad, cd, hdv, hdc, hdm⟩ := h4.data.shape
          have e0 : wc.cell? ⟨bs, 0, none⟩ = some (.slice ad S.data.length cd) := by rw [h4.c]; simp [RMem.cells, show m.data = .slice ad S.data.length cd from hdv]
          have c8 : wc.cell? ⟨bs, 8, none⟩ = some (.int .i64 (S.pos - (S.ahead.length : Int))) := h4.c 8
          have f8 := h4.f 8
          have Hp := Lib.hid (h4.setPos (S.data.length : Int))
          have Hg := Lib.hid (g4.setCell ⟨bs, 8, none⟩ (.int .i64 (S.data.length : Int)) (.inl hown))
          have hSE : S.set = { S with pos := (S.data.length : Int), ahead := [], back := [] } := by unfold St.set; rw [if_pos hc]
          clear h4 g4 hdv hdc hdm hc hd
          go_wp2_with fail
          go_meet
          exact ⟨_, hSE ▸ Hp.out, Hg.out⟩
        case false =>
          have hc : ¬ (S.app = true ∧ S.wait = []) := fun e => by cases hd.2 e
          have hSE : S.set = { S with pos := S.pos - (S.ahead.length : Int), ahead := [], back := [] } := by unfold St.set; rw [if_neg hc]
          clear hc hd
          go_wp2_with fail
          go_meet
          exact ⟨_, hSE ▸ h4, g4⟩
      case rest =>
        obtain ⟨m5, h5, g5⟩ := hcut
        clear h4 g4 c11 c5 hd
        obtain ⟨a12, b12, v12, -, -⟩ := h5.wait.shape
        have c11 : wc.cell? ⟨bs, 11, none⟩ = some (.slice a12 S.wait.length b12) := by rw [h5.c]; simp [RMem.cells, v12]; rfl
        have hrd := h5.wait
        rw [v12] at hrd
        have hsz := g5.size
        obtain ⟨a5, n5, c5, W2, hrun, _, _, _, he5, hrow, hbl⟩ := app_new bytesElem wc (wc.alloc (.cells #[] 5)) ((Below.refl _ _).alloc (Nat.le_refl _) _) _ (some ⟨wc.heap.size, 0, none⟩) (.slice a12 S.wait.length b12) S.wait (hrd.keep (fun b _ hb => Below.heap_alloc _ _ _ hb) (fun _ h _ => h)) 22 (by omega) (by decide)
        cases he5
        have hrbc : Rd wc any byteV (.slice ab nb cb) b := Hrb.out.keep (fun k hk hkl => g5.keep k hkl (hany k hk)) (fun _ h _ => h)
        obtain ⟨a6, n6, c6, W6, hrun2, hrow3, hbl3⟩ := clone_app wc W2 hbl _ S.wait hrow any _ b (hrbc.keep (fun k _ hkl => hbl.block k hkl) (fun _ h _ => h)) (by have := Hnb1.out; omega)
        have Hrun := Lib.hid hrun
        have Hrun2 := Lib.hid hrun2
        have lbs : bs < wc.heap.size := h5.lt _ h5.os
        have c11a : (wc.alloc (.cells #[] 5)).cell? ⟨bs, 11, none⟩ = some (.slice a12 S.wait.length b12) := (World.cell?_alloc_lt _ _ ⟨bs, 11, none⟩ lbs).trans c11
        have k11 : W6.cell? ⟨bs, 11, none⟩ = some (.slice a12 S.wait.length b12) := (hbl3.cell (p := ⟨bs, 11, none⟩) lbs).trans c11
        have kf11 : W6.frozen? ⟨bs, 11, none⟩ = false := (hbl3.frozen (p := ⟨bs, 11, none⟩) lbs).trans (h5.f 11)
        have h6 := (h5.grow hbl3).setWait (.slice a6 n6 c6) _ (hrow3.rd.keep (fun _ _ _ => rfl) (fun b hb _ => h5.newOnly b hb.1 hb.2))
        have g6 := (g5.grow hbl3).setCell ⟨bs, 11, none⟩ (.slice a6 n6 c6) (.inl hown)
        have hrb6 : Rd (W6.setCell ⟨bs, 11, none⟩ (.slice a6 n6 c6)) any byteV (.slice ab nb cb) b := hrbc.keep (fun k hk hkl => (Below.heap_setCell _ _ _ _ (fun e => hany k hk (by rw [e]; exact hown))).trans (hbl3.block k hkl)) (fun _ h _ => h)
        have Hrb6 := Lib.hid hrb6
        have hn6 : n6 = (S.wait ++ b).length := by obtain ⟨_, _, e, _⟩ := hrow3.shape; injection e with _ e
        have Hn6 := Lib.hid hn6
        clear hrun hrun2 hrow hrow3 hbl hbl3 h5 g5 hrb6 hn6 v12 hrd hrbc Hrb
        go_upto_region 12 with (first
          | (at_builtin; refine Lib.wpList_append_run _ rfl (.tmp 67) (.tmp 71) 22 22 rfl _ _ rfl rfl (.slice a5 n5 c5) W2 (Eq.trans ?_ Hrun.out) ?_; focus kernel_rfl)
          | (at_builtin; refine Lib.wpList_append_run _ rfl (.tmp 72) (.tmp 73) 22 22 rfl _ _ rfl rfl (.slice a6 n6 c6) W6 (Eq.trans ?_ Hrun2.out) ?_; focus kernel_rfl))
        have h7 : RAtM _ (grownOwn own wc W6) bs (S.laid b) _ := h6
        clear h6 k11 kf11 c11 c11a Hrun Hrun2 lbs
        generalize (W6.setCell ⟨bs, 11, none⟩ (.slice a6 n6 c6)) = W7 at *
        have c11 : W7.cell? ⟨bs, 11, none⟩ = some (.slice a6 n6 c6) := h7.c 11
        have c6 : W7.cell? ⟨bs, 6, none⟩ = some (.int .i64 S.size) := h7.c 6
        have c7 : W7.cell? ⟨bs, 7, none⟩ = some (.bool S.lines) := h7.c 7
        have Hc := Lib.hid (fun n => feeds_calls (W7.drewN n) any ab nb cb b (Hrb6.out.keep (fun _ _ _ => rfl) (fun _ h _ => h)))
        go_cut [99] from 77 to 98 (fun s wx => ∃ d : Bool, s = .bool d ∧ (d = true ↔ ((n6 : Int) < S.size ∧ ¬ (S.lines = true ∧ (10 : UInt8) ∈ b))) ∧ ∃ q, wx = W7.drewN q)
        case first =>
          by_cases h1 : (n6 : Int) < S.size
          · have h1' : decide ((n6 : Int) < S.size) = true := decide_eq_true h1
            by_cases h2 : S.lines = true
            · rw [h2] at c7
              by_cases h3 : (10 : UInt8) ∈ b
              · simp only [decide_eq_true h3] at Hc
                go_quiet ((go_at_call 65; exact Calls.quiet_of_same (Hc.out _)))
                go_wp2
                go_meet
                exact ⟨false, rfl, ⟨fun e => (by cases e), fun e => absurd ⟨h2, h3⟩ e.2⟩, _, rfl⟩
              · simp only [decide_eq_false h3] at Hc
                go_quiet ((go_at_call 65; exact Calls.quiet_of_same (Hc.out _)))
                go_wp2
                go_meet
                exact ⟨true, rfl, ⟨fun e => ⟨h1, fun e => h3 e.2⟩, fun e => rfl⟩, _, rfl⟩
            · rw [show S.lines = false by simpa using h2] at c7
              go_quiet (fail)
              go_wp2
              go_meet
              exact ⟨true, rfl, ⟨fun e => ⟨h1, fun e => h2 e.1⟩, fun e => rfl⟩, _, rfl⟩
          · have h1' : decide ((n6 : Int) < S.size) = false := decide_eq_false h1
            go_quiet (fail)
            go_wp2
            go_meet
            exact ⟨false, rfl, ⟨fun e => (by cases e), fun e => absurd e.1 (by omega)⟩, _, rfl⟩
        case rest =>
          obtain ⟨d, rfl, hd, q, rfl⟩ := hcut
          have h8 := h7.drewN q
          have g8 := g6.drewN q
          clear h7 g6 c11 c6 c7 Hc Hrb6
          generalize W7.drewN q = W8 at *
          cases d
          case true =>
            have hE2 : r = ((nb : Int), 0, S.laid b) := by rw [HE.out, if_pos (by rw [← Hn6.out]; exact hd.1 rfl), Hnb1.out]
            have hpost : RWritePost w own bs r (.returned (.tuple #[.int .i64 (nb : Int), .int .i64 0])) W8 := by
              rw [hE2]; exact ⟨rfl, _, _, h8, g8⟩
            have Hpost := Lib.hid hpost
            clear hd hpost hE2 h8 g8
            go_wp2_with fail
            go_ret2
            exact Hpost.out
          case false =>
            have hE2 : r = (Max.max 0 ((S.laid b).move.1 - S.wait.length), (S.laid b).move.2.1, (S.laid b).move.2.2) := by rw [HE.out, if_neg (by rw [← Hn6.out]; exact fun e => by cases hd.2 e)]
            have HE2 := Lib.hid hE2
            have Hm := Lib.hid (rmove_calls h8 Hfit.out)
            have Hg8 := Lib.hid g8
            clear hd hE2 h8 g8
            go_wp2_with fail
            refine Calls.mono Hm.out ?_
            rintro e w9 ⟨rfl, own9, m9, h9, g9⟩
            have hbd := Hbd.out
            have hpost : RWritePost w own bs r (.returned (.tuple #[.int .i64 (Max.max 0 ((S.laid b).move.1 - S.wait.length)), .int .i64 (S.laid b).move.2.1])) w9 := by
              rw [HE2.out]; exact ⟨rfl, own9, m9, h9, Hg8.out.trans g9⟩
            have Hpost := Lib.hid hpost
            clear h9 g9 hpost Hm Hbd HE HE2
            generalize (S.laid b).move.1 = x at *
            generalize (S.laid b).move.2.1 = y at *
            have hwr : IntKind.i64.wrap (x - (S.wait.length : Int)) = x - (S.wait.length : Int) := IntWalk.i64_in _ (by omega)
            go_wp2_with fail
            go_ret2
            exact Hpost.out

theorem rwrite_calls {w : World} {own : Nat → Prop} {bs : Nat} {S : St} {m : RMem} (h : RAtM w own bs S m) (hok : S.Ok) (any : Nat → Prop) (hany : ∀ k, any k → ¬ own k) (ab : Option Addr) (nb cb : Nat) (b : List UInt8) (hrb : Rd w any byteV (.slice ab nb cb) b) :
    Calls Try.prog 51 #[.pointer (some ⟨bs, 0, none⟩), .slice ab nb cb] w (RWritePost w own bs (S.write b)) := by
  have hnb := (rd_len hrb).1
  unfold St.write
  by_cases ho : S.opened = false
  · rw [if_pos ho]; exact rwrite_shut h (.inl ho) ab nb cb
  · have ho' : S.opened = true := by simpa using ho
    rw [if_neg ho]
    by_cases hr : S.wr = false
    · rw [if_pos hr]; exact rwrite_shut h (.inr hr) ab nb cb
    · have hr' : S.wr = true := by simpa using hr
      rw [if_neg hr]
      by_cases hl : 1048576 < b.length
      · rw [if_pos hl]; exact rwrite_long h ho' hr' ab nb cb (by omega)
      · rw [if_neg hl]
        exact rwrite_go h ho' hr' hok any hany ab nb cb b hrb (by omega) _ rfl
end Go.Proofs.Ytgihclflndlomaa
