/- StreamTorn: the walk. -/
import Derived.Test.YtgihclflndlomaaBy
import Derived.Test.YtgihclflndlomaaBz
import Derived.Test.YtgihclflndlomaaCa
import Derived.Deep.RegionHeld3
namespace Go.Proofs.Ytgihclflndlomaa
open Go.RowKit

/-- Blocks between two numbers, none of the stream's. -/
abbrev Betw (lo hi : Nat) (own : Nat → Prop) (k : Nat) : Prop := lo ≤ k ∧ k < hi ∧ ¬ own k

/-- What has come about, in numbers. -/
theorem torn_fin {S U : St} {sz f : Int} {wt : List UInt8} {fl : Bool} {p q : Nat} (hin : TornInv S sz) (hp : S.pos = p) (h : TornOut S wt fl f U) (hq : U.pos + U.wait.length = q) :
    (f = 0 ∧ q = p + wt.length ∧ U.data = putted S.data p wt ∧ U.wait = [] ∧ U.pos = q ∧ (sz ≤ wt.length ∨ fl = true)) ∨
    (f = 0 ∧ q = p + wt.length ∧ U.data = S.data ∧ U.wait = wt ∧ U.pos = p ∧ (wt.length : Int) < sz ∧ fl = false) ∨
    (f = 14 ∧ ∃ j : Nat, j ≤ wt.length ∧ q = p + j ∧ U.data = putted S.data p (wt.take j) ∧ U.wait = [] ∧ U.pos = q ∧ U.bad = true) := by
  have hp' : S.pos.toNat = p := by omega
  rw [← hin.sz]
  rcases h with ⟨h1, h2, h3, h4, h5⟩ | ⟨h1, h2, h3, h4, h5, h6⟩ | ⟨h1, h2, h3, j, h4, h5, h6⟩
  · rw [h4] at hq
    simp only [List.length_nil] at hq
    exact .inl ⟨h1, by omega, by rw [h2, hp'], h4, by omega, h5⟩
  · rw [h4] at hq
    exact .inr (.inl ⟨h1, by omega, h2, h4, by omega, h5, h6⟩)
  · rw [h3] at hq
    simp only [List.length_nil] at hq
    exact .inr (.inr ⟨h1, j, h4, by omega, by rw [h5, hp'], h3, by omega, h2⟩)

theorem failed_true {w : World} {own : Nat → Prop} {bs : Nat} {S : St} {m : Mem} {b : Bool} (h : SAtM w own bs S m) (hb : S.bad = b) :
    Calls Try.prog 20 #[.pointer (some ⟨bs, 0, none⟩)] w fun e w' => e = .returned (.bool b) ∧ w = w' := (failed_calls h).mono fun _ _ ⟨h1, h2⟩ => ⟨hb ▸ h1, h2⟩

theorem Row.betw {α : Type} {e : TypeId} {enc : α → Value} {W W' : World} {own own' : Nat → Prop} {lo hi : Nat} {v : Value} {l : List α} (h : Row e enc W (Betw lo hi own) v l) (f : Fr W W' own own') : Row e enc W' (Betw lo hi own') v l :=
  h.keep (fun b hb hk => f.keep b hk hb.2.2) (fun b hb hk => ⟨hb.1, hb.2.1, fun e => (f.new b e).elim hb.2.2 (fun e => by omega)⟩)

/-- Between the rounds. -/
def TornLoop (w : World) (dv : Array Value) (bs : Nat) (sz : Int) (k : Nat) (v12 v13 i : Value) (W : World) : Prop :=
  ∃ own m S, i = .int .i64 (k : Int) ∧ v13 = .int .i64 S.pos ∧ Lw w W dv own bs S m ∧ TornInv S sz ∧ S.wait.length ≤ 60 * k ∧ Row 5 byteV W (Betw (w.heap.size + 1) W.heap.size own) v12 S.wait

/-- The flag of a round. -/
theorem torn_flag {w : World} {af : Option Addr} {nf cf k : Nat} {fl : List Bool} {flb : Bool} (h : Rd w (fun b => b < w.heap.size) boolV (.slice af nf cf) fl) (hk : k < nf) (hf : flb = (decide (k < nf) && (fl[k]?.getD false))) :
    ∃ bf of_ y, af = some ⟨bf, of_, none⟩ ∧ bf < w.heap.size ∧ k < nf ∧ w.cell? ⟨bf, of_ + k, none⟩ = some (.bool y) ∧ y = flb := by
  obtain ⟨af', cf', hv, h1, h2, -, h3⟩ := h
  cases hv
  obtain ⟨bf, of_, rfl, hbf, hfc⟩ := h3 (fun e => by rw [e] at hk; simp at hk)
  exact ⟨bf, of_, fl[k], rfl, hbf, hk, hfc k _ (List.getElem?_eq_getElem hk), by rw [hf, decide_eq_true hk, List.getElem?_eq_getElem hk]; rfl⟩

set_option maxRecDepth 100000 in
set_option maxHeartbeats 8000000 in
theorem torns_calls (w : World) (a a2 al af : Option Addr) (n c n2 c2 nl cl nf cf : Nat) (max size : Int) (data : List UInt8) (plan : List Int) (l : List (List UInt8)) (fl : List Bool)
    (hd : Rd w (fun b => b < w.heap.size) byteV (.slice a n c) data) (hp : Rd w (fun b => b < w.heap.size) intV (.slice a2 n2 c2) plan) (hpl : plan.length * 8 ≤ 140737488355328)
    (hl : Texts w w.heap.size al nl l) (hf : Rd w (fun b => b < w.heap.size) boolV (.slice af nf cf) fl) :
    Calls Try.prog 4 #[.agg #[.slice a n c, .int .i64 max, .slice a2 n2 c2], .int .i64 size, .slice al nl cl, .slice af nf cf] w fun e w' => e = .returned (.bool true) ∧ Below w.heap.size w w' := by
  go_enter Try.func4, Try.ntmps4
  go_wp2_with fail
  refine (sane_calls _).mono ?_
  rintro e W1 ⟨rfl, hb1⟩
  have hx1 : W1.heap[w.heap.size]? = some (.cells #[.slice a n c, .int .i64 max, .slice a2 n2 c2] 25 (0, 0)) := (hb1.block _ (by simp)).trans (alloc_at w _)
  have hbe : Below w.heap.size w W1 := ((Below.refl _ w).alloc (Nat.le_refl _) _).trans (hb1.mono (by simp))
  have c0 : W1.cell? ⟨w.heap.size, 0, none⟩ = some (.slice a n c) := cell_of_row _ _ 0 _ _ _ hx1
  have c1 : W1.cell? ⟨w.heap.size, 1, none⟩ = some (.int .i64 max) := cell_of_row _ _ 1 _ _ _ hx1
  have c2' : W1.cell? ⟨w.heap.size, 2, none⟩ = some (.slice a2 n2 c2) := cell_of_row _ _ 2 _ _ _ hx1
  have Hx1 := Lib.hid hx1
  have Hbe := Lib.hid hbe
  clear hb1 hx1 hbe
  go_wp2_with fail
  have hx2 := Hx1.out
  have hbe := Hbe.out
  refine (open_calls W1 _ a a2 n c n2 c2 max data plan ⟨false, true, false, size, false⟩ (hd.law hbe) (hp.law hbe) hpl).mono ?_
  rintro e W3 (⟨hr, rfl, hb3⟩ | ⟨hr, bs, own, rfl, ⟨m, hs⟩, hown, hb3⟩)
  · clear hr
    have Hfin := Lib.hid (hbe.trans (hb3.mono hbe.size))
    clear hbe hb3 hx2
    go_wp2_with fail
    go_ret
    exact ⟨rfl, Hfin.out⟩
  · have hL : Lw w W3 #[.slice a n c, .int .i64 max, .slice a2 n2 c2] own bs (St.fresh data max plan ⟨false, true, false, size, false⟩) m := ⟨hs, fun k hk => Nat.lt_of_lt_of_le (Array.getElem?_eq_some_iff.1 hx2).1 (hown k hk), hbe.trans (hb3.mono hbe.size), (hb3.block _ (Array.getElem?_eq_some_iff.1 hx2).1).trans hx2⟩
    clear c0 c1 c2'
    have c0 := hL.box 0
    have c2' := hL.box 2
    have hn := (rd_len hd).1
    have hn2 := (rd_len hp).1
    have Hn := Lib.hid (And.intro hn hn2)
    have HL := Lib.hid hL
    have Hr := Lib.hid hr
    have Hl := Lib.hid hl
    have Hf := Lib.hid hf
    clear hs hown hb3 hbe hx2 hL hr hn hn2 Hx1 Hbe hd hp hpl hl hf
    by_cases g1 : 2000 < (n : Int)
    · go_wp2_with fail
      go_ret
      exact ⟨rfl, HL.out.be⟩
    by_cases g2 : 60 < (nl : Int)
    · go_wp2_with fail
      go_ret
      exact ⟨rfl, HL.out.be⟩
    by_cases g3 : 60 < (n2 : Int)
    · go_wp2_with fail
      go_ret
      exact ⟨rfl, HL.out.be⟩
    have g1' : decide (2000 < (n : Int)) = false := decide_eq_false g1
    have g2' : decide (60 < (nl : Int)) = false := decide_eq_false g2
    have g3' : decide (60 < (n2 : Int)) = false := decide_eq_false g3
    have HS : Hid (TornLoop w #[.slice a n c, .int .i64 max, .slice a2 n2 c2] bs size 0 (.slice none 0 0) (.int .i64 0) (.int .i64 0) W3) := Lib.hid
      ⟨own, m, _, rfl, rfl, HL.out, ⟨fresh_ok Hr.out, rfl, rfl, rfl, rfl, rfl, rfl, rfl, by show plan.length ≤ 60; have := Hn.out.2; omega⟩, Nat.zero_le _, .inl ⟨rfl, none, rfl⟩⟩
    go_wp2_with fail
    clear HL Hr c0 c2'
    go_loopg [12, 13, 14] nl (fun g v12 v13 i wr => ∃ k : Nat, k + g = nl ∧ TornLoop w #[.slice a n c, .int .i64 max, .slice a2 n2 c2] bs size k v12 v13 i wr)
    case atStart => exact ⟨0, by omega, HS.out⟩
    case round =>
      obtain ⟨k, hkg, own, m, S, rfl, rfl, hL, hin, hwl, hrow⟩ := hrel
      have HL := Lib.hid hL
      have Hin := Lib.hid hin
      have Hkg := Lib.hid hkg
      have hk16 : k ≤ nl := by omega
      obtain ⟨av, cv, hv, hcv, hcm⟩ := hrow.shape
      obtain ⟨nw, hnw⟩ : ∃ nw, S.wait.length = nw := ⟨_, rfl⟩
      rw [hnw] at hv hcv hwl
      subst hv
      have Hnw := Lib.hid hnw
      have Hrow := Lib.hid hrow
      clear hL hin hkg hrow hnw HS
      by_cases hlt : k < nl
      · obtain ⟨b, off, rfl, hb, hat⟩ := (Hl.out.below (Nat.le_refl _) HL.out.be).2 (by omega)
        obtain ⟨x, hx⟩ : ∃ x, l[k]? = some x := ⟨_, List.getElem?_eq_getElem (by have := Hl.out.1; omega)⟩
        obtain ⟨ax, nx, cx, k0, hrd⟩ := hat k x hx
        have hnx := (rd_len hrd).1
        have Hnx := Lib.hid hnx
        have Hat := Lib.hid (fun (W' : World) (hW : Below w.heap.size w W') => And.intro ((hW.cell (p := ⟨b, off + k, none⟩) hb).trans ((HL.out.be.cell (p := ⟨b, off + k, none⟩) hb).symm.trans k0))
          (hrd.keep (own' := fun b => b < w.heap.size) (fun i hi _ => (hW.block i hi).trans (HL.out.be.block i hi).symm) (fun _ h _ => h)))
        clear hx hrd hat hnx
        by_cases g4 : 60 < (nx : Int)
        · go_wp2_with fail
          go_ret
          exact ⟨rfl, HL.out.be⟩
        obtain ⟨p, hp⟩ : ∃ p : Nat, S.pos = p := ⟨S.pos.toNat, by have := Hin.out.ok.pos0; omega⟩
        rw [hp]
        have hpm : (p : Int) ≤ 1048576 := by have := Hin.out.ok.pos1; have := Hin.out.ok.max1; omega
        have Hp := Lib.hid hp
        clear hp
        obtain ⟨flb, hflb⟩ : ∃ flb : Bool, flb = (decide (k < nf) && (fl[k]?.getD false)) := ⟨_, rfl⟩
        obtain ⟨nn, f1, S1, hw1, hok1, f, U, hfl, hinv, hout⟩ := torn_step Hin.out x (by have := Hnx.out; omega) flb
        have hfd := field_data
        have Hflb := Lib.hid hflb
        have Hw1 := Lib.hid hw1
        have Hfl := Lib.hid hfl
        have Hu := Lib.hid (And.intro hok1 (And.intro hinv hout))
        have Hdv := Lib.hid (device_calls HL.out.l Hin.out.ok (by have := Hin.out.pl; omega))
        clear hflb hw1 hok1 hfl hinv hout
        go_wp2_with fail
        refine Calls.mono Hdv.out ?_
        rintro e W5 ⟨a5, n5, c5, a6, n6, c6, rfl, hD, -, hb5⟩
        have L5 := HL.out.below hb5
        have HL5 := Lib.hid L5
        have HB5 := Lib.hid (show Row 5 byteV W5 (Betw wr.heap.size W5.heap.size own) (.slice a5 n5 c5) S.data from hD.keep (fun _ _ _ => rfl) (fun b hb _ => ⟨hb.1, hb.2, fun e => by have := HL.out.l.lt b e; have := hb.1; omega⟩))
        have HR5 := Lib.hid (Hrow.out.below hb5)
        obtain ⟨k5, rd5⟩ := Hat.out W5 L5.be
        have Hwr := write_calls ⟨m, L5.l⟩ Hin.out.ok (fun b => b < w.heap.size) (fun k hk e => by have := L5.b1 k e; omega) ax nx cx x rd5
        rw [Hw1.out] at Hwr
        have Hwr := Lib.hid Hwr
        have hz5 : wr.heap.size ≤ W5.heap.size := hb5.size
        clear hD hb5 L5 rd5 k0
        go_wp2_with fail
        refine Calls.mono Hwr.out ?_
        rintro e W6 ⟨rfl, own6, m6, h6, f6⟩
        have L6 := HL5.out.step h6 f6
        have HB6 := Lib.hid (HB5.out.betw f6)
        have R6 := HR5.out.betw f6
        obtain ⟨k6, rd6⟩ := Hat.out W6 L6.be
        have hnw2 := (rd_len R6.rd).1
        obtain ⟨a7, n7, c7, W7, hrun, hrow7, htw7, -⟩ := run_app bytesElem W6 _ _ (.slice av nw cv) (.slice ax nx cx) S.wait x R6 rd6 22 (by have := Hnx.out; omega) (by decide)
        have HL7 := Lib.hid (L6.tw htw7 (fun b hb => ⟨by have := hb.1.1; omega, hb.1.2.2⟩))
        have hz7 := htw7.size
        have hz6 : W5.heap.size ≤ W6.heap.size := f6.size
        have hw0 : w.heap.size < wr.heap.size := HL.out.lt
        have HB7 := Lib.hid (show Row 5 byteV W7 (Betw wr.heap.size W5.heap.size own6) (.slice a5 n5 c5) S.data from HB6.out.keep (fun b hb hk => htw7.keep b hk (fun e => by have := e.1.2.1; have := hb.1; omega)) (fun _ h _ => h))
        have HR7 := Lib.hid (show Row 5 byteV W7 (Betw (w.heap.size + 1) W7.heap.size own6) (.slice a7 n7 c7) (S.wait ++ x) from hrow7.keep (fun _ _ _ => rfl) (fun b hb hk => hb.elim (fun e => ⟨e.1, hk, e.2.2⟩) (fun e => ⟨by omega, hk, fun e2 => by have := L6.l.lt b e2; omega⟩)))
        have hn7 : (S.wait ++ x).length = n7 := (rd_len hrow7.rd).1
        have hn7b : n7 ≤ 4000 := by have := Hnx.out; have := Hnw.out; simp at hn7; omega
        have Hn7 := Lib.hid hn7
        have Hrun := Lib.hid hrun
        clear h6 f6 L6 R6 rd6 hrun hrow7 htw7 hnw2 hn7 k5 HL5 HB5 HR5 HB6 Hwr Hdv
        go_upto_region 15 with (at_builtin; refine Lib.wpList_append_run _ rfl (.tmp 75) (.tmp 79) 22 22 rfl _ _ rfl rfl (.slice a7 n7 c7) W7 (Eq.trans ?_ Hrun.out) ?_; focus kernel_rfl)
        obtain ⟨gf, hgf⟩ : ∃ gf : Bool, gf = (flb && decide (f1 = 0)) := ⟨_, rfl⟩
        have Hgf := Lib.hid hgf
        clear hgf
        go_cut [94] from 81 to 93 (fun s wx => s = .bool gf ∧ wx = W7)
        case first =>
          by_cases hkf : (k : Int) < nf
          · have hfl := Hf.out
            obtain ⟨af', cf', hv, hf1, hf2, -, hf3⟩ := hfl
            cases hv
            obtain ⟨bf, of_, rfl, hbf, hfc⟩ := hf3 (fun e => by rw [e] at hkf; simp at hkf; omega)
            obtain ⟨y, hy⟩ : ∃ y, fl[k]? = some y := ⟨_, List.getElem?_eq_getElem (by omega)⟩
            have kf : W7.cell? ⟨bf, of_ + k, none⟩ = some (.bool y) := (HL7.out.be.cell (p := ⟨bf, of_ + k, none⟩) hbf).trans (hfc k y hy)
            have hfy : flb = y := by rw [Hflb.out, hy]; simp; omega
            have Hfy := Lib.hid hfy
            have hkf' : (k : Int) < (fl.length : Int) := hkf
            have hkn : k < fl.length := by omega
            clear hf1 hf2 hf3 hfc hy hfy hkf
            cases y
            · go_wp2_with fail
              go_meet
              exact ⟨by rw [Hgf.out, Hfy.out]; rfl, rfl⟩
            · by_cases hf0 : f1 = 0
              · have hf0' : (f1 == 0) = true := by simpa using hf0
                have Hf0 := Lib.hid hf0
                clear hf0
                go_wp2_with fail
                go_meet
                exact ⟨by rw [Hgf.out, Hfy.out, decide_eq_true Hf0.out]; rfl, rfl⟩
              · have hf0' : (f1 == 0) = false := by simpa using hf0
                have Hf0 := Lib.hid hf0
                clear hf0
                go_wp2_with fail
                go_meet
                exact ⟨by rw [Hgf.out, Hfy.out, decide_eq_false Hf0.out]; rfl, rfl⟩
          · have hkf' : decide (k < nf) = false := decide_eq_false (by omega)
            have hfy : flb = false := by rw [Hflb.out, show decide (k < nf) = false from decide_eq_false (by omega)]; rfl
            have Hfy := Lib.hid hfy
            clear hfy hkf
            go_wp2_with fail
            go_meet
            exact ⟨by rw [Hgf.out, Hfy.out]; rfl, rfl⟩
        case rest =>
          obtain ⟨rfl, rfl⟩ := hcut
          obtain ⟨W7, rfl⟩ : ∃ W7, W7 = wc := ⟨_, rfl⟩
          go_upto_if 94 with fail
          go_cut [17] (fun s wx => s = .int .i64 f ∧ ∃ own8 m8, Lw w wx #[.slice a n c, .int .i64 max, .slice a2 n2 c2] own8 bs U m8 ∧ Row 5 byteV wx (Betw (w.heap.size + 1) W7.heap.size own8) (.slice a7 n7 c7) (S.wait ++ x) ∧
            Row 5 byteV wx (Betw wr.heap.size W5.heap.size own8) (.slice a5 n5 c5) S.data ∧ W7.heap.size ≤ wx.heap.size)
          case first =>
            rcases Hfl.out with ⟨h1, h2, h3⟩ | ⟨h1, h2, h3⟩
            · have hfl2 := flush_calls ⟨m6, HL7.out.l⟩ Hu.out.1
              rw [h3] at hfl2
              have Hf2 := Lib.hid hfl2
              have hg : gf = true := by rw [Hgf.out, h1, h2]; rfl
              subst hg h1 h2
              clear h3 hfl2
              go_wp2_with fail
              refine Calls.mono Hf2.out ?_
              rintro e W8 ⟨rfl, own8, m8, h8, f8⟩
              have Hgo := Lib.hid (show ∃ own8 m8, Lw w W8 #[.slice a n c, .int .i64 max, .slice a2 n2 c2] own8 bs U m8 ∧ Row 5 byteV W8 (Betw (w.heap.size + 1) W7.heap.size own8) (.slice a7 n7 c7) (S.wait ++ x) ∧
                Row 5 byteV W8 (Betw wr.heap.size W5.heap.size own8) (.slice a5 n5 c5) S.data ∧ W7.heap.size ≤ W8.heap.size from ⟨own8, m8, HL7.out.step h8 f8, HR7.out.betw f8, HB7.out.betw f8, f8.size⟩)
              clear h8 f8
              go_wp2_with fail
              go_meet
              exact ⟨rfl, Hgo.out⟩
            · have hg : gf = false := by
                rw [Hgf.out]
                rcases h1 with h1 | h1
                · rw [h1]; rfl
                · rw [decide_eq_false h1, Bool.and_false]
              have Hgo := Lib.hid (show ∃ own8 m8, Lw w W7 #[.slice a n c, .int .i64 max, .slice a2 n2 c2] own8 bs U m8 ∧ Row 5 byteV W7 (Betw (w.heap.size + 1) W7.heap.size own8) (.slice a7 n7 c7) (S.wait ++ x) ∧
                Row 5 byteV W7 (Betw wr.heap.size W5.heap.size own8) (.slice a5 n5 c5) S.data ∧ W7.heap.size ≤ W7.heap.size from ⟨own6, m6, by rw [h3]; exact HL7.out, HR7.out, HB7.out, Nat.le_refl _⟩)
              subst hg h2
              clear h1 h3
              go_wp2_with fail
              go_meet
              exact ⟨rfl, Hgo.out⟩
          case rest =>
            obtain ⟨rfl, own8, m8, L8, R8, B8, hz8⟩ := hcut
            clear HL7 HR7 HB7 Hfl Hw1 HL Hrow Hgf
            have HL8 := Lib.hid L8
            have HR8 := Lib.hid R8
            have HB8 := Lib.hid B8
            obtain ⟨-, hinv, hout⟩ := Hu.out
            have hfd := field_data
            have Hdv8 := Lib.hid (device_calls L8.l hinv.ok (by have := hinv.pl; omega))
            obtain ⟨q, hq⟩ : ∃ q : Nat, U.pos + U.wait.length = q := ⟨(U.pos + U.wait.length).toNat, by have := hinv.ok.pos0; omega⟩
            have hfin := torn_fin Hin.out Hp.out hout hq
            rw [Hn7.out] at hfin
            have hex : ∃ j, j ≤ (S.wait ++ x).length ∧ putted S.data p ((S.wait ++ x).take j) = U.data := by
              rcases hfin with ⟨-, -, h, -⟩ | ⟨-, -, h, -⟩ | ⟨-, j, hj, -, h, -⟩
              · exact ⟨_, Nat.le_refl _, by rw [h, List.take_of_length_le (Nat.le_refl _)]⟩
              · exact ⟨0, Nat.zero_le _, by rw [h]; rfl⟩
              · exact ⟨j, by rw [Hn7.out]; exact hj, h.symm⟩
            have Hex := Lib.hid hex
            have Hfin := Lib.hid hfin
            have Hinv := Lib.hid hinv
            have Hq := Lib.hid hq
            have hqb : (q : Int) ≤ 2000000 := by
              have h1 := hinv.ok.pos1
              have h2 := hinv.ok.max1
              have h3 := hinv.ok.wlen
              have h4 := hinv.ok.size2
              omega
            clear L8 R8 B8 hinv hout hfin hex hq Hu
            go_wp2_with fail
            refine Calls.mono Hdv8.out ?_
            rintro e W9 ⟨a9, n9, c9, a10, n10, c10, rfl, hD, -, hb9⟩
            have L9 := HL8.out.below hb9
            have HL9 := Lib.hid L9
            have HR9 := Lib.hid (HR8.out.below hb9)
            have HB9 := Lib.hid (HB8.out.below hb9)
            have HD9 := Lib.hid (show Row 5 byteV W9 (Betw wc.heap.size W9.heap.size own8) (.slice a9 n9 c9) U.data from hD.keep (fun _ _ _ => rfl) (fun b hb _ => ⟨hb.1, hb.2, fun e => by have := HL8.out.l.lt b e; have := hb.1; omega⟩))
            have Ht9 := tell_calls ⟨m8, L9.l⟩ Hinv.out.ok
            rw [torn_tell Hinv.out, Hq.out] at Ht9
            have Ht9 := Lib.hid Ht9
            clear hD hb9 L9
            go_wp2_with fail
            refine Calls.mono Ht9.out ?_
            rintro e W10 ⟨rfl, own10, m10, h10, f10⟩
            have HL10 := Lib.hid (HL9.out.step h10 f10)
            have R10 := HR9.out.betw f10
            have B10 := HB9.out.betw f10
            have D10 := HD9.out.betw f10
            have Htn := Lib.hid (torn_calls W10 _ _ _ a5 a7 a9 n5 c5 n7 c7 n9 c9 p S.data (S.wait ++ x) U.data B10.rd R10.rd D10.rd (by have := Hin.out.ok.dlen; have := Hin.out.ok.max1; omega) (by rw [Hn7.out]; omega) Hex.out)
            have HR10 := Lib.hid R10
            have HB10 := Lib.hid B10
            have HD10 := Lib.hid D10
            clear h10 f10 R10 B10 D10 HL8 HR8 HB8 HL9 HR9 HB9 HD9 Hdv8 Ht9
            go_wp2_with fail
            refine Calls.mono Htn.out ?_
            rintro e W11 ⟨r, rfl, hr0, hb11⟩
            have HL11 := Lib.hid (HL10.out.below hb11)
            have HR11 := Lib.hid (HR10.out.below hb11)
            have HB11 := Lib.hid (HB10.out.below hb11)
            have HD11 := Lib.hid (HD10.out.below hb11)
            have hr0' : decide (r < 0) = false := decide_eq_false (by omega)
            clear hb11 HL10 HR10 HB10 HD10 Htn
            obtain ⟨tot, htot⟩ : ∃ tot : Int, (p : Int) + n7 = tot := ⟨_, rfl⟩
            have htb1 : 0 ≤ tot := by omega
            have htb2 : tot ≤ 2000000 := by omega
            have hsz1 := Hinv.out.ok.size1
            have hL11d : Lw w W11.drew #[.slice a n c, .int .i64 max, .slice a2 n2 c2] own10 bs U m10 := HL11.out.drewN 1
            have HL11d := Lib.hid hL11d
            have HR11d := Lib.hid (show Row 5 byteV W11.drew (Betw (w.heap.size + 1) W7.heap.size own10) (.slice a7 n7 c7) (S.wait ++ x) from HR11.out.keep (fun _ _ _ => rfl) (fun _ h _ => h))
            have HB11d := Lib.hid (show Row 5 byteV W11.drew (Betw wr.heap.size W5.heap.size own10) (.slice a5 n5 c5) S.data from HB11.out.keep (fun _ _ _ => rfl) (fun _ h _ => h))
            have HD11d := Lib.hid (show Row 5 byteV W11.drew (Betw wc.heap.size W9.heap.size own10) (.slice a9 n9 c9) U.data from HD11.out.keep (fun _ _ _ => rfl) (fun _ h _ => h))
            have kA : (convert 22 9 (.slice a9 n9 c9)).run Try.prog W11.drew = .ok (.string ⟨U.data.toArray⟩) W11.drew := conv_str HD11d.out.rd
            have hdl : S.data.length ≤ 2000000 := by have := Hin.out.ok.dlen; have := Hin.out.ok.max1; omega
            have Hdl := Lib.hid hdl
            have Htot := Lib.hid htot
            clear hdl htot hL11d
            rcases Hfin.out with ⟨rfl, hq, hdat, hw, hpos, hor⟩ | ⟨rfl, hq, hdat, hw, hpos, hlt7, hfb⟩ | ⟨rfl, j, hj, hq, hdat, hw, hpos, hbad⟩
            · have Hpl := placed_calls W11.drew _ _ a5 a7 n5 c5 n7 c7 p S.data (S.wait ++ x) HB11d.out.rd HR11d.out.rd Hdl.out (by rw [Hn7.out]; omega)
              rw [← hdat] at Hpl
              have Hpl := Lib.hid Hpl
              have Hnext := Lib.hid (And.intro hpos hw)
              have htot := Htot.out
              have hqt : ((q : Int) != tot) = false := by rw [← htot]; simp; omega
              have hwt : IntKind.i64.wrap tot = tot := IntWalk.i64_in _ (by omega)
              clear hdat hw hpos hq
              by_cases hge : size ≤ (n7 : Int)
              · have hge' : decide (size ≤ (n7 : Int)) = true := decide_eq_true hge
                clear hor
                go_wp2_with fail
                refine wp_region_held_drew (S := fun w' => (convert 22 9 (.slice a9 n9 c9)).run Try.prog w' = .ok (.string ⟨U.data.toArray⟩) w') (by kernel_rfl) kA (fun hHeld => ?_)
                refine wpAnyH_take (i := 0) (v := .slice a9 n9 c9) (List.getElem?_toArray.trans rfl) (by kernel_rfl) (by kernel_rfl) (by kernel_rfl) (fun _ _ _ h => h) (Or.inl ⟨by rfl, fun _ hSw => ?hy⟩) (by assumption) ?rest
                case hy => ((try dsimp only at hSw); go_simp)
                case rest =>
                  try simp only [Act.put, List.setIfInBounds_toArray, List.set_cons_zero, List.set_cons_succ]
                  refine wpAnyH_take (i := 1) (v := .string ⟨U.data.toArray⟩) (List.getElem?_toArray.trans rfl) (by kernel_rfl) (by kernel_rfl) (by kernel_rfl) (fun _ _ _ h => h) (Or.inl ⟨by rfl, fun _ hSw => ?hy⟩) (by assumption) ?rest
                  case hy => ((try dsimp only at hSw); go_simp)
                  case rest =>
                    try simp only [Act.put, List.setIfInBounds_toArray, List.set_cons_zero, List.set_cons_succ]
                    refine wpAnyH_take (i := 2) (v := .slice a5 n5 c5) (List.getElem?_toArray.trans rfl) (by kernel_rfl) (by kernel_rfl) (by kernel_rfl) (fun _ _ _ h => h) (Or.inl ⟨by rfl, fun _ hSw => ?hy⟩) (by assumption) ?rest
                    case hy => ((try dsimp only at hSw); go_simp)
                    case rest =>
                      try simp only [Act.put, List.setIfInBounds_toArray, List.set_cons_zero, List.set_cons_succ]
                      refine wpAnyH_take (i := 3) (v := .int .i64 (p : Int)) (List.getElem?_toArray.trans rfl) (by kernel_rfl) (by kernel_rfl) (by kernel_rfl) (fun _ _ _ h => h) (Or.inl ⟨by rfl, fun _ hSw => ?hy⟩) (by assumption) ?rest
                      case hy => ((try dsimp only at hSw); go_simp)
                      case rest =>
                        try simp only [Act.put, List.setIfInBounds_toArray, List.set_cons_zero, List.set_cons_succ]
                        refine wpAnyH_take (i := 4) (v := .slice a7 n7 c7) (List.getElem?_toArray.trans rfl) (by kernel_rfl) (by kernel_rfl) (by kernel_rfl) (fun _ _ _ h => h) (Or.inl ⟨by rfl, fun _ hSw => ?hy⟩) (by assumption) ?rest
                        case hy => ((try dsimp only at hSw); go_simp)
                        case rest =>
                          try simp only [Act.put, List.setIfInBounds_toArray, List.set_cons_zero, List.set_cons_succ]
                          refine wpAnyH_ready (rs := [5]) (by kernel_rfl) (by simp) (AllReadyH.cons (List.getElem?_toArray.trans rfl) (fun K hK => ?step) AllReadyH.nil)
                          case step =>
                            go_simp
                            refine Calls.mono Hpl.out ?_
                            rintro e W12 ⟨a13, n13, c13, rfl, hD12, hb12⟩
                            have kD : (convert 22 9 (.slice a13 n13 c13)).run Try.prog W12 = .ok (.string ⟨U.data.toArray⟩) W12 := conv_str hD12.rd
                            have kA2 : (convert 22 9 (.slice a9 n9 c9)).run Try.prog W12 = .ok (.string ⟨U.data.toArray⟩) W12 := conv_str (HD11d.out.below hb12).rd
                            have HL12 := Lib.hid (HL11d.out.below hb12)
                            have HR12 := Lib.hid (HR11d.out.below hb12)
                            have HB12 := Lib.hid (HB11d.out.below hb12)
                            have HD12 := Lib.hid (HD11d.out.below hb12)
                            clear hD12 hb12
                            dsimp only
                            refine hK.out _ _ (by first | exact kA | exact kA2) (fun hHeld => ?_)
                            clear hK K
                            try simp only [Act.put, List.setIfInBounds_toArray, List.set_cons_zero, List.set_cons_succ]
                            refine wpAnyH_ready (rs := [6]) (by kernel_rfl) (by simp) (AllReadyH.cons (List.getElem?_toArray.trans rfl) (fun K hK => ?step) AllReadyH.nil)
                            case step =>
                              go_simp
                              refine hK.out _ _ (by first | exact kA | exact kA2) (fun hHeld => ?_)
                              clear hK K
                              try simp only [Act.put, List.setIfInBounds_toArray, List.set_cons_zero, List.set_cons_succ]
                              refine wpAnyH_take (i := 7) (v := .bool true) (List.getElem?_toArray.trans rfl) (by kernel_rfl) (by kernel_rfl) (by kernel_rfl) (fun _ _ _ h => h) (Or.inl ⟨by rfl, fun _ hSw => ?hy⟩) (by assumption) ?rest
                              case hy => ((try dsimp only at hSw); go_simp)
                              case rest =>
                                try simp only [Act.put, List.setIfInBounds_toArray, List.set_cons_zero, List.set_cons_succ]
                                refine wpAnyH_take (i := 8) (v := .bool true) (List.getElem?_toArray.trans rfl) (by kernel_rfl) (by kernel_rfl) (by kernel_rfl) (fun _ _ _ h => h) (Or.inl ⟨by rfl, fun _ hSw => ?hy⟩) (by assumption) ?rest
                                case hy => ((try dsimp only at hSw); go_simp)
                                case rest =>
                                  try simp only [Act.put, List.setIfInBounds_toArray, List.set_cons_zero, List.set_cons_succ]
                                  refine wpAnyH_take (i := 9) (v := .slice a7 n7 c7) (List.getElem?_toArray.trans rfl) (by kernel_rfl) (by kernel_rfl) (by kernel_rfl) (fun _ _ _ h => h) (Or.inl ⟨by rfl, fun _ hSw => ?hy⟩) (by assumption) ?rest
                                  case hy => ((try dsimp only at hSw); go_simp)
                                  case rest =>
                                    try simp only [Act.put, List.setIfInBounds_toArray, List.set_cons_zero, List.set_cons_succ]
                                    refine wpAnyH_take (i := 10) (v := .int .i64 (n7 : Int)) (List.getElem?_toArray.trans rfl) (by kernel_rfl) (by kernel_rfl) (by kernel_rfl) (fun _ _ _ h => h) (Or.inl ⟨by rfl, fun _ hSw => ?hy⟩) (by assumption) ?rest
                                    case hy => ((try dsimp only at hSw); go_simp)
                                    case rest =>
                                      try simp only [Act.put, List.setIfInBounds_toArray, List.set_cons_zero, List.set_cons_succ]
                                      refine wpAnyH_take (i := 11) (v := .int .i64 size) (List.getElem?_toArray.trans rfl) (by kernel_rfl) (by kernel_rfl) (by kernel_rfl) (fun _ _ _ h => h) (Or.inl ⟨by rfl, fun _ hSw => ?hy⟩) (by assumption) ?rest
                                      case hy => ((try dsimp only at hSw); go_simp)
                                      case rest =>
                                        try simp only [Act.put, List.setIfInBounds_toArray, List.set_cons_zero, List.set_cons_succ]
                                        refine wpAnyH_take (i := 12) (v := .bool true) (List.getElem?_toArray.trans rfl) (by kernel_rfl) (by kernel_rfl) (by kernel_rfl) (fun _ _ _ h => h) (Or.inl ⟨by rfl, fun _ hSw => ?hy⟩) (by assumption) ?rest
                                        case hy => ((try dsimp only at hSw); go_simp)
                                        case rest =>
                                          try simp only [Act.put, List.setIfInBounds_toArray, List.set_cons_zero, List.set_cons_succ]
                                          refine wpAnyH_take (i := 13) (v := .bool true) (List.getElem?_toArray.trans rfl) (by kernel_rfl) (by kernel_rfl) (by kernel_rfl) (fun _ _ _ h => h) (Or.inl ⟨by rfl, fun _ hSw => ?hy⟩) (by assumption) ?rest
                                          case hy => ((try dsimp only at hSw); go_simp)
                                          case rest =>
                                            try simp only [Act.put, List.setIfInBounds_toArray, List.set_cons_zero, List.set_cons_succ]
                                            refine wpAnyH_take (i := 14) (v := undef) (List.getElem?_toArray.trans rfl) (by kernel_rfl) (by kernel_rfl) (by kernel_rfl) (fun _ _ _ h => h) (Or.inr ⟨by rfl, rfl⟩) (by assumption) ?rest
                                            case rest =>
                                              try simp only [Act.put, List.setIfInBounds_toArray, List.set_cons_zero, List.set_cons_succ]
                                              refine wpAnyH_take (i := 15) (v := undef) (List.getElem?_toArray.trans rfl) (by kernel_rfl) (by kernel_rfl) (by kernel_rfl) (fun _ _ _ h => h) (Or.inr ⟨by rfl, rfl⟩) (by assumption) ?rest
                                              case rest =>
                                                try simp only [Act.put, List.setIfInBounds_toArray, List.set_cons_zero, List.set_cons_succ]
                                                refine wpAnyH_take (i := 16) (v := undef) (List.getElem?_toArray.trans rfl) (by kernel_rfl) (by kernel_rfl) (by kernel_rfl) (fun _ _ _ h => h) (Or.inr ⟨by rfl, rfl⟩) (by assumption) ?rest
                                                case rest =>
                                                  try simp only [Act.put, List.setIfInBounds_toArray, List.set_cons_zero, List.set_cons_succ]
                                                  refine wpAnyH_take (i := 17) (v := undef) (List.getElem?_toArray.trans rfl) (by kernel_rfl) (by kernel_rfl) (by kernel_rfl) (fun _ _ _ h => h) (Or.inr ⟨by rfl, rfl⟩) (by assumption) ?rest
                                                  case rest =>
                                                    try simp only [Act.put, List.setIfInBounds_toArray, List.set_cons_zero, List.set_cons_succ]
                                                    refine wpAnyH_take (i := 18) (v := undef) (List.getElem?_toArray.trans rfl) (by kernel_rfl) (by kernel_rfl) (by kernel_rfl) (fun _ _ _ h => h) (Or.inr ⟨by rfl, rfl⟩) (by assumption) ?rest
                                                    case rest =>
                                                      try simp only [Act.put, List.setIfInBounds_toArray, List.set_cons_zero, List.set_cons_succ]
                                                      refine wpAnyH_take (i := 19) (v := undef) (List.getElem?_toArray.trans rfl) (by kernel_rfl) (by kernel_rfl) (by kernel_rfl) (fun _ _ _ h => h) (Or.inr ⟨by rfl, rfl⟩) (by assumption) ?rest
                                                      case rest =>
                                                        try simp only [Act.put, List.setIfInBounds_toArray, List.set_cons_zero, List.set_cons_succ]
                                                        refine wpAnyH_take (i := 20) (v := undef) (List.getElem?_toArray.trans rfl) (by kernel_rfl) (by kernel_rfl) (by kernel_rfl) (fun _ _ _ h => h) (Or.inr ⟨by rfl, rfl⟩) (by assumption) ?rest
                                                        case rest =>
                                                          try simp only [Act.put, List.setIfInBounds_toArray, List.set_cons_zero, List.set_cons_succ]
                                                          refine wpAnyH_take (i := 21) (v := undef) (List.getElem?_toArray.trans rfl) (by kernel_rfl) (by kernel_rfl) (by kernel_rfl) (fun _ _ _ h => h) (Or.inr ⟨by rfl, rfl⟩) (by assumption) ?rest
                                                          case rest =>
                                                            try simp only [Act.put, List.setIfInBounds_toArray, List.set_cons_zero, List.set_cons_succ]
                                                            refine wpAnyH_take (i := 22) (v := undef) (List.getElem?_toArray.trans rfl) (by kernel_rfl) (by kernel_rfl) (by kernel_rfl) (fun _ _ _ h => h) (Or.inr ⟨by rfl, rfl⟩) (by assumption) ?rest
                                                            case rest =>
                                                              try simp only [Act.put, List.setIfInBounds_toArray, List.set_cons_zero, List.set_cons_succ]
                                                              refine wpAnyH_take (i := 23) (v := undef) (List.getElem?_toArray.trans rfl) (by kernel_rfl) (by kernel_rfl) (by kernel_rfl) (fun _ _ _ h => h) (Or.inr ⟨by rfl, rfl⟩) (by assumption) ?rest
                                                              case rest =>
                                                                try simp only [Act.put, List.setIfInBounds_toArray, List.set_cons_zero, List.set_cons_succ]
                                                                refine wpAnyH_take (i := 24) (v := .bool true) (List.getElem?_toArray.trans rfl) (by kernel_rfl) (by kernel_rfl) (by kernel_rfl) (fun _ _ _ h => h) (Or.inl ⟨by rfl, fun _ hSw => ?hy⟩) (by assumption) ?rest
                                                                case hy => ((try dsimp only at hSw); go_simp)
                                                                case rest =>
                                                                  try simp only [Act.put, List.setIfInBounds_toArray, List.set_cons_zero, List.set_cons_succ]
                                                                  refine wpAnyH_take (i := 25) (v := .bool true) (List.getElem?_toArray.trans rfl) (by kernel_rfl) (by kernel_rfl) (by kernel_rfl) (fun _ _ _ h => h) (Or.inl ⟨by rfl, fun _ hSw => ?hy⟩) (by assumption) ?rest
                                                                  case hy => ((try dsimp only at hSw); go_simp)
                                                                  case rest =>
                                                                    try simp only [Act.put, List.setIfInBounds_toArray, List.set_cons_zero, List.set_cons_succ]
                                                                    refine wpAnyH_done (by kernel_rfl) ?_ _
                                                                    go_wp2_with fail
                                                                    go_roundg (gk - 1)
                                                                    case measure => have := Hkg.out; omega
                                                                    case rel => exact ⟨k + 1, by have := Hkg.out; omega, own10, m10, U, by rw [show ((k : Int) + 1) = ((k + 1 : Nat) : Int) by omega], by rw [Hnext.out.1], HL12.out, Hinv.out, by rw [Hnext.out.2]; simp, .inl ⟨Hnext.out.2, none, rfl⟩⟩
              · have hge' : decide (size ≤ (n7 : Int)) = false := decide_eq_false hge
                have hfb : flb = true := hor.resolve_left hge
                have hkk : k < nf := by
                  have h := Hflb.out
                  rw [hfb] at h
                  by_cases e : k < nf
                  · exact e
                  · rw [decide_eq_false e] at h; cases h
                obtain ⟨bf, of_, y, hnf, hbf, hkn, hfc, hy⟩ : ∃ bf of_ y, af = some ⟨bf, of_, none⟩ ∧ bf < w.heap.size ∧ k < nf ∧ w.cell? ⟨bf, of_ + k, none⟩ = some (.bool y) ∧ y = flb := torn_flag Hf.out hkk Hflb.out
                subst hnf
                have Hy := Lib.hid hy
                have kf : W11.drew.cell? ⟨bf, of_ + k, none⟩ = some (.bool y) := (HL11d.out.be.cell (p := ⟨bf, of_ + k, none⟩) hbf).trans hfc
                have hyt : y = true := hy.trans hfb
                subst hyt
                have hkn2 : (k : Int) < (nf : Int) := by omega
                clear hor hfb hkk hy Hy
                go_wp2_with fail
                refine wp_region_held_drew (S := fun w' => (convert 22 9 (.slice a9 n9 c9)).run Try.prog w' = .ok (.string ⟨U.data.toArray⟩) w' ∧ w'.cell? ⟨bf, of_ + k, none⟩ = some (.bool true)) (by kernel_rfl) ⟨kA, kf⟩ (fun hHeld => ?_)
                refine wpAnyH_take (i := 0) (v := .slice a9 n9 c9) (List.getElem?_toArray.trans rfl) (by kernel_rfl) (by kernel_rfl) (by kernel_rfl) (fun _ _ _ h => h) (Or.inl ⟨by rfl, fun _ hSw => ?hy⟩) (by assumption) ?rest
                case hy => ((try dsimp only at hSw); obtain ⟨hS1, hS2⟩ := hSw; go_simp)
                case rest =>
                  try simp only [Act.put, List.setIfInBounds_toArray, List.set_cons_zero, List.set_cons_succ]
                  refine wpAnyH_take (i := 1) (v := .string ⟨U.data.toArray⟩) (List.getElem?_toArray.trans rfl) (by kernel_rfl) (by kernel_rfl) (by kernel_rfl) (fun _ _ _ h => h) (Or.inl ⟨by rfl, fun _ hSw => ?hy⟩) (by assumption) ?rest
                  case hy => ((try dsimp only at hSw); obtain ⟨hS1, hS2⟩ := hSw; go_simp)
                  case rest =>
                    try simp only [Act.put, List.setIfInBounds_toArray, List.set_cons_zero, List.set_cons_succ]
                    refine wpAnyH_take (i := 2) (v := .slice a5 n5 c5) (List.getElem?_toArray.trans rfl) (by kernel_rfl) (by kernel_rfl) (by kernel_rfl) (fun _ _ _ h => h) (Or.inl ⟨by rfl, fun _ hSw => ?hy⟩) (by assumption) ?rest
                    case hy => ((try dsimp only at hSw); obtain ⟨hS1, hS2⟩ := hSw; go_simp)
                    case rest =>
                      try simp only [Act.put, List.setIfInBounds_toArray, List.set_cons_zero, List.set_cons_succ]
                      refine wpAnyH_take (i := 3) (v := .int .i64 (p : Int)) (List.getElem?_toArray.trans rfl) (by kernel_rfl) (by kernel_rfl) (by kernel_rfl) (fun _ _ _ h => h) (Or.inl ⟨by rfl, fun _ hSw => ?hy⟩) (by assumption) ?rest
                      case hy => ((try dsimp only at hSw); obtain ⟨hS1, hS2⟩ := hSw; go_simp)
                      case rest =>
                        try simp only [Act.put, List.setIfInBounds_toArray, List.set_cons_zero, List.set_cons_succ]
                        refine wpAnyH_take (i := 4) (v := .slice a7 n7 c7) (List.getElem?_toArray.trans rfl) (by kernel_rfl) (by kernel_rfl) (by kernel_rfl) (fun _ _ _ h => h) (Or.inl ⟨by rfl, fun _ hSw => ?hy⟩) (by assumption) ?rest
                        case hy => ((try dsimp only at hSw); obtain ⟨hS1, hS2⟩ := hSw; go_simp)
                        case rest =>
                          try simp only [Act.put, List.setIfInBounds_toArray, List.set_cons_zero, List.set_cons_succ]
                          refine wpAnyH_ready (rs := [5]) (by kernel_rfl) (by simp) (AllReadyH.cons (List.getElem?_toArray.trans rfl) (fun K hK => ?step) AllReadyH.nil)
                          case step =>
                            go_simp
                            refine Calls.mono Hpl.out ?_
                            rintro e W12 ⟨a13, n13, c13, rfl, hD12, hb12⟩
                            have kD : (convert 22 9 (.slice a13 n13 c13)).run Try.prog W12 = .ok (.string ⟨U.data.toArray⟩) W12 := conv_str hD12.rd
                            have kA2 : (convert 22 9 (.slice a9 n9 c9)).run Try.prog W12 = .ok (.string ⟨U.data.toArray⟩) W12 := conv_str (HD11d.out.below hb12).rd
                            have HL12 := Lib.hid (HL11d.out.below hb12)
                            have HR12 := Lib.hid (HR11d.out.below hb12)
                            have HB12 := Lib.hid (HB11d.out.below hb12)
                            have HD12 := Lib.hid (HD11d.out.below hb12)
                            have kf2 : W12.cell? ⟨bf, of_ + k, none⟩ = some (.bool true) := (HL12.out.be.cell (p := ⟨bf, of_ + k, none⟩) hbf).trans hfc
                            clear hD12 hb12
                            dsimp only
                            refine hK.out _ _ (by first | exact ⟨kA, kf⟩ | exact ⟨kA2, kf2⟩) (fun hHeld => ?_)
                            clear hK K
                            try simp only [Act.put, List.setIfInBounds_toArray, List.set_cons_zero, List.set_cons_succ]
                            refine wpAnyH_ready (rs := [6]) (by kernel_rfl) (by simp) (AllReadyH.cons (List.getElem?_toArray.trans rfl) (fun K hK => ?step) AllReadyH.nil)
                            case step =>
                              go_simp
                              refine hK.out _ _ (by first | exact ⟨kA, kf⟩ | exact ⟨kA2, kf2⟩) (fun hHeld => ?_)
                              clear hK K
                              try simp only [Act.put, List.setIfInBounds_toArray, List.set_cons_zero, List.set_cons_succ]
                              refine wpAnyH_take (i := 7) (v := .bool true) (List.getElem?_toArray.trans rfl) (by kernel_rfl) (by kernel_rfl) (by kernel_rfl) (fun _ _ _ h => h) (Or.inl ⟨by rfl, fun _ hSw => ?hy⟩) (by assumption) ?rest
                              case hy => ((try dsimp only at hSw); obtain ⟨hS1, hS2⟩ := hSw; go_simp)
                              case rest =>
                                try simp only [Act.put, List.setIfInBounds_toArray, List.set_cons_zero, List.set_cons_succ]
                                refine wpAnyH_take (i := 8) (v := .bool true) (List.getElem?_toArray.trans rfl) (by kernel_rfl) (by kernel_rfl) (by kernel_rfl) (fun _ _ _ h => h) (Or.inl ⟨by rfl, fun _ hSw => ?hy⟩) (by assumption) ?rest
                                case hy => ((try dsimp only at hSw); obtain ⟨hS1, hS2⟩ := hSw; go_simp)
                                case rest =>
                                  try simp only [Act.put, List.setIfInBounds_toArray, List.set_cons_zero, List.set_cons_succ]
                                  refine wpAnyH_take (i := 9) (v := .slice a7 n7 c7) (List.getElem?_toArray.trans rfl) (by kernel_rfl) (by kernel_rfl) (by kernel_rfl) (fun _ _ _ h => h) (Or.inl ⟨by rfl, fun _ hSw => ?hy⟩) (by assumption) ?rest
                                  case hy => ((try dsimp only at hSw); obtain ⟨hS1, hS2⟩ := hSw; go_simp)
                                  case rest =>
                                    try simp only [Act.put, List.setIfInBounds_toArray, List.set_cons_zero, List.set_cons_succ]
                                    refine wpAnyH_take (i := 10) (v := .int .i64 (n7 : Int)) (List.getElem?_toArray.trans rfl) (by kernel_rfl) (by kernel_rfl) (by kernel_rfl) (fun _ _ _ h => h) (Or.inl ⟨by rfl, fun _ hSw => ?hy⟩) (by assumption) ?rest
                                    case hy => ((try dsimp only at hSw); obtain ⟨hS1, hS2⟩ := hSw; go_simp)
                                    case rest =>
                                      try simp only [Act.put, List.setIfInBounds_toArray, List.set_cons_zero, List.set_cons_succ]
                                      refine wpAnyH_take (i := 11) (v := .int .i64 size) (List.getElem?_toArray.trans rfl) (by kernel_rfl) (by kernel_rfl) (by kernel_rfl) (fun _ _ _ h => h) (Or.inl ⟨by rfl, fun _ hSw => ?hy⟩) (by assumption) ?rest
                                      case hy => ((try dsimp only at hSw); obtain ⟨hS1, hS2⟩ := hSw; go_simp)
                                      case rest =>
                                        try simp only [Act.put, List.setIfInBounds_toArray, List.set_cons_zero, List.set_cons_succ]
                                        refine wpAnyH_take (i := 12) (v := .bool false) (List.getElem?_toArray.trans rfl) (by kernel_rfl) (by kernel_rfl) (by kernel_rfl) (fun _ _ _ h => h) (Or.inl ⟨by rfl, fun _ hSw => ?hy⟩) (by assumption) ?rest
                                        case hy => ((try dsimp only at hSw); obtain ⟨hS1, hS2⟩ := hSw; go_simp)
                                        case rest =>
                                          try simp only [Act.put, List.setIfInBounds_toArray, List.set_cons_zero, List.set_cons_succ]
                                          refine wpAnyH_take (i := 13) (v := .bool false) (List.getElem?_toArray.trans rfl) (by kernel_rfl) (by kernel_rfl) (by kernel_rfl) (fun _ _ _ h => h) (Or.inl ⟨by rfl, fun _ hSw => ?hy⟩) (by assumption) ?rest
                                          case hy => ((try dsimp only at hSw); obtain ⟨hS1, hS2⟩ := hSw; go_simp)
                                          case rest =>
                                            try simp only [Act.put, List.setIfInBounds_toArray, List.set_cons_zero, List.set_cons_succ]
                                            refine wpAnyH_take (i := 14) (v := .int .i64 (k : Int)) (List.getElem?_toArray.trans rfl) (by kernel_rfl) (by kernel_rfl) (by kernel_rfl) (fun _ _ _ h => h) (Or.inl ⟨by rfl, fun _ hSw => ?hy⟩) (by assumption) ?rest
                                            case hy => ((try dsimp only at hSw); obtain ⟨hS1, hS2⟩ := hSw; go_simp)
                                            case rest =>
                                              try simp only [Act.put, List.setIfInBounds_toArray, List.set_cons_zero, List.set_cons_succ]
                                              refine wpAnyH_take (i := 15) (v := .slice (some ⟨bf, of_, none⟩) nf cf) (List.getElem?_toArray.trans rfl) (by kernel_rfl) (by kernel_rfl) (by kernel_rfl) (fun _ _ _ h => h) (Or.inl ⟨by rfl, fun _ hSw => ?hy⟩) (by assumption) ?rest
                                              case hy => ((try dsimp only at hSw); obtain ⟨hS1, hS2⟩ := hSw; go_simp)
                                              case rest =>
                                                try simp only [Act.put, List.setIfInBounds_toArray, List.set_cons_zero, List.set_cons_succ]
                                                refine wpAnyH_take (i := 16) (v := .int .i64 (nf : Int)) (List.getElem?_toArray.trans rfl) (by kernel_rfl) (by kernel_rfl) (by kernel_rfl) (fun _ _ _ h => h) (Or.inl ⟨by rfl, fun _ hSw => ?hy⟩) (by assumption) ?rest
                                                case hy => ((try dsimp only at hSw); obtain ⟨hS1, hS2⟩ := hSw; go_simp)
                                                case rest =>
                                                  try simp only [Act.put, List.setIfInBounds_toArray, List.set_cons_zero, List.set_cons_succ]
                                                  refine wpAnyH_take (i := 17) (v := .bool true) (List.getElem?_toArray.trans rfl) (by kernel_rfl) (by kernel_rfl) (by kernel_rfl) (fun _ _ _ h => h) (Or.inl ⟨by rfl, fun _ hSw => ?hy⟩) (by assumption) ?rest
                                                  case hy => ((try dsimp only at hSw); obtain ⟨hS1, hS2⟩ := hSw; go_simp)
                                                  case rest =>
                                                    try simp only [Act.put, List.setIfInBounds_toArray, List.set_cons_zero, List.set_cons_succ]
                                                    refine wpAnyH_take (i := 18) (v := .bool true) (List.getElem?_toArray.trans rfl) (by kernel_rfl) (by kernel_rfl) (by kernel_rfl) (fun _ _ _ h => h) (Or.inl ⟨by rfl, fun _ hSw => ?hy⟩) (by assumption) ?rest
                                                    case hy => ((try dsimp only at hSw); obtain ⟨hS1, hS2⟩ := hSw; go_simp)
                                                    case rest =>
                                                      try simp only [Act.put, List.setIfInBounds_toArray, List.set_cons_zero, List.set_cons_succ]
                                                      refine wpAnyH_take (i := 19) (v := .slice (some ⟨bf, of_, none⟩) nf cf) (List.getElem?_toArray.trans rfl) (by kernel_rfl) (by kernel_rfl) (by kernel_rfl) (fun _ _ _ h => h) (Or.inl ⟨by rfl, fun _ hSw => ?hy⟩) (by assumption) ?rest
                                                      case hy => ((try dsimp only at hSw); obtain ⟨hS1, hS2⟩ := hSw; go_simp)
                                                      case rest =>
                                                        try simp only [Act.put, List.setIfInBounds_toArray, List.set_cons_zero, List.set_cons_succ]
                                                        refine wpAnyH_take (i := 20) (v := .int .i64 (k : Int)) (List.getElem?_toArray.trans rfl) (by kernel_rfl) (by kernel_rfl) (by kernel_rfl) (fun _ _ _ h => h) (Or.inl ⟨by rfl, fun _ hSw => ?hy⟩) (by assumption) ?rest
                                                        case hy => ((try dsimp only at hSw); obtain ⟨hS1, hS2⟩ := hSw; go_simp)
                                                        case rest =>
                                                          try simp only [Act.put, List.setIfInBounds_toArray, List.set_cons_zero, List.set_cons_succ]
                                                          refine wpAnyH_take (i := 21) (v := .pointer (some ⟨bf, of_ + k, none⟩)) (List.getElem?_toArray.trans rfl) (by kernel_rfl) (by kernel_rfl) (by kernel_rfl) (fun _ _ _ h => h) (Or.inl ⟨by rfl, fun _ hSw => ?hy⟩) (by assumption) ?rest
                                                          case hy => ((try dsimp only at hSw); obtain ⟨hS1, hS2⟩ := hSw; go_simp)
                                                          case rest =>
                                                            try simp only [Act.put, List.setIfInBounds_toArray, List.set_cons_zero, List.set_cons_succ]
                                                            refine wpAnyH_take (i := 22) (v := .bool true) (List.getElem?_toArray.trans rfl) (by kernel_rfl) (by kernel_rfl) (by kernel_rfl) (fun _ _ _ h => h) (Or.inl ⟨by rfl, fun _ hSw => ?hy⟩) (by assumption) ?rest
                                                            case hy => ((try dsimp only at hSw); obtain ⟨hS1, hS2⟩ := hSw; go_simp)
                                                            case rest =>
                                                              try simp only [Act.put, List.setIfInBounds_toArray, List.set_cons_zero, List.set_cons_succ]
                                                              refine wpAnyH_take (i := 23) (v := .bool true) (List.getElem?_toArray.trans rfl) (by kernel_rfl) (by kernel_rfl) (by kernel_rfl) (fun _ _ _ h => h) (Or.inl ⟨by rfl, fun _ hSw => ?hy⟩) (by assumption) ?rest
                                                              case hy => ((try dsimp only at hSw); obtain ⟨hS1, hS2⟩ := hSw; go_simp)
                                                              case rest =>
                                                                try simp only [Act.put, List.setIfInBounds_toArray, List.set_cons_zero, List.set_cons_succ]
                                                                refine wpAnyH_take (i := 24) (v := .bool true) (List.getElem?_toArray.trans rfl) (by kernel_rfl) (by kernel_rfl) (by kernel_rfl) (fun _ _ _ h => h) (Or.inl ⟨by rfl, fun _ hSw => ?hy⟩) (by assumption) ?rest
                                                                case hy => ((try dsimp only at hSw); obtain ⟨hS1, hS2⟩ := hSw; go_simp)
                                                                case rest =>
                                                                  try simp only [Act.put, List.setIfInBounds_toArray, List.set_cons_zero, List.set_cons_succ]
                                                                  refine wpAnyH_take (i := 25) (v := .bool true) (List.getElem?_toArray.trans rfl) (by kernel_rfl) (by kernel_rfl) (by kernel_rfl) (fun _ _ _ h => h) (Or.inl ⟨by rfl, fun _ hSw => ?hy⟩) (by assumption) ?rest
                                                                  case hy => ((try dsimp only at hSw); obtain ⟨hS1, hS2⟩ := hSw; go_simp)
                                                                  case rest =>
                                                                    try simp only [Act.put, List.setIfInBounds_toArray, List.set_cons_zero, List.set_cons_succ]
                                                                    refine wpAnyH_done (by kernel_rfl) ?_ _
                                                                    go_wp2_with fail
                                                                    go_roundg (gk - 1)
                                                                    case measure => have := Hkg.out; omega
                                                                    case rel => exact ⟨k + 1, by have := Hkg.out; omega, own10, m10, U, by rw [show ((k : Int) + 1) = ((k + 1 : Nat) : Int) by omega], by rw [Hnext.out.1], HL12.out, Hinv.out, by rw [Hnext.out.2]; simp, .inl ⟨Hnext.out.2, none, rfl⟩⟩
            · have Hpl := placed_calls W11.drew _ _ a5 a7 n5 c5 n7 c7 p S.data (S.wait ++ x) HB11d.out.rd HR11d.out.rd Hdl.out (by rw [Hn7.out]; omega)
              have Hnext := Lib.hid (And.intro hpos hw)
              have hge' : decide (size ≤ (n7 : Int)) = false := decide_eq_false (by omega)
              have htot := Htot.out
              have hqt : ((q : Int) != tot) = false := by rw [← htot]; simp; omega
              have hwt : IntKind.i64.wrap tot = tot := IntWalk.i64_in _ (by omega)
              have Hdat := Lib.hid hdat
              have Hfb := Lib.hid hfb
              clear hdat hw hpos hq hlt7 hfb
              by_cases heq : putted S.data p (S.wait ++ x) = U.data
              · rw [heq] at Hpl
                have Hpl := Lib.hid Hpl
                clear heq
                by_cases hkk : k < nf
                · obtain ⟨bf, of_, y, hnf, hbf, hkn, hfc, hy⟩ : ∃ bf of_ y, af = some ⟨bf, of_, none⟩ ∧ bf < w.heap.size ∧ k < nf ∧ w.cell? ⟨bf, of_ + k, none⟩ = some (.bool y) ∧ y = flb := torn_flag Hf.out hkk Hflb.out
                  subst hnf
                  have Hy := Lib.hid hy
                  have kf : W11.drew.cell? ⟨bf, of_ + k, none⟩ = some (.bool y) := (HL11d.out.be.cell (p := ⟨bf, of_ + k, none⟩) hbf).trans hfc
                  have hyt : y = false := hy.trans Hfb.out
                  subst hyt
                  have hkn2 : (k : Int) < (nf : Int) := by omega
                  clear hkk hy Hy
                  go_wp2_with fail
                  refine wp_region_held_drew (S := fun w' => (convert 22 9 (.slice a9 n9 c9)).run Try.prog w' = .ok (.string ⟨U.data.toArray⟩) w' ∧ w'.cell? ⟨bf, of_ + k, none⟩ = some (.bool false)) (by kernel_rfl) ⟨kA, kf⟩ (fun hHeld => ?_)
                  refine wpAnyH_take (i := 0) (v := .slice a9 n9 c9) (List.getElem?_toArray.trans rfl) (by kernel_rfl) (by kernel_rfl) (by kernel_rfl) (fun _ _ _ h => h) (Or.inl ⟨by rfl, fun _ hSw => ?hy⟩) (by assumption) ?rest
                  case hy => ((try dsimp only at hSw); obtain ⟨hS1, hS2⟩ := hSw; go_simp)
                  case rest =>
                    try simp only [Act.put, List.setIfInBounds_toArray, List.set_cons_zero, List.set_cons_succ]
                    refine wpAnyH_take (i := 1) (v := .string ⟨U.data.toArray⟩) (List.getElem?_toArray.trans rfl) (by kernel_rfl) (by kernel_rfl) (by kernel_rfl) (fun _ _ _ h => h) (Or.inl ⟨by rfl, fun _ hSw => ?hy⟩) (by assumption) ?rest
                    case hy => ((try dsimp only at hSw); obtain ⟨hS1, hS2⟩ := hSw; go_simp)
                    case rest =>
                      try simp only [Act.put, List.setIfInBounds_toArray, List.set_cons_zero, List.set_cons_succ]
                      refine wpAnyH_take (i := 2) (v := .slice a5 n5 c5) (List.getElem?_toArray.trans rfl) (by kernel_rfl) (by kernel_rfl) (by kernel_rfl) (fun _ _ _ h => h) (Or.inl ⟨by rfl, fun _ hSw => ?hy⟩) (by assumption) ?rest
                      case hy => ((try dsimp only at hSw); obtain ⟨hS1, hS2⟩ := hSw; go_simp)
                      case rest =>
                        try simp only [Act.put, List.setIfInBounds_toArray, List.set_cons_zero, List.set_cons_succ]
                        refine wpAnyH_take (i := 3) (v := .int .i64 (p : Int)) (List.getElem?_toArray.trans rfl) (by kernel_rfl) (by kernel_rfl) (by kernel_rfl) (fun _ _ _ h => h) (Or.inl ⟨by rfl, fun _ hSw => ?hy⟩) (by assumption) ?rest
                        case hy => ((try dsimp only at hSw); obtain ⟨hS1, hS2⟩ := hSw; go_simp)
                        case rest =>
                          try simp only [Act.put, List.setIfInBounds_toArray, List.set_cons_zero, List.set_cons_succ]
                          refine wpAnyH_take (i := 4) (v := .slice a7 n7 c7) (List.getElem?_toArray.trans rfl) (by kernel_rfl) (by kernel_rfl) (by kernel_rfl) (fun _ _ _ h => h) (Or.inl ⟨by rfl, fun _ hSw => ?hy⟩) (by assumption) ?rest
                          case hy => ((try dsimp only at hSw); obtain ⟨hS1, hS2⟩ := hSw; go_simp)
                          case rest =>
                            try simp only [Act.put, List.setIfInBounds_toArray, List.set_cons_zero, List.set_cons_succ]
                            refine wpAnyH_ready (rs := [5]) (by kernel_rfl) (by simp) (AllReadyH.cons (List.getElem?_toArray.trans rfl) (fun K hK => ?step) AllReadyH.nil)
                            case step =>
                              go_simp
                              refine Calls.mono Hpl.out ?_
                              rintro e W12 ⟨a13, n13, c13, rfl, hD12, hb12⟩
                              have kD : (convert 22 9 (.slice a13 n13 c13)).run Try.prog W12 = .ok (.string ⟨U.data.toArray⟩) W12 := conv_str hD12.rd
                              have kA2 : (convert 22 9 (.slice a9 n9 c9)).run Try.prog W12 = .ok (.string ⟨U.data.toArray⟩) W12 := conv_str (HD11d.out.below hb12).rd
                              have HL12 := Lib.hid (HL11d.out.below hb12)
                              have HR12 := Lib.hid (HR11d.out.below hb12)
                              have HB12 := Lib.hid (HB11d.out.below hb12)
                              have HD12 := Lib.hid (HD11d.out.below hb12)
                              have kf2 : W12.cell? ⟨bf, of_ + k, none⟩ = some (.bool false) := (HL12.out.be.cell (p := ⟨bf, of_ + k, none⟩) hbf).trans hfc
                              clear hD12 hb12
                              dsimp only
                              refine hK.out _ _ (by first | exact ⟨kA, kf⟩ | exact ⟨kA2, kf2⟩) (fun hHeld => ?_)
                              clear hK K
                              try simp only [Act.put, List.setIfInBounds_toArray, List.set_cons_zero, List.set_cons_succ]
                              refine wpAnyH_ready (rs := [6]) (by kernel_rfl) (by simp) (AllReadyH.cons (List.getElem?_toArray.trans rfl) (fun K hK => ?step) AllReadyH.nil)
                              case step =>
                                go_simp
                                refine hK.out _ _ (by first | exact ⟨kA, kf⟩ | exact ⟨kA2, kf2⟩) (fun hHeld => ?_)
                                clear hK K
                                try simp only [Act.put, List.setIfInBounds_toArray, List.set_cons_zero, List.set_cons_succ]
                                refine wpAnyH_take (i := 7) (v := .bool true) (List.getElem?_toArray.trans rfl) (by kernel_rfl) (by kernel_rfl) (by kernel_rfl) (fun _ _ _ h => h) (Or.inl ⟨by rfl, fun _ hSw => ?hy⟩) (by assumption) ?rest
                                case hy => ((try dsimp only at hSw); obtain ⟨hS1, hS2⟩ := hSw; go_simp)
                                case rest =>
                                  try simp only [Act.put, List.setIfInBounds_toArray, List.set_cons_zero, List.set_cons_succ]
                                  refine wpAnyH_take (i := 8) (v := .bool true) (List.getElem?_toArray.trans rfl) (by kernel_rfl) (by kernel_rfl) (by kernel_rfl) (fun _ _ _ h => h) (Or.inl ⟨by rfl, fun _ hSw => ?hy⟩) (by assumption) ?rest
                                  case hy => ((try dsimp only at hSw); obtain ⟨hS1, hS2⟩ := hSw; go_simp)
                                  case rest =>
                                    try simp only [Act.put, List.setIfInBounds_toArray, List.set_cons_zero, List.set_cons_succ]
                                    refine wpAnyH_take (i := 9) (v := .slice a7 n7 c7) (List.getElem?_toArray.trans rfl) (by kernel_rfl) (by kernel_rfl) (by kernel_rfl) (fun _ _ _ h => h) (Or.inl ⟨by rfl, fun _ hSw => ?hy⟩) (by assumption) ?rest
                                    case hy => ((try dsimp only at hSw); obtain ⟨hS1, hS2⟩ := hSw; go_simp)
                                    case rest =>
                                      try simp only [Act.put, List.setIfInBounds_toArray, List.set_cons_zero, List.set_cons_succ]
                                      refine wpAnyH_take (i := 10) (v := .int .i64 (n7 : Int)) (List.getElem?_toArray.trans rfl) (by kernel_rfl) (by kernel_rfl) (by kernel_rfl) (fun _ _ _ h => h) (Or.inl ⟨by rfl, fun _ hSw => ?hy⟩) (by assumption) ?rest
                                      case hy => ((try dsimp only at hSw); obtain ⟨hS1, hS2⟩ := hSw; go_simp)
                                      case rest =>
                                        try simp only [Act.put, List.setIfInBounds_toArray, List.set_cons_zero, List.set_cons_succ]
                                        refine wpAnyH_take (i := 11) (v := .int .i64 size) (List.getElem?_toArray.trans rfl) (by kernel_rfl) (by kernel_rfl) (by kernel_rfl) (fun _ _ _ h => h) (Or.inl ⟨by rfl, fun _ hSw => ?hy⟩) (by assumption) ?rest
                                        case hy => ((try dsimp only at hSw); obtain ⟨hS1, hS2⟩ := hSw; go_simp)
                                        case rest =>
                                          try simp only [Act.put, List.setIfInBounds_toArray, List.set_cons_zero, List.set_cons_succ]
                                          refine wpAnyH_take (i := 12) (v := .bool false) (List.getElem?_toArray.trans rfl) (by kernel_rfl) (by kernel_rfl) (by kernel_rfl) (fun _ _ _ h => h) (Or.inl ⟨by rfl, fun _ hSw => ?hy⟩) (by assumption) ?rest
                                          case hy => ((try dsimp only at hSw); obtain ⟨hS1, hS2⟩ := hSw; go_simp)
                                          case rest =>
                                            try simp only [Act.put, List.setIfInBounds_toArray, List.set_cons_zero, List.set_cons_succ]
                                            refine wpAnyH_take (i := 13) (v := .bool false) (List.getElem?_toArray.trans rfl) (by kernel_rfl) (by kernel_rfl) (by kernel_rfl) (fun _ _ _ h => h) (Or.inl ⟨by rfl, fun _ hSw => ?hy⟩) (by assumption) ?rest
                                            case hy => ((try dsimp only at hSw); obtain ⟨hS1, hS2⟩ := hSw; go_simp)
                                            case rest =>
                                              try simp only [Act.put, List.setIfInBounds_toArray, List.set_cons_zero, List.set_cons_succ]
                                              refine wpAnyH_take (i := 14) (v := .int .i64 (k : Int)) (List.getElem?_toArray.trans rfl) (by kernel_rfl) (by kernel_rfl) (by kernel_rfl) (fun _ _ _ h => h) (Or.inl ⟨by rfl, fun _ hSw => ?hy⟩) (by assumption) ?rest
                                              case hy => ((try dsimp only at hSw); obtain ⟨hS1, hS2⟩ := hSw; go_simp)
                                              case rest =>
                                                try simp only [Act.put, List.setIfInBounds_toArray, List.set_cons_zero, List.set_cons_succ]
                                                refine wpAnyH_take (i := 15) (v := .slice (some ⟨bf, of_, none⟩) nf cf) (List.getElem?_toArray.trans rfl) (by kernel_rfl) (by kernel_rfl) (by kernel_rfl) (fun _ _ _ h => h) (Or.inl ⟨by rfl, fun _ hSw => ?hy⟩) (by assumption) ?rest
                                                case hy => ((try dsimp only at hSw); obtain ⟨hS1, hS2⟩ := hSw; go_simp)
                                                case rest =>
                                                  try simp only [Act.put, List.setIfInBounds_toArray, List.set_cons_zero, List.set_cons_succ]
                                                  refine wpAnyH_take (i := 16) (v := .int .i64 (nf : Int)) (List.getElem?_toArray.trans rfl) (by kernel_rfl) (by kernel_rfl) (by kernel_rfl) (fun _ _ _ h => h) (Or.inl ⟨by rfl, fun _ hSw => ?hy⟩) (by assumption) ?rest
                                                  case hy => ((try dsimp only at hSw); obtain ⟨hS1, hS2⟩ := hSw; go_simp)
                                                  case rest =>
                                                    try simp only [Act.put, List.setIfInBounds_toArray, List.set_cons_zero, List.set_cons_succ]
                                                    refine wpAnyH_take (i := 17) (v := .bool true) (List.getElem?_toArray.trans rfl) (by kernel_rfl) (by kernel_rfl) (by kernel_rfl) (fun _ _ _ h => h) (Or.inl ⟨by rfl, fun _ hSw => ?hy⟩) (by assumption) ?rest
                                                    case hy => ((try dsimp only at hSw); obtain ⟨hS1, hS2⟩ := hSw; go_simp)
                                                    case rest =>
                                                      try simp only [Act.put, List.setIfInBounds_toArray, List.set_cons_zero, List.set_cons_succ]
                                                      refine wpAnyH_take (i := 18) (v := .bool true) (List.getElem?_toArray.trans rfl) (by kernel_rfl) (by kernel_rfl) (by kernel_rfl) (fun _ _ _ h => h) (Or.inl ⟨by rfl, fun _ hSw => ?hy⟩) (by assumption) ?rest
                                                      case hy => ((try dsimp only at hSw); obtain ⟨hS1, hS2⟩ := hSw; go_simp)
                                                      case rest =>
                                                        try simp only [Act.put, List.setIfInBounds_toArray, List.set_cons_zero, List.set_cons_succ]
                                                        refine wpAnyH_take (i := 19) (v := .slice (some ⟨bf, of_, none⟩) nf cf) (List.getElem?_toArray.trans rfl) (by kernel_rfl) (by kernel_rfl) (by kernel_rfl) (fun _ _ _ h => h) (Or.inl ⟨by rfl, fun _ hSw => ?hy⟩) (by assumption) ?rest
                                                        case hy => ((try dsimp only at hSw); obtain ⟨hS1, hS2⟩ := hSw; go_simp)
                                                        case rest =>
                                                          try simp only [Act.put, List.setIfInBounds_toArray, List.set_cons_zero, List.set_cons_succ]
                                                          refine wpAnyH_take (i := 20) (v := .int .i64 (k : Int)) (List.getElem?_toArray.trans rfl) (by kernel_rfl) (by kernel_rfl) (by kernel_rfl) (fun _ _ _ h => h) (Or.inl ⟨by rfl, fun _ hSw => ?hy⟩) (by assumption) ?rest
                                                          case hy => ((try dsimp only at hSw); obtain ⟨hS1, hS2⟩ := hSw; go_simp)
                                                          case rest =>
                                                            try simp only [Act.put, List.setIfInBounds_toArray, List.set_cons_zero, List.set_cons_succ]
                                                            refine wpAnyH_take (i := 21) (v := .pointer (some ⟨bf, of_ + k, none⟩)) (List.getElem?_toArray.trans rfl) (by kernel_rfl) (by kernel_rfl) (by kernel_rfl) (fun _ _ _ h => h) (Or.inl ⟨by rfl, fun _ hSw => ?hy⟩) (by assumption) ?rest
                                                            case hy => ((try dsimp only at hSw); obtain ⟨hS1, hS2⟩ := hSw; go_simp)
                                                            case rest =>
                                                              try simp only [Act.put, List.setIfInBounds_toArray, List.set_cons_zero, List.set_cons_succ]
                                                              refine wpAnyH_take (i := 22) (v := .bool false) (List.getElem?_toArray.trans rfl) (by kernel_rfl) (by kernel_rfl) (by kernel_rfl) (fun _ _ _ h => h) (Or.inl ⟨by rfl, fun _ hSw => ?hy⟩) (by assumption) ?rest
                                                              case hy => ((try dsimp only at hSw); obtain ⟨hS1, hS2⟩ := hSw; go_simp)
                                                              case rest =>
                                                                try simp only [Act.put, List.setIfInBounds_toArray, List.set_cons_zero, List.set_cons_succ]
                                                                refine wpAnyH_take (i := 23) (v := .bool false) (List.getElem?_toArray.trans rfl) (by kernel_rfl) (by kernel_rfl) (by kernel_rfl) (fun _ _ _ h => h) (Or.inl ⟨by rfl, fun _ hSw => ?hy⟩) (by assumption) ?rest
                                                                case hy => ((try dsimp only at hSw); obtain ⟨hS1, hS2⟩ := hSw; go_simp)
                                                                case rest =>
                                                                  try simp only [Act.put, List.setIfInBounds_toArray, List.set_cons_zero, List.set_cons_succ]
                                                                  refine wpAnyH_take (i := 24) (v := .bool false) (List.getElem?_toArray.trans rfl) (by kernel_rfl) (by kernel_rfl) (by kernel_rfl) (fun _ _ _ h => h) (Or.inl ⟨by rfl, fun _ hSw => ?hy⟩) (by assumption) ?rest
                                                                  case hy => ((try dsimp only at hSw); obtain ⟨hS1, hS2⟩ := hSw; go_simp)
                                                                  case rest =>
                                                                    try simp only [Act.put, List.setIfInBounds_toArray, List.set_cons_zero, List.set_cons_succ]
                                                                    refine wpAnyH_take (i := 25) (v := .bool false) (List.getElem?_toArray.trans rfl) (by kernel_rfl) (by kernel_rfl) (by kernel_rfl) (fun _ _ _ h => h) (Or.inl ⟨by rfl, fun _ hSw => ?hy⟩) (by assumption) ?rest
                                                                    case hy => ((try dsimp only at hSw); obtain ⟨hS1, hS2⟩ := hSw; go_simp)
                                                                    case rest =>
                                                                      try simp only [Act.put, List.setIfInBounds_toArray, List.set_cons_zero, List.set_cons_succ]
                                                                      refine wpAnyH_done (by kernel_rfl) ?_ _
                                                                      have kB2 : (convert 22 9 (.slice a5 n5 c5)).run Try.prog W12 = .ok (.string ⟨U.data.toArray⟩) W12 := by rw [Hdat.out]; exact conv_str HB12.out.rd
                                                                      go_wp2_with fail
                                                                      go_roundg (gk - 1)
                                                                      case measure => have := Hkg.out; omega
                                                                      case rel => exact ⟨k + 1, by have := Hkg.out; omega, own10, m10, U, by rw [show ((k : Int) + 1) = ((k + 1 : Nat) : Int) by omega], by rw [Hnext.out.1], HL12.out, Hinv.out, by rw [Hnext.out.2, Hn7.out]; have := Hn7.out; have := Hnw.out; have := Hnx.out; simp at *; omega, by rw [Hnext.out.2]; exact HR12.out.keep (fun _ _ _ => rfl) (fun b hb hk => ⟨hb.1, hk, hb.2.2⟩)⟩
                · have hkf2 : decide (k < nf) = false := decide_eq_false hkk
                  clear hkk
                  go_wp2_with fail
                  refine wp_region_held_drew (S := fun w' => (convert 22 9 (.slice a9 n9 c9)).run Try.prog w' = .ok (.string ⟨U.data.toArray⟩) w') (by kernel_rfl) kA (fun hHeld => ?_)
                  refine wpAnyH_take (i := 0) (v := .slice a9 n9 c9) (List.getElem?_toArray.trans rfl) (by kernel_rfl) (by kernel_rfl) (by kernel_rfl) (fun _ _ _ h => h) (Or.inl ⟨by rfl, fun _ hSw => ?hy⟩) (by assumption) ?rest
                  case hy => ((try dsimp only at hSw); go_simp)
                  case rest =>
                    try simp only [Act.put, List.setIfInBounds_toArray, List.set_cons_zero, List.set_cons_succ]
                    refine wpAnyH_take (i := 1) (v := .string ⟨U.data.toArray⟩) (List.getElem?_toArray.trans rfl) (by kernel_rfl) (by kernel_rfl) (by kernel_rfl) (fun _ _ _ h => h) (Or.inl ⟨by rfl, fun _ hSw => ?hy⟩) (by assumption) ?rest
                    case hy => ((try dsimp only at hSw); go_simp)
                    case rest =>
                      try simp only [Act.put, List.setIfInBounds_toArray, List.set_cons_zero, List.set_cons_succ]
                      refine wpAnyH_take (i := 2) (v := .slice a5 n5 c5) (List.getElem?_toArray.trans rfl) (by kernel_rfl) (by kernel_rfl) (by kernel_rfl) (fun _ _ _ h => h) (Or.inl ⟨by rfl, fun _ hSw => ?hy⟩) (by assumption) ?rest
                      case hy => ((try dsimp only at hSw); go_simp)
                      case rest =>
                        try simp only [Act.put, List.setIfInBounds_toArray, List.set_cons_zero, List.set_cons_succ]
                        refine wpAnyH_take (i := 3) (v := .int .i64 (p : Int)) (List.getElem?_toArray.trans rfl) (by kernel_rfl) (by kernel_rfl) (by kernel_rfl) (fun _ _ _ h => h) (Or.inl ⟨by rfl, fun _ hSw => ?hy⟩) (by assumption) ?rest
                        case hy => ((try dsimp only at hSw); go_simp)
                        case rest =>
                          try simp only [Act.put, List.setIfInBounds_toArray, List.set_cons_zero, List.set_cons_succ]
                          refine wpAnyH_take (i := 4) (v := .slice a7 n7 c7) (List.getElem?_toArray.trans rfl) (by kernel_rfl) (by kernel_rfl) (by kernel_rfl) (fun _ _ _ h => h) (Or.inl ⟨by rfl, fun _ hSw => ?hy⟩) (by assumption) ?rest
                          case hy => ((try dsimp only at hSw); go_simp)
                          case rest =>
                            try simp only [Act.put, List.setIfInBounds_toArray, List.set_cons_zero, List.set_cons_succ]
                            refine wpAnyH_ready (rs := [5]) (by kernel_rfl) (by simp) (AllReadyH.cons (List.getElem?_toArray.trans rfl) (fun K hK => ?step) AllReadyH.nil)
                            case step =>
                              go_simp
                              refine Calls.mono Hpl.out ?_
                              rintro e W12 ⟨a13, n13, c13, rfl, hD12, hb12⟩
                              have kD : (convert 22 9 (.slice a13 n13 c13)).run Try.prog W12 = .ok (.string ⟨U.data.toArray⟩) W12 := conv_str hD12.rd
                              have kA2 : (convert 22 9 (.slice a9 n9 c9)).run Try.prog W12 = .ok (.string ⟨U.data.toArray⟩) W12 := conv_str (HD11d.out.below hb12).rd
                              have HL12 := Lib.hid (HL11d.out.below hb12)
                              have HR12 := Lib.hid (HR11d.out.below hb12)
                              have HB12 := Lib.hid (HB11d.out.below hb12)
                              have HD12 := Lib.hid (HD11d.out.below hb12)
                              clear hD12 hb12
                              dsimp only
                              refine hK.out _ _ (by first | exact kA | exact kA2) (fun hHeld => ?_)
                              clear hK K
                              try simp only [Act.put, List.setIfInBounds_toArray, List.set_cons_zero, List.set_cons_succ]
                              refine wpAnyH_ready (rs := [6]) (by kernel_rfl) (by simp) (AllReadyH.cons (List.getElem?_toArray.trans rfl) (fun K hK => ?step) AllReadyH.nil)
                              case step =>
                                go_simp
                                refine hK.out _ _ (by first | exact kA | exact kA2) (fun hHeld => ?_)
                                clear hK K
                                try simp only [Act.put, List.setIfInBounds_toArray, List.set_cons_zero, List.set_cons_succ]
                                refine wpAnyH_take (i := 7) (v := .bool true) (List.getElem?_toArray.trans rfl) (by kernel_rfl) (by kernel_rfl) (by kernel_rfl) (fun _ _ _ h => h) (Or.inl ⟨by rfl, fun _ hSw => ?hy⟩) (by assumption) ?rest
                                case hy => ((try dsimp only at hSw); go_simp)
                                case rest =>
                                  try simp only [Act.put, List.setIfInBounds_toArray, List.set_cons_zero, List.set_cons_succ]
                                  refine wpAnyH_take (i := 8) (v := .bool true) (List.getElem?_toArray.trans rfl) (by kernel_rfl) (by kernel_rfl) (by kernel_rfl) (fun _ _ _ h => h) (Or.inl ⟨by rfl, fun _ hSw => ?hy⟩) (by assumption) ?rest
                                  case hy => ((try dsimp only at hSw); go_simp)
                                  case rest =>
                                    try simp only [Act.put, List.setIfInBounds_toArray, List.set_cons_zero, List.set_cons_succ]
                                    refine wpAnyH_take (i := 9) (v := .slice a7 n7 c7) (List.getElem?_toArray.trans rfl) (by kernel_rfl) (by kernel_rfl) (by kernel_rfl) (fun _ _ _ h => h) (Or.inl ⟨by rfl, fun _ hSw => ?hy⟩) (by assumption) ?rest
                                    case hy => ((try dsimp only at hSw); go_simp)
                                    case rest =>
                                      try simp only [Act.put, List.setIfInBounds_toArray, List.set_cons_zero, List.set_cons_succ]
                                      refine wpAnyH_take (i := 10) (v := .int .i64 (n7 : Int)) (List.getElem?_toArray.trans rfl) (by kernel_rfl) (by kernel_rfl) (by kernel_rfl) (fun _ _ _ h => h) (Or.inl ⟨by rfl, fun _ hSw => ?hy⟩) (by assumption) ?rest
                                      case hy => ((try dsimp only at hSw); go_simp)
                                      case rest =>
                                        try simp only [Act.put, List.setIfInBounds_toArray, List.set_cons_zero, List.set_cons_succ]
                                        refine wpAnyH_take (i := 11) (v := .int .i64 size) (List.getElem?_toArray.trans rfl) (by kernel_rfl) (by kernel_rfl) (by kernel_rfl) (fun _ _ _ h => h) (Or.inl ⟨by rfl, fun _ hSw => ?hy⟩) (by assumption) ?rest
                                        case hy => ((try dsimp only at hSw); go_simp)
                                        case rest =>
                                          try simp only [Act.put, List.setIfInBounds_toArray, List.set_cons_zero, List.set_cons_succ]
                                          refine wpAnyH_take (i := 12) (v := .bool false) (List.getElem?_toArray.trans rfl) (by kernel_rfl) (by kernel_rfl) (by kernel_rfl) (fun _ _ _ h => h) (Or.inl ⟨by rfl, fun _ hSw => ?hy⟩) (by assumption) ?rest
                                          case hy => ((try dsimp only at hSw); go_simp)
                                          case rest =>
                                            try simp only [Act.put, List.setIfInBounds_toArray, List.set_cons_zero, List.set_cons_succ]
                                            refine wpAnyH_take (i := 13) (v := .bool false) (List.getElem?_toArray.trans rfl) (by kernel_rfl) (by kernel_rfl) (by kernel_rfl) (fun _ _ _ h => h) (Or.inl ⟨by rfl, fun _ hSw => ?hy⟩) (by assumption) ?rest
                                            case hy => ((try dsimp only at hSw); go_simp)
                                            case rest =>
                                              try simp only [Act.put, List.setIfInBounds_toArray, List.set_cons_zero, List.set_cons_succ]
                                              refine wpAnyH_take (i := 14) (v := .int .i64 (k : Int)) (List.getElem?_toArray.trans rfl) (by kernel_rfl) (by kernel_rfl) (by kernel_rfl) (fun _ _ _ h => h) (Or.inl ⟨by rfl, fun _ hSw => ?hy⟩) (by assumption) ?rest
                                              case hy => ((try dsimp only at hSw); go_simp)
                                              case rest =>
                                                try simp only [Act.put, List.setIfInBounds_toArray, List.set_cons_zero, List.set_cons_succ]
                                                refine wpAnyH_take (i := 15) (v := .slice af nf cf) (List.getElem?_toArray.trans rfl) (by kernel_rfl) (by kernel_rfl) (by kernel_rfl) (fun _ _ _ h => h) (Or.inl ⟨by rfl, fun _ hSw => ?hy⟩) (by assumption) ?rest
                                                case hy => ((try dsimp only at hSw); go_simp)
                                                case rest =>
                                                  try simp only [Act.put, List.setIfInBounds_toArray, List.set_cons_zero, List.set_cons_succ]
                                                  refine wpAnyH_take (i := 16) (v := .int .i64 (nf : Int)) (List.getElem?_toArray.trans rfl) (by kernel_rfl) (by kernel_rfl) (by kernel_rfl) (fun _ _ _ h => h) (Or.inl ⟨by rfl, fun _ hSw => ?hy⟩) (by assumption) ?rest
                                                  case hy => ((try dsimp only at hSw); go_simp)
                                                  case rest =>
                                                    try simp only [Act.put, List.setIfInBounds_toArray, List.set_cons_zero, List.set_cons_succ]
                                                    refine wpAnyH_take (i := 17) (v := .bool false) (List.getElem?_toArray.trans rfl) (by kernel_rfl) (by kernel_rfl) (by kernel_rfl) (fun _ _ _ h => h) (Or.inl ⟨by rfl, fun _ hSw => ?hy⟩) (by assumption) ?rest
                                                    case hy => ((try dsimp only at hSw); go_simp)
                                                    case rest =>
                                                      try simp only [Act.put, List.setIfInBounds_toArray, List.set_cons_zero, List.set_cons_succ]
                                                      refine wpAnyH_take (i := 18) (v := .bool false) (List.getElem?_toArray.trans rfl) (by kernel_rfl) (by kernel_rfl) (by kernel_rfl) (fun _ _ _ h => h) (Or.inl ⟨by rfl, fun _ hSw => ?hy⟩) (by assumption) ?rest
                                                      case hy => ((try dsimp only at hSw); go_simp)
                                                      case rest =>
                                                        try simp only [Act.put, List.setIfInBounds_toArray, List.set_cons_zero, List.set_cons_succ]
                                                        refine wpAnyH_take (i := 19) (v := undef) (List.getElem?_toArray.trans rfl) (by kernel_rfl) (by kernel_rfl) (by kernel_rfl) (fun _ _ _ h => h) (Or.inr ⟨by rfl, rfl⟩) (by assumption) ?rest
                                                        case rest =>
                                                          try simp only [Act.put, List.setIfInBounds_toArray, List.set_cons_zero, List.set_cons_succ]
                                                          refine wpAnyH_take (i := 20) (v := undef) (List.getElem?_toArray.trans rfl) (by kernel_rfl) (by kernel_rfl) (by kernel_rfl) (fun _ _ _ h => h) (Or.inr ⟨by rfl, rfl⟩) (by assumption) ?rest
                                                          case rest =>
                                                            try simp only [Act.put, List.setIfInBounds_toArray, List.set_cons_zero, List.set_cons_succ]
                                                            refine wpAnyH_take (i := 21) (v := undef) (List.getElem?_toArray.trans rfl) (by kernel_rfl) (by kernel_rfl) (by kernel_rfl) (fun _ _ _ h => h) (Or.inr ⟨by rfl, rfl⟩) (by assumption) ?rest
                                                            case rest =>
                                                              try simp only [Act.put, List.setIfInBounds_toArray, List.set_cons_zero, List.set_cons_succ]
                                                              refine wpAnyH_take (i := 22) (v := undef) (List.getElem?_toArray.trans rfl) (by kernel_rfl) (by kernel_rfl) (by kernel_rfl) (fun _ _ _ h => h) (Or.inr ⟨by rfl, rfl⟩) (by assumption) ?rest
                                                              case rest =>
                                                                try simp only [Act.put, List.setIfInBounds_toArray, List.set_cons_zero, List.set_cons_succ]
                                                                refine wpAnyH_take (i := 23) (v := .bool false) (List.getElem?_toArray.trans rfl) (by kernel_rfl) (by kernel_rfl) (by kernel_rfl) (fun _ _ _ h => h) (Or.inl ⟨by rfl, fun _ hSw => ?hy⟩) (by assumption) ?rest
                                                                case hy => ((try dsimp only at hSw); go_simp)
                                                                case rest =>
                                                                  try simp only [Act.put, List.setIfInBounds_toArray, List.set_cons_zero, List.set_cons_succ]
                                                                  refine wpAnyH_take (i := 24) (v := .bool false) (List.getElem?_toArray.trans rfl) (by kernel_rfl) (by kernel_rfl) (by kernel_rfl) (fun _ _ _ h => h) (Or.inl ⟨by rfl, fun _ hSw => ?hy⟩) (by assumption) ?rest
                                                                  case hy => ((try dsimp only at hSw); go_simp)
                                                                  case rest =>
                                                                    try simp only [Act.put, List.setIfInBounds_toArray, List.set_cons_zero, List.set_cons_succ]
                                                                    refine wpAnyH_take (i := 25) (v := .bool false) (List.getElem?_toArray.trans rfl) (by kernel_rfl) (by kernel_rfl) (by kernel_rfl) (fun _ _ _ h => h) (Or.inl ⟨by rfl, fun _ hSw => ?hy⟩) (by assumption) ?rest
                                                                    case hy => ((try dsimp only at hSw); go_simp)
                                                                    case rest =>
                                                                      try simp only [Act.put, List.setIfInBounds_toArray, List.set_cons_zero, List.set_cons_succ]
                                                                      refine wpAnyH_done (by kernel_rfl) ?_ _
                                                                      have kB2 : (convert 22 9 (.slice a5 n5 c5)).run Try.prog W12 = .ok (.string ⟨U.data.toArray⟩) W12 := by rw [Hdat.out]; exact conv_str HB12.out.rd
                                                                      go_wp2_with fail
                                                                      go_roundg (gk - 1)
                                                                      case measure => have := Hkg.out; omega
                                                                      case rel => exact ⟨k + 1, by have := Hkg.out; omega, own10, m10, U, by rw [show ((k : Int) + 1) = ((k + 1 : Nat) : Int) by omega], by rw [Hnext.out.1], HL12.out, Hinv.out, by rw [Hnext.out.2, Hn7.out]; have := Hn7.out; have := Hnw.out; have := Hnx.out; simp at *; omega, by rw [Hnext.out.2]; exact HR12.out.keep (fun _ _ _ => rfl) (fun b hb hk => ⟨hb.1, hk, hb.2.2⟩)⟩
              · have Hne := Lib.hid (show ¬ U.data = putted S.data p (S.wait ++ x) from fun e => heq e.symm)
                have Hpl := Lib.hid Hpl
                clear heq
                go_wp2_with fail
                refine wp_region_held_drew (S := fun w' => (convert 22 9 (.slice a9 n9 c9)).run Try.prog w' = .ok (.string ⟨U.data.toArray⟩) w') (by kernel_rfl) kA (fun hHeld => ?_)
                refine wpAnyH_take (i := 0) (v := .slice a9 n9 c9) (List.getElem?_toArray.trans rfl) (by kernel_rfl) (by kernel_rfl) (by kernel_rfl) (fun _ _ _ h => h) (Or.inl ⟨by rfl, fun _ hSw => ?hy⟩) (by assumption) ?rest
                case hy => ((try dsimp only at hSw); go_simp)
                case rest =>
                  try simp only [Act.put, List.setIfInBounds_toArray, List.set_cons_zero, List.set_cons_succ]
                  refine wpAnyH_take (i := 1) (v := .string ⟨U.data.toArray⟩) (List.getElem?_toArray.trans rfl) (by kernel_rfl) (by kernel_rfl) (by kernel_rfl) (fun _ _ _ h => h) (Or.inl ⟨by rfl, fun _ hSw => ?hy⟩) (by assumption) ?rest
                  case hy => ((try dsimp only at hSw); go_simp)
                  case rest =>
                    try simp only [Act.put, List.setIfInBounds_toArray, List.set_cons_zero, List.set_cons_succ]
                    refine wpAnyH_take (i := 2) (v := .slice a5 n5 c5) (List.getElem?_toArray.trans rfl) (by kernel_rfl) (by kernel_rfl) (by kernel_rfl) (fun _ _ _ h => h) (Or.inl ⟨by rfl, fun _ hSw => ?hy⟩) (by assumption) ?rest
                    case hy => ((try dsimp only at hSw); go_simp)
                    case rest =>
                      try simp only [Act.put, List.setIfInBounds_toArray, List.set_cons_zero, List.set_cons_succ]
                      refine wpAnyH_take (i := 3) (v := .int .i64 (p : Int)) (List.getElem?_toArray.trans rfl) (by kernel_rfl) (by kernel_rfl) (by kernel_rfl) (fun _ _ _ h => h) (Or.inl ⟨by rfl, fun _ hSw => ?hy⟩) (by assumption) ?rest
                      case hy => ((try dsimp only at hSw); go_simp)
                      case rest =>
                        try simp only [Act.put, List.setIfInBounds_toArray, List.set_cons_zero, List.set_cons_succ]
                        refine wpAnyH_take (i := 4) (v := .slice a7 n7 c7) (List.getElem?_toArray.trans rfl) (by kernel_rfl) (by kernel_rfl) (by kernel_rfl) (fun _ _ _ h => h) (Or.inl ⟨by rfl, fun _ hSw => ?hy⟩) (by assumption) ?rest
                        case hy => ((try dsimp only at hSw); go_simp)
                        case rest =>
                          try simp only [Act.put, List.setIfInBounds_toArray, List.set_cons_zero, List.set_cons_succ]
                          refine wpAnyH_ready (rs := [5]) (by kernel_rfl) (by simp) (AllReadyH.cons (List.getElem?_toArray.trans rfl) (fun K hK => ?step) AllReadyH.nil)
                          case step =>
                            go_simp
                            refine Calls.mono Hpl.out ?_
                            rintro e W12 ⟨a13, n13, c13, rfl, hD12, hb12⟩
                            have kD : (convert 22 9 (.slice a13 n13 c13)).run Try.prog W12 = .ok (.string ⟨(putted S.data p (S.wait ++ x)).toArray⟩) W12 := conv_str hD12.rd
                            have kA2 : (convert 22 9 (.slice a9 n9 c9)).run Try.prog W12 = .ok (.string ⟨U.data.toArray⟩) W12 := conv_str (HD11d.out.below hb12).rd
                            have HL12 := Lib.hid (HL11d.out.below hb12)
                            have HR12 := Lib.hid (HR11d.out.below hb12)
                            have HB12 := Lib.hid (HB11d.out.below hb12)
                            have HD12 := Lib.hid (HD11d.out.below hb12)
                            clear hD12 hb12
                            dsimp only
                            refine hK.out _ _ (by first | exact kA | exact kA2) (fun hHeld => ?_)
                            clear hK K
                            try simp only [Act.put, List.setIfInBounds_toArray, List.set_cons_zero, List.set_cons_succ]
                            refine wpAnyH_ready (rs := [6]) (by kernel_rfl) (by simp) (AllReadyH.cons (List.getElem?_toArray.trans rfl) (fun K hK => ?step) AllReadyH.nil)
                            case step =>
                              go_simp
                              refine hK.out _ _ (by first | exact kA | exact kA2) (fun hHeld => ?_)
                              clear hK K
                              try simp only [Act.put, List.setIfInBounds_toArray, List.set_cons_zero, List.set_cons_succ]
                              refine wpAnyH_take (i := 7) (v := .bool false) (List.getElem?_toArray.trans rfl) (by kernel_rfl) (by kernel_rfl) (by kernel_rfl) (fun _ _ _ h => h) (Or.inl ⟨by rfl, fun _ hSw => ?hy⟩) (by assumption) ?rest
                              case hy => ((try dsimp only at hSw); go_simp; exact Hne.out)
                              case rest =>
                                try simp only [Act.put, List.setIfInBounds_toArray, List.set_cons_zero, List.set_cons_succ]
                                refine wpAnyH_take (i := 8) (v := .bool false) (List.getElem?_toArray.trans rfl) (by kernel_rfl) (by kernel_rfl) (by kernel_rfl) (fun _ _ _ h => h) (Or.inl ⟨by rfl, fun _ hSw => ?hy⟩) (by assumption) ?rest
                                case hy => ((try dsimp only at hSw); go_simp)
                                case rest =>
                                  try simp only [Act.put, List.setIfInBounds_toArray, List.set_cons_zero, List.set_cons_succ]
                                  refine wpAnyH_take (i := 9) (v := undef) (List.getElem?_toArray.trans rfl) (by kernel_rfl) (by kernel_rfl) (by kernel_rfl) (fun _ _ _ h => h) (Or.inr ⟨by rfl, rfl⟩) (by assumption) ?rest
                                  case rest =>
                                    try simp only [Act.put, List.setIfInBounds_toArray, List.set_cons_zero, List.set_cons_succ]
                                    refine wpAnyH_take (i := 10) (v := undef) (List.getElem?_toArray.trans rfl) (by kernel_rfl) (by kernel_rfl) (by kernel_rfl) (fun _ _ _ h => h) (Or.inr ⟨by rfl, rfl⟩) (by assumption) ?rest
                                    case rest =>
                                      try simp only [Act.put, List.setIfInBounds_toArray, List.set_cons_zero, List.set_cons_succ]
                                      refine wpAnyH_take (i := 11) (v := undef) (List.getElem?_toArray.trans rfl) (by kernel_rfl) (by kernel_rfl) (by kernel_rfl) (fun _ _ _ h => h) (Or.inr ⟨by rfl, rfl⟩) (by assumption) ?rest
                                      case rest =>
                                        try simp only [Act.put, List.setIfInBounds_toArray, List.set_cons_zero, List.set_cons_succ]
                                        refine wpAnyH_take (i := 12) (v := undef) (List.getElem?_toArray.trans rfl) (by kernel_rfl) (by kernel_rfl) (by kernel_rfl) (fun _ _ _ h => h) (Or.inr ⟨by rfl, rfl⟩) (by assumption) ?rest
                                        case rest =>
                                          try simp only [Act.put, List.setIfInBounds_toArray, List.set_cons_zero, List.set_cons_succ]
                                          refine wpAnyH_take (i := 13) (v := undef) (List.getElem?_toArray.trans rfl) (by kernel_rfl) (by kernel_rfl) (by kernel_rfl) (fun _ _ _ h => h) (Or.inr ⟨by rfl, rfl⟩) (by assumption) ?rest
                                          case rest =>
                                            try simp only [Act.put, List.setIfInBounds_toArray, List.set_cons_zero, List.set_cons_succ]
                                            refine wpAnyH_take (i := 14) (v := undef) (List.getElem?_toArray.trans rfl) (by kernel_rfl) (by kernel_rfl) (by kernel_rfl) (fun _ _ _ h => h) (Or.inr ⟨by rfl, rfl⟩) (by assumption) ?rest
                                            case rest =>
                                              try simp only [Act.put, List.setIfInBounds_toArray, List.set_cons_zero, List.set_cons_succ]
                                              refine wpAnyH_take (i := 15) (v := undef) (List.getElem?_toArray.trans rfl) (by kernel_rfl) (by kernel_rfl) (by kernel_rfl) (fun _ _ _ h => h) (Or.inr ⟨by rfl, rfl⟩) (by assumption) ?rest
                                              case rest =>
                                                try simp only [Act.put, List.setIfInBounds_toArray, List.set_cons_zero, List.set_cons_succ]
                                                refine wpAnyH_take (i := 16) (v := undef) (List.getElem?_toArray.trans rfl) (by kernel_rfl) (by kernel_rfl) (by kernel_rfl) (fun _ _ _ h => h) (Or.inr ⟨by rfl, rfl⟩) (by assumption) ?rest
                                                case rest =>
                                                  try simp only [Act.put, List.setIfInBounds_toArray, List.set_cons_zero, List.set_cons_succ]
                                                  refine wpAnyH_take (i := 17) (v := undef) (List.getElem?_toArray.trans rfl) (by kernel_rfl) (by kernel_rfl) (by kernel_rfl) (fun _ _ _ h => h) (Or.inr ⟨by rfl, rfl⟩) (by assumption) ?rest
                                                  case rest =>
                                                    try simp only [Act.put, List.setIfInBounds_toArray, List.set_cons_zero, List.set_cons_succ]
                                                    refine wpAnyH_take (i := 18) (v := undef) (List.getElem?_toArray.trans rfl) (by kernel_rfl) (by kernel_rfl) (by kernel_rfl) (fun _ _ _ h => h) (Or.inr ⟨by rfl, rfl⟩) (by assumption) ?rest
                                                    case rest =>
                                                      try simp only [Act.put, List.setIfInBounds_toArray, List.set_cons_zero, List.set_cons_succ]
                                                      refine wpAnyH_take (i := 19) (v := undef) (List.getElem?_toArray.trans rfl) (by kernel_rfl) (by kernel_rfl) (by kernel_rfl) (fun _ _ _ h => h) (Or.inr ⟨by rfl, rfl⟩) (by assumption) ?rest
                                                      case rest =>
                                                        try simp only [Act.put, List.setIfInBounds_toArray, List.set_cons_zero, List.set_cons_succ]
                                                        refine wpAnyH_take (i := 20) (v := undef) (List.getElem?_toArray.trans rfl) (by kernel_rfl) (by kernel_rfl) (by kernel_rfl) (fun _ _ _ h => h) (Or.inr ⟨by rfl, rfl⟩) (by assumption) ?rest
                                                        case rest =>
                                                          try simp only [Act.put, List.setIfInBounds_toArray, List.set_cons_zero, List.set_cons_succ]
                                                          refine wpAnyH_take (i := 21) (v := undef) (List.getElem?_toArray.trans rfl) (by kernel_rfl) (by kernel_rfl) (by kernel_rfl) (fun _ _ _ h => h) (Or.inr ⟨by rfl, rfl⟩) (by assumption) ?rest
                                                          case rest =>
                                                            try simp only [Act.put, List.setIfInBounds_toArray, List.set_cons_zero, List.set_cons_succ]
                                                            refine wpAnyH_take (i := 22) (v := undef) (List.getElem?_toArray.trans rfl) (by kernel_rfl) (by kernel_rfl) (by kernel_rfl) (fun _ _ _ h => h) (Or.inr ⟨by rfl, rfl⟩) (by assumption) ?rest
                                                            case rest =>
                                                              try simp only [Act.put, List.setIfInBounds_toArray, List.set_cons_zero, List.set_cons_succ]
                                                              refine wpAnyH_take (i := 23) (v := undef) (List.getElem?_toArray.trans rfl) (by kernel_rfl) (by kernel_rfl) (by kernel_rfl) (fun _ _ _ h => h) (Or.inr ⟨by rfl, rfl⟩) (by assumption) ?rest
                                                              case rest =>
                                                                try simp only [Act.put, List.setIfInBounds_toArray, List.set_cons_zero, List.set_cons_succ]
                                                                refine wpAnyH_take (i := 24) (v := undef) (List.getElem?_toArray.trans rfl) (by kernel_rfl) (by kernel_rfl) (by kernel_rfl) (fun _ _ _ h => h) (Or.inr ⟨by rfl, rfl⟩) (by assumption) ?rest
                                                                case rest =>
                                                                  try simp only [Act.put, List.setIfInBounds_toArray, List.set_cons_zero, List.set_cons_succ]
                                                                  refine wpAnyH_take (i := 25) (v := .bool false) (List.getElem?_toArray.trans rfl) (by kernel_rfl) (by kernel_rfl) (by kernel_rfl) (fun _ _ _ h => h) (Or.inl ⟨by rfl, fun _ hSw => ?hy⟩) (by assumption) ?rest
                                                                  case hy => ((try dsimp only at hSw); go_simp)
                                                                  case rest =>
                                                                    try simp only [Act.put, List.setIfInBounds_toArray, List.set_cons_zero, List.set_cons_succ]
                                                                    refine wpAnyH_done (by kernel_rfl) ?_ _
                                                                    have kB2 : (convert 22 9 (.slice a5 n5 c5)).run Try.prog W12 = .ok (.string ⟨U.data.toArray⟩) W12 := by rw [Hdat.out]; exact conv_str HB12.out.rd
                                                                    go_wp2_with fail
                                                                    go_roundg (gk - 1)
                                                                    case measure => have := Hkg.out; omega
                                                                    case rel => exact ⟨k + 1, by have := Hkg.out; omega, own10, m10, U, by rw [show ((k : Int) + 1) = ((k + 1 : Nat) : Int) by omega], by rw [Hnext.out.1], HL12.out, Hinv.out, by rw [Hnext.out.2, Hn7.out]; have := Hn7.out; have := Hnw.out; have := Hnx.out; simp at *; omega, by rw [Hnext.out.2]; exact HR12.out.keep (fun _ _ _ => rfl) (fun b hb hk => ⟨hb.1, hk, hb.2.2⟩)⟩
            · have hpl : putted S.data p ((S.wait ++ x).take j) = U.data := hdat.symm
              have hj7 : j ≤ c7 := by have := (rd_len HR11.out.rd).2.1; omega
              have hks := run_to a7 n7 c7 j hj7
              have Hpl := placed_calls W11.drew _ _ a5 a7 n5 c5 j c7 p S.data ((S.wait ++ x).take j) HB11d.out.rd (HR11d.out.rd.take j (by rw [Hn7.out]; exact hj)) Hdl.out (by have := Hn7.out; simp at this ⊢; omega)
              rw [hpl] at Hpl
              have Hpl := Lib.hid Hpl
              have hfail := Lib.hid (failed_true HL11.out.l hbad)
              have hq1 : decide (q < p) = false := decide_eq_false (by omega)
              have htot := Htot.out
              have hq2 : decide (tot < (q : Int)) = false := decide_eq_false (by omega)
              have hsub : (q : Int) - p = (j : Int) := by omega
              have hwj : IntKind.i64.wrap (j : Int) = (j : Int) := IntWalk.i64_in _ (by omega)
              have hwt : IntKind.i64.wrap tot = tot := IntWalk.i64_in _ (by omega)
              have Hnext := Lib.hid (And.intro hpos hw)
              clear hpl hdat hw hpos hbad hq hj hj7
              go_wp2_with fail
              refine Calls.mono hfail.out ?_
              rintro e W11' ⟨rfl, rfl⟩
              go_wp2_with fail
              refine wp_region_held_drew (S := fun w' => (convert 22 9 (.slice a9 n9 c9)).run Try.prog w' = .ok (.string ⟨U.data.toArray⟩) w') (by kernel_rfl) kA (fun hHeld => ?_)
              refine wpAnyH_take (i := 0) (v := .int .i64 (q : Int)) (List.getElem?_toArray.trans rfl) (by kernel_rfl) (by kernel_rfl) (by kernel_rfl) (fun _ _ _ h => h) (Or.inl ⟨by rfl, fun _ hSw => ?hy⟩) (by assumption) ?rest
              case hy => ((try dsimp only at hSw); go_simp)
              case rest =>
                try simp only [Act.put, List.setIfInBounds_toArray, List.set_cons_zero, List.set_cons_succ]
                refine wpAnyH_take (i := 1) (v := .int .i64 (p : Int)) (List.getElem?_toArray.trans rfl) (by kernel_rfl) (by kernel_rfl) (by kernel_rfl) (fun _ _ _ h => h) (Or.inl ⟨by rfl, fun _ hSw => ?hy⟩) (by assumption) ?rest
                case hy => ((try dsimp only at hSw); go_simp)
                case rest =>
                  try simp only [Act.put, List.setIfInBounds_toArray, List.set_cons_zero, List.set_cons_succ]
                  refine wpAnyH_take (i := 2) (v := .bool false) (List.getElem?_toArray.trans rfl) (by kernel_rfl) (by kernel_rfl) (by kernel_rfl) (fun _ _ _ h => h) (Or.inl ⟨by rfl, fun _ hSw => ?hy⟩) (by assumption) ?rest
                  case hy => ((try dsimp only at hSw); go_simp)
                  case rest =>
                    try simp only [Act.put, List.setIfInBounds_toArray, List.set_cons_zero, List.set_cons_succ]
                    refine wpAnyH_take (i := 3) (v := .bool false) (List.getElem?_toArray.trans rfl) (by kernel_rfl) (by kernel_rfl) (by kernel_rfl) (fun _ _ _ h => h) (Or.inl ⟨by rfl, fun _ hSw => ?hy⟩) (by assumption) ?rest
                    case hy => ((try dsimp only at hSw); go_simp)
                    case rest =>
                      try simp only [Act.put, List.setIfInBounds_toArray, List.set_cons_zero, List.set_cons_succ]
                      refine wpAnyH_take (i := 4) (v := .int .i64 (q : Int)) (List.getElem?_toArray.trans rfl) (by kernel_rfl) (by kernel_rfl) (by kernel_rfl) (fun _ _ _ h => h) (Or.inl ⟨by rfl, fun _ hSw => ?hy⟩) (by assumption) ?rest
                      case hy => ((try dsimp only at hSw); go_simp)
                      case rest =>
                        try simp only [Act.put, List.setIfInBounds_toArray, List.set_cons_zero, List.set_cons_succ]
                        refine wpAnyH_take (i := 5) (v := .int .i64 (p : Int)) (List.getElem?_toArray.trans rfl) (by kernel_rfl) (by kernel_rfl) (by kernel_rfl) (fun _ _ _ h => h) (Or.inl ⟨by rfl, fun _ hSw => ?hy⟩) (by assumption) ?rest
                        case hy => ((try dsimp only at hSw); go_simp)
                        case rest =>
                          try simp only [Act.put, List.setIfInBounds_toArray, List.set_cons_zero, List.set_cons_succ]
                          refine wpAnyH_take (i := 6) (v := .slice a7 n7 c7) (List.getElem?_toArray.trans rfl) (by kernel_rfl) (by kernel_rfl) (by kernel_rfl) (fun _ _ _ h => h) (Or.inl ⟨by rfl, fun _ hSw => ?hy⟩) (by assumption) ?rest
                          case hy => ((try dsimp only at hSw); go_simp)
                          case rest =>
                            try simp only [Act.put, List.setIfInBounds_toArray, List.set_cons_zero, List.set_cons_succ]
                            refine wpAnyH_take (i := 7) (v := .int .i64 (n7 : Int)) (List.getElem?_toArray.trans rfl) (by kernel_rfl) (by kernel_rfl) (by kernel_rfl) (fun _ _ _ h => h) (Or.inl ⟨by rfl, fun _ hSw => ?hy⟩) (by assumption) ?rest
                            case hy => ((try dsimp only at hSw); go_simp)
                            case rest =>
                              try simp only [Act.put, List.setIfInBounds_toArray, List.set_cons_zero, List.set_cons_succ]
                              refine wpAnyH_take (i := 8) (v := .int .i64 tot) (List.getElem?_toArray.trans rfl) (by kernel_rfl) (by kernel_rfl) (by kernel_rfl) (fun _ _ _ h => h) (Or.inl ⟨by rfl, fun _ hSw => ?hy⟩) (by assumption) ?rest
                              case hy => ((try dsimp only at hSw); go_simp)
                              case rest =>
                                try simp only [Act.put, List.setIfInBounds_toArray, List.set_cons_zero, List.set_cons_succ]
                                refine wpAnyH_take (i := 9) (v := .bool false) (List.getElem?_toArray.trans rfl) (by kernel_rfl) (by kernel_rfl) (by kernel_rfl) (fun _ _ _ h => h) (Or.inl ⟨by rfl, fun _ hSw => ?hy⟩) (by assumption) ?rest
                                case hy => ((try dsimp only at hSw); go_simp)
                                case rest =>
                                  try simp only [Act.put, List.setIfInBounds_toArray, List.set_cons_zero, List.set_cons_succ]
                                  refine wpAnyH_take (i := 10) (v := .bool false) (List.getElem?_toArray.trans rfl) (by kernel_rfl) (by kernel_rfl) (by kernel_rfl) (fun _ _ _ h => h) (Or.inl ⟨by rfl, fun _ hSw => ?hy⟩) (by assumption) ?rest
                                  case hy => ((try dsimp only at hSw); go_simp)
                                  case rest =>
                                    try simp only [Act.put, List.setIfInBounds_toArray, List.set_cons_zero, List.set_cons_succ]
                                    refine wpAnyH_take (i := 11) (v := .bool false) (List.getElem?_toArray.trans rfl) (by kernel_rfl) (by kernel_rfl) (by kernel_rfl) (fun _ _ _ h => h) (Or.inl ⟨by rfl, fun _ hSw => ?hy⟩) (by assumption) ?rest
                                    case hy => ((try dsimp only at hSw); go_simp)
                                    case rest =>
                                      try simp only [Act.put, List.setIfInBounds_toArray, List.set_cons_zero, List.set_cons_succ]
                                      refine wpAnyH_take (i := 12) (v := .slice a5 n5 c5) (List.getElem?_toArray.trans rfl) (by kernel_rfl) (by kernel_rfl) (by kernel_rfl) (fun _ _ _ h => h) (Or.inl ⟨by rfl, fun _ hSw => ?hy⟩) (by assumption) ?rest
                                      case hy => ((try dsimp only at hSw); go_simp)
                                      case rest =>
                                        try simp only [Act.put, List.setIfInBounds_toArray, List.set_cons_zero, List.set_cons_succ]
                                        refine wpAnyH_take (i := 13) (v := .int .i64 (p : Int)) (List.getElem?_toArray.trans rfl) (by kernel_rfl) (by kernel_rfl) (by kernel_rfl) (fun _ _ _ h => h) (Or.inl ⟨by rfl, fun _ hSw => ?hy⟩) (by assumption) ?rest
                                        case hy => ((try dsimp only at hSw); go_simp)
                                        case rest =>
                                          try simp only [Act.put, List.setIfInBounds_toArray, List.set_cons_zero, List.set_cons_succ]
                                          refine wpAnyH_take (i := 14) (v := .slice a7 n7 c7) (List.getElem?_toArray.trans rfl) (by kernel_rfl) (by kernel_rfl) (by kernel_rfl) (fun _ _ _ h => h) (Or.inl ⟨by rfl, fun _ hSw => ?hy⟩) (by assumption) ?rest
                                          case hy => ((try dsimp only at hSw); go_simp)
                                          case rest =>
                                            try simp only [Act.put, List.setIfInBounds_toArray, List.set_cons_zero, List.set_cons_succ]
                                            refine wpAnyH_take (i := 15) (v := .int .i64 (q : Int)) (List.getElem?_toArray.trans rfl) (by kernel_rfl) (by kernel_rfl) (by kernel_rfl) (fun _ _ _ h => h) (Or.inl ⟨by rfl, fun _ hSw => ?hy⟩) (by assumption) ?rest
                                            case hy => ((try dsimp only at hSw); go_simp)
                                            case rest =>
                                              try simp only [Act.put, List.setIfInBounds_toArray, List.set_cons_zero, List.set_cons_succ]
                                              refine wpAnyH_take (i := 16) (v := .int .i64 (p : Int)) (List.getElem?_toArray.trans rfl) (by kernel_rfl) (by kernel_rfl) (by kernel_rfl) (fun _ _ _ h => h) (Or.inl ⟨by rfl, fun _ hSw => ?hy⟩) (by assumption) ?rest
                                              case hy => ((try dsimp only at hSw); go_simp)
                                              case rest =>
                                                try simp only [Act.put, List.setIfInBounds_toArray, List.set_cons_zero, List.set_cons_succ]
                                                refine wpAnyH_take (i := 17) (v := .int .i64 (j : Int)) (List.getElem?_toArray.trans rfl) (by kernel_rfl) (by kernel_rfl) (by kernel_rfl) (fun _ _ _ h => h) (Or.inl ⟨by rfl, fun _ hSw => ?hy⟩) (by assumption) ?rest
                                                case hy => ((try dsimp only at hSw); go_simp)
                                                case rest =>
                                                  try simp only [Act.put, List.setIfInBounds_toArray, List.set_cons_zero, List.set_cons_succ]
                                                  refine wpAnyH_take (i := 18) (v := .slice a7 j c7) (List.getElem?_toArray.trans rfl) (by kernel_rfl) (by kernel_rfl) (by kernel_rfl) (fun _ _ _ h => h) (Or.inl ⟨by rfl, fun _ hSw => ?hy⟩) (by assumption) ?rest
                                                  case hy => ((try dsimp only at hSw); go_simp)
                                                  case rest =>
                                                    try simp only [Act.put, List.setIfInBounds_toArray, List.set_cons_zero, List.set_cons_succ]
                                                    refine wpAnyH_take (i := 21) (v := .slice a9 n9 c9) (List.getElem?_toArray.trans rfl) (by kernel_rfl) (by kernel_rfl) (by kernel_rfl) (fun _ _ _ h => h) (Or.inl ⟨by rfl, fun _ hSw => ?hy⟩) (by assumption) ?rest
                                                    case hy => ((try dsimp only at hSw); go_simp)
                                                    case rest =>
                                                      try simp only [Act.put, List.setIfInBounds_toArray, List.set_cons_zero, List.set_cons_succ]
                                                      refine wpAnyH_take (i := 22) (v := .string ⟨U.data.toArray⟩) (List.getElem?_toArray.trans rfl) (by kernel_rfl) (by kernel_rfl) (by kernel_rfl) (fun _ _ _ h => h) (Or.inl ⟨by rfl, fun _ hSw => ?hy⟩) (by assumption) ?rest
                                                      case hy => ((try dsimp only at hSw); go_simp)
                                                      case rest =>
                                                        try simp only [Act.put, List.setIfInBounds_toArray, List.set_cons_zero, List.set_cons_succ]
                                                        refine wpAnyH_ready (rs := [19]) (by kernel_rfl) (by simp) (AllReadyH.cons (List.getElem?_toArray.trans rfl) (fun K hK => ?step) AllReadyH.nil)
                                                        case step =>
                                                          go_simp
                                                          refine Calls.mono Hpl.out ?_
                                                          rintro e W12 ⟨a13, n13, c13, rfl, hD12, hb12⟩
                                                          have kD : (convert 22 9 (.slice a13 n13 c13)).run Try.prog W12 = .ok (.string ⟨U.data.toArray⟩) W12 := conv_str hD12.rd
                                                          have kA2 : (convert 22 9 (.slice a9 n9 c9)).run Try.prog W12 = .ok (.string ⟨U.data.toArray⟩) W12 := conv_str (HD11d.out.below hb12).rd
                                                          have HL12 := Lib.hid (HL11d.out.below hb12)
                                                          have HR12 := Lib.hid (HR11d.out.below hb12)
                                                          have HB12 := Lib.hid (HB11d.out.below hb12)
                                                          have HD12 := Lib.hid (HD11d.out.below hb12)
                                                          clear hD12 hb12
                                                          dsimp only
                                                          refine hK.out _ _ (by first | exact kA | exact kA2) (fun hHeld => ?_)
                                                          clear hK K
                                                          try simp only [Act.put, List.setIfInBounds_toArray, List.set_cons_zero, List.set_cons_succ]
                                                          refine wpAnyH_ready (rs := [20]) (by kernel_rfl) (by simp) (AllReadyH.cons (List.getElem?_toArray.trans rfl) (fun K hK => ?step) AllReadyH.nil)
                                                          case step =>
                                                            go_simp
                                                            refine hK.out _ _ (by first | exact kA | exact kA2) (fun hHeld => ?_)
                                                            clear hK K
                                                            try simp only [Act.put, List.setIfInBounds_toArray, List.set_cons_zero, List.set_cons_succ]
                                                            refine wpAnyH_take (i := 23) (v := .bool false) (List.getElem?_toArray.trans rfl) (by kernel_rfl) (by kernel_rfl) (by kernel_rfl) (fun _ _ _ h => h) (Or.inl ⟨by rfl, fun _ hSw => ?hy⟩) (by assumption) ?rest
                                                            case hy => ((try dsimp only at hSw); go_simp)
                                                            case rest =>
                                                              try simp only [Act.put, List.setIfInBounds_toArray, List.set_cons_zero, List.set_cons_succ]
                                                              refine wpAnyH_take (i := 24) (v := .bool false) (List.getElem?_toArray.trans rfl) (by kernel_rfl) (by kernel_rfl) (by kernel_rfl) (fun _ _ _ h => h) (Or.inl ⟨by rfl, fun _ hSw => ?hy⟩) (by assumption) ?rest
                                                              case hy => ((try dsimp only at hSw); go_simp)
                                                              case rest =>
                                                                try simp only [Act.put, List.setIfInBounds_toArray, List.set_cons_zero, List.set_cons_succ]
                                                                refine wpAnyH_done (by kernel_rfl) ?_ _
                                                                go_wp2_with fail
                                                                go_roundg (gk - 1)
                                                                case measure => have := Hkg.out; omega
                                                                case rel => exact ⟨k + 1, by have := Hkg.out; omega, own10, m10, U, by rw [show ((k : Int) + 1) = ((k + 1 : Nat) : Int) by omega], by rw [Hnext.out.1], HL12.out, Hinv.out, by rw [Hnext.out.2]; simp, .inl ⟨Hnext.out.2, none, rfl⟩⟩
      · go_wp2_with fail
        go_ret
        exact ⟨rfl, HL.out.be⟩
end Go.Proofs.Ytgihclflndlomaa
