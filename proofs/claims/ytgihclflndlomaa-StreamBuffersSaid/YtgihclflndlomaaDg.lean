/- StreamBuffers: the walk. -/
import Derived.Test.YtgihclflndlomaaDe
import Derived.Test.YtgihclflndlomaaDf
import Derived.Test.YtgihclflndlomaaAo
import Derived.Test.YtgihclflndlomaaBs
namespace Go.Proofs.Ytgihclflndlomaa
open Go.RowKit

theorem fresh_seen {data : List UInt8} {max : Int} {md : Md} (h : ¬ openRefused data max [] md) : Seen (St.fresh data max [] md) ⟨data, 0, [], false, true, md.rd, md.wr, md.app, max⟩ :=
  ⟨fresh_ok h, rfl, rfl, rfl, rfl, rfl, rfl, rfl, rfl, rfl, rfl, rfl, fun e => absurd rfl e, fun _ => rfl, rfl, fun _ e => absurd rfl e⟩
theorem fresh_alike {data : List UInt8} {max : Int} {md : Md} {size : Int} {lines : Bool} (h : ¬ openRefused data max [] md) (h2 : ¬ openRefused data max [] ⟨md.rd, md.wr, md.app, size, lines⟩) :
    Alike (St.fresh data max [] md) (St.fresh data max [] ⟨md.rd, md.wr, md.app, size, lines⟩) :=
  ⟨_, fresh_seen h, fresh_seen h2, fun e => (by cases e), fun e => (by cases e)⟩

/-- Between the rounds. -/
def BufAt (w : World) (bs1 bs2 : Nat) (k : Nat) (i : Value) (W : World) : Prop :=
  ∃ own1 m1 S own2 m2 T, i = .int .i64 (k : Int) ∧ Duo w W own1 bs1 S m1 own2 bs2 T m2 ∧ Alike S T

set_option maxRecDepth 100000 in
set_option maxHeartbeats 8000000 in
theorem buffers_calls (w : World) (a a2 : Option Addr) (n c n2 c2 : Nat) (max size : Int) (lines : Bool) (md : Md) (al : Option Addr) (nl cl : Nat) (data : List UInt8) (plan : List Int) (l : List Ac)
    (hd : Rd w (fun b => b < w.heap.size) byteV (.slice a n c) data) (hp : plan.length = n2) (hl : Acts w w.heap.size al nl l) (hm : nl ≤ maxLen) :
    Calls Try.prog 8 #[.agg #[.slice a n c, .int .i64 max, .slice a2 n2 c2], .agg #[.bool md.rd, .bool md.wr, .bool md.app, .int .i64 md.size, .bool md.lines], .int .i64 size, .bool lines, .slice al nl cl] w fun e w' => e = .returned (.bool true) ∧ Below w.heap.size w w' := by
  go_enter Try.func8, Try.ntmps8
  go_wp2_with fail
  refine (sane_calls _).mono ?_
  rintro e W1 ⟨rfl, hb1⟩
  have hz1 : w.heap.size + 1 < W1.heap.size := by have := hb1.size; simp at this; omega
  have hx1 : W1.heap[w.heap.size]? = some (.cells #[.slice a n c, .int .i64 max, .slice a2 n2 c2] 25 (0, 0)) := (hb1.block _ (by simp; omega)).trans ((Below.heap_alloc _ _ _ (by simp)).trans (alloc_at w _))
  have hy1 : W1.heap[w.heap.size + 1]? = some (.cells #[.bool md.rd, .bool md.wr, .bool md.app, .int .i64 md.size, .bool md.lines] 32 (0, 0)) := (hb1.block _ (by simp)).trans (by simpa using alloc_at (w.alloc (.cells #[.slice a n c, .int .i64 max, .slice a2 n2 c2] 25)) _)
  have hbe1 : Below w.heap.size w W1 := ((((Below.refl _ w).alloc (Nat.le_refl _) _).alloc (by simp) _).trans (hb1.mono (by simp; omega)))
  have c0 : W1.cell? ⟨w.heap.size, 0, none⟩ = some (.slice a n c) := cell_of_row _ _ 0 _ _ _ hx1
  have c1 : W1.cell? ⟨w.heap.size, 1, none⟩ = some (.int .i64 max) := cell_of_row _ _ 1 _ _ _ hx1
  have c2' : W1.cell? ⟨w.heap.size, 2, none⟩ = some (.slice a2 n2 c2) := cell_of_row _ _ 2 _ _ _ hx1
  have hn := (rd_len hd).1
  have Hsm := Lib.hid (small_calls W1 w.heap.size (by omega) a a2 n c n2 c2 max al nl cl data plan l hn hp (hl.below (Nat.le_refl _) hbe1) hm)
  have Hx1 := Lib.hid hx1
  have Hy1 := Lib.hid hy1
  have Hbe1 := Lib.hid hbe1
  have Hl := Lib.hid hl
  have Hd := Lib.hid hd
  unfold maxLen at hm
  clear hb1 hx1 hy1 hbe1 hn hp hl hd
  go_wp2_with fail
  refine Calls.mono Hsm.out ?_
  rintro e W2 ⟨r, rfl, -, hb2⟩
  have hx2 := (hb2.block _ (by omega)).trans Hx1.out
  have hy2 := (hb2.block _ (by omega)).trans Hy1.out
  have hbe2 := Hbe1.out.trans (hb2.mono (by omega))
  have c0 : W2.cell? ⟨w.heap.size, 0, none⟩ = some (.slice a n c) := cell_of_row _ _ 0 _ _ _ hx2
  have c1 : W2.cell? ⟨w.heap.size, 1, none⟩ = some (.int .i64 max) := cell_of_row _ _ 1 _ _ _ hx2
  have c2' : W2.cell? ⟨w.heap.size, 2, none⟩ = some (.slice a2 n2 c2) := cell_of_row _ _ 2 _ _ _ hx2
  have f2 : W2.frozen? ⟨w.heap.size, 2, none⟩ = false := frozen_of_row _ _ 2 _ _ hx2
  have d0 : W2.cell? ⟨w.heap.size + 1, 0, none⟩ = some (.bool md.rd) := cell_of_row _ _ 0 _ _ _ hy2
  have d1 : W2.cell? ⟨w.heap.size + 1, 1, none⟩ = some (.bool md.wr) := cell_of_row _ _ 1 _ _ _ hy2
  have d2 : W2.cell? ⟨w.heap.size + 1, 2, none⟩ = some (.bool md.app) := cell_of_row _ _ 2 _ _ _ hy2
  have d3 : W2.cell? ⟨w.heap.size + 1, 3, none⟩ = some (.int .i64 md.size) := cell_of_row _ _ 3 _ _ _ hy2
  have d4 : W2.cell? ⟨w.heap.size + 1, 4, none⟩ = some (.bool md.lines) := cell_of_row _ _ 4 _ _ _ hy2
  have hz2 : w.heap.size + 1 < W2.heap.size := by have := hb2.size; omega
  have Hx2 := Lib.hid hx2
  have Hy2 := Lib.hid hy2
  have Hbe2 := Lib.hid hbe2
  clear hx2 hy2 hbe2 hb2 Hx1 Hy1 Hbe1 Hsm
  cases r
  · go_wp2_with fail
    go_ret
    exact ⟨rfl, Hbe2.out⟩
  go_upto_region 8 with fail
  obtain ⟨W3, hW3⟩ : ∃ W3, (W2.setCell ⟨w.heap.size, 2, none⟩ (.slice none 0 0)).alloc (.cells #[.bool md.rd, .bool md.wr, .bool md.app, .int .i64 size, .bool lines] 32) = W3 := ⟨_, rfl⟩
  have hx3 : W3.heap[w.heap.size]? = some (.cells #[.slice a n c, .int .i64 max, .slice none 0 0] 25 (0, 0)) := by
    rw [← hW3]; exact (Below.heap_alloc _ _ _ (by simp; omega)).trans (heap_setCell_same W2 w.heap.size 2 _ _ _ Hx2.out)
  have hy3 : W3.heap[w.heap.size + 1]? = some (.cells #[.bool md.rd, .bool md.wr, .bool md.app, .int .i64 md.size, .bool md.lines] 32 (0, 0)) := by
    rw [← hW3]; exact (Below.heap_alloc _ _ _ (by simp; omega)).trans ((Below.heap_setCell _ _ _ _ (by show w.heap.size + 1 ≠ w.heap.size; omega)).trans Hy2.out)
  have ho3 : W3.heap[W2.heap.size]? = some (.cells #[.bool md.rd, .bool md.wr, .bool md.app, .int .i64 size, .bool lines] 32 (0, 0)) := by
    rw [← hW3]; simpa using alloc_at (W2.setCell ⟨w.heap.size, 2, none⟩ (.slice none 0 0)) (.cells #[.bool md.rd, .bool md.wr, .bool md.app, .int .i64 size, .bool lines] 32)
  have hbe3 : Below w.heap.size w W3 := by rw [← hW3]; exact (Hbe2.out.setCell (by simp) _).alloc (by simp; omega) _
  rw [hW3]
  generalize W2.heap.size = ob at ho3 ⊢
  clear hW3 c0 c1 c2' f2 d0 d1 d2 d3 d4 hz2 Hx2 Hy2 Hbe2
  have c0 : W3.cell? ⟨w.heap.size, 0, none⟩ = some (.slice a n c) := cell_of_row _ _ 0 _ _ _ hx3
  have c1 : W3.cell? ⟨w.heap.size, 1, none⟩ = some (.int .i64 max) := cell_of_row _ _ 1 _ _ _ hx3
  have c2' : W3.cell? ⟨w.heap.size, 2, none⟩ = some (.slice none 0 0) := cell_of_row _ _ 2 _ _ _ hx3
  have d0 : W3.cell? ⟨w.heap.size + 1, 0, none⟩ = some (.bool md.rd) := cell_of_row _ _ 0 _ _ _ hy3
  have d1 : W3.cell? ⟨w.heap.size + 1, 1, none⟩ = some (.bool md.wr) := cell_of_row _ _ 1 _ _ _ hy3
  have d2 : W3.cell? ⟨w.heap.size + 1, 2, none⟩ = some (.bool md.app) := cell_of_row _ _ 2 _ _ _ hy3
  have d3 : W3.cell? ⟨w.heap.size + 1, 3, none⟩ = some (.int .i64 md.size) := cell_of_row _ _ 3 _ _ _ hy3
  have d4 : W3.cell? ⟨w.heap.size + 1, 4, none⟩ = some (.bool md.lines) := cell_of_row _ _ 4 _ _ _ hy3
  have hlx := (Array.getElem?_eq_some_iff.1 hx3).1
  have hlo := (Array.getElem?_eq_some_iff.1 ho3).1
  have hd3 := Hd.out.law hbe3
  have Hop1 := Lib.hid (open_calls W3 _ a none n c 0 0 max data [] md hd3 (Rd.nil _ _ _) (by decide))
  have Hx3 := Lib.hid hx3
  have Ho3 := Lib.hid ho3
  have Hbe3 := Lib.hid hbe3
  clear hx3 hy3 ho3 hbe3 hd3
  go_wp2_with fail
  refine Calls.mono Hop1.out ?_
  clear Hop1 c0 c1 c2' d0 d1 d2 d3 d4
  rintro e W4 hop1
  have hb4 : Below W3.heap.size W3 W4 := by
    rcases hop1 with ⟨_, _, hb⟩ | ⟨_, bs, own, _, _, _, hb⟩
    · exact hb
    · exact hb
  have hbe4 := Hbe3.out.trans (hb4.mono Hbe3.out.size)
  have hx4 := (hb4.block _ hlx).trans Hx3.out
  have ho4 := (hb4.block _ hlo).trans Ho3.out
  have c0 : W4.cell? ⟨w.heap.size, 0, none⟩ = some (.slice a n c) := cell_of_row _ _ 0 _ _ _ hx4
  have c1 : W4.cell? ⟨w.heap.size, 1, none⟩ = some (.int .i64 max) := cell_of_row _ _ 1 _ _ _ hx4
  have c2' : W4.cell? ⟨w.heap.size, 2, none⟩ = some (.slice none 0 0) := cell_of_row _ _ 2 _ _ _ hx4
  have d0 : W4.cell? ⟨ob, 0, none⟩ = some (.bool md.rd) := cell_of_row _ _ 0 _ _ _ ho4
  have d1 : W4.cell? ⟨ob, 1, none⟩ = some (.bool md.wr) := cell_of_row _ _ 1 _ _ _ ho4
  have d2 : W4.cell? ⟨ob, 2, none⟩ = some (.bool md.app) := cell_of_row _ _ 2 _ _ _ ho4
  have d3 : W4.cell? ⟨ob, 3, none⟩ = some (.int .i64 size) := cell_of_row _ _ 3 _ _ _ ho4
  have d4 : W4.cell? ⟨ob, 4, none⟩ = some (.bool lines) := cell_of_row _ _ 4 _ _ _ ho4
  have Hop2 := Lib.hid (open_calls W4 _ a none n c 0 0 max data [] ⟨md.rd, md.wr, md.app, size, lines⟩ (Hd.out.law hbe4) (Rd.nil _ _ _) (by decide))
  have Hbe4 := Lib.hid hbe4
  have Hb4 := Lib.hid hb4
  clear hx4 ho4 hbe4 hb4 Hx3 Ho3 hlx hlo
  rcases hop1 with ⟨_, rfl, -⟩ | ⟨hr1, bs1, own1, rfl, hs1, hown1, -⟩
  · go_wp2_with fail
    refine Calls.mono Hop2.out ?_
    rintro e W5 (⟨_, rfl, hb5⟩ | ⟨hr, bs, own, rfl, -, -, hb5⟩)
    · have Hfin := Lib.hid (Hbe4.out.trans (hb5.mono Hbe4.out.size))
      clear hb5
      go_wp2_with fail
      go_ret
      exact ⟨rfl, Hfin.out⟩
    · have Hfin := Lib.hid (Hbe4.out.trans (hb5.mono Hbe4.out.size))
      clear hb5
      go_wp2_with fail
      go_ret
      exact ⟨rfl, Hfin.out⟩
  · have Hs1 := Lib.hid hs1
    have Hown1 := Lib.hid hown1
    have Hr1 := Lib.hid hr1
    clear hs1 hown1 hr1
    go_wp2_with fail
    refine Calls.mono Hop2.out ?_
    rintro e W5 (⟨_, rfl, hb5⟩ | ⟨hr2, bs2, own2, rfl, ⟨m2, ht⟩, hown2, hb5⟩)
    · have Hfin := Lib.hid (Hbe4.out.trans (hb5.mono Hbe4.out.size))
      clear hb5
      go_wp2_with fail
      go_ret
      exact ⟨rfl, Hfin.out⟩
    obtain ⟨m1, hs⟩ := Hs1.out
    have d5 : Duo w W5 own1 bs1 (St.fresh data max [] md) m1 own2 bs2 (St.fresh data max [] ⟨md.rd, md.wr, md.app, size, lines⟩) m2 :=
      ⟨hs.below hb5, ht, fun k h1 h2 => by have := hs.lt k h1; have := hown2 k h2; omega, fun k hk => Nat.le_trans Hbe3.out.size (Hown1.out k hk), fun k hk => Nat.le_trans Hbe4.out.size (hown2 k hk), Hbe4.out.trans (hb5.mono Hbe4.out.size)⟩
    have hal := fresh_alike Hr1.out hr2
    have D5 := Lib.hid d5
    have Hal := Lib.hid hal
    clear hr2 ht hown2 hb5 hs d5 hal Hs1 Hown1 Hop2 c0 c1 c2' d0 d1 d2 d3 d4 Hbe3 Hb4 Hbe4 Hr1
    go_wp2_with fail
    have HS : Hid (BufAt w bs1 bs2 0 (.int .i64 0) W5) := Lib.hid ⟨_, _, _, _, _, _, rfl, D5.out, Hal.out⟩
    clear D5 Hal
    go_loopg [17] nl (fun g i wr => ∃ k : Nat, k + g = nl ∧ BufAt w bs1 bs2 k i wr)
    case atStart => exact ⟨0, by omega, HS.out⟩
    case round =>
      obtain ⟨k, hkg, own1', m1', S, own2', m2', T, rfl, hD, hA⟩ := hrel
      have HD := Lib.hid hD
      have HA := Lib.hid hA
      have Hkg := Lib.hid hkg
      have hk16 : k ≤ nl := by omega
      clear hD hA hkg HS
      by_cases hlt : k < nl
      · obtain ⟨b, off, rfl, hb, hat⟩ := (Hl.out.below (Nat.le_refl _) HD.out.be).2 (by omega)
        obtain ⟨x, hx⟩ : ∃ x, l[k]? = some x := ⟨_, List.getElem?_eq_getElem (by have := Hl.out.1; omega)⟩
        obtain ⟨k0, k1, k2, ab, nb, cb, k3, hrd⟩ := hat k x hx
        have Hrd := Lib.hid hrd
        clear hx hrd hat
        obtain ⟨kd, xn, xw, xb⟩ := x
        simp only at k0 k1 k2 Hrd
        obtain ⟨gn, gb, ge, hga⟩ : ∃ gn gb ge, (S.act ⟨kd, xn, xw, xb⟩).1 = ⟨gn, gb, ge⟩ := ⟨_, _, _, rfl⟩
        obtain ⟨qn, qb, qe, hqa⟩ : ∃ gn gb ge, (T.act ⟨kd, xn, xw, xb⟩).1 = ⟨gn, gb, ge⟩ := ⟨_, _, _, rfl⟩
        obtain ⟨v, hsS, hsT, -, -⟩ := HA.out
        have Hdo1 := Lib.hid (do_calls HD.out.l hsS.ok kd xn xw _ (fun k hk e => by have := HD.out.b1 k e; omega) ab nb cb xb Hrd.out)
        have HokT := Lib.hid hsT.ok
        have Hga := Lib.hid hga
        have Hqa := Lib.hid hqa
        have hbw : b < wr.heap.size := Nat.lt_of_lt_of_le hb HD.out.be.size
        clear hga hqa hsS hsT
        go_wp2_with fail
        refine Calls.mono Hdo1.out ?_
        rintro e W6 ⟨he, own3, m3, h6, f6⟩
        rw [Hga.out] at he
        change e = .returned (.agg #[.int .i64 gn, .string ⟨gb.toArray⟩, .int .i64 ge]) at he
        subst he
        have D6 := HD.out.left h6 f6
        have D7 := D6.below ((Below.refl _ W6).alloc (Nat.le_refl _) (.cells #[.int .i64 gn, .string ⟨gb.toArray⟩, .int .i64 ge] 55))
        have hb7 : Below w.heap.size wr (W6.alloc (.cells #[.int .i64 gn, .string ⟨gb.toArray⟩, .int .i64 ge] 55)) := ⟨f6.os, f6.tape, f6.output, by simp; have := f6.size; omega, fun k hk => (Below.heap_alloc _ _ _ (by have := D6.be.size; omega)).trans (f6.keep k (by have := HD.out.be.size; omega) (fun e => by have := HD.out.b1 k e; omega))⟩
        have j0 := (hb7.cell (p := ⟨b, off + k * 4, none⟩) hb).trans k0
        have j1 := (hb7.cell (p := ⟨b, off + k * 4 + 1, none⟩) hb).trans k1
        have j2 := (hb7.cell (p := ⟨b, off + k * 4 + 2, none⟩) hb).trans k2
        have j3 := (hb7.cell (p := ⟨b, off + k * 4 + 3, none⟩) hb).trans k3
        have HG7 := Lib.hid (show (W6.alloc (.cells #[.int .i64 gn, .string ⟨gb.toArray⟩, .int .i64 ge] 55)).heap[W6.heap.size]? = some (.cells #[.int .i64 gn, .string ⟨gb.toArray⟩, .int .i64 ge] 55 (0, 0)) from alloc_at W6 _)
        have hN6 : ∀ k, own2' k → k < W6.heap.size := D6.r.lt
        have Hdo2 := Lib.hid (do_calls D7.r HokT.out kd xn xw _ (fun k hk e => by have := D7.b2 k e; omega) ab nb cb xb (Hrd.out.keep (own' := fun b => b < w.heap.size) (fun b hb _ => hb7.block b hb) (fun _ h _ => h)))
        have HD7 := Lib.hid D7
        have HN6 := Lib.hid hN6
        clear h6 f6 D6 D7 hb7 k0 k1 k2 k3 hN6 Hdo1
        go_upto_region 16 with fail
        generalize hW7 : W6.alloc (.cells #[.int .i64 gn, .string ⟨gb.toArray⟩, .int .i64 ge] 55) = W7 at *
        have hz7 : W6.heap.size < W7.heap.size := by rw [← hW7]; simp
        clear hW7
        go_wp2_with fail
        refine Calls.mono Hdo2.out ?_
        rintro e W8 ⟨he, own4, m4, h8, f8⟩
        rw [Hqa.out] at he
        change e = .returned (.agg #[.int .i64 qn, .string ⟨qb.toArray⟩, .int .i64 qe]) at he
        subst he
        have D8 := HD7.out.right h8 f8
        have D9 := D8.below ((Below.refl _ W8).alloc (Nat.le_refl _) (.cells #[.int .i64 qn, .string ⟨qb.toArray⟩, .int .i64 qe] 55))
        have G8 := (f8.keep W6.heap.size hz7 (fun e => Nat.lt_irrefl _ (HN6.out _ e))).trans HG7.out
        have G9 : (W8.alloc (.cells #[.int .i64 qn, .string ⟨qb.toArray⟩, .int .i64 qe] 55)).heap[W6.heap.size]? = _ := (Below.heap_alloc _ _ _ (by have := f8.size; omega)).trans G8
        have K9 : (W8.alloc (.cells #[.int .i64 qn, .string ⟨qb.toArray⟩, .int .i64 qe] 55)).heap[W8.heap.size]? = some (.cells #[.int .i64 qn, .string ⟨qb.toArray⟩, .int .i64 qe] 55 (0, 0)) := alloc_at W8 _
        have HD9 := Lib.hid D9
        have HG9 := Lib.hid G9
        have HK9 := Lib.hid K9
        clear h8 f8 D8 D9 G8 G9 K9 Hdo2 HD7 HG7 HN6 j0 j1 j2 j3
        go_upto_region 17 with fail
        generalize W8.alloc (.cells #[.int .i64 qn, .string ⟨qb.toArray⟩, .int .i64 qe] 55) = W9 at *
        generalize W6.heap.size = g1 at *
        generalize W8.heap.size = g2 at *
        clear hz7
        have x0 := cell_of_row _ _ 0 _ _ _ HG9.out
        have x1 := cell_of_row _ _ 1 _ _ _ HG9.out
        have x2 := cell_of_row _ _ 2 _ _ _ HG9.out
        have y0 := cell_of_row _ _ 0 _ _ _ HK9.out
        have y1 := cell_of_row _ _ 1 _ _ _ HK9.out
        have y2 := cell_of_row _ _ 2 _ _ _ HK9.out
        by_cases e1 : ge = 14
        · subst e1
          go_wp2_with fail
          go_ret
          exact ⟨rfl, HD9.out.be⟩
        have e1' : (ge == 14) = false := by simpa using e1
        by_cases e2 : qe = 14
        · subst e2
          have E1 := Lib.hid e1
          clear e1
          go_wp2_with fail
          go_ret
          exact ⟨rfl, HD9.out.be⟩
        have e2' : (qe == 14) = false := by simpa using e2
        obtain ⟨hgq, hA2⟩ := HA.out.act ⟨kd, xn, xw, xb⟩ (by rw [Hga.out]; exact e1) (by rw [Hqa.out]; exact e2)
        rw [Hga.out, Hqa.out] at hgq
        injection hgq with q1 q2 q3
        subst q1 q2 q3
        have hmk := hA2.marks
        have Heo1 := Lib.hid (eof_calls HD9.out.l)
        have Heo2 := eof_calls HD9.out.r
        have Hfa1 := Lib.hid (failed_calls HD9.out.l)
        have Hfa2 := failed_calls HD9.out.r
        rw [← hmk.2.1] at Heo2
        rw [← hmk.2.2] at Hfa2
        have Heo2 := Lib.hid Heo2
        have Hfa2 := Lib.hid Hfa2
        have HS2 : Hid (BufAt w bs1 bs2 (k + 1) (.int .i64 ((k + 1 : Nat) : Int)) W9) := Lib.hid ⟨_, _, _, _, _, _, rfl, HD9.out, hA2⟩
        generalize ((S.act ⟨kd, xn, xw, xb⟩).2).endm = en at *
        generalize ((S.act ⟨kd, xn, xw, xb⟩).2).bad = ba at *
        clear e1 e2 hA2 hmk HG9 HK9 HD9 HA HokT Hga Hqa Hrd
        go_wp2_with fail
        refine Calls.mono Heo1.out ?_
        rintro e W10 ⟨rfl, h10⟩
        rw [← h10]
        clear h10
        go_wp2_with fail
        refine Calls.mono Heo2.out ?_
        rintro e W10 ⟨rfl, h10⟩
        rw [← h10]
        clear h10
        go_wp2_with fail
        refine Calls.mono Hfa1.out ?_
        rintro e W10 ⟨rfl, h10⟩
        rw [← h10]
        clear h10
        go_wp2_with fail
        refine Calls.mono Hfa2.out ?_
        rintro e W10 ⟨rfl, h10⟩
        rw [← h10]
        clear h10
        go_wp2_with fail
        go_roundg (gk - 1)
        case measure => have := Hkg.out; omega
        case rel => exact ⟨k + 1, by have := Hkg.out; omega, by rw [show ((k : Int) + 1) = ((k + 1 : Nat) : Int) by omega]; exact HS2.out⟩
      · obtain ⟨v, hsS, hsT, -, -⟩ := HA.out
        have Hf1 := Lib.hid (flush_calls ⟨m1', HD.out.l⟩ hsS.ok)
        have HokT := Lib.hid hsT.ok
        have Hok1 := Lib.hid (flush_ok' S hsS.ok)
        have Hok2 := Lib.hid (flush_ok' T hsT.ok)
        clear hsS hsT
        go_wp2_with fail
        refine Calls.mono Hf1.out ?_
        rintro e W6 ⟨rfl, own3, m3, h6, f6⟩
        have HD6 := Lib.hid (HD.out.left h6 f6)
        have Hf2 := Lib.hid (flush_calls ⟨m2', HD6.out.r⟩ HokT.out)
        clear h6 f6 Hf1
        go_wp2_with fail
        refine Calls.mono Hf2.out ?_
        rintro e W7 ⟨rfl, own4, m4, h7, f7⟩
        have HD7 := Lib.hid (HD6.out.right h7 f7)
        clear h7 f7 Hf2 HD6
        by_cases e1 : S.flush.1 = 14
        · rw [e1]
          go_wp2_with fail
          go_ret
          exact ⟨rfl, HD7.out.be⟩
        by_cases e2 : T.flush.1 = 14
        · rw [e2]
          go_wp2_with fail
          all_goals
            go_ret
            exact ⟨rfl, HD7.out.be⟩
        obtain ⟨q1, q2, q3, q4, q5⟩ := HA.out.flush e1 e2
        rw [← q1] at e2 ⊢
        have e1' : (S.flush.1 == 14) = false := by simpa using e1
        have Hde1 := Lib.hid (device_calls HD7.out.l Hok1.out (by rw [q4]; decide))
        have Q := Lib.hid (And.intro q2 (And.intro q3 (And.intro q4 q5)))
        clear q1 q2 q3 q4 q5 e1 e2
        generalize S.flush.1 = fe at *
        go_wp2_with fail
        refine Calls.mono Hde1.out ?_
        rintro e W8 ⟨a3, n3, c3, a4, n4, c4, rfl, hR3, hR4, hb8⟩
        rw [Q.out.2.2.1] at hR4
        have HD8 := Lib.hid (HD7.out.below hb8)
        have Hde2 := Lib.hid (device_calls HD8.out.r Hok2.out (by rw [Q.out.2.2.2]; decide))
        have HR3 := Lib.hid hR3.rd
        have HR4 := Lib.hid hR4.rd
        clear hR3 hR4 hb8 Hde1
        go_wp2_with fail
        refine Calls.mono Hde2.out ?_
        rintro e W9 ⟨a5, n5, c5, a6, n6, c6, rfl, hR5, hR6, hb9⟩
        rw [Q.out.2.2.2] at hR6
        rw [← Q.out.1] at hR5
        rw [← Q.out.2.1]
        have HD9 := Lib.hid (HD8.out.below hb9)
        have Hsm := Lib.hid (same_calls (max := S.flush.2.max) (HR3.out.keep (fun b hb hl => hb9.block b hl) (fun _ h _ => h)) (HR4.out.keep (fun b hb hl => hb9.block b hl) (fun _ h _ => h)) hR5.rd hR6.rd)
        clear hR5 hR6 hb9 Hde2 HR3 HR4
        go_wp2_with fail
        refine Calls.mono Hsm.out ?_
        rintro e W10 ⟨rfl, hb10⟩
        have Hfin := Lib.hid (HD9.out.below hb10).be
        clear hb10
        go_wp2_with fail
        go_ret
        exact ⟨rfl, Hfin.out⟩
end Go.Proofs.Ytgihclflndlomaa
