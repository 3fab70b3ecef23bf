/- StreamTells: the walk. -/
import Derived.Test.YtgihclflndlomaaAo
import Derived.Test.YtgihclflndlomaaBs
import Derived.Test.YtgihclflndlomaaBt
import Derived.Test.YtgihclflndlomaaBd
namespace Go.Proofs.Ytgihclflndlomaa
open Go.RowKit

/-- Between the rounds. -/
def TellsAt (w : World) (dv : Array Value) (bs : Nat) (k : Nat) (i : Value) (W : World) : Prop :=
  ∃ own m S, i = .int .i64 (k : Int) ∧ Lw w W dv own bs S m ∧ S.Still

/-- What the law compares. -/
theorem tells_num {S : St} {kd xn xw : Int} {xb : List UInt8} {p f gn ge q h : Int} {gb : List UInt8} (hst : S.Still) (hpf : S.tell = (p, f)) (hga : (S.act ⟨kd, xn, xw, xb⟩).1 = ⟨gn, gb, ge⟩) (hqh : (S.act ⟨kd, xn, xw, xb⟩).2.tell = (q, h))
    (hk : kd = 0 ∨ kd = 1 ∨ kd = 5) (hr : TellRel S ⟨kd, xn, xw, xb⟩) : (f = 0 ∨ f = 4) ∧ 0 ≤ p ∧ p ≤ 1048576 ∧ (f = 0 → ge = 0 → (kd = 0 ∧ h = 0 ∧ q = p + 1) ∨ (kd = 1 ∧ 0 < p ∧ h = 0 ∧ q = p - 1) ∨ (kd = 1 ∧ p = 0 ∧ h = 4) ∨ kd = 5) := by
  obtain ⟨h1, h2, h3⟩ := hr
  simp only at h2 h3
  rw [hga] at h2 h3
  simp only at h2 h3
  rw [hst.tell] at hpf
  rw [h1.tell] at hqh
  have hle : S.tellAt ≤ S.pos := by unfold St.tellAt; rw [hst.wt]; simp; omega
  have hp1 := hst.ok.pos1
  have hm1 := hst.ok.max1
  generalize (S.act ⟨kd, xn, xw, xb⟩).2.tellAt = v at *
  generalize S.tellAt = u at *
  by_cases hu : u < 0
  · rw [if_pos hu] at hpf
    injection hpf with a b
    refine ⟨.inr b.symm, by omega, by omega, fun e => by omega⟩
  · rw [if_neg hu] at hpf
    injection hpf with a b
    refine ⟨.inl b.symm, by omega, by omega, fun _ e1 => ?_⟩
    rcases hk with e2 | e2 | e2
    · have h4 := h2 e2 e1
      rw [if_neg (by omega)] at hqh
      injection hqh with c d
      exact .inl ⟨e2, by omega, by omega⟩
    · have h4 := h3 e2 e1
      by_cases hv : v < 0
      · rw [if_pos hv] at hqh
        injection hqh with c d
        exact .inr (.inr (.inl ⟨e2, by omega, by omega⟩))
      · rw [if_neg hv] at hqh
        injection hqh with c d
        exact .inr (.inl ⟨e2, by omega, by omega, by omega⟩)
    · exact .inr (.inr (.inr e2))

set_option maxRecDepth 100000 in
set_option maxHeartbeats 8000000 in
theorem tells_calls (w : World) (a a2 : Option Addr) (n c n2 c2 : Nat) (max size : Int) (al : Option Addr) (nl cl : Nat) (data : List UInt8) (l : List Ac)
    (hd : Rd w (fun b => b < w.heap.size) byteV (.slice a n c) data) (hl : Acts w w.heap.size al nl l) (hm : nl ≤ maxLen) :
    Calls Try.prog 9 #[.agg #[.slice a n c, .int .i64 max, .slice a2 n2 c2], .int .i64 size, .slice al nl cl] w fun e w' => e = .returned (.bool true) ∧ Below w.heap.size w w' := by
  go_enter Try.func9, Try.ntmps9
  go_wp2_with fail
  refine (sane_calls _).mono ?_
  rintro e W1 ⟨rfl, hb1⟩
  have hz1 : w.heap.size < W1.heap.size := by have := hb1.size; simp at this; omega
  have hx1 : W1.heap[w.heap.size]? = some (.cells #[.slice a n c, .int .i64 max, .slice a2 n2 c2] 25 (0, 0)) := (hb1.block _ (by simp)).trans (alloc_at w _)
  have hx2 : (W1.setCell ⟨w.heap.size, 2, none⟩ (.slice none 0 0)).heap[w.heap.size]? = some (.cells #[.slice a n c, .int .i64 max, .slice none 0 0] 25 (0, 0)) := heap_setCell_same W1 w.heap.size 2 _ _ _ hx1
  have hbe : Below w.heap.size w (W1.setCell ⟨w.heap.size, 2, none⟩ (.slice none 0 0)) := (((Below.refl _ w).alloc (Nat.le_refl _) _).trans (hb1.mono (by simp))).setCell (by simp) _
  have c0 : W1.cell? ⟨w.heap.size, 0, none⟩ = some (.slice a n c) := cell_of_row _ _ 0 _ _ _ hx1
  have c1 : W1.cell? ⟨w.heap.size, 1, none⟩ = some (.int .i64 max) := cell_of_row _ _ 1 _ _ _ hx1
  have c2' : W1.cell? ⟨w.heap.size, 2, none⟩ = some (.slice a2 n2 c2) := cell_of_row _ _ 2 _ _ _ hx1
  have f2 : W1.frozen? ⟨w.heap.size, 2, none⟩ = false := frozen_of_row _ _ 2 _ _ hx1
  have Hx2 := Lib.hid hx2
  have Hbe := Lib.hid hbe
  clear hb1 hx1 hx2 hbe
  go_wp2_with fail
  obtain ⟨W2, hW2⟩ : ∃ W2, W1.setCell ⟨w.heap.size, 2, none⟩ (.slice none 0 0) = W2 := ⟨_, rfl⟩
  have hx2 := Hx2.out
  have hbe := Hbe.out
  rw [hW2] at hx2 hbe ⊢
  clear Hx2 Hbe hW2 c0 c1 c2' f2 hz1
  have hd2 := hd.law hbe
  have hn := (rd_len hd).1
  refine (open_calls W2 _ a none n c 0 0 max data [] ⟨true, true, false, size, false⟩ hd2 (Rd.nil _ _ _) (by decide)).mono ?_
  rintro e W3 (⟨hr, rfl, hb3⟩ | ⟨hr, bs, own, rfl, ⟨m, hs⟩, hown, hb3⟩)
  · clear hr
    have Hfin := Lib.hid (hbe.trans (hb3.mono hbe.size))
    clear hbe hb3 hd2 hx2 hn
    go_wp2_with fail
    go_ret
    exact ⟨rfl, Hfin.out⟩
  · have hL : Lw w W3 #[.slice a n c, .int .i64 max, .slice none 0 0] own bs (St.fresh data max [] ⟨true, true, false, size, false⟩) m := ⟨hs, fun k hk => Nat.lt_of_lt_of_le (Array.getElem?_eq_some_iff.1 hx2).1 (hown k hk), hbe.trans (hb3.mono hbe.size), (hb3.block _ (Array.getElem?_eq_some_iff.1 hx2).1).trans hx2⟩
    have c0 := hL.box 0
    have c1 := hL.box 1
    have c2' := hL.box 2
    have HL := Lib.hid hL
    have Hr := Lib.hid hr
    have Hl := Lib.hid hl
    have Hsm := Lib.hid (small_calls W3 w.heap.size (Nat.le_of_lt hL.lt) a none n c 0 0 max al nl cl data [] l hn rfl (hl.below (Nat.le_refl _) hL.be) hm)
    unfold maxLen at hm
    clear hs hown hb3 hbe hx2 hd2 hL hr hn hl
    go_wp2_with fail
    refine Calls.mono Hsm.out ?_
    rintro e W4 ⟨r, rfl, -, hb4⟩
    have L4 := HL.out.below hb4
    have HL4 := Lib.hid L4
    clear hb4 L4 HL Hsm
    cases r
    · go_wp2_with fail
      go_ret
      exact ⟨rfl, HL4.out.be⟩
    have HS4 : Hid (TellsAt w #[.slice a n c, .int .i64 max, .slice none 0 0] bs 0 (.int .i64 0) W4) := Lib.hid ⟨_, _, _, rfl, HL4.out, fresh_ok Hr.out, rfl, rfl, rfl, rfl⟩
    clear HL4 Hr c0 c1 c2'
    go_wp2_with fail
    go_loopg [10] nl (fun g i wr => ∃ k : Nat, k + g = nl ∧ TellsAt w #[.slice a n c, .int .i64 max, .slice none 0 0] bs k i wr)
    case atStart => exact ⟨0, by omega, HS4.out⟩
    case round =>
      obtain ⟨k, hkg, own, m, S, rfl, hL, hst⟩ := hrel
      have HL := Lib.hid hL
      have Hst := Lib.hid hst
      have Hkg := Lib.hid hkg
      have hk16 : k ≤ nl := by omega
      clear hL hst hkg HS4
      by_cases hlt : k < nl
      · obtain ⟨b, off, rfl, hb, hat⟩ := (Hl.out.below (Nat.le_refl _) HL.out.be).2 (by omega)
        obtain ⟨x, hx⟩ : ∃ x, l[k]? = some x := ⟨_, List.getElem?_eq_getElem (by have := Hl.out.1; omega)⟩
        obtain ⟨k0, k1, k2, ab, nb, cb, k3, hrd⟩ := hat k x hx
        have Hrd := Lib.hid hrd
        clear hx hrd hat
        obtain ⟨kd, xn, xw, xb⟩ := x
        simp only at k0 k1 k2 Hrd
        have kinds : (kd < 0 ∨ 8 < kd ∨ kd = 2 ∨ kd = 3 ∨ kd = 4 ∨ kd = 6 ∨ kd = 7 ∨ kd = 8) ∨ (kd = 0 ∨ kd = 1 ∨ kd = 5) := by omega
        rcases kinds with hk | hk
        · have e0 : (kd != 0) = true := by simp; omega
          have e1 : (kd != 1) = true := by simp; omega
          have e5 : (kd != 5) = true := by simp; omega
          clear hk
          have Hal := Lib.hid (HL.out.below ((Below.refl _ wr).alloc (Nat.le_refl _) (.cells #[.int .i64 kd, .int .i64 xn, .int .i64 xw, .slice ab nb cb] 58)))
          go_wp2_with fail
          go_roundg (gk - 1)
          case measure => have := Hkg.out; omega
          case rel => exact ⟨k + 1, by have := Hkg.out; omega, own, m, S, by rw [show ((k : Int) + 1) = ((k + 1 : Nat) : Int) by omega], Hal.out, Hst.out⟩
        · obtain ⟨p, f, hpf⟩ : ∃ p f, S.tell = (p, f) := ⟨_, _, rfl⟩
          obtain ⟨gn, gb, ge, hga⟩ : ∃ gn gb ge, (S.act ⟨kd, xn, xw, xb⟩).1 = ⟨gn, gb, ge⟩ := ⟨_, _, _, rfl⟩
          obtain ⟨q, h, hqh⟩ : ∃ q h, (S.act ⟨kd, xn, xw, xb⟩).2.tell = (q, h) := ⟨_, _, rfl⟩
          have hrel := tellRel S Hst.out ⟨kd, xn, xw, xb⟩ hk
          have hR : (f = 0 ∨ f = 4) ∧ 0 ≤ p ∧ p ≤ 1048576 ∧ (f = 0 → ge = 0 → (kd = 0 ∧ h = 0 ∧ q = p + 1) ∨ (kd = 1 ∧ 0 < p ∧ h = 0 ∧ q = p - 1) ∨ (kd = 1 ∧ p = 0 ∧ h = 4) ∨ kd = 5) := tells_num Hst.out hpf hga hqh hk hrel
          have Hst2 := Lib.hid hrel.1
          have Hk := Lib.hid hk
          have HR := Lib.hid hR
          have Hpf := Lib.hid hpf
          have Hga := Lib.hid hga
          have Hqh := Lib.hid hqh
          clear hpf hga hqh hrel hR hk
          have hz : w.heap.size < wr.heap.size := HL.out.lt
          have hLx := HL.out.below ((Below.refl _ wr).alloc (Nat.le_refl _) (.cells #[.int .i64 kd, .int .i64 xn, .int .i64 xw, .slice ab nb cb] 58))
          have Hblk := Lib.hid (show (wr.alloc (.cells #[.int .i64 kd, .int .i64 xn, .int .i64 xw, .slice ab nb cb] 58)).heap[wr.heap.size]? = some (.cells #[.int .i64 kd, .int .i64 xn, .int .i64 xw, .slice ab nb cb] 58 (0, 0)) from alloc_at wr _)
          have Ht := tell_calls ⟨m, hLx.l⟩ Hst.out.ok
          rw [Hpf.out] at Ht
          have Ht := Lib.hid Ht
          have HLx := Lib.hid hLx
          clear hLx
          have Hdoa := Lib.hid (fun W5 own5 m5 (L5 : Lw w W5 #[.slice a n c, .int .i64 max, .slice none 0 0] own5 bs S m5) =>
            do_calls L5.l Hst.out.ok kd xn xw _ (fun k hk e => by have := L5.b1 k e; omega) ab nb cb xb (Hrd.out.keep (own' := fun b => b < w.heap.size) (fun b hb _ => (L5.be.block b hb).trans (HL.out.be.block b hb).symm) (fun _ h _ => h)))
          rcases Hk.out with rfl | rfl | rfl
          all_goals
            go_wp2_with fail
            refine Calls.mono Ht.out ?_
            rintro e W5 ⟨rfl, own5, m5, h5, f5⟩
            have L5 := HLx.out.step h5 f5
            have B5 := (f5.keep wr.heap.size (by simp) (fun e => by have := HL.out.l.lt _ e; omega)).trans Hblk.out
            have x0 := cell_of_row _ _ 0 _ _ _ B5
            have x1 := cell_of_row _ _ 1 _ _ _ B5
            have x2 := cell_of_row _ _ 2 _ _ _ B5
            have x3 := cell_of_row _ _ 3 _ _ _ B5
            have N5 : ¬ own5 wr.heap.size := fun e => (f5.new _ e).elim (fun e => by have := HL.out.l.lt _ e; omega) (fun e => by rw [World.size_alloc] at e; omega)
            have Hdo := Lib.hid (Hdoa.out _ _ _ L5)
            have HL5 := Lib.hid L5
            have HB5 := Lib.hid B5
            have Hlt5 := Lib.hid (Array.getElem?_eq_some_iff.1 B5).1
            clear h5 f5 L5 B5
            go_wp2_with fail
            refine Calls.mono Hdo.out ?_
            rintro e W6 ⟨he, own6, m6, h6, f6⟩
            rw [Hga.out] at he
            change e = .returned (.agg #[.int .i64 gn, .string ⟨gb.toArray⟩, .int .i64 ge]) at he
            subst he
            have L6 := HL5.out.step h6 f6
            have B6 := (f6.keep wr.heap.size Hlt5.out N5).trans HB5.out
            have N6 : ¬ own6 wr.heap.size := fun e => (f6.new _ e).elim N5 (fun e => by have := Hlt5.out; omega)
            have Hlt6 := Lib.hid (Array.getElem?_eq_some_iff.1 B6).1
            have L7 := L6.below ((Below.refl _ W6).alloc (Nat.le_refl _) (.cells #[.int .i64 gn, .string ⟨gb.toArray⟩, .int .i64 ge] 55))
            have B7 := (Below.heap_alloc W6 (.cells #[.int .i64 gn, .string ⟨gb.toArray⟩, .int .i64 ge] 55) _ Hlt6.out).trans B6
            have G7 : (W6.alloc (.cells #[.int .i64 gn, .string ⟨gb.toArray⟩, .int .i64 ge] 55)).heap[W6.heap.size]? = some (.cells #[.int .i64 gn, .string ⟨gb.toArray⟩, .int .i64 ge] 55 (0, 0)) := alloc_at W6 _
            have Ht7 := tell_calls ⟨m6, L7.l⟩ Hst2.out.ok
            rw [Hqh.out] at Ht7
            have Ht7 := Lib.hid Ht7
            have NG : ¬ own6 W6.heap.size := fun e => by have := L6.l.lt _ e; omega
            have HL7 := Lib.hid L7
            have HB7 := Lib.hid B7
            have HG7 := Lib.hid G7
            clear L6 B6 L7 B7 G7 h6 f6 x0 x1 x2 x3 HL5 HB5 Hdo
            go_wp2_with fail
            refine Calls.mono Ht7.out ?_
            rintro e W8 ⟨rfl, own8, m8, h8, f8⟩
            have L8 := HL7.out.step h8 f8
            have x0 := cell_of_row _ _ 0 _ _ _ ((f8.keep wr.heap.size (Array.getElem?_eq_some_iff.1 HB7.out).1 N6).trans HB7.out)
            have g2 := cell_of_row _ _ 2 _ _ _ ((f8.keep W6.heap.size (Array.getElem?_eq_some_iff.1 HG7.out).1 NG).trans HG7.out)
            have HT8 : Hid (TellsAt w #[.slice a n c, .int .i64 max, .slice none 0 0] bs (k + 1) (.int .i64 ((k + 1 : Nat) : Int)) W8) := Lib.hid ⟨_, _, _, rfl, L8, Hst2.out⟩
            clear h8 f8 L8 HL7 HB7 HG7 Ht7
            obtain ⟨r1, r2, r3, r4⟩ := HR.out
            rcases r1 with rfl | rfl
            · by_cases hge : ge = 0
              · subst hge
                rcases r4 rfl rfl with ⟨h1, rfl, rfl⟩ | ⟨h1, hp, rfl, rfl⟩ | ⟨h1, rfl, rfl⟩ | h1
                all_goals (first | (exfalso; revert h1; decide) | skip)
                all_goals
                  clear r4 h1 HR
                  go_wp2_with fail
                all_goals
                  go_roundg (gk - 1)
                  case measure => have := Hkg.out; omega
                  case rel => exact ⟨k + 1, by have := Hkg.out; omega, by rw [show ((k : Int) + 1) = ((k + 1 : Nat) : Int) by omega]; exact HT8.out⟩
              · have b1 : (ge == 0) = false := by simpa using hge
                have HGE := Lib.hid hge
                clear hge r4
                go_wp2_with fail
                all_goals
                  go_roundg (gk - 1)
                  case measure => have := Hkg.out; omega
                  case rel => exact ⟨k + 1, by have := Hkg.out; omega, by rw [show ((k : Int) + 1) = ((k + 1 : Nat) : Int) by omega]; exact HT8.out⟩
            · clear r4
              go_wp2_with fail
              all_goals
                go_roundg (gk - 1)
                case measure => have := Hkg.out; omega
                case rel => exact ⟨k + 1, by have := Hkg.out; omega, by rw [show ((k : Int) + 1) = ((k + 1 : Nat) : Int) by omega]; exact HT8.out⟩
      · have hz : w.heap.size < wr.heap.size := HL.out.lt
        by_cases ht : S.tellAt < 0
        · have hte : S.tell = (0, 4) := by rw [Hst.out.tell, if_pos ht]
          have Ht := tell_calls ⟨m, HL.out.l⟩ Hst.out.ok
          rw [hte] at Ht
          have Ht := Lib.hid Ht
          clear hte ht
          go_wp2_with fail
          refine Calls.mono Ht.out ?_
          rintro e W5 ⟨rfl, own5, m5, h5, f5⟩
          have HL5 := Lib.hid (HL.out.step h5 f5)
          clear h5 f5
          go_wp2_with fail
          go_ret
          exact ⟨rfl, HL5.out.be⟩
        · have hte : S.tell = (S.tellAt, 0) := by rw [Hst.out.tell, if_neg ht]
          obtain ⟨S1, r, hs1, hok1, hr1, hok2, hs2⟩ := tells_back S Hst.out (by omega)
          obtain ⟨rb, re, S2⟩ := r
          simp only at hok2 hs2
          have Hs1 := Lib.hid hs1
          have Hr1 := Lib.hid hr1
          have Hs2 := Lib.hid hs2
          have Hok := Lib.hid (And.intro hok1 hok2)
          generalize S.tellAt = p at *
          have Ht := tell_calls ⟨m, HL.out.l⟩ Hst.out.ok
          rw [hte] at Ht
          have Ht := Lib.hid Ht
          clear hte ht hs1 hr1 hs2 hok1 hok2
          go_wp2_with fail
          refine Calls.mono Ht.out ?_
          rintro e W5 ⟨rfl, own5, m5, h5, f5⟩
          have HL5 := Lib.hid (HL.out.step h5 f5)
          have Hsk := seek_calls ⟨m5, h5⟩ Hst.out.ok 0 1
          rw [Hs1.out] at Hsk
          have Hsk := Lib.hid Hsk
          clear h5 f5
          go_wp2_with fail
          refine Calls.mono Hsk.out ?_
          rintro e W6 ⟨rfl, own6, m6, h6, f6⟩
          have HL6 := Lib.hid (HL5.out.step h6 f6)
          have Hrd := Lib.hid (read_calls ⟨m6, h6⟩ Hok.out.1 50)
          clear h6 f6
          go_wp2_with fail
          refine Calls.mono Hrd.out ?_
          rintro e W7 ⟨a7, n7, c7, own7, m7, rfl, h7, f7, hrow7⟩
          rw [Hr1.out] at h7 hrow7 ⊢
          have HL7 := Lib.hid (HL6.out.step h7 f7)
          have HR7 := Lib.hid (hrow7.mine (w := w) HL6.out.lt)
          have Hsk2 := seek_calls ⟨m7, h7⟩ Hok.out.2 p 0
          rw [Hs2.out] at Hsk2
          have Hsk2 := Lib.hid Hsk2
          clear h7 f7 hrow7
          go_wp2_with fail
          refine Calls.mono Hsk2.out ?_
          rintro e W8 ⟨rfl, own8, m8, h8, f8⟩
          have HL8 := Lib.hid (HL7.out.step h8 f8)
          have HR8 := Lib.hid (HR7.out.step f8)
          have Hrd2 := Lib.hid (read_calls ⟨m8, h8⟩ Hok.out.1 50)
          clear h8 f8
          go_wp2_with fail
          refine Calls.mono Hrd2.out ?_
          rintro e W9 ⟨a9, n9, c9, own9, m9, rfl, h9, f9, hrow9⟩
          rw [Hr1.out] at h9 hrow9 ⊢
          have HL9 := Lib.hid (HL8.out.step h9 f9)
          have HR9 := HR8.out.step f9
          have kA : (convert 22 9 (.slice a7 n7 c7)).run Try.prog W9 = .ok (.string ⟨rb.toArray⟩) W9 := conv_str HR9.rd
          have kB : (convert 22 9 (.slice a9 n9 c9)).run Try.prog W9 = .ok (.string ⟨rb.toArray⟩) W9 := conv_str hrow9.rd
          clear h9 f9 hrow9 HR9
          go_wp2_with fail
          go_ret
          exact ⟨rfl, HL9.out.be⟩
end Go.Proofs.Ytgihclflndlomaa
