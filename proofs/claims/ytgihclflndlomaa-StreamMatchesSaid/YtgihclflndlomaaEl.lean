/- StreamMatches: the walk. -/
import Derived.Test.YtgihclflndlomaaEk
import Derived.Test.YtgihclflndlomaaDf
import Derived.Test.YtgihclflndlomaaBs
namespace Go.Proofs.Ytgihclflndlomaa
open Go.RowKit

/-- What is held is strengthened on the way. -/
theorem wpAnyH_more {P : Program} {md : Region.Mode} {ops : Array Oper} {Q : Exit → Act → World → Prop} {S S' : World → Prop} (hS : ∀ w, S' w → S w) : ∀ {fuel : Nat} {listed : Array Bool} {a : Act} {w : World},
    wpAnyH P md ops Q S' fuel listed a w → wpAnyH P md ops Q S fuel listed a w
  | 0, _, _, _, h => h
  | _ + 1, _, _, _, h => ⟨h.1, fun i hi => wpOp_mono (fun _ _ h' => ⟨hS _ h'.1, wpAnyH_more hS h'.2⟩) (h.2 i hi)⟩

/-- A stream and a reference stream that lie apart, in memory that a call has made. -/
structure Pair (w W : World) (own1 : Nat → Prop) (bs1 : Nat) (S : St) (m1 : Mem) (own2 : Nat → Prop) (bs2 : Nat) (T : St) (m2 : RMem) : Prop where
  l : SAtM W own1 bs1 S m1
  r : RAtM W own2 bs2 T m2
  ap : Apart own1 own2
  b1 : ∀ k, own1 k → w.heap.size ≤ k
  b2 : ∀ k, own2 k → w.heap.size ≤ k
  be : Below w.heap.size w W

section
variable {w W W' : World} {own1 own1' own2 own2' : Nat → Prop} {bs1 bs2 : Nat} {S S' T T' : St} {m1 m1' : Mem} {m2 m2' : RMem}
theorem Pair.left (d : Pair w W own1 bs1 S m1 own2 bs2 T m2) (h : SAtM W' own1' bs1 S' m1') (f : Fr W W' own1 own1') : Pair w W' own1' bs1 S' m1' own2 bs2 T m2 where
  l := h
  r := d.r.keep f.size (fun b hb => f.keep b (d.r.lt b hb) (fun e => d.ap b e hb))
  ap := fun k hk e => (f.new k hk).elim (fun e2 => d.ap k e2 e) (fun e2 => by have := d.r.lt k e; omega)
  b1 := fun k hk => (f.new k hk).elim (d.b1 k) (fun e => by have := d.be.size; omega)
  b2 := d.b2
  be := d.be.trans (f.below d.be.size d.b1)
theorem Pair.right (d : Pair w W own1 bs1 S m1 own2 bs2 T m2) (h : RAtM W' own2' bs2 T' m2') (f : Fr W W' own2 own2') : Pair w W' own1 bs1 S m1 own2' bs2 T' m2' where
  l := d.l.keep f.size (fun b hb => f.keep b (d.l.lt b hb) (fun e => d.ap b hb e))
  r := h
  ap := fun k hk e => (f.new k e).elim (fun e2 => d.ap k hk e2) (fun e2 => by have := d.l.lt k hk; omega)
  b1 := d.b1
  b2 := fun k hk => (f.new k hk).elim (d.b2 k) (fun e => by have := d.be.size; omega)
  be := d.be.trans (f.below d.be.size d.b2)
theorem Pair.below (d : Pair w W own1 bs1 S m1 own2 bs2 T m2) (h : Below W.heap.size W W') : Pair w W' own1 bs1 S m1 own2 bs2 T m2 :=
  ⟨d.l.below h, d.r.below h, d.ap, d.b1, d.b2, d.be.trans (h.mono d.be.size)⟩
theorem Pair.drewN (d : Pair w W own1 bs1 S m1 own2 bs2 T m2) (n : Nat) : Pair w (W.drewN n) own1 bs1 S m1 own2 bs2 T m2 :=
  ⟨d.l.drewN n, d.r.drewN n, d.ap, d.b1, d.b2, ⟨d.be.os, d.be.tape, d.be.output, d.be.size, d.be.block⟩⟩
end

/-- Between the rounds. -/
def MatchAt (w : World) (bs1 bs2 : Nat) (k : Nat) (i : Value) (W : World) : Prop :=
  ∃ own1 m1 S own2 m2, i = .int .i64 (k : Int) ∧ Pair w W own1 bs1 S m1 own2 bs2 S m2 ∧ S.Ok ∧ S.plan.length ≤ 60


theorem tail_le (l : List Int) (n : Nat) (h : l.length ≤ n) : l.tail.length ≤ n := by rw [List.length_tail]; omega

theorem move_plan (S : St) : S.move.2.2.plan.length ≤ S.plan.length := by
  unfold St.move
  split
  · exact Nat.le_refl _
  · exact tail_le _ _ (Nat.le_refl _)

theorem getc_plan (S : St) : S.getc.2.2.plan.length ≤ S.plan.length := by
  have hm := move_plan S
  unfold St.getc
  repeat' split
  · exact Nat.le_refl _
  · exact Nat.le_refl _
  · exact hm
  · refine Nat.le_trans ?_ hm
    generalize S.move.2.2 = U
    unfold St.getc2 St.fill
    repeat' split
    all_goals first | exact Nat.le_refl _ | exact tail_le _ _ (Nat.le_refl _)

theorem readN_plan (n : Nat) : ∀ S : St, (S.readN n).2.2.plan.length ≤ S.plan.length := by
  induction n with
  | zero => exact fun _ => Nat.le_refl _
  | succ n ih =>
    intro S
    rw [St.readN]
    split
    · exact getc_plan S
    · exact Nat.le_trans (ih _) (getc_plan S)

theorem act_plan (S : St) (x : Ac) : (S.act x).2.plan.length ≤ S.plan.length := by
  have hm := move_plan S
  unfold St.act
  split
  · exact getc_plan S
  split
  · show (S.ungetc _).2.plan.length ≤ _
    unfold St.ungetc
    repeat' split
    all_goals first | exact Nat.le_refl _ | exact hm
  split
  · show (S.read _).2.2.plan.length ≤ _
    unfold St.read
    repeat' split
    all_goals first | exact Nat.le_refl _ | exact readN_plan _ S
  split
  · show (S.write _).2.2.plan.length ≤ _
    unfold St.write
    repeat' split
    all_goals first | exact Nat.le_refl _ | exact move_plan (S.laid x.b)
  split
  · show S.flush.2.plan.length ≤ _
    unfold St.flush
    split
    · exact Nat.le_refl _
    · exact hm
  split
  · show (S.seek _ _).2.plan.length ≤ _
    unfold St.seek St.seekFrom
    repeat' split
    all_goals first | exact Nat.le_refl _ | exact hm
  split
  · exact Nat.le_refl _
  split
  · exact Nat.le_refl _
  split
  · show S.close.2.plan.length ≤ _
    unfold St.close
    split
    · exact Nat.le_refl _
    · exact hm
  exact Nat.le_refl _

set_option maxRecDepth 100000 in
set_option maxHeartbeats 8000000 in
theorem matches_calls (w : World) (a a2 : Option Addr) (n c n2 c2 : Nat) (max : Int) (md : Md) (al : Option Addr) (nl cl : Nat) (data : List UInt8) (plan : List Int) (l : List Ac)
    (hd : Rd w (fun b => b < w.heap.size) byteV (.slice a n c) data) (hp : Rd w (fun b => b < w.heap.size) intV (.slice a2 n2 c2) plan) (hl : Acts w w.heap.size al nl l) (hm : nl ≤ maxLen) :
    Calls Try.prog 6 #[.agg #[.slice a n c, .int .i64 max, .slice a2 n2 c2], .agg #[.bool md.rd, .bool md.wr, .bool md.app, .int .i64 md.size, .bool md.lines], .slice al nl cl] w fun e w' => e = .returned (.bool true) ∧ Below w.heap.size w w' := by
  go_enter Try.func6, Try.ntmps6
  go_wp2_with fail
  refine (sane_calls _).mono ?_
  rintro e W1 ⟨rfl, hb1⟩
  have hz1 : w.heap.size + 1 < W1.heap.size := by have := hb1.size; simp at this; omega
  have hx1 : W1.heap[w.heap.size]? = some (.cells #[.slice a n c, .int .i64 max, .slice a2 n2 c2] 25 (0, 0)) := (hb1.block _ (by simp; omega)).trans ((Below.heap_alloc _ _ _ (by simp)).trans (alloc_at w _))
  have hy1 : W1.heap[w.heap.size + 1]? = some (.cells #[.bool md.rd, .bool md.wr, .bool md.app, .int .i64 md.size, .bool md.lines] 32 (0, 0)) := (hb1.block _ (by simp)).trans (by simpa using alloc_at (w.alloc (.cells #[.slice a n c, .int .i64 max, .slice a2 n2 c2] 25)) _)
  have hbe1 : Below w.heap.size w W1 := ((((Below.refl _ w).alloc (Nat.le_refl _) _).alloc (by simp) _).trans (hb1.mono (by simp; omega)))
  have c0 : W1.cell? ⟨w.heap.size, 0, none⟩ = some (.slice a n c) := cell_of_row _ _ 0 _ _ _ hx1
  have c1 : W1.cell? ⟨w.heap.size, 1, none⟩ = some (.int .i64 max) := cell_of_row _ _ 1 _ _ _ hx1
  have c2' : W1.cell? ⟨w.heap.size, 2, none⟩ = some (.slice a2 n2 c2) := cell_of_row _ _ 2 _ _ _ hx1
  have hn := (rd_len hd).1
  have hn2 := (rd_len hp).1
  have Hsm := Lib.hid (small_calls W1 w.heap.size (by omega) a a2 n c n2 c2 max al nl cl data plan l hn hn2 (hl.below (Nat.le_refl _) hbe1) hm)
  have Hx1 := Lib.hid hx1
  have Hy1 := Lib.hid hy1
  have Hbe1 := Lib.hid hbe1
  have Hl := Lib.hid hl
  have Hd := Lib.hid hd
  have Hp := Lib.hid hp
  unfold maxLen at hm
  clear hb1 hx1 hy1 hbe1 hn hn2 hp hl hd
  go_wp2_with fail
  refine Calls.mono Hsm.out ?_
  rintro e W2 ⟨r, rfl, hsmall, hb2⟩
  have hx2 := (hb2.block _ (by omega)).trans Hx1.out
  have hy2 := (hb2.block _ (by omega)).trans Hy1.out
  have hbe2 := Hbe1.out.trans (hb2.mono (by omega))
  have c0 : W2.cell? ⟨w.heap.size, 0, none⟩ = some (.slice a n c) := cell_of_row _ _ 0 _ _ _ hx2
  have c1 : W2.cell? ⟨w.heap.size, 1, none⟩ = some (.int .i64 max) := cell_of_row _ _ 1 _ _ _ hx2
  have c2' : W2.cell? ⟨w.heap.size, 2, none⟩ = some (.slice a2 n2 c2) := cell_of_row _ _ 2 _ _ _ hx2
  have d0 : W2.cell? ⟨w.heap.size + 1, 0, none⟩ = some (.bool md.rd) := cell_of_row _ _ 0 _ _ _ hy2
  have d1 : W2.cell? ⟨w.heap.size + 1, 1, none⟩ = some (.bool md.wr) := cell_of_row _ _ 1 _ _ _ hy2
  have d2 : W2.cell? ⟨w.heap.size + 1, 2, none⟩ = some (.bool md.app) := cell_of_row _ _ 2 _ _ _ hy2
  have d3 : W2.cell? ⟨w.heap.size + 1, 3, none⟩ = some (.int .i64 md.size) := cell_of_row _ _ 3 _ _ _ hy2
  have d4 : W2.cell? ⟨w.heap.size + 1, 4, none⟩ = some (.bool md.lines) := cell_of_row _ _ 4 _ _ _ hy2
  have hlx := (Array.getElem?_eq_some_iff.1 hx2).1
  have hly := (Array.getElem?_eq_some_iff.1 hy2).1
  have Hx2 := Lib.hid hx2
  have Hy2 := Lib.hid hy2
  have Hbe2 := Lib.hid hbe2
  clear hx2 hy2 hbe2 hb2 Hx1 Hy1 Hbe1 Hsm hz1
  cases r
  · clear hsmall
    go_wp2_with fail
    go_ret
    exact ⟨rfl, Hbe2.out⟩
  have hsm := hsmall rfl
  have Hsml := Lib.hid hsm
  have Hop1 := Lib.hid (open_calls W2 _ a a2 n c n2 c2 max data plan md (Hd.out.law Hbe2.out) (Hp.out.law Hbe2.out) (by have := hsm.2.1; omega))
  clear hsmall hsm
  go_wp2_with fail
  refine Calls.mono Hop1.out ?_
  clear Hop1 c0 c1 c2' d0 d1 d2 d3 d4
  rintro e W4 hop1
  have hb4 : Below W2.heap.size W2 W4 := by
    rcases hop1 with ⟨_, _, hb⟩ | ⟨_, bs, own, _, _, _, hb⟩
    · exact hb
    · exact hb
  have hbe4 := Hbe2.out.trans (hb4.mono Hbe2.out.size)
  have hx4 := (hb4.block _ hlx).trans Hx2.out
  have hy4 := (hb4.block _ hly).trans Hy2.out
  have c0 : W4.cell? ⟨w.heap.size, 0, none⟩ = some (.slice a n c) := cell_of_row _ _ 0 _ _ _ hx4
  have c1 : W4.cell? ⟨w.heap.size, 1, none⟩ = some (.int .i64 max) := cell_of_row _ _ 1 _ _ _ hx4
  have c2' : W4.cell? ⟨w.heap.size, 2, none⟩ = some (.slice a2 n2 c2) := cell_of_row _ _ 2 _ _ _ hx4
  have d0 : W4.cell? ⟨w.heap.size + 1, 0, none⟩ = some (.bool md.rd) := cell_of_row _ _ 0 _ _ _ hy4
  have d1 : W4.cell? ⟨w.heap.size + 1, 1, none⟩ = some (.bool md.wr) := cell_of_row _ _ 1 _ _ _ hy4
  have d2 : W4.cell? ⟨w.heap.size + 1, 2, none⟩ = some (.bool md.app) := cell_of_row _ _ 2 _ _ _ hy4
  have d3 : W4.cell? ⟨w.heap.size + 1, 3, none⟩ = some (.int .i64 md.size) := cell_of_row _ _ 3 _ _ _ hy4
  have d4 : W4.cell? ⟨w.heap.size + 1, 4, none⟩ = some (.bool md.lines) := cell_of_row _ _ 4 _ _ _ hy4
  have Hop2 := Lib.hid (ropen_calls W4 _ a a2 n c n2 c2 max data plan md (Hd.out.law hbe4) (Hp.out.law hbe4) (by have := Hsml.out.2.1; omega))
  have Hbe4 := Lib.hid hbe4
  clear hx4 hy4 hbe4 hb4 Hx2 Hy2 hlx hly
  rcases hop1 with ⟨hr1, rfl, -⟩ | ⟨hr1, bs1, own1, rfl, hs1, hown1, -⟩
  · go_wp2_with fail
    refine Calls.mono Hop2.out ?_
    rintro e W5 (⟨_, rfl, hb5⟩ | ⟨hr, bs, own, rfl, -, -, hb5⟩)
    · have Hfin := Lib.hid (Hbe4.out.trans (hb5.mono Hbe4.out.size))
      clear hb5
      go_wp2_with fail
      go_ret
      exact ⟨rfl, Hfin.out⟩
    · exact absurd hr1 hr
  · have Hs1 := Lib.hid hs1
    have Hown1 := Lib.hid hown1
    have Hr1 := Lib.hid hr1
    clear hs1 hown1 hr1
    go_wp2_with fail
    refine Calls.mono Hop2.out ?_
    rintro e W5 (⟨hr2, rfl, hb5⟩ | ⟨hr2, bs2, own2, rfl, ⟨m2, ht⟩, hown2, hb5⟩)
    · exact absurd hr2 Hr1.out
    obtain ⟨m1, hs⟩ := Hs1.out
    have d5 : Pair w W5 own1 bs1 (St.fresh data max plan md) m1 own2 bs2 (St.fresh data max plan md) m2 :=
      ⟨hs.below hb5, ht, fun k h1 h2 => by have := hs.lt k h1; have := hown2 k h2; omega, fun k hk => Nat.le_trans Hbe2.out.size (Hown1.out k hk), fun k hk => Nat.le_trans Hbe4.out.size (hown2 k hk), Hbe4.out.trans (hb5.mono Hbe4.out.size)⟩
    have HS : Hid (MatchAt w bs1 bs2 0 (.int .i64 0) W5) := Lib.hid ⟨_, _, _, _, _, rfl, d5, fresh_ok Hr1.out, Hsml.out.2.1⟩
    clear hr2 ht hown2 hb5 hs d5 Hs1 Hown1 Hop2 c0 c1 c2' d0 d1 d2 d3 d4 Hbe2 Hbe4 Hr1 Hsml
    go_wp2_with fail
    go_loopg [12] nl (fun g i wr => ∃ k : Nat, k + g = nl ∧ MatchAt w bs1 bs2 k i wr)
    case atStart => exact ⟨0, by omega, HS.out⟩
    case round =>
      obtain ⟨k, hkg, own1', m1', S, own2', m2', rfl, hD, hok, hpl⟩ := hrel
      have HD := Lib.hid hD
      have Hok := Lib.hid hok
      have Hkg := Lib.hid hkg
      have hk16 : k ≤ nl := by omega
      clear hD hkg HS
      by_cases hlt : k < nl
      · obtain ⟨b, off, rfl, hb, hat⟩ := (Hl.out.below (Nat.le_refl _) HD.out.be).2 (by omega)
        obtain ⟨x, hx⟩ : ∃ x, l[k]? = some x := ⟨_, List.getElem?_eq_getElem (by have := Hl.out.1; omega)⟩
        obtain ⟨k0, k1, k2, ab, nb, cb, k3, hrd⟩ := hat k x hx
        have Hrd := Lib.hid hrd
        clear hx hrd hat
        obtain ⟨kd, xn, xw, xb⟩ := x
        simp only at k0 k1 k2 Hrd
        obtain ⟨gn, gb, ge, hga⟩ : ∃ gn gb ge, (S.act ⟨kd, xn, xw, xb⟩).1 = ⟨gn, gb, ge⟩ := ⟨_, _, _, rfl⟩
        have Hdo1 := Lib.hid (do_calls (HD.out.drewN 1).l hok kd xn xw (fun b => b < w.heap.size) (fun k hk e => by have := HD.out.b1 k e; omega) ab nb cb xb (Hrd.out.keep (fun _ _ _ => rfl) (fun _ h _ => h)))
        have HokT := Lib.hid (act_ok S hok ⟨kd, xn, xw, xb⟩)
        have hpl2 := Nat.le_trans (act_plan S ⟨kd, xn, xw, xb⟩) hpl
        have Hga := Lib.hid hga
        obtain ⟨T, hT⟩ : ∃ T, (S.act ⟨kd, xn, xw, xb⟩).2 = T := ⟨_, rfl⟩
        rw [hT] at hpl2 HokT
        have HT := Lib.hid hT
        clear hT
        have Hpl2 := Lib.hid hpl2
        have Hpl := Lib.hid (show T.plan.length * 8 ≤ 140737488355328 by omega)
        have hbw : b < wr.heap.size := Nat.lt_of_lt_of_le hb HD.out.be.size
        clear hga hok hpl hpl2
        go_upto_region 13 with fail
        refine wp_region_held_drew (S := fun w' => w'.cell? ⟨b, off + k * 4, none⟩ = some (.int .i64 kd) ∧ w'.cell? ⟨b, off + k * 4 + 1, none⟩ = some (.int .i64 xn) ∧ w'.cell? ⟨b, off + k * 4 + 2, none⟩ = some (.int .i64 xw) ∧ w'.cell? ⟨b, off + k * 4 + 3, none⟩ = some (.slice ab nb cb)) (by kernel_rfl) ⟨k0, k1, k2, k3⟩ (fun hHeld => ?_)
        refine wpAnyH_take (i := 0) (v := .pointer (some ⟨bs1, 0, none⟩)) (List.getElem?_toArray.trans rfl) (by kernel_rfl) (by kernel_rfl) (by kernel_rfl) (fun _ _ _ h => h) (Or.inl ⟨by rfl, fun _ hSw => ?hy⟩) (by assumption) ?rest
        case hy => ((try dsimp only at hSw); go_simp)
        case rest =>
          try simp only [Act.put, List.setIfInBounds_toArray, List.set_cons_zero, List.set_cons_succ]
          refine wpAnyH_take (i := 1) (v := .slice (some ⟨b, off, none⟩) nl cl) (List.getElem?_toArray.trans rfl) (by kernel_rfl) (by kernel_rfl) (by kernel_rfl) (fun _ _ _ h => h) (Or.inl ⟨by rfl, fun _ hSw => ?hy⟩) (by assumption) ?rest
          case hy => ((try dsimp only at hSw); go_simp)
          case rest =>
            try simp only [Act.put, List.setIfInBounds_toArray, List.set_cons_zero, List.set_cons_succ]
            refine wpAnyH_take (i := 2) (v := .int .i64 (k : Int)) (List.getElem?_toArray.trans rfl) (by kernel_rfl) (by kernel_rfl) (by kernel_rfl) (fun _ _ _ h => h) (Or.inl ⟨by rfl, fun _ hSw => ?hy⟩) (by assumption) ?rest
            case hy => ((try dsimp only at hSw); go_simp)
            case rest =>
              try simp only [Act.put, List.setIfInBounds_toArray, List.set_cons_zero, List.set_cons_succ]
              refine wpAnyH_take (i := 3) (v := .pointer (some ⟨b, off + k * 4, none⟩)) (List.getElem?_toArray.trans rfl) (by kernel_rfl) (by kernel_rfl) (by kernel_rfl) (fun _ _ _ h => h) (Or.inl ⟨by rfl, fun _ hSw => ?hy⟩) (by assumption) ?rest
              case hy => ((try dsimp only at hSw); go_simp)
              case rest =>
                try simp only [Act.put, List.setIfInBounds_toArray, List.set_cons_zero, List.set_cons_succ]
                refine wpAnyH_take (i := 4) (v := .agg #[.int .i64 kd, .int .i64 xn, .int .i64 xw, .slice ab nb cb]) (List.getElem?_toArray.trans rfl) (by kernel_rfl) (by kernel_rfl) (by kernel_rfl) (fun _ _ _ h => h) (Or.inl ⟨by rfl, fun _ hSw => ?hy⟩) (by assumption) ?rest
                case hy => ((try dsimp only at hSw); go_simp)
                case rest =>
                  try simp only [Act.put, List.setIfInBounds_toArray, List.set_cons_zero, List.set_cons_succ]
                  refine wpAnyH_take (i := 6) (v := .pointer (some ⟨bs2, 0, none⟩)) (List.getElem?_toArray.trans rfl) (by kernel_rfl) (by kernel_rfl) (by kernel_rfl) (fun _ _ _ h => h) (Or.inl ⟨by rfl, fun _ hSw => ?hy⟩) (by assumption) ?rest
                  case hy => ((try dsimp only at hSw); go_simp)
                  case rest =>
                    try simp only [Act.put, List.setIfInBounds_toArray, List.set_cons_zero, List.set_cons_succ]
                    refine wpAnyH_take (i := 7) (v := .slice (some ⟨b, off, none⟩) nl cl) (List.getElem?_toArray.trans rfl) (by kernel_rfl) (by kernel_rfl) (by kernel_rfl) (fun _ _ _ h => h) (Or.inl ⟨by rfl, fun _ hSw => ?hy⟩) (by assumption) ?rest
                    case hy => ((try dsimp only at hSw); go_simp)
                    case rest =>
                      try simp only [Act.put, List.setIfInBounds_toArray, List.set_cons_zero, List.set_cons_succ]
                      refine wpAnyH_take (i := 8) (v := .int .i64 (k : Int)) (List.getElem?_toArray.trans rfl) (by kernel_rfl) (by kernel_rfl) (by kernel_rfl) (fun _ _ _ h => h) (Or.inl ⟨by rfl, fun _ hSw => ?hy⟩) (by assumption) ?rest
                      case hy => ((try dsimp only at hSw); go_simp)
                      case rest =>
                        try simp only [Act.put, List.setIfInBounds_toArray, List.set_cons_zero, List.set_cons_succ]
                        refine wpAnyH_take (i := 9) (v := .pointer (some ⟨b, off + k * 4, none⟩)) (List.getElem?_toArray.trans rfl) (by kernel_rfl) (by kernel_rfl) (by kernel_rfl) (fun _ _ _ h => h) (Or.inl ⟨by rfl, fun _ hSw => ?hy⟩) (by assumption) ?rest
                        case hy => ((try dsimp only at hSw); go_simp)
                        case rest =>
                          try simp only [Act.put, List.setIfInBounds_toArray, List.set_cons_zero, List.set_cons_succ]
                          refine wpAnyH_take (i := 10) (v := .agg #[.int .i64 kd, .int .i64 xn, .int .i64 xw, .slice ab nb cb]) (List.getElem?_toArray.trans rfl) (by kernel_rfl) (by kernel_rfl) (by kernel_rfl) (fun _ _ _ h => h) (Or.inl ⟨by rfl, fun _ hSw => ?hy⟩) (by assumption) ?rest
                          case hy => ((try dsimp only at hSw); go_simp)
                          case rest =>
                            try simp only [Act.put, List.setIfInBounds_toArray, List.set_cons_zero, List.set_cons_succ]
                            refine wpAnyH_ready (rs := [5]) (by kernel_rfl) (by simp) (AllReadyH.cons (List.getElem?_toArray.trans rfl) (fun K hK => ?step) AllReadyH.nil)
                            case step =>
                              go_simp
                              refine Calls.mono Hdo1.out ?_
                              rintro e W6 ⟨he, own3, m3, h6, f6⟩
                              rw [Hga.out] at he
                              change e = .returned (.agg #[.int .i64 gn, .string ⟨gb.toArray⟩, .int .i64 ge]) at he
                              subst he
                              rw [HT.out] at h6
                              have D6 := (HD.out.drewN 1).left h6 f6
                              have hb6 : Below w.heap.size wr W6 := ⟨f6.os, f6.tape, f6.output, f6.size, fun k hk => f6.keep k (by have := HD.out.be.size; show k < wr.heap.size; omega) (fun e => by have := HD.out.b1 k e; omega)⟩
                              have j0 := (hb6.cell (p := ⟨b, off + k * 4, none⟩) hb).trans k0
                              have j1 := (hb6.cell (p := ⟨b, off + k * 4 + 1, none⟩) hb).trans k1
                              have j2 := (hb6.cell (p := ⟨b, off + k * 4 + 2, none⟩) hb).trans k2
                              have j3 := (hb6.cell (p := ⟨b, off + k * 4 + 3, none⟩) hb).trans k3
                              have Hdo2 := Lib.hid (should_calls D6.r Hok.out kd xn xw _ (fun k hk e => by have := D6.b2 k e; omega) ab nb cb xb (Hrd.out.keep (own' := fun b => b < w.heap.size) (fun b hb _ => hb6.block b hb) (fun _ h _ => h)))
                              have HD6 := Lib.hid D6
                              clear h6 f6 D6 hb6 Hdo1
                              dsimp only
                              refine hK.out _ _ ⟨j0, j1, j2, j3⟩ (fun hHeld => ?_)
                              clear hK K
                              try simp only [Act.put, List.setIfInBounds_toArray, List.set_cons_zero, List.set_cons_succ]
                              refine wpAnyH_ready (rs := [11]) (by kernel_rfl) (by simp) (AllReadyH.cons (List.getElem?_toArray.trans rfl) (fun K hK => ?step) AllReadyH.nil)
                              case step =>
                                go_simp
                                refine Calls.mono Hdo2.out ?_
                                rintro e W7 ⟨he, own4, m4, h7, f7⟩
                                rw [Hga.out] at he
                                change e = .returned (.agg #[.int .i64 gn, .string ⟨gb.toArray⟩, .int .i64 ge]) at he
                                subst he
                                rw [HT.out] at h7
                                have D7 := HD6.out.right h7 f7
                                have hb7 : Below w.heap.size W6 W7 := ⟨f7.os, f7.tape, f7.output, f7.size, fun k hk => f7.keep k (by have := HD6.out.be.size; omega) (fun e => by have := HD6.out.b2 k e; omega)⟩
                                have q0 := (hb7.cell (p := ⟨b, off + k * 4, none⟩) hb).trans j0
                                have q1 := (hb7.cell (p := ⟨b, off + k * 4 + 1, none⟩) hb).trans j1
                                have q2 := (hb7.cell (p := ⟨b, off + k * 4 + 2, none⟩) hb).trans j2
                                have q3 := (hb7.cell (p := ⟨b, off + k * 4 + 3, none⟩) hb).trans j3
                                obtain ⟨a7, z7, v7, -, -⟩ := D7.r.data.shape
                                obtain ⟨a8, z8, v8, -, -⟩ := D7.r.plan.shape
                                have r12 : W7.cell? ⟨bs2, 12, none⟩ = some (.bool T.endm) := D7.r.c 12
                                have r13 : W7.cell? ⟨bs2, 13, none⟩ = some (.bool T.bad) := D7.r.c 13
                                have r0 : W7.cell? ⟨bs2, 0, none⟩ = some (.slice a7 T.data.length z7) := by rw [D7.r.c]; simp [RMem.cells, v7]
                                have r1 : W7.cell? ⟨bs2, 1, none⟩ = some (.int .i64 T.max) := D7.r.c 1
                                have r2 : W7.cell? ⟨bs2, 2, none⟩ = some (.slice a8 T.plan.length z8) := by rw [D7.r.c]; simp [RMem.cells, v8]
                                have hda := D7.r.data.rd
                                have hpa := D7.r.plan
                                rw [v7] at hda
                                rw [v8] at hpa
                                have Hda := Lib.hid hda
                                have Hpa := Lib.hid hpa
                                have lb7 : b < W7.heap.size := World.block_lt_of_cell? _ _ q0
                                have l2 : bs2 < W7.heap.size := D7.r.lt _ D7.r.os
                                have Heo := Lib.hid (eof_calls D7.l)
                                have Hfa := Lib.hid (failed_calls D7.l)
                                have Hde := Lib.hid (device_calls D7.l HokT.out Hpl.out)
                                have HD7 := Lib.hid D7
                                clear h7 f7 D7 hb7 Hdo2 hda hpa v7 v8
                                generalize hen : T.endm = en at *
                                generalize hba : T.bad = ba at *
                                have Hen := Lib.hid hen
                                have Hba := Lib.hid hba
                                clear hen hba
                                dsimp only
                                refine hK.out _ _ ⟨q0, q1, q2, q3⟩ (fun hHeld => ?_)
                                clear hK K
                                try simp only [Act.put, List.setIfInBounds_toArray, List.set_cons_zero, List.set_cons_succ]
                                refine wpAnyH_more (S' := fun w' => (w'.cell? ⟨b, off + k * 4, none⟩ = some (.int .i64 kd) ∧ w'.cell? ⟨b, off + k * 4 + 1, none⟩ = some (.int .i64 xn) ∧ w'.cell? ⟨b, off + k * 4 + 2, none⟩ = some (.int .i64 xw) ∧ w'.cell? ⟨b, off + k * 4 + 3, none⟩ = some (.slice ab nb cb)) ∧ w'.cell? ⟨bs2, 12, none⟩ = some (.bool en) ∧ w'.cell? ⟨bs2, 13, none⟩ = some (.bool ba) ∧ w'.cell? ⟨bs2, 0, none⟩ = some (.slice a7 T.data.length z7) ∧ w'.cell? ⟨bs2, 1, none⟩ = some (.int .i64 T.max) ∧ w'.cell? ⟨bs2, 2, none⟩ = some (.slice a8 T.plan.length z8)) (fun _ h => h.1) ?_
                                have hHeld2 : (fun w' => (w'.cell? ⟨b, off + k * 4, none⟩ = some (.int .i64 kd) ∧ w'.cell? ⟨b, off + k * 4 + 1, none⟩ = some (.int .i64 xn) ∧ w'.cell? ⟨b, off + k * 4 + 2, none⟩ = some (.int .i64 xw) ∧ w'.cell? ⟨b, off + k * 4 + 3, none⟩ = some (.slice ab nb cb)) ∧ w'.cell? ⟨bs2, 12, none⟩ = some (.bool en) ∧ w'.cell? ⟨bs2, 13, none⟩ = some (.bool ba) ∧ w'.cell? ⟨bs2, 0, none⟩ = some (.slice a7 T.data.length z7) ∧ w'.cell? ⟨bs2, 1, none⟩ = some (.int .i64 T.max) ∧ w'.cell? ⟨bs2, 2, none⟩ = some (.slice a8 T.plan.length z8)) W7 := ⟨⟨q0, q1, q2, q3⟩, r12, r13, r0, r1, r2⟩
                                clear hHeld
                                refine wpAnyH_take (i := 12) (v := .bool false) (List.getElem?_toArray.trans rfl) (by kernel_rfl) (by kernel_rfl) (by kernel_rfl) (fun _ _ _ h => h) (Or.inl ⟨by rfl, fun _ hSw => ?hy⟩) (by assumption) ?rest
                                case hy => ((try dsimp only at hSw); go_simp)
                                case rest =>
                                  try simp only [Act.put, List.setIfInBounds_toArray, List.set_cons_zero, List.set_cons_succ]
                                  refine wpAnyH_take (i := 13) (v := .bool false) (List.getElem?_toArray.trans rfl) (by kernel_rfl) (by kernel_rfl) (by kernel_rfl) (fun _ _ _ h => h) (Or.inl ⟨by rfl, fun _ hSw => ?hy⟩) (by assumption) ?rest
                                  case hy => ((try dsimp only at hSw); go_simp)
                                  case rest =>
                                    try simp only [Act.put, List.setIfInBounds_toArray, List.set_cons_zero, List.set_cons_succ]
                                    refine wpAnyH_take (i := 14) (v := .pointer (some ⟨bs1, 0, none⟩)) (List.getElem?_toArray.trans rfl) (by kernel_rfl) (by kernel_rfl) (by kernel_rfl) (fun _ _ _ h => h) (Or.inl ⟨by rfl, fun _ hSw => ?hy⟩) (by assumption) ?rest
                                    case hy => ((try dsimp only at hSw); go_simp)
                                    case rest =>
                                      try simp only [Act.put, List.setIfInBounds_toArray, List.set_cons_zero, List.set_cons_succ]
                                      refine wpAnyH_take (i := 16) (v := .pointer (some ⟨bs2, 0, none⟩)) (List.getElem?_toArray.trans rfl) (by kernel_rfl) (by kernel_rfl) (by kernel_rfl) (fun _ _ _ h => h) (Or.inl ⟨by rfl, fun _ hSw => ?hy⟩) (by assumption) ?rest
                                      case hy => ((try dsimp only at hSw); go_simp)
                                      case rest =>
                                        try simp only [Act.put, List.setIfInBounds_toArray, List.set_cons_zero, List.set_cons_succ]
                                        refine wpAnyH_take (i := 17) (v := .pointer (some ⟨bs2, 0, none⟩)) (List.getElem?_toArray.trans rfl) (by kernel_rfl) (by kernel_rfl) (by kernel_rfl) (fun _ _ _ h => h) (Or.inl ⟨by rfl, fun _ hSw => ?hy⟩) (by assumption) ?rest
                                        case hy => ((try dsimp only at hSw); go_simp)
                                        case rest =>
                                          try simp only [Act.put, List.setIfInBounds_toArray, List.set_cons_zero, List.set_cons_succ]
                                          refine wpAnyH_take (i := 18) (v := .pointer (some ⟨bs2, 12, none⟩)) (List.getElem?_toArray.trans rfl) (by kernel_rfl) (by kernel_rfl) (by kernel_rfl) (fun _ _ _ h => h) (Or.inl ⟨by rfl, fun _ hSw => ?hy⟩) (by assumption) ?rest
                                          case hy => ((try dsimp only at hSw); go_simp)
                                          case rest =>
                                            try simp only [Act.put, List.setIfInBounds_toArray, List.set_cons_zero, List.set_cons_succ]
                                            refine wpAnyH_take (i := 19) (v := .bool en) (List.getElem?_toArray.trans rfl) (by kernel_rfl) (by kernel_rfl) (by kernel_rfl) (fun _ _ _ h => h) (Or.inl ⟨by rfl, fun _ hSw => ?hy⟩) (by assumption) ?rest
                                            case hy => ((try dsimp only at hSw); go_simp)
                                            case rest =>
                                              try simp only [Act.put, List.setIfInBounds_toArray, List.set_cons_zero, List.set_cons_succ]
                                              refine wpAnyH_ready (rs := [15]) (by kernel_rfl) (by simp) (AllReadyH.cons (List.getElem?_toArray.trans rfl) (fun K hK => ?step) AllReadyH.nil)
                                              case step =>
                                                go_simp
                                                refine Calls.mono Heo.out ?_
                                                rintro e W8 ⟨rfl, h8⟩
                                                rw [← h8]
                                                clear h8
                                                dsimp only
                                                refine hK.out _ _ ⟨⟨q0, q1, q2, q3⟩, r12, r13, r0, r1, r2⟩ (fun hHeld => ?_)
                                                clear hK K
                                                try simp only [Act.put, List.setIfInBounds_toArray, List.set_cons_zero, List.set_cons_succ]
                                                refine wpAnyH_take (i := 20) (v := .bool false) (List.getElem?_toArray.trans rfl) (by kernel_rfl) (by kernel_rfl) (by kernel_rfl) (fun _ _ _ h => h) (Or.inl ⟨by rfl, fun _ hSw => ?hy⟩) (by assumption) ?rest
                                                case hy => ((try dsimp only at hSw); go_simp)
                                                case rest =>
                                                  try simp only [Act.put, List.setIfInBounds_toArray, List.set_cons_zero, List.set_cons_succ]
                                                  refine wpAnyH_take (i := 21) (v := .bool false) (List.getElem?_toArray.trans rfl) (by kernel_rfl) (by kernel_rfl) (by kernel_rfl) (fun _ _ _ h => h) (Or.inl ⟨by rfl, fun _ hSw => ?hy⟩) (by assumption) ?rest
                                                  case hy => ((try dsimp only at hSw); go_simp)
                                                  case rest =>
                                                    try simp only [Act.put, List.setIfInBounds_toArray, List.set_cons_zero, List.set_cons_succ]
                                                    refine wpAnyH_take (i := 22) (v := .bool false) (List.getElem?_toArray.trans rfl) (by kernel_rfl) (by kernel_rfl) (by kernel_rfl) (fun _ _ _ h => h) (Or.inl ⟨by rfl, fun _ hSw => ?hy⟩) (by assumption) ?rest
                                                    case hy => ((try dsimp only at hSw); go_simp)
                                                    case rest =>
                                                      try simp only [Act.put, List.setIfInBounds_toArray, List.set_cons_zero, List.set_cons_succ]
                                                      refine wpAnyH_take (i := 23) (v := .pointer (some ⟨bs1, 0, none⟩)) (List.getElem?_toArray.trans rfl) (by kernel_rfl) (by kernel_rfl) (by kernel_rfl) (fun _ _ _ h => h) (Or.inl ⟨by rfl, fun _ hSw => ?hy⟩) (by assumption) ?rest
                                                      case hy => ((try dsimp only at hSw); go_simp)
                                                      case rest =>
                                                        try simp only [Act.put, List.setIfInBounds_toArray, List.set_cons_zero, List.set_cons_succ]
                                                        refine wpAnyH_take (i := 25) (v := .pointer (some ⟨bs2, 0, none⟩)) (List.getElem?_toArray.trans rfl) (by kernel_rfl) (by kernel_rfl) (by kernel_rfl) (fun _ _ _ h => h) (Or.inl ⟨by rfl, fun _ hSw => ?hy⟩) (by assumption) ?rest
                                                        case hy => ((try dsimp only at hSw); go_simp)
                                                        case rest =>
                                                          try simp only [Act.put, List.setIfInBounds_toArray, List.set_cons_zero, List.set_cons_succ]
                                                          refine wpAnyH_take (i := 26) (v := .pointer (some ⟨bs2, 0, none⟩)) (List.getElem?_toArray.trans rfl) (by kernel_rfl) (by kernel_rfl) (by kernel_rfl) (fun _ _ _ h => h) (Or.inl ⟨by rfl, fun _ hSw => ?hy⟩) (by assumption) ?rest
                                                          case hy => ((try dsimp only at hSw); go_simp)
                                                          case rest =>
                                                            try simp only [Act.put, List.setIfInBounds_toArray, List.set_cons_zero, List.set_cons_succ]
                                                            refine wpAnyH_take (i := 27) (v := .pointer (some ⟨bs2, 13, none⟩)) (List.getElem?_toArray.trans rfl) (by kernel_rfl) (by kernel_rfl) (by kernel_rfl) (fun _ _ _ h => h) (Or.inl ⟨by rfl, fun _ hSw => ?hy⟩) (by assumption) ?rest
                                                            case hy => ((try dsimp only at hSw); go_simp)
                                                            case rest =>
                                                              try simp only [Act.put, List.setIfInBounds_toArray, List.set_cons_zero, List.set_cons_succ]
                                                              refine wpAnyH_take (i := 28) (v := .bool ba) (List.getElem?_toArray.trans rfl) (by kernel_rfl) (by kernel_rfl) (by kernel_rfl) (fun _ _ _ h => h) (Or.inl ⟨by rfl, fun _ hSw => ?hy⟩) (by assumption) ?rest
                                                              case hy => ((try dsimp only at hSw); go_simp)
                                                              case rest =>
                                                                try simp only [Act.put, List.setIfInBounds_toArray, List.set_cons_zero, List.set_cons_succ]
                                                                refine wpAnyH_ready (rs := [24]) (by kernel_rfl) (by simp) (AllReadyH.cons (List.getElem?_toArray.trans rfl) (fun K hK => ?step) AllReadyH.nil)
                                                                case step =>
                                                                  go_simp
                                                                  refine Calls.mono Hfa.out ?_
                                                                  rintro e W8 ⟨rfl, h8⟩
                                                                  rw [← h8]
                                                                  clear h8
                                                                  dsimp only
                                                                  refine hK.out _ _ ⟨⟨q0, q1, q2, q3⟩, r12, r13, r0, r1, r2⟩ (fun hHeld => ?_)
                                                                  clear hK K
                                                                  try simp only [Act.put, List.setIfInBounds_toArray, List.set_cons_zero, List.set_cons_succ]
                                                                  refine wpAnyH_take (i := 29) (v := .bool false) (List.getElem?_toArray.trans rfl) (by kernel_rfl) (by kernel_rfl) (by kernel_rfl) (fun _ _ _ h => h) (Or.inl ⟨by rfl, fun _ hSw => ?hy⟩) (by assumption) ?rest
                                                                  case hy => ((try dsimp only at hSw); go_simp)
                                                                  case rest =>
                                                                    try simp only [Act.put, List.setIfInBounds_toArray, List.set_cons_zero, List.set_cons_succ]
                                                                    refine wpAnyH_take (i := 30) (v := .bool false) (List.getElem?_toArray.trans rfl) (by kernel_rfl) (by kernel_rfl) (by kernel_rfl) (fun _ _ _ h => h) (Or.inl ⟨by rfl, fun _ hSw => ?hy⟩) (by assumption) ?rest
                                                                    case hy => ((try dsimp only at hSw); go_simp)
                                                                    case rest =>
                                                                      try simp only [Act.put, List.setIfInBounds_toArray, List.set_cons_zero, List.set_cons_succ]
                                                                      refine wpAnyH_take (i := 31) (v := .bool false) (List.getElem?_toArray.trans rfl) (by kernel_rfl) (by kernel_rfl) (by kernel_rfl) (fun _ _ _ h => h) (Or.inl ⟨by rfl, fun _ hSw => ?hy⟩) (by assumption) ?rest
                                                                      case hy => ((try dsimp only at hSw); go_simp)
                                                                      case rest =>
                                                                        try simp only [Act.put, List.setIfInBounds_toArray, List.set_cons_zero, List.set_cons_succ]
                                                                        refine wpAnyH_take (i := 32) (v := .pointer (some ⟨bs1, 0, none⟩)) (List.getElem?_toArray.trans rfl) (by kernel_rfl) (by kernel_rfl) (by kernel_rfl) (fun _ _ _ h => h) (Or.inl ⟨by rfl, fun _ hSw => ?hy⟩) (by assumption) ?rest
                                                                        case hy => ((try dsimp only at hSw); go_simp)
                                                                        case rest =>
                                                                          try simp only [Act.put, List.setIfInBounds_toArray, List.set_cons_zero, List.set_cons_succ]
                                                                          refine wpAnyH_take (i := 34) (v := .pointer (some ⟨bs2, 0, none⟩)) (List.getElem?_toArray.trans rfl) (by kernel_rfl) (by kernel_rfl) (by kernel_rfl) (fun _ _ _ h => h) (Or.inl ⟨by rfl, fun _ hSw => ?hy⟩) (by assumption) ?rest
                                                                          case hy => ((try dsimp only at hSw); go_simp)
                                                                          case rest =>
                                                                            try simp only [Act.put, List.setIfInBounds_toArray, List.set_cons_zero, List.set_cons_succ]
                                                                            refine wpAnyH_take (i := 35) (v := .pointer (some ⟨bs2, 0, none⟩)) (List.getElem?_toArray.trans rfl) (by kernel_rfl) (by kernel_rfl) (by kernel_rfl) (fun _ _ _ h => h) (Or.inl ⟨by rfl, fun _ hSw => ?hy⟩) (by assumption) ?rest
                                                                            case hy => ((try dsimp only at hSw); go_simp)
                                                                            case rest =>
                                                                              try simp only [Act.put, List.setIfInBounds_toArray, List.set_cons_zero, List.set_cons_succ]
                                                                              refine wpAnyH_take (i := 36) (v := .pointer (some ⟨bs2, 0, none⟩)) (List.getElem?_toArray.trans rfl) (by kernel_rfl) (by kernel_rfl) (by kernel_rfl) (fun _ _ _ h => h) (Or.inl ⟨by rfl, fun _ hSw => ?hy⟩) (by assumption) ?rest
                                                                              case hy => ((try dsimp only at hSw); go_simp)
                                                                              case rest =>
                                                                                try simp only [Act.put, List.setIfInBounds_toArray, List.set_cons_zero, List.set_cons_succ]
                                                                                refine wpAnyH_take (i := 37) (v := .agg #[.slice a7 T.data.length z7, .int .i64 T.max, .slice a8 T.plan.length z8]) (List.getElem?_toArray.trans rfl) (by kernel_rfl) (by kernel_rfl) (by kernel_rfl) (fun _ _ _ h => h) (Or.inl ⟨by rfl, fun _ hSw => ?hy⟩) (by assumption) ?rest
                                                                                case hy => ((try dsimp only at hSw); go_simp)
                                                                                case rest =>
                                                                                  try simp only [Act.put, List.setIfInBounds_toArray, List.set_cons_zero, List.set_cons_succ]
                                                                                  refine wpAnyH_ready (rs := [33]) (by kernel_rfl) (by simp) (AllReadyH.cons (List.getElem?_toArray.trans rfl) (fun K hK => ?step) AllReadyH.nil)
                                                                                  case step =>
                                                                                    go_simp
                                                                                    refine Calls.mono Hde.out ?_
                                                                                    rintro e W8 ⟨a3, n3, c3, a4, n4, c4, rfl, hR3, hR4, hb8⟩
                                                                                    have p0 := (hb8.cell (p := ⟨b, off + k * 4, none⟩) lb7).trans q0
                                                                                    have p1 := (hb8.cell (p := ⟨b, off + k * 4 + 1, none⟩) lb7).trans q1
                                                                                    have p2 := (hb8.cell (p := ⟨b, off + k * 4 + 2, none⟩) lb7).trans q2
                                                                                    have p3 := (hb8.cell (p := ⟨b, off + k * 4 + 3, none⟩) lb7).trans q3
                                                                                    have lb8 : b < W8.heap.size := Nat.lt_of_lt_of_le lb7 hb8.size
                                                                                    have t12 := (hb8.cell (p := ⟨bs2, 12, none⟩) l2).trans r12
                                                                                    have t13 := (hb8.cell (p := ⟨bs2, 13, none⟩) l2).trans r13
                                                                                    have t0 := (hb8.cell (p := ⟨bs2, 0, none⟩) l2).trans r0
                                                                                    have t1 := (hb8.cell (p := ⟨bs2, 1, none⟩) l2).trans r1
                                                                                    have t2 := (hb8.cell (p := ⟨bs2, 2, none⟩) l2).trans r2
                                                                                    have Hsm := Lib.hid (same_calls (max := T.max) hR3.rd hR4.rd (Hda.out.keep (fun b _ hl => hb8.block b hl) (fun _ h _ => h)) (Hpa.out.keep (own' := rdatas own4 bs2) (fun b _ hl => hb8.block b hl) (fun _ h _ => ⟨h.1, h.2.1⟩)))
                                                                                    have HD8 := Lib.hid (HD7.out.below hb8)
                                                                                    have l3 : bs2 < W8.heap.size := Nat.lt_of_lt_of_le l2 hb8.size
                                                                                    clear hR3 hR4 hb8 Hde
                                                                                    dsimp only
                                                                                    refine hK.out _ _ ⟨⟨p0, p1, p2, p3⟩, t12, t13, t0, t1, t2⟩ (fun hHeld => ?_)
                                                                                    clear hK K
                                                                                    try simp only [Act.put, List.setIfInBounds_toArray, List.set_cons_zero, List.set_cons_succ]
                                                                                    refine wpAnyH_ready (rs := [38]) (by kernel_rfl) (by simp) (AllReadyH.cons (List.getElem?_toArray.trans rfl) (fun K hK => ?step) AllReadyH.nil)
                                                                                    case step =>
                                                                                      go_simp
                                                                                      refine Calls.mono Hsm.out ?_
                                                                                      rintro e W9 ⟨rfl, hb9⟩
                                                                                      have o0 := (hb9.cell (p := ⟨b, off + k * 4, none⟩) lb8).trans p0
                                                                                      have o1 := (hb9.cell (p := ⟨b, off + k * 4 + 1, none⟩) lb8).trans p1
                                                                                      have o2 := (hb9.cell (p := ⟨b, off + k * 4 + 2, none⟩) lb8).trans p2
                                                                                      have o3 := (hb9.cell (p := ⟨b, off + k * 4 + 3, none⟩) lb8).trans p3
                                                                                      have u12 := (hb9.cell (p := ⟨bs2, 12, none⟩) l3).trans t12
                                                                                      have u13 := (hb9.cell (p := ⟨bs2, 13, none⟩) l3).trans t13
                                                                                      have u0 := (hb9.cell (p := ⟨bs2, 0, none⟩) l3).trans t0
                                                                                      have u1 := (hb9.cell (p := ⟨bs2, 1, none⟩) l3).trans t1
                                                                                      have u2 := (hb9.cell (p := ⟨bs2, 2, none⟩) l3).trans t2
                                                                                      have HD9 := Lib.hid (HD8.out.below hb9)
                                                                                      clear hb9 Hsm
                                                                                      dsimp only
                                                                                      refine hK.out _ _ ⟨⟨o0, o1, o2, o3⟩, u12, u13, u0, u1, u2⟩ (fun hHeld => ?_)
                                                                                      clear hK K
                                                                                      try simp only [Act.put, List.setIfInBounds_toArray, List.set_cons_zero, List.set_cons_succ]
                                                                                      refine wpAnyH_take (i := 39) (v := .bool false) (List.getElem?_toArray.trans rfl) (by kernel_rfl) (by kernel_rfl) (by kernel_rfl) (fun _ _ _ h => h) (Or.inl ⟨by rfl, fun _ hSw => ?hy⟩) (by assumption) ?rest
                                                                                      case hy => ((try dsimp only at hSw); go_simp)
                                                                                      case rest =>
                                                                                        try simp only [Act.put, List.setIfInBounds_toArray, List.set_cons_zero, List.set_cons_succ]
                                                                                        refine wpAnyH_take (i := 40) (v := .bool false) (List.getElem?_toArray.trans rfl) (by kernel_rfl) (by kernel_rfl) (by kernel_rfl) (fun _ _ _ h => h) (Or.inl ⟨by rfl, fun _ hSw => ?hy⟩) (by assumption) ?rest
                                                                                        case hy => ((try dsimp only at hSw); go_simp)
                                                                                        case rest =>
                                                                                          try simp only [Act.put, List.setIfInBounds_toArray, List.set_cons_zero, List.set_cons_succ]
                                                                                          refine wpAnyH_done (by kernel_rfl) ?_ _
                                                                                          have HS9 : Hid (MatchAt w bs1 bs2 (k + 1) (.int .i64 ((k + 1 : Nat) : Int)) W9) := Lib.hid ⟨_, _, _, _, _, rfl, HD9.out, HokT.out, Hpl2.out⟩
                                                                                          clear hHeld2 HD6 HD7 HD8 HD9 Hda Hpa Heo Hfa Hen Hba
                                                                                          go_wp2_with fail
                                                                                          go_roundg (gk - 1)
                                                                                          case measure => have := Hkg.out; omega
                                                                                          case rel => exact ⟨k + 1, by have := Hkg.out; omega, by rw [show ((k : Int) + 1) = ((k + 1 : Nat) : Int) by omega]; exact HS9.out⟩
      · go_wp2_with fail
        go_ret
        exact ⟨rfl, HD.out.be⟩
end Go.Proofs.Ytgihclflndlomaa
