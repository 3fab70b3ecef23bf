/- Read, the walk. -/
import Derived.Test.YtgihclflndlomaaX
import Derived.Test.YtgihclflndlomaaW
namespace Go.Proofs.Ytgihclflndlomaa
open Go.RowKit Go.Shelf
attribute [local go_sem] Oper.semAt_some

theorem rd_start {w : World} {own : Nat → Prop} {bs : Nat} {S : St} {m : Mem} (h : SAtM w own bs S m) (N : Nat) (lp : Loop) :
    RdIn w own bs N lp 0 [] S (((((((w.alloc (.cells #[.slice none 0 0] 22)).alloc (.cells #[.int .i64 0] 28)).alloc (.cells #[.pointer (some ⟨bs, 0, none⟩)] 27)).alloc (.cells #[.int .i64 (N : Int)] 3)).alloc (.deferred (some []))).alloc (.loop lp))) own m (.slice none 0 0) := by
  have g : ∀ (W : World) (o : Obj) (k : Nat), k = W.heap.size → (W.alloc o).heap[k]? = some o := fun W o k hk => by subst hk; exact (show (W.heap.push o)[W.heap.size]? = some o by simp)
  have f : ∀ (W : World) (o : Obj) (k : Nat), k < W.heap.size → (W.alloc o).heap[k]? = W.heap[k]? := fun W o k hk => Below.heap_alloc _ _ _ hk
  exact {
    sat := (((((h.alloc _).alloc _).alloc _).alloc _).alloc _).alloc _
    fr := ((((((Fr.refl w own).alloc _).alloc _).alloc _).alloc _).alloc _).alloc _
    new := fun k hk => .inl hk
    low := h.lt
    out := by rw [f _ _ _ (by simp <;> omega), f _ _ _ (by simp <;> omega), f _ _ _ (by simp <;> omega), f _ _ _ (by simp <;> omega), f _ _ _ (by simp)]; exact g _ _ _ rfl
    err := by rw [f _ _ _ (by simp <;> omega), f _ _ _ (by simp <;> omega), f _ _ _ (by simp <;> omega), f _ _ _ (by simp <;> omega)]; exact g _ _ _ (by simp)
    bx := by rw [f _ _ _ (by simp <;> omega), f _ _ _ (by simp <;> omega), f _ _ _ (by simp <;> omega)]; exact g _ _ _ (by simp)
    bn := by rw [f _ _ _ (by simp <;> omega), f _ _ _ (by simp <;> omega)]; exact g _ _ _ (by simp)
    df := by rw [f _ _ _ (by simp)]; exact g _ _ _ (by simp)
    lp := g _ _ _ (by simp)
    row := .inl ⟨rfl, none, rfl⟩ }

set_option maxRecDepth 100000 in
set_option maxHeartbeats 2000000 in
theorem read_go {w : World} {own : Nat → Prop} {bs : Nat} {S : St} {m : Mem} (h : SAtM w own bs S m) (ho : S.opened = true) (hr : S.rd = true) (hok : S.Ok) (N : Nat) (hN : (N : Int) ≤ 1048576) :
    Calls Try.prog 12 #[.pointer (some ⟨bs, 0, none⟩), .int .i64 (N : Int)] w (ReadPost w own bs (S.readN N)) := by
  refine (callsIn_wide (n := 4)).1 ?_
  refine callsIn_of_wp_marks Try.func12 rfl trivial ?_ rfl
  simp only [Try.ntmps12, List.size_toArray, List.length_cons, List.length_nil, Nat.reduceAdd, Nat.reduceSub, Array.replicate_succ, Array.replicate_zero, List.push_toArray, List.append_toArray, List.nil_append, List.cons_append]
  have h2 := (h.alloc (.cells #[.slice none 0 0] 22)).alloc (.cells #[.int .i64 0] 28)
  have c8 : ((w.alloc (.cells #[.slice none 0 0] 22)).alloc (.cells #[.int .i64 0] 28)).cell? ⟨bs, 8, none⟩ = some (.bool true) := by rw [h2.c]; simp [Mem.stream, ho]
  have c3 : ((w.alloc (.cells #[.slice none 0 0] 22)).alloc (.cells #[.int .i64 0] 28)).cell? ⟨bs, 3, none⟩ = some (.bool true) := by rw [h2.c]; simp [Mem.stream, hr]
  have hb0 : (0 : Int) ≤ (N : Int) := by omega
  gi_wp2
  refine ⟨trivial, (callsIn_wide.2 (use_open _ _ c8)).mono ?_⟩
  rintro r w' ⟨rfl, rfl⟩
  gi_wp2
  refine ⟨trivial, (callsIn_wide.2 (want_ok _ 1 _ (by simp))).mono ?_⟩
  rintro r w' ⟨rfl, rfl⟩
  gi_wp2
  refine ⟨trivial, (callsIn_wide.2 (want_ok _ 4 _ rfl)).mono ?_⟩
  rintro r w' ⟨rfl, rfl⟩
  gi_wp2
  refine ⟨trivial, (callsIn_wide.2 (bytes_calls _ _ _)).mono ?_⟩
  rintro r w' ⟨rfl, rfl⟩
  gi_wp2
  refine wpIn_range_mine rfl (by decide) (gf := 59) (lb := #[.pointer (some ⟨w.heap.size + 1 + 1 + 1, 0, none⟩), .pointer (some ⟨w.heap.size + 1 + 1, 0, none⟩)]) rfl trivial (enters_of Try.func59 (by kernel_rfl) rfl) ?_
  intro fn rec hrec
  have hszW : ((((w.alloc (.cells #[.slice none 0 0] 22)).alloc (.cells #[.int .i64 0] 28)).alloc (.cells #[.pointer (some ⟨bs, 0, none⟩)] 27)).alloc (.cells #[.int .i64 (N : Int)] 3)).heap.size = w.heap.size + 4 := by simp
  rw [hszW] at hrec ⊢
  have h6 : RdIn w own bs N (rec .ready none) 0 [] S (((((((w.alloc (.cells #[.slice none 0 0] 22)).alloc (.cells #[.int .i64 0] 28)).alloc (.cells #[.pointer (some ⟨bs, 0, none⟩)] 27)).alloc (.cells #[.int .i64 (N : Int)] 3)).alloc (.deferred (some []))).alloc (.loop (rec .ready none)))) own m (.slice none 0 0) := rd_start h N _
  refine (bytes1_in 3 (w.heap.size + 4 + 1) (w.heap.size + 1 + 1 + 1) (w.heap.size + 1 + 1) bs N S
    (fun pre T W => T.Ok ∧ ∃ own' m' v, RdIn w own bs N (rec .ready none) 0 pre T W own' m' v)
    (fun pre e T W => ∃ own' m' v, RdIn w own bs N (rec .done (some .ret)) e pre T W own' m' v) hN ?_ ?_ ?_ _ ⟨hok, own, m, _, h6⟩).mono ?_
  · rintro pre T W ⟨hT, own', m', v, hR⟩
    exact ⟨cell_of_row _ _ 0 _ _ _ hR.bn, cell_of_row _ _ 0 _ _ _ hR.bx⟩
  · rintro pre T W ⟨hT, own', m', v, hR⟩
    refine (getc_calls ⟨m', hR.sat⟩ hT).mono ?_
    rintro e W' ⟨rfl, own2, m2, hs2, hf2⟩
    exact ⟨rfl, (getc_ok T hT).1, own2, m2, v, hR.step hs2 hf2⟩
  · rintro pre T x e W ⟨hT, own', m', v, hR⟩ hlen
    have hl := hR.lp
    have hy := run_yield (P := Try.prog) (args := #[byteV x, .int .i64 e]) hl (by rw [hrec]; rfl)
    rw [hrec] at hy
    refine ⟨_, _, _, _, hy, roundIn_of_wpIn trivial ?_⟩
    have hbr : ({ rec .ready none with state := .busy } : Loop) = rec .busy none := by rw [hrec, hrec]
    have hrl : (rec .ready none).state = .ready := by rw [hrec]
    have hRb := hR.putLoop (rec .busy none)
    have hbegin := run_beginRound (P := Try.prog) hl hrl
    rw [hbr] at hbegin
    have fin : ∀ (jump : Option Code) (W3 : World) (x3 : Int) (l3 : List UInt8) (v3 : Value), RdIn w own bs N (rec .busy none) x3 l3 T W3 own' m' v3 →
        (Instr.endRound (w.heap.size + 4 + 1) jump).run Try.prog W3 = .ok (.bool jump.isNone) (W3.putObj (w.heap.size + 5) (.loop (rec (if jump.isNone then .ready else .done) jump))) ∧
        RdIn w own bs N (rec (if jump.isNone then .ready else .done) jump) x3 l3 T (W3.putObj (w.heap.size + 5) (.loop (rec (if jump.isNone then .ready else .done) jump))) own' m' v3 := fun jump W3 x3 l3 v3 h3 => by
      have h4 := run_endRound (P := Try.prog) jump h3.lp
      have hb2 : ({ rec .busy none with state := if jump.isNone then .ready else .done, pending := jump } : Loop) = rec (if jump.isNone then .ready else .done) jump := by rw [hrec, hrec]
      rw [hb2] at h4
      exact ⟨h4, h3.putLoop _⟩
    have Fin := Lib.hid fin
    have Hbegin := Lib.hid hbegin
    clear fin hbegin hy hbr hrl hl
    by_cases hz : e = 0
    · subst hz
      gi_wp2
      refine ⟨_, Hbegin.out, ?_⟩
      clear Hbegin
      generalize W.putObj (w.heap.size + 5) (.loop (rec .busy none)) = Wb at *
      clear hR
      have c0 : Wb.cell? ⟨w.heap.size, 0, none⟩ = some v := cell_of_row _ _ 0 _ _ _ hRb.out
      have hbig := hRb.big
      obtain ⟨av, cv, rfl, -, -⟩ := hRb.row.shape
      obtain ⟨a6, n6, cc, W6, hrun, hrow', htw, -⟩ := run_app bytesElem (Wb.alloc (.cells #[byteV x] 5)) _ (fun _ => True) _ _ pre [x] (hRb.row.keep (fun b _ hb => Below.heap_alloc _ _ _ hb) (fun b hb _ => hb)) (rd_one x 5) 22 (by simp; omega) (by decide)
      have hsa : (Wb.alloc (.cells #[byteV x] 5)).heap.size = Wb.heap.size + 1 := by simp
      have ht : Tw Wb W6 (fun b => w.heap.size + 6 ≤ b ∧ ¬ own' b) := ⟨htw.os, htw.tape, htw.output, by have := htw.size; simp at this; omega, fun k hk hn => (htw.keep k (by simp; omega) (fun e => hn e.1)).trans (Below.heap_alloc _ _ _ hk)⟩
      have hrow2 : Row 5 byteV W6 (fun b => w.heap.size + 6 ≤ b ∧ ¬ own' b) (.slice a6 n6 cc) (pre ++ [x]) := hrow'.keep (fun _ _ _ => rfl) (fun b hb _ => hb.elim id (fun e => by
        rw [e]; exact ⟨by omega, fun e => by have := hRb.sat.lt _ e; omega⟩))
      have Hwr := Lib.hid (hRb.write ht (fun k e => e) (.slice a6 n6 cc) 0 (pre ++ [x]) hrow2)
      have k0 : W6.heap[w.heap.size]? = Wb.heap[w.heap.size]? := ht.keep _ (by omega) (fun e => by omega)
      have k1 : W6.heap[w.heap.size + 1]? = Wb.heap[w.heap.size + 1]? := ht.keep _ (by omega) (fun e => by omega)
      have c6 : W6.cell? ⟨w.heap.size, 0, none⟩ = some (.slice av pre.length cv) := cell_of_row _ _ 0 _ _ _ (k0.trans hRb.out)
      have f6 : W6.frozen? ⟨w.heap.size, 0, none⟩ = false := frozen_of_row _ _ 0 _ _ (k0.trans hRb.out)
      have hself : ((W6.setCell ⟨w.heap.size, 0, none⟩ (.slice a6 n6 cc)).setCell ⟨w.heap.size + 1, 0, none⟩ (.int .i64 0)) = W6.setCell ⟨w.heap.size, 0, none⟩ (.slice a6 n6 cc) :=
        setCell_self ((cell_set_block _ (by omega)).trans (cell_of_row _ _ 0 _ _ _ (k1.trans hRb.err)))
      rw [hself] at Hwr
      have Hrun := Lib.hid hrun
      have Hok := Lib.hid hT
      clear hrun hrow' htw ht hrow2 hself k0 k1 hRb hT hsa
      have hbv : byteV x = .int .u8 (x.toNat : Int) := rfl
      gi_wp2_with (gi_at_builtin; refine wpListIn_app _ rfl (.tmp 32) (.tmp 34) 22 rfl _ _ rfl rfl _ _ (Eq.trans ?_ Hrun.out) ?_; focus kernel_rfl)
      obtain ⟨hf1, hf2⟩ := Fin.out none _ _ _ _ Hwr.out
      exact ⟨_, _, hf1, .inl ⟨trivial, rfl, Hok.out, _, _, _, hf2⟩⟩
    · have hz' : (e != 0) = true := by simpa using hz
      gi_wp2
      refine ⟨_, Hbegin.out, ?_⟩
      clear Hbegin
      generalize W.putObj (w.heap.size + 5) (.loop (rec .busy none)) = Wb at *
      clear hR
      have c0 : Wb.cell? ⟨w.heap.size, 0, none⟩ = some v := cell_of_row _ _ 0 _ _ _ hRb.out
      have f0 : Wb.frozen? ⟨w.heap.size, 0, none⟩ = false := frozen_of_row _ _ 0 _ _ hRb.out
      have c1 : (Wb.setCell ⟨w.heap.size, 0, none⟩ v).cell? ⟨w.heap.size + 1, 0, none⟩ = some (.int .i64 0) := (cell_set_block _ (by omega)).trans (cell_of_row _ _ 0 _ _ _ hRb.err)
      have f1 : Wb.frozen? ⟨w.heap.size + 1, 0, none⟩ = false := frozen_of_row _ _ 0 _ _ hRb.err
      obtain ⟨av, cv, rfl, -, -⟩ := hRb.row.shape
      have Hz := Lib.hid hz
      clear hz
      have Hwr := Lib.hid (hRb.write (Tw.refl Wb (fun _ => False)) (fun k e => e.elim) _ e pre hRb.row)
      gi_wp2
      obtain ⟨hf1, hf2⟩ := Fin.out (some .ret) _ _ _ _ Hwr.out
      exact ⟨_, _, hf1, .inr ⟨Hz.out, rfl, _, _, _, hf2⟩⟩
  · rintro e W ⟨⟨v, rfl⟩, hcase⟩
    rcases hcase with ⟨he, hT, own', m', vo, hR⟩ | ⟨he, own', m', vo, hR⟩
    · have hend := run_endLoop (P := Try.prog) hR.lp (by rw [hrec]; simp)
      obtain ⟨l2, hl2⟩ : ∃ l2 : Loop, ({ rec .ready none with state := .exhausted } : Loop) = l2 := ⟨_, rfl⟩
      rw [hl2, show (rec .ready none).pending = none by rw [hrec]] at hend
      clear hl2
      have hR4 := hR.putLoop l2
      refine ⟨none, _, hend, ?_⟩
      clear hend hR
      generalize W.putObj (w.heap.size + 5) (.loop l2) = W4 at *
      have c0 : W4.cell? ⟨w.heap.size, 0, none⟩ = some vo := cell_of_row _ _ 0 _ _ _ hR4.out
      have f0 : W4.frozen? ⟨w.heap.size, 0, none⟩ = false := frozen_of_row _ _ 0 _ _ hR4.out
      have c1 : (W4.setCell ⟨w.heap.size, 0, none⟩ vo).cell? ⟨w.heap.size + 1, 0, none⟩ = some (.int .i64 0) := (cell_set_block _ (by omega)).trans (cell_of_row _ _ 0 _ _ _ hR4.err)
      have f1 : W4.frozen? ⟨w.heap.size + 1, 0, none⟩ = false := frozen_of_row _ _ 0 _ _ hR4.err
      obtain ⟨av, cv, rfl, -, -⟩ := hR4.row.shape
      have hwr := hR4.write (Tw.refl W4 (fun _ => False)) (fun k e => e.elim) _ 0 _ hR4.row
      have Hlast := Lib.hid hwr.last
      have Hdf := Lib.hid hwr.df
      have He := Lib.hid he
      clear hwr he hR4 h h2 ho hr hok h6 hT hrec hszW
      gi_wp2
      obtain ⟨l1, l2, l3, l4, l5⟩ := Hlast.out
      show LeavesInM Fence.wide 4 Try.prog Try.f12 _ _ _ _ _
      refine leaves_read (v := .tuple #[.slice av (St.readN N S).1.length cv, .int .i64 0]) (by decide) Hdf.out ?_ ⟨_, _, _, own', m', ?_, l1, l2, l3⟩
      · simp [results, Try.results12, go_sem, l4, l5]
      · rw [He.out]
    · have hend := run_endLoop (P := Try.prog) hR.lp (by rw [hrec]; simp)
      obtain ⟨l2, hl2⟩ : ∃ l2 : Loop, ({ rec .done (some .ret) with state := .exhausted } : Loop) = l2 := ⟨_, rfl⟩
      rw [hl2, show (rec .done (some .ret)).pending = some .ret by rw [hrec]] at hend
      clear hl2
      have hR4 := hR.putLoop l2
      refine ⟨some .ret, _, hend, ?_⟩
      clear hend hR
      generalize W.putObj (w.heap.size + 5) (.loop l2) = W4 at *
      have Hlast := Lib.hid hR4.last
      have Hdf := Lib.hid hR4.df
      obtain ⟨av, cv, rfl, -, -⟩ := hR4.row.shape
      clear he hR4 h h2 ho hr hok h6 hrec hszW
      gi_wp2
      obtain ⟨l1, l2, l3, l4, l5⟩ := Hlast.out
      show LeavesInM Fence.wide 4 Try.prog Try.f12 _ _ _ _ _
      refine leaves_read (v := .tuple #[.slice av (St.readN N S).1.length cv, .int .i64 (St.readN N S).2.1]) (by decide) Hdf.out ?_ ⟨_, _, _, own', m', rfl, l1, l2, l3⟩
      simp [results, Try.results12, go_sem, l4, l5]
end Go.Proofs.Ytgihclflndlomaa
