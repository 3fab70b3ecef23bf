/- clone of a device, Device, Close: each computes what the plain model says. -/
import Derived.Test.YtgihclflndlomaaJ
namespace Go.Proofs.Ytgihclflndlomaa
open Go.RowKit

theorem shut_calls (b bs : Nat) (u : FrameMode) (w : World) (c0 : w.cell? ⟨b, 0, none⟩ = some (.pointer (some ⟨bs, 0, none⟩))) (v : Value) (c8 : w.cell? ⟨bs, 8, none⟩ = some v) (f8 : w.frozen? ⟨bs, 8, none⟩ = false) :
    CallsD Try.prog 62 #[.pointer (some ⟨b, 0, none⟩)] u w fun e u' w' => u' = u ∧ (e = .returned (.tuple #[]) ∧ w' = w.setCell ⟨bs, 8, none⟩ (.bool false)) := by
  go_enter_d Try.func62, Try.ntmps62
  go_wp2
  go_end0
  exact ⟨rfl, rfl⟩

/-- The world of a call of Close as it begins: the receiver's cell, the error's cell. -/
abbrev closeW (w : World) (bs : Nat) : World := (w.alloc (.cells #[.pointer (some ⟨bs, 0, none⟩)] 27)).alloc (.cells #[.int .i64 0] 28)

theorem closeW_below (w : World) (bs : Nat) : Below w.heap.size w (closeW w bs) := ((Below.refl _ w).alloc (Nat.le_refl _) _).alloc (by simp) _

theorem SAt'.cellsMine {w w1 : World} {own : Nat → Prop} {bs b2 : Nat} {S : St} (h : SAt' (closeW w b2) w1 own bs S) (hlt : ∀ k, own k → k < w.heap.size) :
    w.heap.size + 1 < w1.heap.size ∧ w1.cell? ⟨w.heap.size, 0, none⟩ = some (.pointer (some ⟨b2, 0, none⟩)) ∧ w1.cell? ⟨w.heap.size + 1, 0, none⟩ = some (.int .i64 0) ∧ w1.frozen? ⟨w.heap.size + 1, 0, none⟩ = false := by
  obtain ⟨h1, h2⟩ := h.mine (k := w.heap.size) (by simp [closeW]; omega) (fun e => by have := hlt _ e; omega)
  obtain ⟨h3, h4⟩ := h.mine (k := w.heap.size + 1) (by simp [closeW]) (fun e => by have := hlt _ e; omega)
  refine ⟨h4, (World.cell?_of_block (a := ⟨w.heap.size, 0, none⟩) h1).trans ?_, (World.cell?_of_block (a := ⟨w.heap.size + 1, 0, none⟩) h3).trans ?_, (World.frozen?_of_block (a := ⟨w.heap.size + 1, 0, none⟩) h3).trans ?_⟩
  · simp [closeW, go_sem]
  · simp [closeW]
  · simp [closeW, go_sem]

theorem close_closed {w : World} {own : Nat → Prop} {bs : Nat} {S : St} {m : Mem} (h : SAtM w own bs S m) (ho : S.opened = false) :
    Calls Try.prog 47 #[.pointer (some ⟨bs, 0, none⟩)] w (ErrPost w own bs (4, S)) := by
  have h2 := (h.alloc (.cells #[.pointer (some ⟨bs, 0, none⟩)] 27)).alloc (.cells #[.int .i64 0] 28)
  have c8 : (closeW w bs).cell? ⟨bs, 8, none⟩ = some (.bool false) := by rw [h2.c]; simp [Mem.stream, ho]
  have hs : SAt' (closeW w bs) (closeW w bs) own bs S := ⟨own, m, h2, Fr.refl _ _⟩
  obtain ⟨hb, -, hce, hz⟩ := hs.cellsMine h.lt
  have hcc := caughtW_cell (x := 4) hce
  have hfin := Lib.hid (hs.outer (W := caughtW (closeW w bs) (w.heap.size + 1) 4) h.lt (closeW_below w bs) (Tw.caughtW (.inl ⟨by omega, by simp [closeW]⟩)))
  clear ho h2 hs
  go_enter_defers Try.func47, Try.ntmps47
  go_wp2_with (go_at_call 34; refine (use_closed _ _ c8).mono ?_; rintro r w' ⟨rfl, rfl⟩)
  refine door_err (y := 0) (v := .int .i64 4) hb hce hz ?_ ⟨rfl, hfin.out⟩
  simp [results, Try.results47, go_sem, hcc]

/-- The state of a stream that has been closed. -/
def St.shutDown (S : St) : St := { S with opened := false, endm := false, bad := false }

theorem close_open {w : World} {own : Nat → Prop} {bs : Nat} {S : St} {m : Mem} (h : SAtM w own bs S m) (ho : S.opened = true) (hf : S.Fit) (he : S.move.2.1 = 0) :
    Calls Try.prog 47 #[.pointer (some ⟨bs, 0, none⟩)] w (ErrPost w own bs (0, S.move.2.2.shutDown)) := by
  have h2 := (h.alloc (.cells #[.pointer (some ⟨bs, 0, none⟩)] 27)).alloc (.cells #[.int .i64 0] 28)
  have c8 : (closeW w bs).cell? ⟨bs, 8, none⟩ = some (.bool true) := by rw [h2.c]; simp [Mem.stream, ho]
  have Hset := Lib.hid (settle_ok h2 ho hf he)
  have hlt := h.lt
  have hown := h.os
  have hbs : bs < w.heap.size := hlt bs h.os
  have hnb' : ¬ w.heap.size + 1 = bs := by omega
  have hnb : ¬ bs = w.heap.size + 1 := by omega
  have hnc : ¬ w.heap.size = w.heap.size + 1 := by omega
  have hmf : ∀ (fn : Fn) (first cap : Array Value) (w : World), (Instr.makeFunc fn first cap).run Try.prog w = .ok (.func fn first cap) w := fun _ _ _ _ => rfl
  clear ho hf he h2 h
  go_enter_defers Try.func47, Try.ntmps47
  go_wp2_with (first | (go_at_call 34; refine (use_open _ _ c8).mono ?_; rintro r w' ⟨rfl, rfl⟩) | (go_at_call 37; refine Hset.out.mono ?_; rintro r w1 ⟨rfl, hs⟩; obtain ⟨hb, hc0, hce, hz⟩ := hs.cellsMine hlt))
  obtain ⟨own1, m1, h1, hg1⟩ := hs
  have hW : SAt' (closeW w bs) (w1.setCell ⟨bs, 8, none⟩ (.bool false)) own bs S.move.2.2.shutDown := ⟨own1, m1, h1.setShut, hg1.setCell _ _ (.inl hown)⟩
  have hfin : SAt' w ((w1.setCell ⟨w.heap.size + 1, 0, none⟩ (.int .i64 0)).setCell ⟨bs, 8, none⟩ (.bool false)) own bs S.move.2.2.shutDown := by
    have hn : ∀ b, own1 b → b < w.heap.size ∨ w.heap.size + 2 ≤ b := fun b hb => (hg1.new b hb).imp (hlt b) (fun e => by simpa [closeW] using e)
    have h1' := (h1.other ⟨w.heap.size + 1, 0, none⟩ (.int .i64 0) (fun e => by have := hn _ e; simp at this; omega)).setShut
    refine ⟨own1, m1, h1', ?_⟩
    have hsz : w.heap.size + 2 ≤ w1.heap.size := by have := hg1.size; simp at this; omega
    have hb0 := closeW_below w bs
    exact {
      os := hg1.os.trans hb0.os
      tape := hg1.tape.trans hb0.tape
      output := hg1.output.trans hb0.output
      size := by simp; omega
      keep := fun k hk ho => by
        rw [Below.heap_setCell _ _ _ _ (fun e => ho (by simp at e; rw [e]; exact hown)), Below.heap_setCell _ _ _ _ (fun e => by simp at e; omega)]
        exact (hg1.keep k (by simp; omega) ho).trans (hb0.block k hk)
      new := fun k hk => (hg1.new k hk).imp id (fun e => by simp at e; omega) }
  have Hfin := Lib.hid hfin
  have c81 : w1.cell? ⟨bs, 8, none⟩ = some (.bool S.move.2.2.opened) := h1.c 8
  have f8 := h1.f 8
  clear hW hfin h1 hg1
  refine leaves_cons (f := 62) (args := #[.pointer (some ⟨w.heap.size, 0, none⟩)]) (by simp) (by simp [go_sem]) ?_
  refine (shut_calls w.heap.size bs _ (w1.setCell ⟨w.heap.size + 1, 0, none⟩ (.int .i64 0)) ((cell_set_block _ (by omega)).trans hc0) (.bool S.move.2.2.opened) ((cell_set_block _ hnb).trans c81) ((World.frozen?_setCell _ _ _ _).trans f8)).mono ?_
  rintro e u' w'' ⟨rfl, rfl, rfl⟩
  have hce3 : ((w1.setCell ⟨w.heap.size + 1, 0, none⟩ (.int .i64 0)).setCell ⟨bs, 8, none⟩ (.bool false)).cell? ⟨w.heap.size + 1, 0, none⟩ = some (.int .i64 0) := (cell_set_block _ hnb').trans (World.cell?_setCell_same _ _ _ hce)
  refine door_ok (v := .int .i64 0) ?_ ⟨rfl, Hfin.out⟩
  simp [results, Try.results47, go_sem, hce3]

theorem close_stuck {w : World} {own : Nat → Prop} {bs : Nat} {S : St} {m : Mem} (h : SAtM w own bs S m) (ho : S.opened = true) (hf : S.Fit) (x : Int) (he : S.move.2.1 = x) (hx : (x != 0) = true) :
    Calls Try.prog 47 #[.pointer (some ⟨bs, 0, none⟩)] w (ErrPost w own bs (x, S.move.2.2.shutDown)) := by
  have h2 := (h.alloc (.cells #[.pointer (some ⟨bs, 0, none⟩)] 27)).alloc (.cells #[.int .i64 0] 28)
  have c8 : (closeW w bs).cell? ⟨bs, 8, none⟩ = some (.bool true) := by rw [h2.c]; simp [Mem.stream, ho]
  have Hset := Lib.hid (settle_bad h2 ho hf x he hx)
  have hlt := h.lt
  have hown := h.os
  have hbs : bs < w.heap.size := hlt bs h.os
  have hnb' : ¬ w.heap.size + 1 = bs := by omega
  have hnb : ¬ bs = w.heap.size + 1 := by omega
  have hmf : ∀ (fn : Fn) (first cap : Array Value) (w : World), (Instr.makeFunc fn first cap).run Try.prog w = .ok (.func fn first cap) w := fun _ _ _ _ => rfl
  clear ho hf he h2 h
  go_enter_defers Try.func47, Try.ntmps47
  go_wp2_with (first | (go_at_call 34; refine (use_open _ _ c8).mono ?_; rintro r w' ⟨rfl, rfl⟩) | (go_at_call 37; refine Hset.out.mono ?_; rintro r w1 ⟨rfl, hs⟩; obtain ⟨hb, hc0, hce, hz⟩ := hs.cellsMine hlt))
  obtain ⟨own1, m1, h1, hg1⟩ := hs
  have hs8 : SAt' (closeW w bs) (w1.setCell ⟨bs, 8, none⟩ (.bool false)) own bs S.move.2.2.shutDown := ⟨own1, m1, h1.setShut, hg1.setCell _ _ (.inl hown)⟩
  have Hfin := Lib.hid (hs8.outer (W := caughtW (w1.setCell ⟨bs, 8, none⟩ (.bool false)) (w.heap.size + 1) x) hlt (closeW_below w bs) (Tw.caughtW (.inl ⟨by omega, by simp [closeW]⟩)))
  have c81 : w1.cell? ⟨bs, 8, none⟩ = some (.bool S.move.2.2.opened) := h1.c 8
  have f8 := h1.f 8
  clear hs8 h1 hg1
  refine leaves_cons (f := 62) (args := #[.pointer (some ⟨w.heap.size, 0, none⟩)]) (by simp) (by simp [go_sem]) ?_
  refine (shut_calls w.heap.size bs _ w1 hc0 (.bool S.move.2.2.opened) c81 f8).mono ?_
  rintro e u' w'' ⟨rfl, rfl, rfl⟩
  have hce2 : (w1.setCell ⟨bs, 8, none⟩ (.bool false)).cell? ⟨w.heap.size + 1, 0, none⟩ = some (.int .i64 0) := (cell_set_block _ hnb').trans hce
  have hcc := caughtW_cell (x := x) hce2
  show Leaves Try.prog Try.f47 _ _ _ (.panicking (pe x)) _
  refine door_err (y := 0) (v := .int .i64 x) (by simpa using hb) hce2 ((World.frozen?_setCell _ _ _ _).trans hz) ?_ ⟨rfl, Hfin.out⟩
  simp [results, Try.results47, go_sem, hcc]

theorem close_calls {w : World} {own : Nat → Prop} {bs : Nat} {S : St} (h : SAt w own bs S) (hok : S.Ok) :
    Calls Try.prog 47 #[.pointer (some ⟨bs, 0, none⟩)] w (ErrPost w own bs S.close) := by
  obtain ⟨m, h⟩ := h
  unfold St.close
  by_cases ho : S.opened = false
  · rw [if_pos ho]; exact close_closed h ho
  · have ho' : S.opened = true := by simpa using ho
    rw [if_neg ho]
    by_cases he : S.move.2.1 = 0
    · rw [he]; exact close_open h ho' hok.fit he
    · exact close_stuck h ho' hok.fit _ rfl (by simpa using he)
end Go.Proofs.Ytgihclflndlomaa
