/- sane. -/
import Derived.Test.YtgihclflndlomaaAa
import Derived.Test.YtgihclflndlomaaAb
import Derived.Test.YtgihclflndlomaaJ
namespace Go.Proofs.Ytgihclflndlomaa
open Go.RowKit

def Apart (p q : Nat → Prop) : Prop := ∀ k, p k → ¬ q k

/-- A stream has done something: another one is as it was, and lies apart still. -/
theorem SAtM.beside {W W' : World} {own own' own2 : Nat → Prop} {bs2 : Nat} {T : St} {m2 : Mem} (h2 : SAtM W own2 bs2 T m2) (ha : Apart own own2) (hf : Fr W W' own own') : SAtM W' own2 bs2 T m2 ∧ Apart own' own2 :=
  ⟨h2.keep hf.size (fun b hb => hf.keep b (h2.lt b hb) (fun e => ha b e hb)), fun k hk e => (hf.new k hk).elim (fun e2 => ha k e2 e) (fun e2 => by have := h2.lt k e; omega)⟩
theorem Apart.symm {p q : Nat → Prop} (h : Apart p q) : Apart q p := fun k h1 h2 => h k h2 h1

theorem SAtM.below {W W' : World} {own : Nat → Prop} {bs : Nat} {S : St} {m : Mem} (h : SAtM W own bs S m) (hb : Below W.heap.size W W') : SAtM W' own bs S m :=
  h.keep hb.size (fun b hk => hb.block b (h.lt b hk))

/-- Two streams that lie apart, in memory that a call has made. -/
structure Duo (w W : World) (own1 : Nat → Prop) (bs1 : Nat) (S : St) (m1 : Mem) (own2 : Nat → Prop) (bs2 : Nat) (T : St) (m2 : Mem) : Prop where
  l : SAtM W own1 bs1 S m1
  r : SAtM W own2 bs2 T m2
  ap : Apart own1 own2
  b1 : ∀ k, own1 k → w.heap.size ≤ k
  b2 : ∀ k, own2 k → w.heap.size ≤ k
  be : Below w.heap.size w W

section
variable {w W W' : World} {own1 own1' own2 : Nat → Prop} {bs1 bs2 : Nat} {S S' T : St} {m1 m1' m2 : Mem}
theorem Duo.left (d : Duo w W own1 bs1 S m1 own2 bs2 T m2) (h : SAtM W' own1' bs1 S' m1') (f : Fr W W' own1 own1') : Duo w W' own1' bs1 S' m1' own2 bs2 T m2 where
  l := h
  r := (d.r.beside d.ap f).1
  ap := (d.r.beside d.ap f).2
  b1 := fun k hk => (f.new k hk).elim (d.b1 k) (fun e => by have := d.be.size; omega)
  b2 := d.b2
  be := d.be.trans (f.below d.be.size d.b1)
theorem Duo.swap (d : Duo w W own1 bs1 S m1 own2 bs2 T m2) : Duo w W own2 bs2 T m2 own1 bs1 S m1 := ⟨d.r, d.l, d.ap.symm, d.b2, d.b1, d.be⟩
theorem Duo.right {own2' : Nat → Prop} {T' : St} {m2' : Mem} (d : Duo w W own1 bs1 S m1 own2 bs2 T m2) (h : SAtM W' own2' bs2 T' m2') (f : Fr W W' own2 own2') : Duo w W' own1 bs1 S m1 own2' bs2 T' m2' := (d.swap.left h f).swap
theorem Duo.below (d : Duo w W own1 bs1 S m1 own2 bs2 T m2) (h : Below W.heap.size W W') : Duo w W' own1 bs1 S m1 own2 bs2 T m2 :=
  ⟨d.l.below h, d.r.below h, d.ap, d.b1, d.b2, d.be.trans (h.mono d.be.size)⟩
end

/-- The two streams of sane, call by call. -/
def s0 : St := St.fresh [97, 98, 99] 8 [] ⟨true, false, false, 2, false⟩
def s1 : St := (s0.ungetc 120).2
def s2 : St := (s1.ungetc 121).2
def s3 : St := (s2.read 3).2.2
def s4 : St := (s3.read 5).2.2
def t0 : St := St.fresh [97, 98, 99] 8 [1] ⟨false, true, false, 4, false⟩
def t1 : St := (t0.write [120, 121, 122]).2.2
def t2 : St := t1.flush.2
theorem s0_ok : s0.Ok := by constructor <;> decide
theorem t0_ok : t0.Ok := by constructor <;> decide
theorem s1_e : (s0.ungetc 120).1 = 0 := by decide
theorem s2_e : (s1.ungetc 121).1 = 0 := by decide
theorem s3_b : (s2.read 3).1 = [121, 120, 97] := by decide
theorem s3_e : (s2.read 3).2.1 = 0 := by decide
theorem s3_t : s3.tell = (1, 0) := by decide
theorem t1_n : (t0.write [120, 121, 122]).1 = 3 := by decide
theorem t1_e : (t0.write [120, 121, 122]).2.1 = 0 := by decide
theorem t1_d : t1.data = [97, 98, 99] := by decide
theorem s4_b : (s3.read 5).1 = [98, 99] := by decide
theorem s4_e : (s3.read 5).2.1 = 11 := by decide
theorem t2_e : t1.flush.1 = 14 := by decide
theorem s4_m : s4.endm = true ∧ s4.opened = true := by decide
theorem t2_m : t2.bad = true ∧ t2.opened = true := by decide
theorem t2_d : t2.data = [120, 98, 99] := by decide

theorem rd_int {w : World} (x : Int) (t : TypeId) : Rd (w.alloc (.cells #[.int .i64 x] t)) (fun _ => True) intV (.slice (some ⟨w.heap.size, 0, none⟩) 1 1) [x] := by
  refine ⟨some ⟨w.heap.size, 0, none⟩, 1, rfl, Nat.le_refl _, by unfold maxLen; omega, fun h => (by cases h), fun _ => ⟨w.heap.size, 0, rfl, trivial, fun i u hu => ?_⟩⟩
  cases i with
  | zero => simp at hu; subst hu; exact World.cell?_alloc_new w _ _ _
  | succ i => simp at hu

theorem field_data (a : Option Addr) (n c : Nat) (x y : Value) (w : World) : (Instr.field 25 (.agg #[.slice a n c, x, y]) 0).run Try.prog w = .ok (.slice a n c) w := by kernel_rfl

set_option maxRecDepth 100000 in
set_option maxHeartbeats 4000000 in
theorem sane_calls (w : World) : Calls Try.prog 10 #[] w fun e w' => e = .returned (.bool true) ∧ Below w.heap.size w w' := by
  go_enter Try.func10, Try.ntmps10
  go_wp2_with fail
  refine (abc_calls _ _ _ _).mono ?_
  rintro e w1 ⟨a1, rfl, hd1, hb1⟩
  go_wp2_with fail
  refine (open_calls w1 _ _ none 3 3 0 0 8 [97, 98, 99] [] ⟨true, false, false, 2, false⟩ hd1 (Rd.nil _ _ _) (by decide)).mono ?_
  rintro e w2 (⟨hr, -⟩ | ⟨-, bs1, own1, rfl, ⟨m1, hs⟩, hown1, hb2⟩)
  · exact absurd hr (by simp [openRefused, devBad, Md.bad])
  have hok0 := s0_ok
  have hfd := field_data
  change SAtM w2 own1 bs1 s0 m1 at hs
  have h02 : Below w.heap.size w w2 := hb1.trans (hb2.mono hb1.size)
  have hl1 : ∀ k, own1 k → w.heap.size ≤ k := fun k hk => Nat.le_trans hb1.size (hown1 k hk)
  clear hb2 hd1 hb1 hown1
  go_wp2_with fail
  refine (abc_calls _ _ _ _).mono ?_
  rintro e w3 ⟨a2, rfl, hd2, hb3⟩
  have hs3 := (hs.alloc (.cells #[.int .i64 1] 3)).below hb3
  have hpl := (rd_int (w := w2) 1 3).keep (own' := fun _ => True) (w' := w3) (fun b _ hl => hb3.block b hl) (fun _ _ _ => trivial)
  have hd2' := hd2.keep (own' := fun _ => True) (fun _ _ _ => rfl) (fun _ _ _ => trivial)
  have h03 : Below w.heap.size w w3 := (h02.alloc h02.size _).trans (hb3.mono (by have := h02.size; simp; omega))
  clear hs hd2 hb3 h02
  go_wp2_with fail
  refine (open_calls w3 _ _ _ 3 3 1 1 8 [97, 98, 99] [1] ⟨false, true, false, 4, false⟩ hd2' hpl (by decide)).mono ?_
  rintro e w4 (⟨hr, -⟩ | ⟨-, bs2, own2, rfl, ⟨m2, ht⟩, hown2, hb4⟩)
  · exact absurd hr (by simp [openRefused, devBad, Md.bad])
  change SAtM w4 own2 bs2 t0 m2 at ht
  have hs4 := hs3.below hb4
  have hap : Apart own1 own2 := fun k h1 h2 => by have := hs3.lt k h1; have := hown2 k h2; omega
  have d4 : Duo w w4 own1 bs1 s0 m1 own2 bs2 t0 m2 := ⟨hs4, ht, hap, hl1, fun k hk => Nat.le_trans h03.size (hown2 k hk), h03.trans (hb4.mono h03.size)⟩
  clear hs3 hd2' hpl hown2 hb4 h03 hs4 ht hap hl1
  go_wp2_with fail
  refine (ungetc_calls ⟨m1, d4.l⟩ s0_ok 120).mono ?_
  rintro e w5 ⟨he, own3, m3, h5, f5⟩
  rw [s1_e] at he
  subst he
  have d5 : Duo w w5 own3 bs1 s1 m3 own2 bs2 t0 m2 := d4.left h5 f5
  clear d4 h5 f5
  go_wp2_with fail
  refine (ungetc_calls ⟨m3, d5.l⟩ (ungetc_ok _ s0_ok _) 121).mono ?_
  rintro e w6 ⟨he, own4, m4, h6, f6⟩
  rw [s2_e] at he
  subst he
  have d6 : Duo w w6 own4 bs1 s2 m4 own2 bs2 t0 m2 := d5.left h6 f6
  have k2 : s2.Ok := ungetc_ok _ (ungetc_ok _ s0_ok _) _
  clear d5 h6 f6
  go_wp2_with fail
  refine (read_calls ⟨m4, d6.l⟩ k2 3).mono ?_
  rintro e w7 ⟨ab, nb, cb, own5, m5, rfl, h7, f7, hrow⟩
  rw [s3_b] at hrow
  rw [s3_e]
  have d7 : Duo w w7 own5 bs1 s3 m5 own2 bs2 t0 m2 := d6.left h7 f7
  have k3 : s3.Ok := read_ok _ k2 _
  have hB := hrow.rd.keep (own' := fun b => ¬ own5 b ∧ ¬ own2 b) (fun _ _ _ => rfl) (fun b hb _ => ⟨hb.2, fun e => by have := d6.r.lt b e; omega⟩)
  clear d6 h7 f7 hrow
  go_wp2_with fail
  refine (tell_calls ⟨m5, d7.l⟩ k3).mono ?_
  rintro e w8 ⟨rfl, own6, m6, h8, f8⟩
  rw [s3_t]
  have d8 : Duo w w8 own6 bs1 s3 m6 own2 bs2 t0 m2 := d7.left h8 f8
  have hB8 := hB.keep (own' := fun b => ¬ own6 b ∧ ¬ own2 b) (fun b hb hl => f8.keep b hl hb.1) (fun b hb hl => ⟨fun e => (f8.new b e).elim hb.1 (fun e => by omega), hb.2⟩)
  clear d7 h8 f8 hB
  have kc := Lib.run_convert_bytes_const (P := Try.prog) w8 22 5 #[.int .u8 120, .int .u8 121, .int .u8 122] 3 3 Try.underlying22 Try.underlying5
  go_wp2_with fail
  have d8b := d8.below (W' := w8.alloc (.cells #[.int .u8 120, .int .u8 121, .int .u8 122] 5 (3, 4))) ((Below.refl _ w8).alloc (Nat.le_refl _) _)
  have hB8b := hB8.keep (own' := fun b => ¬ own6 b ∧ ¬ own2 b) (w' := w8.alloc (.cells #[.int .u8 120, .int .u8 121, .int .u8 122] 5 (3, 4))) (fun b _ hl => Below.heap_alloc _ _ _ hl) (fun b hb _ => hb)
  have hx : Rd (w8.alloc (.cells #[.int .u8 120, .int .u8 121, .int .u8 122] 5 (3, 4))) (fun b => w8.heap.size ≤ b) byteV (.slice (some ⟨w8.heap.size, 0, none⟩) 3 3) [120, 121, 122] := rd_three 120 121 122 5 (3, 4)
  refine (write_calls ⟨m2, d8b.r⟩ t0_ok _ (fun k hk e => by have := d8.r.lt k e; omega) _ 3 3 [120, 121, 122] hx).mono ?_
  rintro e w9 ⟨he, own7, m7, h9, f9⟩
  rw [t1_n, t1_e] at he
  subst he
  have d9 : Duo w w9 own6 bs1 s3 m6 own7 bs2 t1 m7 := d8b.right h9 f9
  have j1 : t1.Ok := write_ok _ t0_ok _
  have hB9 := hB8b.keep (own' := fun _ => True) (fun b hb hl => f9.keep b hl hb.2) (fun _ _ _ => trivial)
  have kB : (convert 22 9 (.slice ab nb cb)).run Try.prog w9 = .ok (.string ⟨#[121, 120, 97]⟩) w9 := conv_str hB9
  clear d8 d8b hB8 hB8b hx h9 f9 hB9 kc
  go_wp2_with fail
  refine (device_calls d9.r j1 (by decide)).mono ?_
  rintro e w10 ⟨a3, n3, c3, a4, n4, c4, rfl, hD, -, hb10⟩
  rw [t1_d] at hD
  have kD : (convert 22 9 (.slice a3 n3 c3)).run Try.prog w10 = .ok (.string ⟨#[97, 98, 99]⟩) w10 := conv_str hD.rd
  have d10 := d9.below hb10
  clear d9 hb10 kB hD
  go_wp2_with fail
  refine (read_calls ⟨m6, d10.l⟩ k3 5).mono ?_
  rintro e w11 ⟨ar, nr, cr, own8, m8, rfl, h11, f11, hrow⟩
  rw [s4_b] at hrow
  rw [s4_e]
  have d11 : Duo w w11 own8 bs1 s4 m8 own7 bs2 t1 m7 := d10.left h11 f11
  have hR := hrow.rd.keep (own' := fun b => ¬ own7 b) (fun _ _ _ => rfl) (fun b hb _ => fun e => by have := d10.r.lt b e; omega)
  clear d10 h11 f11 hrow kD
  go_wp2_with fail
  refine (flush_calls ⟨m7, d11.r⟩ j1).mono ?_
  rintro e w12 ⟨he, own9, m9, h12, f12⟩
  rw [t2_e] at he
  subst he
  have d12 : Duo w w12 own8 bs1 s4 m8 own9 bs2 t2 m9 := d11.right h12 f12
  have j2 : t2.Ok := flush_ok' _ j1
  have hR12 := hR.keep (own' := fun _ => True) (fun b hb hl => f12.keep b hl hb) (fun _ _ _ => trivial)
  have kR : (convert 22 9 (.slice ar nr cr)).run Try.prog w12 = .ok (.string ⟨#[98, 99]⟩) w12 := conv_str hR12
  clear d11 h12 f12 hR hR12
  go_wp2_with fail
  refine (eof_calls d12.l).mono ?_
  rintro e w13 ⟨rfl, rfl⟩
  rw [s4_m.1]
  go_wp2_with fail
  refine (failed_calls d12.r).mono ?_
  rintro e w13 ⟨rfl, rfl⟩
  rw [t2_m.1]
  go_wp2_with fail
  refine (device_calls d12.r j2 (by decide)).mono ?_
  rintro e w13 ⟨a5, n5, c5, a6, n6, c6, rfl, hD, -, hb13⟩
  rw [t2_d] at hD
  have kD : (convert 22 9 (.slice a5 n5 c5)).run Try.prog w13 = .ok (.string ⟨#[120, 98, 99]⟩) w13 := conv_str hD.rd
  have d13 := d12.below hb13
  have hbe := Lib.hid d13.be
  clear d12 hb13 kR hD d13
  go_wp2_with fail
  go_ret
  exact ⟨rfl, hbe.out⟩
end Go.Proofs.Ytgihclflndlomaa
