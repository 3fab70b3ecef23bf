/- StreamTorn holds: whatever the plan, a device changes by the first bytes of what is pending alone, and a call that returns OK has lost nothing, whatever the input; no condition. -/
import Derived.Test.YtgihclflndlomaaRows
import Derived.Test.YtgihclflndlomaaBr
import Derived.Test.YtgihclflndlomaaCb
import Derived.ProofKit
import Derived.SizedLaws
import Derived.Lib.SmallJoins
namespace Go.Proofs.Ytgihclflndlomaa
open Go.ChangeShapes Go.WideShapes Go.ChangeAt Go.RowKit Go.Joins

theorem Try.bytes3 : Try.prog.bytesOf 3 = 8 := by kernel_rfl

/-- The plan's length is within the reach. -/
theorem plan_reach {H : Type} {enc : TypeId × Value → H} {W : World} {r : Reach} {b0 : Nat} {ts : List TypeId} {ds : List (DataW H)} {v : Value} {d : DataW H} {p : List MemPlace} (hv : Value.okWide Try.prog W r b0 25 v)
    (h : DataW.Trod enc Try.prog W 0 (fun _ => true) true 25 v d p) (hz : (DataW.weightsEach Try.prog (25 :: ts) (d :: ds)).all (· ≤ reachBytes) = true) {a a2 : Option Addr} {n c n2 c2 : Nat} {max : Int}
    (hvv : v = .agg #[.slice a n c, .int .i64 max, .slice a2 n2 c2]) : n2 * 8 ≤ 140737488355328 := by
  obtain ⟨v0, v1, v2, y0, y1, y2, k, hva, hda, -, h0, h1, h2⟩ := open_agg3 Try.underlying25 (by kernel_rfl) Try.cells25 hv h
  rw [hvv] at hva
  injection hva with hva
  have e2 : v2 = .slice a2 n2 c2 := by
    have := congrArg (fun x : Array Value => x[2]?) hva
    simpa using this.symm
  rw [e2] at h2
  rcases open_ints Try.underlying23 Try.underlying3 Try.cells3 h2 with ⟨hcs, -⟩ | ⟨a', len, cap, zs, hcs, -, hl, hm, hzs, hy, -, -⟩
  · simp only [List.cons.injEq, and_true] at hcs
    cases hcs
    decide
  · simp only [List.cons.injEq, and_true] at hcs
    cases hcs
    have hw : ((lits (H := H) .i64 (zs.take n2)).length + (lits (H := H) .i64 (zs.drop n2)).length) * Try.prog.bytesOf 3 ≤ reachBytes := by
      have hmem : ((lits (H := H) .i64 (zs.take n2)).length + (lits (H := H) .i64 (zs.drop n2)).length) * Try.prog.bytesOf 3 ∈ DataW.weightsEach Try.prog (25 :: ts) (d :: ds) := by
        rw [hda, hy]
        simp [DataW.weightsEach, DataW.weights, Try.underlying25, Try.underlying23]
      simpa using List.all_eq_true.1 hz _ hmem
    rw [Try.bytes3] at hw
    simp only [if_true] at hzs
    simp only [lits, List.length_map, List.length_take, List.length_drop] at hw
    unfold reachBytes at hw
    omega

set_option maxRecDepth 100000 in
theorem torns_lifted (os : Os) (started : os.Started) (H : Type) (enc : TypeId × Value → H) :
    ReturnsInHanded {} Try.checked os 4 .any (Rows.streamTornSpec.pre6 enc Try.prog Try.f4 Rows.streamTornRow.domain false) (Rows.streamTornSpec.post enc Try.prog Try.f4 false true false false) := by
  refine returnsInHanded_of_change_sized (C := Try.checked) Try.own started (by kernel_rfl) Try.func4
    (ChangeSpec.witness6 (enc := enc) (C := Try.checked) false ⟨#[], #[.agg #[.slice none 0 0, .int .i64 0, .slice none 0 0], .int .i64 0, .slice none 0 0, .slice none 0 0], []⟩ 8 (by kernel_rfl) (by kernel_rfl) (by kernel_rfl) (by kernel_rfl)) ?_
  intro W base args ds gs before hval0 hW hcnd hz _
  have hval : ∀ (j : Nat) t v, Try.f4.params[j]? = some t → args[j]? = some v → Value.okWide Try.prog W .any base t v := hval0
  have hW' := hW
  obtain ⟨p, q, hA0, hV, rfl, hfz, hnd⟩ := hW
  have hA : DataW.TrodAll enc Try.prog W 0 (fun _ => true) true Try.f4.params.toList args.toList ds p := hA0
  have hz' : (DataW.weightsEach Try.prog (Try.f4.params.toList ++ Rows.streamTornSpec.plain.varTypes Try.prog) (ds ++ gs)).all (· ≤ reachBytes) = true := hz
  rw [Try.params4] at hA hval hz'
  have hAk := hA
  obtain ⟨v0, v1, v2, v3, d0, d1, d2, d3, p0, p1, p2, p3, rfl, rfl, rfl, h0, h1, h2, h3⟩ := trodAll_four hA
  obtain ⟨rfl, rfl⟩ := trodVars_none hV
  have hreach := fun a a2 n c n2 c2 max hvv => plan_reach (a := a) (a2 := a2) (n := n) (c := c) (n2 := n2) (c2 := c2) (max := max) (hval 0 25 v0 rfl rfl) h0 hz' hvv
  obtain ⟨data, plan, a, a2, n, c, n2, c2, max, rfl, hd, hp⟩ := arg_device (hval 0 25 v0 rfl rfl) h0
  obtain ⟨size, rfl, -⟩ := arg_int (hval 1 3 v1 rfl rfl) h1
  obtain ⟨l, al, nl, cl, rfl, -, -, hl⟩ := arg_texts (hval 2 37 v2 rfl rfl) h2
  obtain ⟨fl, af, nf, cf, rfl, hf⟩ := arg_bools (hval 3 38 v3 rfl rfl) h3
  clear hA0 hval0
  simp only [List.append_nil] at hW'
  have hpl : plan.length * 8 ≤ 140737488355328 := by rw [(rd_len hp).1]; exact hreach a a2 n c n2 c2 max rfl
  refine (torns_calls W a a2 al af n c n2 c2 nl cl nf cf max size data plan l fl hd hp hpl hl hf).mono fun e W' ⟨he, hb⟩ => ?_
  subst he
  exact ⟨_, rfl, _, _, _, [], _, [], hW', trodAll_mk1 (shut_bool Try.underlying4 true),
    trodAll_below Try.laidOut (by intro t ht; simp at ht; rcases ht with rfl | rfl | rfl | rfl <;> exact ⟨by kernel_rfl, of_decide_eq_true (by kernel_rfl)⟩) hAk hb (fun x hx => by simpa using hW'.lt x (by simpa using hx)), rfl, hb.frame _, fun h => by cases h⟩

theorem torns_holds : Rows.StreamTornSaid :=
  OpenClaim.holds_of_wide 4 Try.f4 rfl rfl rfl rfl rfl rfl rfl ⟨rfl, rfl, rfl, rfl, rfl⟩ rfl rfl rfl rfl rfl (by kernel_rfl) Try.func4 (by kernel_rfl)
    (of_decide_eq_true (by kernel_rfl)) (by unfold Func.isWrapper; first | (rw [if_pos (by decide +kernel)]; kernel_rfl) | (rw [if_neg (by decide +kernel)]; exact ⟨rfl, rfl⟩))
    (fun os started H enc _ => torns_lifted os started H enc)
#print axioms torns_holds
end Go.Proofs.Ytgihclflndlomaa
