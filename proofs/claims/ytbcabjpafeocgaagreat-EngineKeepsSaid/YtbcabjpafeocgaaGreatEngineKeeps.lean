/-
  For every input the law EngineKeeps returns true, and its arguments read afterwards as before. Conditions: none.
-/
import Derived.Test.YtbcabjpafeocgaaGreatRows
import Derived.Test.YtbcabjpafeocgaaGreatL1
import Derived.Test.YtbcabjpafeocgaaGreatL9
import Derived.WalkKit
import Derived.ProofKit
import Derived.OpenShut
import Derived.ShutString
import Derived.ChangeOld
import Derived.Below
namespace Go.Proofs.YtbcabjpafeocgaaGreat.engineKeeps
open Go.ChangeShapes Go.WideShapes Go.ChangeAt Go.RowKit
set_option linter.unusedVariables false

theorem own : ownKnob Tryz.prog.godebug = none := by kernel_rfl
theorem laidOut : laidOutB Tryz.prog = true := by kernel_rfl
theorem flat47 : IntCells Tryz.prog 47 [.u8, .u8, .u8, .u8, .u8, .u8] :=
  (intCells_array (n := 6) Tryz.underlying47 (by kernel_rfl) (by kernel_rfl) Tryz.underlying5)
theorem flat5 : IntCells Tryz.prog 5 [.u8] :=
  (intCells_int Tryz.underlying5 (by kernel_rfl))
theorem flat83 : IntCells Tryz.prog 83 [.u16, .u16, .u16] :=
  (intCells_array (n := 3) Tryz.underlying83 (by kernel_rfl) (by kernel_rfl) Tryz.underlying82)
theorem flat64 : IntCells Tryz.prog 64 [.u8, .u8, .u8, .u8] :=
  (intCells_array (n := 4) Tryz.underlying64 (by kernel_rfl) (by kernel_rfl) Tryz.underlying5)
set_option maxHeartbeats 4000000 in
set_option maxRecDepth 100000 in
theorem lifted (os : Os) (started : os.Started) (H : Type) (enc : TypeId × Value → H) :
    ReturnsInHanded {} Tryz.checked os 6 .any (Rows.engineKeepsSpec.pre6 enc Tryz.prog Tryz.f6 Rows.engineKeepsRow.domain false) (Rows.engineKeepsSpec.post enc Tryz.prog Tryz.f6 false true false false) := by
  refine returnsInHanded_of_change (C := Tryz.checked) own started (by kernel_rfl) Tryz.func6
    (ChangeSpec.witness6 (enc := enc) (C := Tryz.checked) false ⟨#[], #[.agg #[.int .u8 0, .int .u8 0, .int .u8 0, .int .u8 0, .int .u8 0, .int .u8 0], .agg #[.slice none 0 0, .slice none 0 0], .slice none 0 0], []⟩ 8 (by kernel_rfl) (by kernel_rfl) (by kernel_rfl) (by kernel_rfl)) ?_
  intro W base args ds gs before hval0 hW hcnd _
  have hval : ∀ (j : Nat) t v, Tryz.f6.params[j]? = some t → args[j]? = some v → Value.okWide Tryz.prog W .any base t v := hval0
  have hW' := hW
  obtain ⟨p, q, hA0, hV, rfl, hfz, hnd⟩ := hW
  have hA : DataW.TrodAll enc Tryz.prog W 0 (fun _ => true) true Tryz.f6.params.toList args.toList ds p := hA0
  rw [Tryz.params6] at hA hval
  obtain ⟨v0, vs0, d0, ds0, p0, q0, hargs, rfl, rfl, h0, r0⟩ := trodAll_cons hA
  obtain ⟨v1, vs1, d1, ds1, p1, q1, rfl, rfl, rfl, h1, r1⟩ := trodAll_cons r0
  obtain ⟨v2, vs2, d2, ds2, p2, q2, rfl, rfl, rfl, h2, r2⟩ := trodAll_cons r1
  obtain ⟨rfl, rfl, rfl⟩ := trodAll_nil r2
  obtain rfl : args = #[v0, v1, v2] := by cases args; simp_all
  obtain ⟨rfl, rfl⟩ := trodVars_none hV
  obtain ⟨cs0, rfl, hcs0⟩ := okWide_arr Tryz.underlying47 (hval 0 47 v0 rfl rfl)
  have k0 := h0
  have lt0 : ∀ x ∈ p0, x.block < W.heap.size := by obtain ⟨m, hm⟩ := k0; exact DataW.trod_lt m _ _ _ hm
  obtain ⟨fuel0, hf0⟩ := h0
  obtain ⟨xs0, hxl0, hxe0, hxw0⟩ := open_agg flat47 hcs0 (by simpa [Value.cells] using hf0)
  obtain ⟨x0_0, x0_1, x0_2, x0_3, x0_4, x0_5, rfl⟩ : ∃ x0_0 x0_1 x0_2 x0_3 x0_4 x0_5, xs0 = [x0_0, x0_1, x0_2, x0_3, x0_4, x0_5] := by
    match xs0, hxl0 with
    | [x0_0, x0_1, x0_2, x0_3, x0_4, x0_5], _ => exact ⟨x0_0, x0_1, x0_2, x0_3, x0_4, x0_5, rfl⟩
  have w0_0 := hxw0 0 .u8 x0_0 rfl rfl
  have w0_1 := hxw0 1 .u8 x0_1 rfl rfl
  have w0_2 := hxw0 2 .u8 x0_2 rfl rfl
  have w0_3 := hxw0 3 .u8 x0_3 rfl rfl
  have w0_4 := hxw0 4 .u8 x0_4 rfl rfl
  have w0_5 := hxw0 5 .u8 x0_5 rfl rfl
  subst hxe0
  obtain ⟨cs1, rfl, hcs1⟩ := okWide_struct Tryz.underlying30 (hval 1 30 v1 rfl rfl)
  have k1 := h1
  have lt1 : ∀ x ∈ p1, x.block < W.heap.size := by obtain ⟨m, hm⟩ := k1; exact DataW.trod_lt m _ _ _ hm
  obtain ⟨fuel1, hf1⟩ := h1
  obtain ⟨A1a, n1a, c1a, A1b, n1b, c1b, rfl, m1a, ⟨D1a, w1a⟩, m1b, D1b, w1b⟩ := open_two Tryz.underlying30 (by kernel_rfl) rfl rfl (hcs1.trans (by kernel_rfl)) (by kernel_rfl) Tryz.underlying22 Tryz.underlying28 flat5 flat83 (by decide) (by decide) (by simpa [Value.cells] using hf1)
  obtain ⟨A2, n2, c2, rfl⟩ := okWide_slice Tryz.underlying62 (hval 2 62 v2 rfl rfl)
  have k2 := h2
  have lt2 : ∀ x ∈ p2, x.block < W.heap.size := by obtain ⟨m, hm⟩ := k2; exact DataW.trod_lt m _ _ _ hm
  obtain ⟨fuel2, hf2⟩ := h2
  obtain ⟨m2, D2, w2⟩ := open_flat Tryz.underlying62 flat64 (by decide) (by simpa [Value.cells] using hf2)
  clear hA0 hval0
  refine (engineKeeps_walk x0_0 x0_1 x0_2 x0_3 x0_4 x0_5 A1a n1a c1a D1a A1b n1b c1b D1b A2 n2 c2 D2 W w0_0 w0_1 w0_2 w0_3 w0_4 w0_5 w1a m1a w1b m1b w2 m2).mono fun e W' ⟨he, bel⟩ => ?_
  subst he
  exact ⟨_, rfl, _, _, _, [], _, [], hW', trodAll_mk1 (shut_bool Tryz.underlying4 _), (trodAll_cons_mk (Below.trod laidOut (by kernel_rfl) (of_decide_eq_true (by kernel_rfl)) k0 bel lt0) (trodAll_cons_mk (Below.trod laidOut (by kernel_rfl) (of_decide_eq_true (by kernel_rfl)) k1 bel lt1) (trodAll_cons_mk (Below.trod laidOut (by kernel_rfl) (of_decide_eq_true (by kernel_rfl)) k2 bel lt2) trodAll_mk0))), rfl, bel.frame _, fun h => by cases h⟩

theorem over : Rows.engineKeepsRow.holds Tryz.pinned (OpenSpec.ofChange Rows.engineKeepsSpec) :=
  OpenClaim.holds_of_wide 6 Tryz.f6 rfl rfl rfl rfl rfl rfl rfl ⟨rfl, rfl, rfl, rfl, rfl⟩ rfl rfl rfl rfl rfl (by kernel_rfl) Tryz.func6 (by kernel_rfl)
    (of_decide_eq_true (by kernel_rfl)) (by unfold Func.isWrapper; first | (rw [if_pos (by decide +kernel)]; kernel_rfl) | (rw [if_neg (by decide +kernel)]; exact ⟨rfl, rfl⟩))
    (fun os started H enc _ => lifted os started H enc)

theorem proved : Rows.EngineKeepsSaid := over
#print axioms proved
end Go.Proofs.YtbcabjpafeocgaaGreat.engineKeeps
