/- For every slice of changes: what Play leaves is the reference's, and it may be. No condition. -/
import Derived.Test.YtgmljlgoaifneaaGlpl
import Derived.Test.YtgmljlgoaifneaaRows
import Derived.SizedLaws
import Derived.ProofKit
import Derived.OpenShut
import Derived.ShutString
import Derived.ChangeOld
import Derived.Below
namespace Go.Proofs.Ytgmljlgoaifneaa
open Go.ChangeShapes Go.WideShapes Go.ChangeAt Go.RowKit Flt
open Go.ChangeMaps (open_string shut_string)
open Go.Mem
set_option linter.unusedVariables false
set_option linter.unusedVariables false

namespace lawGraphPlays
theorem own : ownKnob Try.prog.godebug = none := by kernel_rfl
theorem laidOut : laidOutB Try.prog = true := by kernel_rfl
set_option maxRecDepth 100000 in
theorem lifted (os : Os) (started : os.Started) (H : Type) (enc : TypeId × Value → H) :
    ReturnsInHanded {} Try.checked os 4 .any (Rows.graphPlaysSpec.pre6 enc Try.prog Try.f4 Rows.graphPlaysRow.domain false) (Rows.graphPlaysSpec.post enc Try.prog Try.f4 false true false false) := by
  refine returnsInHanded_of_change_sized (C := Try.checked) own started (by kernel_rfl) Try.func4
    (ChangeSpec.witness6 (enc := enc) (C := Try.checked) false ⟨#[], #[.slice none 0 0], []⟩ 8 (by kernel_rfl) (by kernel_rfl) (by kernel_rfl) (by kernel_rfl)) ?_
  intro W base args ds gs before hval0 hW hcnd hsz0 hholds
  have hval : ∀ (j : Nat) t v, Try.f4.params[j]? = some t → args[j]? = some v → Value.okWide Try.prog W .any base t v := hval0
  have hW' := hW
  obtain ⟨p, q, hA0, hV, rfl, hfz, hnd⟩ := hW
  have hA : DataW.TrodAll enc Try.prog W 0 (fun _ => true) true Try.f4.params.toList args.toList ds p := hA0
  rw [Try.params4] at hA hval
  have hsz : (DataW.weightsEach Try.prog (Try.f4.params.toList ++ Rows.graphPlaysSpec.plain.varTypes Try.prog) (ds ++ gs)).all (· ≤ reachBytes) = true := hsz0
  rw [Try.params4] at hsz
  obtain ⟨v0, vs0, d0, ds0, p0, q0, hargs, rfl, rfl, h0, r0⟩ := trodAll_cons hA
  obtain ⟨rfl, rfl, rfl⟩ := trodAll_nil r0
  obtain rfl : args = #[v0] := by cases args; simp_all
  obtain ⟨rfl, rfl⟩ := trodVars_none hV
  have k0 := h0
  have bl0 : ∀ x ∈ p0, x.block < W.heap.size := by obtain ⟨m, hm⟩ := k0; exact DataW.trod_lt m _ _ _ hm
  obtain ⟨A0, n0, c0, rfl⟩ := okWide_slice Try.underlying31 (hval 0 31 v0 rfl rfl)
  obtain ⟨fu0, hf0⟩ := h0
  obtain ⟨l0, ll0, rl0, gl0, le0, dl0⟩ := open_row ⟨0, 0, 0, 0⟩ cgC 4 cgOk Try.underlying31 (by kernel_rfl) (fun _ => rfl) (by decide) open_cg hf0
  have rc0 := reach_floats (j := 0) hsz rfl rfl Try.underlying31 (show Try.prog.bytesOf 38 = 32 by kernel_rfl) dl0
  have rn0 : n0 * 32 ≤ 140737488355328 := by omega
  have nz0 : A0 = none → c0 = 0 := by
    rcases Go.Deep.open_slice Try.underlying31 hf0 with ⟨e, _⟩ | ⟨a, l, k, _, _, _, _, e, _⟩
    · intro _; injection e with e1 _; injection e1 with _ _ e3
    · intro h; injection e with e1 _; injection e1 with e2 _ _; rw [h] at e2; cases e2
  have gc0 : GCh W W.heap.size A0 n0 l0 := ⟨ll0, rl0⟩
  clear hA0 hval0
  refine (GraphPlays_walk A0 n0 c0 l0 W gc0 gl0 rn0 nz0).mono fun e W' ⟨he, bel⟩ => ?_
  subst he
  exact ⟨_, rfl, _, _, _, [], _, [], hW', trodAll_mk1 (shut_bool Try.underlying4 _), (trodAll_cons_mk (Below.trod laidOut (by kernel_rfl) (of_decide_eq_true (by kernel_rfl)) k0 bel bl0) trodAll_mk0), rfl, bel.frame _, fun h => by cases h⟩
theorem over : Rows.graphPlaysRow.holds Try.pinned (OpenSpec.ofChange Rows.graphPlaysSpec) :=
  OpenClaim.holds_of_wide 4 Try.f4 rfl rfl rfl rfl rfl rfl rfl ⟨rfl, rfl, rfl, rfl, rfl⟩ rfl rfl rfl rfl rfl (by kernel_rfl) Try.func4 (by kernel_rfl)
    (of_decide_eq_true (by kernel_rfl)) (by unfold Func.isWrapper; first | (rw [if_pos (by decide +kernel)]; kernel_rfl) | (rw [if_neg (by decide +kernel)]; exact ⟨rfl, rfl⟩))
    (fun os started H enc _ => lifted os started H enc)
theorem proved : Rows.GraphPlaysSaid := over
#print axioms proved
end lawGraphPlays

end Go.Proofs.Ytgmljlgoaifneaa
