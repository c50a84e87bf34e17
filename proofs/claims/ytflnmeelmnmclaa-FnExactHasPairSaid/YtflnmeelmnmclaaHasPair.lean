/-
  FnExactHasPair: for every input the Go function returns true, and every argument reads behind the call as it read before. No condition.
-/
import Derived.Test.YtflnmeelmnmclaaRows
import Derived.Test.YtflnmeelmnmclaaLawsA
import Derived.WalkKit
import Derived.ProofKit
import Derived.OpenShut
import Derived.ShutString
import Derived.ChangeOld
import Derived.Below
import Derived.Lib.SmallJoins
namespace Go.Proofs.Ytflnmeelmnmclaa.claimHasPair
open Go.ChangeShapes Go.WideShapes Go.ChangeAt Go.RowKit Go.Joins
open Go.ChangeMaps (open_string shut_string)
set_option linter.unusedVariables false

theorem own : ownKnob Try.prog.godebug = none := by kernel_rfl
theorem laidOut : laidOutB Try.prog = true := by kernel_rfl
theorem cellsS : Try.prog.cellsOf 24 = 3 := by kernel_rfl

set_option maxRecDepth 100000 in
theorem lifted (os : Os) (started : os.Started) (H : Type) (enc : TypeId × Value → H) :
    ReturnsInHanded {} Try.checked os 13 .any (Rows.fnExactHasPairSpec.pre6 enc Try.prog Try.f13 Rows.fnExactHasPairRow.domain false) (Rows.fnExactHasPairSpec.post enc Try.prog Try.f13 false true false false) := by
  refine returnsInHanded_of_change (C := Try.checked) own started (by kernel_rfl) Try.func13
    (ChangeSpec.witness6 (enc := enc) (C := Try.checked) false ⟨#[], #[.string ⟨#[]⟩, .agg #[.int .i64 0, .int .i64 0, .int .i64 0], .agg #[.int .i64 0, .int .i64 0, .int .i64 0]], []⟩ 8 (by kernel_rfl) (by kernel_rfl) (by kernel_rfl) (by kernel_rfl)) ?_
  intro W base args ds gs before hval0 hW hcnd _
  have hval : ∀ (j : Nat) t v, Try.f13.params[j]? = some t → args[j]? = some v → Value.okWide Try.prog W .any base t v := hval0
  have hW' := hW
  obtain ⟨p, q, hA0, hV, rfl, hfz, hnd⟩ := hW
  have hA : DataW.TrodAll enc Try.prog W 0 (fun _ => true) true Try.f13.params.toList args.toList ds p := hA0
  rw [Try.params13] at hA hval
  obtain ⟨v0, vs0, d0, ds0, p0, q0, hargs, rfl, rfl, h0, r0⟩ := trodAll_cons hA
  obtain ⟨v1, vs1, d1, ds1, p1, q1, rfl, rfl, rfl, h1, r1⟩ := trodAll_cons r0
  obtain ⟨v2, vs2, d2, ds2, p2, q2, rfl, rfl, rfl, h2, r2⟩ := trodAll_cons r1
  obtain ⟨rfl, rfl, rfl⟩ := trodAll_nil r2
  obtain rfl : args = #[v0, v1, v2] := by cases args; simp_all
  obtain ⟨rfl, rfl⟩ := trodVars_none hV
  have k0 := h0
  have lt0 : ∀ x ∈ p0, x.block < W.heap.size := by obtain ⟨m, hm⟩ := k0; exact DataW.trod_lt m _ _ _ hm
  obtain ⟨a0, rfl, rfl, rfl, w0⟩ := open_string Try.underlying9 (hval 0 9 v0 rfl rfl) h0
  have k1 := h1
  have lt1 : ∀ x ∈ p1, x.block < W.heap.size := by obtain ⟨m, hm⟩ := k1; exact DataW.trod_lt m _ _ _ hm
  obtain ⟨cx1, cy1, cz1, ex1, ey1, ez1, m1, rfl, rfl, rfl, hx1, hy1, hz1⟩ := open_agg3 Try.underlying24 (by kernel_rfl) cellsS (hval 1 24 v1 rfl rfl) h1
  obtain ⟨ax1, ex1, rfl, wx1⟩ := DataW.trod_int Try.underlying3 hx1
  obtain ⟨ay1, ey1, rfl, wy1⟩ := DataW.trod_int Try.underlying3 hy1
  obtain ⟨az1, ez1, rfl, wz1⟩ := DataW.trod_int Try.underlying3 hz1
  simp at ex1 ey1 ez1
  subst ex1 ey1 ez1
  have k2 := h2
  have lt2 : ∀ x ∈ p2, x.block < W.heap.size := by obtain ⟨m, hm⟩ := k2; exact DataW.trod_lt m _ _ _ hm
  obtain ⟨cx2, cy2, cz2, ex2, ey2, ez2, m2, rfl, rfl, rfl, hx2, hy2, hz2⟩ := open_agg3 Try.underlying24 (by kernel_rfl) cellsS (hval 2 24 v2 rfl rfl) h2
  obtain ⟨ax2, ex2, rfl, wx2⟩ := DataW.trod_int Try.underlying3 hx2
  obtain ⟨ay2, ey2, rfl, wy2⟩ := DataW.trod_int Try.underlying3 hy2
  obtain ⟨az2, ez2, rfl, wz2⟩ := DataW.trod_int Try.underlying3 hz2
  simp at ex2 ey2 ez2
  subst ex2 ey2 ez2
  clear hA0 hval0
  refine (La.lawHasPair a0 ax1 ay1 az1 ax2 ay2 az2 W w0 wx1 wy1 wz1 wx2 wy2 wz2).mono fun e W' ⟨he, bel⟩ => ?_
  subst he
  exact ⟨_, rfl, _, _, _, [], _, [], hW', trodAll_mk1 (shut_bool Try.underlying4 _), (trodAll_cons_mk (Below.trod laidOut (by kernel_rfl) (of_decide_eq_true (by kernel_rfl)) k0 bel lt0) (trodAll_cons_mk (Below.trod laidOut (by kernel_rfl) (of_decide_eq_true (by kernel_rfl)) k1 bel lt1) (trodAll_cons_mk (Below.trod laidOut (by kernel_rfl) (of_decide_eq_true (by kernel_rfl)) k2 bel lt2) trodAll_mk0))), rfl, bel.frame _, fun h => by cases h⟩

theorem over : Rows.fnExactHasPairRow.holds Try.pinned (OpenSpec.ofChange Rows.fnExactHasPairSpec) :=
  OpenClaim.holds_of_wide 13 Try.f13 rfl rfl rfl rfl rfl rfl rfl ⟨rfl, rfl, rfl, rfl, rfl⟩ rfl rfl rfl rfl rfl (by kernel_rfl) Try.func13 (by kernel_rfl)
    (of_decide_eq_true (by kernel_rfl)) (by unfold Func.isWrapper; rw [if_neg (of_decide_eq_false (by kernel_rfl))]; exact ⟨rfl, rfl⟩)
    (fun os started H enc _ => lifted os started H enc)

theorem proved : Rows.FnExactHasPairSaid := over
#print axioms proved
end Go.Proofs.Ytflnmeelmnmclaa.claimHasPair
