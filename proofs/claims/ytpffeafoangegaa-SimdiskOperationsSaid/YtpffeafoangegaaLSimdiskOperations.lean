import Derived.Test.YtpffeafoangegaaM4
import Derived.Test.YtpffeafoangegaaRows
import Derived.WalkKit
import Derived.ProofKit
import Derived.OpenShut
import Derived.ShutString
import Derived.ChangeOld
import Derived.Below
import Derived.SizedLaws
import Derived.Carry
/- The law SimdiskOperations: the walk. -/
namespace Go.Proofs.Ytpffeafoangegaa.Disk
open Go Go.RowKit Go.Proofs.YtpffeafoangegaaW.PrintWords Go.Proofs.YtpffeafoangegaaW.PrintLast Go.Proofs.YtpffeafoangegaaW.PrintMore Go.Proofs.Ytpffeafoangegaa.PSimdiskOperations
set_option maxHeartbeats 2000000 in
theorem ops_walk (w : World) (A : Option Addr) (c : Nat) (l : List SOp) (h : Kd.C kOp w A l.length l) (hc : l.length ≤ c) (hw : ∀ x ∈ l, WfOp x) :
    Calls Try.prog 3 #[.slice A l.length c] w fun e w' => e = .returned (.bool true) ∧ Below w.heap.size w w' := by
  have HR := Lib.hid (Rd.ofC heap_op h hc)
  have HW := Lib.hid hw
  clear h hc hw
  cases hl : lightB l with
  | false =>
    go_enter Try.func3, Try.ntmps3
    go_wp2_with (first | (go_at_call 8; refine (light_calls _ A c l HR.out.now HR.out.le).mono ?_; rintro e w1 ⟨rfl, hb⟩; have HB1 := Lib.hid hb; clear hb) | (go_at_call 9; refine (awake_calls _).mono ?_; rintro e w2 ⟨rfl, hb⟩; have HB2 := Lib.hid hb; clear hb) | fail)
    go_ret
    exact ⟨rfl, HB1.out.trans (HB2.out.mono HB1.out.size)⟩
  | true =>
    have HL := Lib.hid hl
    have HS := Lib.hid (stAt_sound Sound.new hl HW.out l.length (Nat.le_refl _))
    have h60 := (light_at hl).1
    go_enter Try.func3, Try.ntmps3
    go_wp2_with (first | (go_at_call 8; refine (light_calls _ A c l HR.out.now HR.out.le).mono ?_; rintro e w1 ⟨rfl, hb⟩; have HB1 := Lib.hid hb; clear hb) | (go_at_call 10; refine (play_calls _ A c l (HR.out.below HB1.out).now HR.out.le HL.out HW.out).mono ?_; rintro e w2 ⟨d, v, F, ok, rfl, hp, hb, _, _⟩; obtain ⟨a0, c0, a1, c1, a2, c2, a3, c3, hv, _⟩ := hp.ref; subst hv; have HP2 := Lib.hid hp; have HB2 := Lib.hid hb; clear hp hb) | (go_at_call 11; refine (same_calls _ F ok d _ _ _ (HP2.out.below (below_alloc (Below.refl _ _) _)) HS.out.good (by omega)).mono ?_; rintro e w3 ⟨rfl, hb⟩; have HB3 := Lib.hid hb; clear hb) | (go_at_call 9; refine (awake_calls _).mono ?_; rintro e w4 ⟨rfl, hb⟩; have HB4 := Lib.hid hb; clear hb) | fail)
    go_ret
    exact ⟨rfl, ((HB1.out.trans (HB2.out.mono HB1.out.size)).trans (((below_alloc (Below.refl _ _) _).trans (HB3.out.mono (by simp))).mono (by have := HB1.out.size; have := HB2.out.size; omega))).trans (HB4.out.mono (by have := HB1.out.size; have := HB2.out.size; have := HB3.out.size; simp at this; omega))⟩
end Go.Proofs.Ytpffeafoangegaa.Disk

/- The law SimdiskOperations holds: for every input the call returns true, and each argument reads behind the call as it read before. No condition. -/
namespace Go.Proofs.Ytpffeafoangegaa.simdiskOperations
open Go.ChangeShapes Go.WideShapes Go.ChangeAt Go.RowKit
open Go.ChangeMaps (open_string shut_string)
open Go.Proofs.YtpffeafoangegaaW.PrintWords Go.Proofs.Ytpffeafoangegaa.Disk
set_option linter.unusedVariables false
theorem own : ownKnob Try.prog.godebug = none := by kernel_rfl
theorem laidOut : laidOutB Try.prog = true := by kernel_rfl
set_option maxRecDepth 100000 in
theorem lifted (os : Os) (started : os.Started) (H : Type) (enc : TypeId × Value → H) :
    ReturnsInHanded {} Try.checked os 3 .any (Rows.simdiskOperationsSpec.pre6 enc Try.prog Try.f3 Rows.simdiskOperationsRow.domain false) (Rows.simdiskOperationsSpec.post enc Try.prog Try.f3 false true false false) := by
  refine returnsInHanded_of_change_sized (C := Try.checked) own started (by kernel_rfl) Try.func3
    (ChangeSpec.witness6 (enc := enc) (C := Try.checked) false ⟨#[], #[.slice none 0 0], []⟩ 8 (by kernel_rfl) (by kernel_rfl) (by kernel_rfl) (by kernel_rfl)) ?_
  intro W base args ds gs before hval0 hW hcnd hsz0 _
  have hval : ∀ (j : Nat) t v, Try.f3.params[j]? = some t → args[j]? = some v → Value.okWide Try.prog W .any base t v := hval0
  have hW' := hW
  obtain ⟨p, q, hA0, hV, rfl, hfz, hnd⟩ := hW
  have hA : DataW.TrodAll enc Try.prog W 0 (fun _ => true) true Try.f3.params.toList args.toList ds p := hA0
  rw [Try.params3] at hA hval
  obtain ⟨v0, vs0, d0, ds0, p0, q0, hargs, rfl, rfl, h0, r0⟩ := trodAll_cons hA
  obtain ⟨rfl, rfl, rfl⟩ := trodAll_nil r0
  obtain rfl : args = #[v0] := by cases args; simp_all
  obtain ⟨rfl, rfl⟩ := trodVars_none hV
  obtain ⟨a0, len0, cap0, rfl⟩ := okWide_slice Try.underlying22 (hval 0 22 v0 rfl rfl)
  have lt0 : ∀ x ∈ p0, x.block < W.heap.size := by obtain ⟨m, hm⟩ := h0; exact DataW.trod_lt m _ _ _ hm
  obtain ⟨l0, rfl, hc0, hC0, hw0⟩ := ops_row h0
  clear hA0 hval0 hsz0
  refine (ops_walk W a0 cap0 l0 hC0 hc0 hw0).mono fun e W' ⟨he, bel⟩ => ?_
  subst he
  exact ⟨_, rfl, _, _, _, [], _, [], hW', trodAll_mk1 (shut_bool Try.underlying4 _), (trodAll_cons_mk (Below.trod laidOut (by kernel_rfl) (of_decide_eq_true (by kernel_rfl)) h0 bel lt0) trodAll_mk0), rfl, bel.frame _, fun h => by cases h⟩
theorem over : Rows.simdiskOperationsRow.holds Try.pinned (OpenSpec.ofChange Rows.simdiskOperationsSpec) :=
  OpenClaim.holds_of_wide 3 Try.f3 rfl rfl rfl rfl rfl rfl rfl ⟨rfl, rfl, rfl, rfl, rfl⟩ rfl rfl rfl rfl rfl (by kernel_rfl) Try.func3 (by kernel_rfl)
    (of_decide_eq_true (by kernel_rfl)) (by unfold Func.isWrapper; first | (rw [if_pos (by decide +kernel)]; kernel_rfl) | (rw [if_neg (by decide +kernel)]; exact ⟨rfl, rfl⟩))
    (fun os started H enc _ => lifted os started H enc)
theorem proved : Rows.SimdiskOperationsSaid := over
#print axioms proved
end Go.Proofs.Ytpffeafoangegaa.simdiskOperations
namespace Go.Proofs.Ytpffeafoangegaa
theorem simdiskOperations_holds : Rows.SimdiskOperationsSaid := simdiskOperations.proved
end Go.Proofs.Ytpffeafoangegaa
