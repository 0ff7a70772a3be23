import Derived.Test.YtehhafnjbkbmjaaY7
import Derived.Test.YtehhafnjbkbmjaaY4
import Derived.Test.YtehhafnjbkbmjaaRows
import Derived.WalkKit
import Derived.ProofKit
import Derived.OpenShut
import Derived.ShutString
import Derived.ChangeOld
import Derived.Below
import Derived.SizedLaws
import Derived.Carry
/- What is read out of the arguments of a law: entries. -/
namespace Go.Proofs.Ytehhafnjbkbmjaa.Disk
open Go Go.RowKit Go.Proofs.YtehhafnjbkbmjaaW.PrintWords Go.Proofs.YtehhafnjbkbmjaaW.PrintLast Go.Proofs.YtehhafnjbkbmjaaW.PrintMore Go.Proofs.Ytehhafnjbkbmjaa.PObjstoreAtomic
open Go.ChangeShapes Go.WideShapes Go.Deep
open Go.Proofs.Ytehhafnjbkbmjaa.PCommitlogRecords (k47_mk k47_open)
theorem opens_le : Opens kLE tLE WfLE := fun _ _ _ _ cs _ h => by
  obtain ⟨hl, n, hf⟩ := struct_cells Try.underlying47 (by kernel_rfl) (by
    intro i f hf
    have hi := (Array.getElem?_eq_some_iff.1 hf).1
    match i, hi with
    | 0, _ => cases hf; exact ⟨rfl, by kernel_rfl⟩
    | 1, _ => cases hf; exact ⟨rfl, by kernel_rfl⟩
    | 2, _ => cases hf; exact ⟨rfl, by kernel_rfl⟩
    | 3, _ => cases hf; exact ⟨rfl, by kernel_rfl⟩
    | 4, _ => cases hf; exact ⟨rfl, by kernel_rfl⟩
    | 5, _ => cases hf; exact ⟨rfl, by kernel_rfl⟩) h
  match cs, hl with
  | [u0, u1, u2, u3, u4, u5], _ =>
    obtain ⟨y0, h0⟩ := hf 0 _ u0 rfl rfl
    obtain ⟨y1, h1⟩ := hf 1 _ u1 rfl rfl
    obtain ⟨y2, h2⟩ := hf 2 _ u2 rfl rfl
    obtain ⟨y3, h3⟩ := hf 3 _ u3 rfl rfl
    obtain ⟨y4, h4⟩ := hf 4 _ u4 rfl rfl
    obtain ⟨y5, h5⟩ := hf 5 _ u5 rfl rfl
    obtain ⟨a0, k0, w0⟩ := opens_int Try.underlying3 _ _ _ _ _ _ h0
    obtain ⟨a1, k1, w1⟩ := opens_int Try.underlying2 _ _ _ _ _ _ h1
    obtain ⟨a2, k2, w2⟩ := opens_int Try.underlying2 _ _ _ _ _ _ h2
    obtain ⟨a3, k3, w3⟩ := opens_int Try.underlying2 _ _ _ _ _ _ h3
    obtain ⟨a4, k4, w4⟩ := opens_int Try.underlying2 _ _ _ _ _ _ h4
    obtain ⟨a5, k5, _⟩ := opens_string Try.underlying9 _ _ _ _ _ _ h5
    cases k0
    cases k1
    cases k2
    cases k3
    cases k4
    cases k5
    exact ⟨⟨a0, a1, a2, a3, a4, a5⟩, k47_mk _ ⟨a0, a1, a2, a3, a4, a5⟩, ⟨(bounds_i64 w1).2, (bounds_i64 w2).2, (bounds_i64 w3).2, (bounds_i64 w4).2⟩⟩
set_option maxRecDepth 100000
instance : Inhabited LE := ⟨zLE⟩
theorem les_row {H : Type} {enc : TypeId × Value → H} {W : World} {a : Option Addr} {len cap : Nat} {d : DataW H} {ps : List MemPlace} (h : DataW.Trod enc Try.prog W 0 (fun _ => true) true 56 (.slice a len cap) d ps) : ∃ l : List LE, len = l.length ∧ l.length ≤ cap ∧ Kd.C kLE W a l.length l ∧ ∀ x ∈ l, WfLE x := by
  obtain ⟨fuel, hf⟩ := h
  obtain ⟨l, A, c, he, hl, hC, hw⟩ := opens_row (dd := kLE) Try.underlying56 (by kernel_rfl) opens_le hf
  simp [Value.cells] at he
  obtain ⟨rfl, rfl, rfl⟩ := he
  exact ⟨l, rfl, hl, hC, hw⟩
set_option maxRecDepth 100000 in
theorem le_arg {H : Type} {enc : TypeId × Value → H} {W : World} {base : Nat} {v : Value} {d : DataW H} {ps : List MemPlace} (hv : Value.okWide Try.prog W .any base tLE v) (h : DataW.Trod enc Try.prog W 0 (fun _ => true) true tLE v d ps) :
    ∃ x : LE, v = .agg (leC x) ∧ WfLE x := by
  obtain ⟨cs, rfl, _⟩ := okWide_struct Try.underlying47 hv
  obtain ⟨fuel, hf⟩ := h
  obtain ⟨x, hK, hw⟩ := opens_le _ _ _ _ _ _ hf
  refine ⟨x, ?_, hw⟩
  have e' : cs.toList = [.int .i64 x.f0, .int .i64 x.f1, .int .i64 x.f2, .int .i64 x.f3, .int .i64 x.f4, .string x.f5] := k47_open hK
  obtain ⟨cs⟩ := cs
  have e2 : cs = _ := e'
  rw [e2]
  rfl
theorem heap_le : Kd.Heap kLE := Kd.heap_iso _ (Kd.heap_pair (Kd.heap_int _) (Kd.heap_pair (Kd.heap_int _) (Kd.heap_pair (Kd.heap_int _) (Kd.heap_pair (Kd.heap_int _) (Kd.heap_pair (Kd.heap_int _) Kd.heap_string)))))
end Go.Proofs.Ytehhafnjbkbmjaa.Disk

/- commitlog: the laws Scan and Records, the walks. -/
namespace Go.Proofs.Ytehhafnjbkbmjaa.Disk
open Go Go.RowKit Go.Proofs.YtehhafnjbkbmjaaW.PrintWords Go.Proofs.YtehhafnjbkbmjaaW.PrintLast Go.Proofs.YtehhafnjbkbmjaaW.PrintMore Go.Proofs.Ytehhafnjbkbmjaa.PObjstoreAtomic
set_option maxHeartbeats 4000000 in
theorem scan_walk (w : World) (A : Option Addr) (c : Nat) (l : List Int) (h : Kd.C kB w A l.length l) (hc : l.length ≤ c) (hw : ∀ x ∈ l, 0 ≤ x ∧ x ≤ 255) :
    Calls Try.prog 7 #[.slice A l.length c] w fun e w' => e = .returned (.bool true) ∧ Below w.heap.size w w' := by
  have H := Lib.hid h
  have HW := Lib.hid hw
  clear h hw
  by_cases hl : 3000 < l.length
  · have t0 : decide ((3000 : Int) < (l.length : Int)) = true := by simp; omega
    go_enter Try.func7, Try.ntmps7
    go_wp2_with (first | (go_at_call 25; refine (lives24_calls _).mono ?_; rintro e w7 ⟨rfl, hb⟩; have B7 := Lib.hid hb; clear hb) | fail)
    go_ret
    exact ⟨rfl, B7.out⟩
  · have t0 : decide ((3000 : Int) < (l.length : Int)) = false := by simp; omega
    have HSO := Lib.hid (scanF_ok l)
    obtain ⟨s, hs⟩ : ∃ s, s = scanF l := ⟨_, rfl⟩
    obtain ⟨out, at'⟩ := s
    have HSC := Lib.hid hs
    rw [← hs] at HSO
    clear hs
    go_enter Try.func7, Try.ntmps7
    go_wp2_with (first
      | (go_at_call 30; refine (Scan_calls _ A c l H.out hc (by omega) HW.out).mono ?_; rw [← HSC.out]; rintro e w1 ⟨A1, c1, rfl, hr, hb⟩; have B1 := Lib.hid hb; have V1 := Lib.hid hr; have H1 := Lib.hid (Kd.C_below H.out hb); clear hr hb)
      | (go_at_call 31; refine (rScan_calls _ A c l H1.out hc (by omega) HW.out).mono ?_; rw [← HSC.out]; rintro e w2 ⟨A2, c2, rfl, hr, hb⟩; have B2 := Lib.hid (B1.out.trans (hb.mono B1.out.size)); have V2 := Lib.hid (V1.out.below hb); have U2 := Lib.hid hr; clear hr hb V1)
      | (go_at_call 32; refine (rEq_calls _ A1 c1 A2 c2 out V2.out.now V2.out.le U2.out.now U2.out.le (by have h1 : (out.length : Int) ≤ at' ∧ at' ≤ l.length := HSO.out.2; omega)).mono ?_; rintro e w3 ⟨rfl, hb⟩; have B3 := Lib.hid (B2.out.trans (hb.mono B2.out.size)); clear hb)
      | (go_at_call 25; refine (lives24_calls _).mono ?_; rintro e w7 ⟨rfl, hb⟩; have B7 := Lib.hid (B3.out.trans (hb.mono B3.out.size)); clear hb)
      | fail)
    go_ret
    exact ⟨rfl, B7.out⟩
theorem heap_le_new (w : World) (g0 g1 g2 g3 g4 : Int) (gs : ByteArray) : (w.alloc (.cells #[.int .i64 g0, .int .i64 g1, .int .i64 g2, .int .i64 g3, .int .i64 g4, .string gs] tLE)).heap[w.heap.size]? = some (.cells (leC ⟨g0, g1, g2, g3, g4, gs⟩) tLE (0, 0)) := heap_alloc_new w _
theorem str_now {w : World} {A : Option Addr} {c : Nat} {ok : Nat → Prop} {bs : List Int} (h : Rd kB w ok A c bs) {s : ByteArray} (hs : s = strOfNums bs) : (convert 22 9 (.slice A bs.length c)).run Try.prog w = .ok (.string s) w := by rw [hs]; exact str_run h
set_option maxHeartbeats 8000000 in
set_option maxRecDepth 100000 in
theorem records_walk (w : World) (x : LE) (hx : WfLE x) (A : Option Addr) (c : Nat) (l : List Int) (h : Kd.C kB w A l.length l) (hc : l.length ≤ c) (hw : ∀ x ∈ l, 0 ≤ x ∧ x ≤ 255) (off : Int) :
    Calls Try.prog 6 #[.agg (leC x), .slice A l.length c, .int .i64 off] w fun e w' => e = .returned (.bool true) ∧ Below w.heap.size w w' := by
  have hb0 : Below w.heap.size w (w.alloc (.cells (leC x) tLE)) := Below.of_alloc' w _
  obtain ⟨w0, hw0⟩ : ∃ w0, w0 = w.alloc (.cells (leC x) tLE) := ⟨_, rfl⟩
  have G0 := Lib.hid (show w0.heap[w.heap.size]? = some (.cells (leC x) tLE (0, 0)) by rw [hw0]; exact heap_alloc_new w _)
  rw [← hw0] at hb0
  have B0 := Lib.hid hb0
  have HW0 := Lib.hid hw0
  have H0 := Lib.hid (Kd.C_below h hb0)
  have HX := Lib.hid hx
  have HW := Lib.hid hw
  obtain ⟨p0, p1, p2, p3, p4, p5⟩ := six_le G0.out
  obtain ⟨f0, f1, f2, f3, f4, s⟩ := x
  simp only at p0 p1 p2 p3 p4 p5
  clear h hw hw0 hb0 hx
  by_cases hn : 500 < s.size
  · have t0 : decide ((500 : Int) < (s.size : Int)) = true := by simp; omega
    go_enter Try.func6, Try.ntmps6
    go_upto_region 1 with (fail)
    rw [← HW0.out]
    go_wp2_with (first | (go_at_call 25; refine (lives24_calls _).mono ?_; rintro e w7 ⟨rfl, hb⟩; have B7 := Lib.hid (B0.out.trans (hb.mono B0.out.size)); clear hb) | fail)
    go_ret
    exact ⟨rfl, B7.out⟩
  · have t0 : decide ((500 : Int) < (s.size : Int)) = false := by simp; omega
    by_cases hl : 1000 < l.length
    · have t1 : decide ((1000 : Int) < (l.length : Int)) = true := by simp; omega
      go_enter Try.func6, Try.ntmps6
      go_upto_region 1 with (fail)
      rw [← HW0.out]
      go_wp2_with (first | (go_at_call 25; refine (lives24_calls _).mono ?_; rintro e w7 ⟨rfl, hb⟩; have B7 := Lib.hid (B0.out.trans (hb.mono B0.out.size)); clear hb) | fail)
      go_ret
      exact ⟨rfl, B7.out⟩
    · have t1 : decide ((1000 : Int) < (l.length : Int)) = false := by simp; omega
      obtain ⟨en, hen⟩ : ∃ en, en = encE (⟨f0, f1, f2, f3, f4, s⟩ : LE) := ⟨_, rfl⟩
      obtain ⟨el, ec⟩ := en
      have HEN := Lib.hid hen
      obtain ⟨de, hde⟩ : ∃ de, de = decE l off := ⟨_, rfl⟩
      obtain ⟨⟨g0, g1, g2, g3, g4, gs⟩, nx, er⟩ := de
      have HDE := Lib.hid hde
      have HLG := Lib.hid (show leC ((((⟨g0, g1, g2, g3, g4, gs⟩ : LE), nx, er) : LE × Int × Int)).1 = #[.int .i64 g0, .int .i64 g1, .int .i64 g2, .int .i64 g3, .int .i64 g4, .string gs] from rfl)
      obtain ⟨sv, hsv⟩ : ∃ sv, sv = strOfNums el := ⟨_, rfl⟩
      have HSV := Lib.hid hsv
      clear hen hde hsv
      go_enter Try.func6, Try.ntmps6
      go_upto_region 1 with (fail)
      rw [← HW0.out]
      go_wp2_with (first
        | (go_at_call 26; refine (Enc_calls _ ⟨f0, f1, f2, f3, f4, s⟩ HX.out).mono ?_; rw [← HEN.out]; rintro e w1 ⟨A1, c1, rfl, hr, hb⟩; have B1 := Lib.hid (B0.out.trans (hb.mono B0.out.size)); have V1 := Lib.hid (hr.mono (ok' := fun _ => True) (fun _ _ _ => trivial)); have H1 := Lib.hid (Kd.C_below H0.out hb); have G1 := Lib.hid ((hb.block _ (lt_blk G0.out)).trans G0.out); obtain ⟨p0, p1, p2, p3, p4, p5⟩ := six_le G1.out; clear hr hb B0 H0 G0)
        | (go_at_call 27; refine (rEnc_calls _ ⟨f0, f1, f2, f3, f4, s⟩ HX.out).mono ?_; rw [← HEN.out]; rintro e w2 ⟨A2, c2, rfl, hr, hb⟩; have B2 := Lib.hid (B1.out.trans (hb.mono B1.out.size)); have V2 := Lib.hid (V1.out.below hb); have U2 := Lib.hid (hr.mono (ok' := fun _ => True) (fun _ _ _ => trivial)); have H2 := Lib.hid (Kd.C_below H1.out hb); clear hr hb B1 V1 H1 G1)
        | (go_at_call 28; refine (Dec_calls _ A c l off H2.out hc (by omega) HW.out).mono ?_; rw [← HDE.out, HLG.out]; rintro e w3 ⟨rfl, hb0⟩; have hb := hb0.trans ((Below.of_alloc' w3 (.cells #[.int .i64 g0, .int .i64 g1, .int .i64 g2, .int .i64 g3, .int .i64 g4, .string gs] tLE)).mono hb0.size); have B3 := Lib.hid (B2.out.trans (hb.mono B2.out.size)); have V3 := Lib.hid (V2.out.below hb); have U3 := Lib.hid (U2.out.below hb); have H3 := Lib.hid (Kd.C_below H2.out hb); have G3 := Lib.hid (heap_le_new w3 g0 g1 g2 g3 g4 gs); clear hb hb0 B2 V2 U2 H2)
        | (go_at_call 29; refine (rDec_calls _ A c l off H3.out hc (by omega) HW.out).mono ?_; rw [← HDE.out, HLG.out]; rintro e w4 ⟨rfl, hb0⟩; have hb := hb0.trans ((Below.of_alloc' w4 (.cells #[.int .i64 g0, .int .i64 g1, .int .i64 g2, .int .i64 g3, .int .i64 g4, .string gs] tLE)).mono hb0.size); have B4 := Lib.hid (B3.out.trans (hb.mono B3.out.size)); have hcv1 := str_now (V3.out.below hb) HSV.out; have hcv2 := str_now (U3.out.below hb) HSV.out; have G4 := Lib.hid ((hb.block _ (lt_blk G3.out)).trans G3.out); obtain ⟨a0, a1, a2, a3, a4, a5⟩ := six_le G4.out; obtain ⟨b0, b1, b2, b3, b4, b5⟩ := six_le (heap_le_new w4 g0 g1 g2 g3 g4 gs); clear hb hb0 B3 V3 U3 H3 G3)
        | (go_at_call 25; refine (lives24_calls _).mono ?_; rintro e w7 ⟨rfl, hb⟩; have B7 := Lib.hid (B4.out.trans (hb.mono B4.out.size)); clear hb)
        | fail)
      go_ret
      exact ⟨rfl, B7.out⟩
end Go.Proofs.Ytehhafnjbkbmjaa.Disk

/- The law CommitlogRecords holds: for every input the call returns true, and each argument reads behind the call as it read before. No condition. -/
namespace Go.Proofs.Ytehhafnjbkbmjaa.commitlogRecords
open Go.ChangeShapes Go.WideShapes Go.ChangeAt Go.RowKit
open Go.ChangeMaps (open_string shut_string)
open Go.Proofs.YtehhafnjbkbmjaaW.PrintWords Go.Proofs.Ytehhafnjbkbmjaa.Disk
set_option linter.unusedVariables false
theorem own : ownKnob Try.prog.godebug = none := by kernel_rfl
theorem laidOut : laidOutB Try.prog = true := by kernel_rfl
set_option maxRecDepth 100000 in
theorem lifted (os : Os) (started : os.Started) (H : Type) (enc : TypeId × Value → H) :
    ReturnsInHanded {} Try.checked os 6 .any (Rows.commitlogRecordsSpec.pre6 enc Try.prog Try.f6 Rows.commitlogRecordsRow.domain false) (Rows.commitlogRecordsSpec.post enc Try.prog Try.f6 false true false false) := by
  refine returnsInHanded_of_change_sized (C := Try.checked) own started (by kernel_rfl) Try.func6
    (ChangeSpec.witness6 (enc := enc) (C := Try.checked) false ⟨#[], #[.agg #[.int .i64 0, .int .i64 0, .int .i64 0, .int .i64 0, .int .i64 0, .string ByteArray.empty], .slice none 0 0, .int .i64 0], []⟩ 8 (by kernel_rfl) (by kernel_rfl) (by kernel_rfl) (by kernel_rfl)) ?_
  intro W base args ds gs before hval0 hW hcnd hsz0 _
  have hval : ∀ (j : Nat) t v, Try.f6.params[j]? = some t → args[j]? = some v → Value.okWide Try.prog W .any base t v := hval0
  have hW' := hW
  obtain ⟨p, q, hA0, hV, rfl, hfz, hnd⟩ := hW
  have hA : DataW.TrodAll enc Try.prog W 0 (fun _ => true) true Try.f6.params.toList args.toList ds p := hA0
  rw [Try.params6] at hA hval
  obtain ⟨v0, vs0, d0, ds0, p0, q0, hargs, rfl, rfl, h0, r0⟩ := trodAll_cons hA
  obtain ⟨v1, vs1, d1, ds1, p1, q1, rfl, rfl, rfl, h1, r1⟩ := trodAll_cons r0
  obtain ⟨v2, vs2, d2, ds2, p2, q2, rfl, rfl, rfl, h2, r2⟩ := trodAll_cons r1
  obtain ⟨rfl, rfl, rfl⟩ := trodAll_nil r2
  obtain rfl : args = #[v0, v1, v2] := by cases args; simp_all
  obtain ⟨rfl, rfl⟩ := trodVars_none hV
  have lt0 : ∀ x ∈ p0, x.block < W.heap.size := by obtain ⟨m, hm⟩ := h0; exact DataW.trod_lt m _ _ _ hm
  obtain ⟨x0, rfl, hw0⟩ := le_arg (hval 0 47 v0 rfl rfl) h0
  obtain ⟨a1, len1, cap1, rfl⟩ := okWide_slice Try.underlying22 (hval 1 22 v1 rfl rfl)
  have lt1 : ∀ x ∈ p1, x.block < W.heap.size := by obtain ⟨m, hm⟩ := h1; exact DataW.trod_lt m _ _ _ hm
  obtain ⟨l1, rfl, hc1, hC1, hw1⟩ := bytes_row h1
  obtain ⟨n2, rfl, rfl, rfl, w2⟩ := open_int Try.underlying3 (hval 2 3 v2 rfl rfl) h2
  clear hA0 hval0 hsz0
  refine (records_walk W x0 hw0 a1 cap1 l1 hC1 hc1 hw1 n2).mono fun e W' ⟨he, bel⟩ => ?_
  subst he
  exact ⟨_, rfl, _, _, _, [], _, [], hW', trodAll_mk1 (shut_bool Try.underlying4 _), (trodAll_cons_mk (Below.trod laidOut (by kernel_rfl) (of_decide_eq_true (by kernel_rfl)) h0 bel lt0) (trodAll_cons_mk (Below.trod laidOut (by kernel_rfl) (of_decide_eq_true (by kernel_rfl)) h1 bel lt1) (trodAll_cons_mk (shut_int Try.underlying3 w2) trodAll_mk0))), rfl, bel.frame _, fun h => by cases h⟩
theorem over : Rows.commitlogRecordsRow.holds Try.pinned (OpenSpec.ofChange Rows.commitlogRecordsSpec) :=
  OpenClaim.holds_of_wide 6 Try.f6 rfl rfl rfl rfl rfl rfl rfl ⟨rfl, rfl, rfl, rfl, rfl⟩ rfl rfl rfl rfl rfl (by kernel_rfl) Try.func6 (by kernel_rfl)
    (of_decide_eq_true (by kernel_rfl)) (by unfold Func.isWrapper; first | (rw [if_pos (by decide +kernel)]; kernel_rfl) | (rw [if_neg (by decide +kernel)]; exact ⟨rfl, rfl⟩))
    (fun os started H enc _ => lifted os started H enc)
theorem proved : Rows.CommitlogRecordsSaid := over
#print axioms proved
end Go.Proofs.Ytehhafnjbkbmjaa.commitlogRecords
namespace Go.Proofs.Ytehhafnjbkbmjaa
theorem commitlogRecords_holds : Rows.CommitlogRecordsSaid := commitlogRecords.proved
end Go.Proofs.Ytehhafnjbkbmjaa
