import Derived.Test.YtehhafnjbkbmjaaM5
import Derived.Test.YtehhafnjbkbmjaaRows
import Derived.WalkKit
import Derived.ProofKit
import Derived.OpenShut
import Derived.ShutString
import Derived.ChangeOld
import Derived.Below
import Derived.SizedLaws
import Derived.Carry
/- objstore: a damaged object is reported as corrupt. -/
namespace Go.Proofs.Ytehhafnjbkbmjaa.Disk
open Go Go.RowKit Go.Proofs.YtehhafnjbkbmjaaW.PrintWords Go.Proofs.YtehhafnjbkbmjaaW.PrintLast Go.Proofs.YtehhafnjbkbmjaaW.PrintMore Go.Proofs.Ytehhafnjbkbmjaa.PObjstoreAtomic
abbrev sA : ByteArray := ⟨#[97]⟩
abbrev sB : ByteArray := ⟨#[98]⟩
def co1 (b : List Int) : PS := ⟨[⟨sealF b, (sealF b).length⟩], [⟨sA, 0⟩], [⟨sA, 0⟩], [], false, 0⟩
def co2 (b : List Int) : PS := ⟨[⟨sealF b, (sealF b).length⟩, ⟨[], 0⟩], [⟨sA, 0⟩, ⟨sB, 1⟩], [⟨sA, 0⟩], [⟨1, sB, ⟨#[]⟩, 1⟩], false, 0⟩
def co3 (b x : List Int) : PS := ⟨[⟨sealF b, (sealF b).length⟩, ⟨x, 0⟩], [⟨sA, 0⟩, ⟨sB, 1⟩], [⟨sA, 0⟩], [⟨1, sB, ⟨#[]⟩, 1⟩], false, 0⟩
theorem co1_eq (b : List Int) : pPut pNew sA b = (co1 b, 0) := by kernel_rfl
theorem co2_eq (b : List Int) : pCreate (co1 b) sB = (co2 b, 0) := by kernel_rfl
theorem co3_eq (b x : List Int) : pAppend (co2 b) sB x = (co3 b x, 0) := by kernel_rfl
theorem co3_read (b x : List Int) : pRead (co3 b x) sB = (x, 0) ∧ pRead (co3 b x) sA = (sealF b, 0) ∧ pExists (co3 b x) sB = true ∧ pExists (co3 b x) sA = true := ⟨by kernel_rfl, by kernel_rfl, by kernel_rfl, by kernel_rfl⟩
theorem co3_b (b x : List Int) (h : x.length < 4) : pGet (co3 b x) sB = ([], 19) := by
  obtain ⟨h1, h2, h3, h4⟩ := co3_read b x
  unfold pGet
  rw [h3, h1]
  simp [open_short h]
theorem co3_a (b x : List Int) (hw : ∀ y ∈ b, 0 ≤ y ∧ y ≤ 255) : pGet (co3 b x) sA = (b, 0) := by
  obtain ⟨h1, h2, h3, h4⟩ := co3_read b x
  unfold pGet
  rw [h4, h2]
  simp [open_seal hw]
theorem s_co1 {b : List Int} (hb : b.length ≤ 300) (hw : ∀ y ∈ b, 0 ≤ y ∧ y ≤ 255) : Sound (co1 b) 2400 := by
  have := Sound.new.put (m := 400) (n := sA) (l := b) (by decide) (by omega) hw
  rw [co1_eq] at this
  exact this
theorem s_co2 {b : List Int} (hb : b.length ≤ 300) (hw : ∀ y ∈ b, 0 ≤ y ∧ y ≤ 255) : Sound (co2 b) 2500 := by
  have := (s_co1 hb hw).create (n := sB)
  rw [co2_eq] at this
  exact this
theorem s_co3 {b x : List Int} (hb : b.length ≤ 300) (hw : ∀ y ∈ b, 0 ≤ y ∧ y ≤ 255) (hx : x.length ≤ 100) (hxw : ∀ y ∈ x, 0 ≤ y ∧ y ≤ 255) : Sound (co3 b x) 2600 := by
  have := (s_co2 hb hw).append (n := sB) hx hxw
  rw [co3_eq] at this
  exact this
theorem Rd.start {α : Type} {dd : Kd α} (hd : Kd.Heap dd) {w : World} {A : Option Addr} {c : Nat} {xs : List α} (h : dd.C w A xs.length xs) (hc : xs.length ≤ c) : Rd dd w (fun k => ¬ (fun _ : Nat => False) k) A c xs := (Rd.ofC hd h hc).mono (fun _ _ _ => id)
theorem get_str {w : World} {d : Nat} {S : PS} {n : ByteArray} {l : List Int} {cd : Int} (hp : pGet S n = (l, cd)) (h : Calls Try.prog 16 #[.pointer (some ⟨d, 0, none⟩), .string n] w fun e w' => ∃ v, e = .returned (.tuple #[v, .int .i64 (pGet S n).2]) ∧ w'.ownsRow w.heap.size 5 1 v (pGet S n).1.length (nums .u8 (pGet S n).1) ∧ Fr (fun _ => False) w w') :
    Calls Try.prog 16 #[.pointer (some ⟨d, 0, none⟩), .string n] w fun e w' => ∃ A c, e = .returned (.tuple #[.slice A l.length c, .int .i64 cd]) ∧ Rd kB w' (fun k => w.heap.size ≤ k) A c l ∧ Fr (fun _ => False) w w' := by
  rw [hp] at h
  refine h.mono fun e w' hq => ?_
  obtain ⟨v, q1, q2, q3⟩ := hq
  obtain ⟨A, c, e, _⟩ := own_bytes (l := l) q2
  subst e
  exact ⟨A, c, q1, Rd.ofOwn q2, q3⟩
set_option maxHeartbeats 4000000 in
set_option maxRecDepth 100000 in
theorem corrupt_walk (W : World) (a0 : Option Addr) (c0 : Nat) (b : List Int) (hC0 : Kd.C kB W a0 b.length b) (hc0 : b.length ≤ c0) (hw0 : ∀ y ∈ b, 0 ≤ y ∧ y ≤ 255) (a1 : Option Addr) (c1 : Nat) (x : List Int) (hC1 : Kd.C kB W a1 x.length x) (hc1 : x.length ≤ c1) (hw1 : ∀ y ∈ x, 0 ≤ y ∧ y ≤ 255) :
    Calls Try.prog 5 #[.slice a0 b.length c0, .slice a1 x.length c1] W fun e w' => e = .returned (.bool true) ∧ Below W.heap.size W w' := by
  by_cases hgo : b.length ≤ 300 ∧ x.length ≤ 3 ∧ 0 < x.length
  · obtain ⟨hb, hx, hx0⟩ := hgo
    have t0 : decide ((300 : Int) < (b.length : Int)) = false := by simp; omega
    have t1 : decide ((3 : Int) < (x.length : Int)) = false := by simp; omega
    have t2 : ((x.length : Int) == 0) = false := by rw [beq_eq_false_iff_ne]; omega
    have V0 := Lib.hid (Rd.start (Kd.heap_int _) hC0 hc0)
    have X0 := Lib.hid (Rd.start (Kd.heap_int _) hC1 hc1)
    have HW0 := Lib.hid hw0
    have HW1 := Lib.hid hw1
    have S1 := Lib.hid (s_co1 hb hw0)
    have S2 := Lib.hid (s_co2 hb hw0)
    have S3 := Lib.hid (s_co3 (x := x) hb hw0 (by omega) hw1)
    have GB := Lib.hid (co3_b b x (by omega))
    have GA := Lib.hid (co3_a b x hw0)
    have EB := Lib.hid (co3_read b x).2.2.1
    have HBL := Lib.hid (show b.length + 4 ≤ 400 by omega)
    have HXL := Lib.hid (show x.length ≤ 1099511627776 by omega)
    clear hC0 hC1 hw0 hw1
    go_enter Try.func5, Try.ntmps5
    go_wp2_with (first
      | (go_at_call 11; have hz := C6.out; clear hz; refine (lives_calls _).mono ?_; rintro e w7 ⟨rfl, hb⟩; have B7 := Lib.hid (C6.out.fr.below hb); clear hb C6)
      | (go_at_call 17; refine (Exists_calls _ F3 d L3 (co3 b x) 2600 sB R5.out S3.out.good (by decide)).mono ?_; rw [EB.out]; rintro e w6 ⟨rfl, hf⟩; have C6 := Lib.hid (C5.out.fr2 hf); clear hf R5)
      | (go_at_call 16; have hz := R4.out; clear hz; refine (get_str GA.out (Get_calls _ F3 d L3 (co3 b x) 2600 sA R4.out S3.out.good (by decide))).mono ?_; rintro e w5 ⟨A5, c5, rfl, hr, hf⟩; have R5 := Lib.hid (R4.out.fr hf (fun _ _ => id)); have C5 := Lib.hid (C4.out.fr2 hf); have cv1 := str_run hr; have cv2 := str_run (V4.out.below (fr_below hf)); obtain ⟨s, hs⟩ : ∃ s, s = strOfNums b := ⟨_, rfl⟩; rw [← hs] at cv1 cv2; clear hs hf hr R4)
      | (go_at_call 16; have hz := R3.out; clear hz; refine (get_str GB.out (Get_calls _ F3 d L3 (co3 b x) 2600 sB R3.out S3.out.good (by decide))).mono ?_; rintro e w4 ⟨A4, c4, rfl, hr, hf⟩; have R4 := Lib.hid (R3.out.fr hf (fun _ _ => id)); have C4 := Lib.hid (C3.out.fr2 hf); have V4 := Lib.hid (V3.out.below (fr_below hf)); clear hf hr R3 V3)
      | (go_at_call 24; refine (Append_calls _ F2 d L2 (co2 b) 2500 sB a1 x c1 X2.out.now HXL.out R2.out S2.out.good (by decide)).mono ?_; rw [co3_eq]; rintro e w3 ⟨rfl, F3, L3, hr, hc⟩; have R3 := Lib.hid hr; have C3 := Lib.hid (C2.out.trans hc); have V3 := Lib.hid (V2.out.chg hc); clear hr hc R2 V2 X2)
      | (go_at_call 23; refine (Create_calls _ F1 d L1 (co1 b) 2400 sB R1.out S1.out.good (by decide)).mono ?_; rw [co2_eq]; rintro e w2 ⟨rfl, F2, L2, hr, hc⟩; have R2 := Lib.hid hr; have C2 := Lib.hid (C1.out.trans hc); have V2 := Lib.hid (V1.out.chg hc); have X2 := Lib.hid (X1.out.chg hc); clear hr hc R1 V1 X1)
      | (go_at_call 13; refine (Put_calls _ F0 d L0 pNew 0 400 sA a0 c0 b R0.out C0.out.lt Sound.new (by decide) HBL.out (by decide) HW0.out (V0.out.chg C0.out)).mono ?_; rw [co1_eq]; rintro e w1 ⟨rfl, F1, L1, hr, hc⟩; have R1 := Lib.hid hr; have C1 := Lib.hid (C0.out.trans hc); have V1 := Lib.hid (V0.out.chg C1.out); have X1 := Lib.hid (X0.out.chg C1.out); clear hr hc R0)
      | (go_at_call 12; refine (New_calls _).mono ?_; rintro e w0 ⟨d, F0, L0, rfl, hr, hc⟩; have R0 := Lib.hid hr; have C0 := Lib.hid hc; clear hr hc)
      | fail)
    go_ret
    exact ⟨rfl, B7.out.toBelow (Nat.le_refl _) (fun _ hk => hk.elim)⟩
  · have HN := Lib.hid hgo
    clear hgo hC0 hC1 hw0 hw1
    by_cases h1 : 300 < b.length
    · have t0 : decide ((300 : Int) < (b.length : Int)) = true := by simp; omega
      go_enter Try.func5, Try.ntmps5
      go_wp2_with (first | (go_at_call 11; refine (lives_calls _).mono ?_; rintro e w7 ⟨rfl, hb⟩; have B7 := Lib.hid hb; clear hb) | fail)
      go_ret
      exact ⟨rfl, B7.out⟩
    · have t0 : decide ((300 : Int) < (b.length : Int)) = false := by simp; omega
      by_cases h3 : 3 < x.length
      · have t1 : decide ((3 : Int) < (x.length : Int)) = true := by simp; omega
        go_enter Try.func5, Try.ntmps5
        go_wp2_with (first | (go_at_call 11; refine (lives_calls _).mono ?_; rintro e w7 ⟨rfl, hb⟩; have B7 := Lib.hid hb; clear hb) | fail)
        go_ret
        exact ⟨rfl, B7.out⟩
      · have t1 : decide ((3 : Int) < (x.length : Int)) = false := by simp; omega
        obtain rfl : x = [] := List.eq_nil_of_length_eq_zero (by have := HN.out; omega)
        clear h3 t1
        go_enter Try.func5, Try.ntmps5
        go_wp2_with (first | (go_at_call 11; refine (lives_calls _).mono ?_; rintro e w7 ⟨rfl, hb⟩; have B7 := Lib.hid hb; clear hb) | fail)
        go_ret
        exact ⟨rfl, B7.out⟩
end Go.Proofs.Ytehhafnjbkbmjaa.Disk

/- The law ObjstoreCorrupt holds: for every input the call returns true, and each argument reads behind the call as it read before. No condition. -/
namespace Go.Proofs.Ytehhafnjbkbmjaa.objstoreCorrupt
open Go.ChangeShapes Go.WideShapes Go.ChangeAt Go.RowKit
open Go.ChangeMaps (open_string shut_string)
open Go.Proofs.YtehhafnjbkbmjaaW.PrintWords Go.Proofs.Ytehhafnjbkbmjaa.Disk
set_option linter.unusedVariables false
theorem own : ownKnob Try.prog.godebug = none := by kernel_rfl
theorem laidOut : laidOutB Try.prog = true := by kernel_rfl
set_option maxRecDepth 100000 in
theorem lifted (os : Os) (started : os.Started) (H : Type) (enc : TypeId × Value → H) :
    ReturnsInHanded {} Try.checked os 5 .any (Rows.objstoreCorruptSpec.pre6 enc Try.prog Try.f5 Rows.objstoreCorruptRow.domain false) (Rows.objstoreCorruptSpec.post enc Try.prog Try.f5 false true false false) := by
  refine returnsInHanded_of_change_sized (C := Try.checked) own started (by kernel_rfl) Try.func5
    (ChangeSpec.witness6 (enc := enc) (C := Try.checked) false ⟨#[], #[.slice none 0 0, .slice none 0 0], []⟩ 8 (by kernel_rfl) (by kernel_rfl) (by kernel_rfl) (by kernel_rfl)) ?_
  intro W base args ds gs before hval0 hW hcnd hsz0 _
  have hval : ∀ (j : Nat) t v, Try.f5.params[j]? = some t → args[j]? = some v → Value.okWide Try.prog W .any base t v := hval0
  have hW' := hW
  obtain ⟨p, q, hA0, hV, rfl, hfz, hnd⟩ := hW
  have hA : DataW.TrodAll enc Try.prog W 0 (fun _ => true) true Try.f5.params.toList args.toList ds p := hA0
  rw [Try.params5] at hA hval
  obtain ⟨v0, vs0, d0, ds0, p0, q0, hargs, rfl, rfl, h0, r0⟩ := trodAll_cons hA
  obtain ⟨v1, vs1, d1, ds1, p1, q1, rfl, rfl, rfl, h1, r1⟩ := trodAll_cons r0
  obtain ⟨rfl, rfl, rfl⟩ := trodAll_nil r1
  obtain rfl : args = #[v0, v1] := by cases args; simp_all
  obtain ⟨rfl, rfl⟩ := trodVars_none hV
  obtain ⟨a0, len0, cap0, rfl⟩ := okWide_slice Try.underlying22 (hval 0 22 v0 rfl rfl)
  have lt0 : ∀ x ∈ p0, x.block < W.heap.size := by obtain ⟨m, hm⟩ := h0; exact DataW.trod_lt m _ _ _ hm
  obtain ⟨l0, rfl, hc0, hC0, hw0⟩ := bytes_row h0
  obtain ⟨a1, len1, cap1, rfl⟩ := okWide_slice Try.underlying22 (hval 1 22 v1 rfl rfl)
  have lt1 : ∀ x ∈ p1, x.block < W.heap.size := by obtain ⟨m, hm⟩ := h1; exact DataW.trod_lt m _ _ _ hm
  obtain ⟨l1, rfl, hc1, hC1, hw1⟩ := bytes_row h1
  clear hA0 hval0 hsz0
  refine (corrupt_walk W a0 cap0 l0 hC0 hc0 hw0 a1 cap1 l1 hC1 hc1 hw1).mono fun e W' ⟨he, bel⟩ => ?_
  subst he
  exact ⟨_, rfl, _, _, _, [], _, [], hW', trodAll_mk1 (shut_bool Try.underlying4 _), (trodAll_cons_mk (Below.trod laidOut (by kernel_rfl) (of_decide_eq_true (by kernel_rfl)) h0 bel lt0) (trodAll_cons_mk (Below.trod laidOut (by kernel_rfl) (of_decide_eq_true (by kernel_rfl)) h1 bel lt1) trodAll_mk0)), rfl, bel.frame _, fun h => by cases h⟩
theorem over : Rows.objstoreCorruptRow.holds Try.pinned (OpenSpec.ofChange Rows.objstoreCorruptSpec) :=
  OpenClaim.holds_of_wide 5 Try.f5 rfl rfl rfl rfl rfl rfl rfl ⟨rfl, rfl, rfl, rfl, rfl⟩ rfl rfl rfl rfl rfl (by kernel_rfl) Try.func5 (by kernel_rfl)
    (of_decide_eq_true (by kernel_rfl)) (by unfold Func.isWrapper; first | (rw [if_pos (by decide +kernel)]; kernel_rfl) | (rw [if_neg (by decide +kernel)]; exact ⟨rfl, rfl⟩))
    (fun os started H enc _ => lifted os started H enc)
theorem proved : Rows.ObjstoreCorruptSaid := over
#print axioms proved
end Go.Proofs.Ytehhafnjbkbmjaa.objstoreCorrupt
namespace Go.Proofs.Ytehhafnjbkbmjaa
theorem objstoreCorrupt_holds : Rows.ObjstoreCorruptSaid := objstoreCorrupt.proved
end Go.Proofs.Ytehhafnjbkbmjaa
