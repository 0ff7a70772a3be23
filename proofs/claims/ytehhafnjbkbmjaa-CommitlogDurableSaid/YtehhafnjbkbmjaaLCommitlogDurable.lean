import Derived.Test.YtehhafnjbkbmjaaY7
import Derived.Test.YtehhafnjbkbmjaaY4
import Derived.Test.YtehhafnjbkbmjaaRows
import Derived.WalkKit
import Derived.ProofKit
import Derived.OpenShut
import Derived.ShutString
import Derived.ChangeOld
import Derived.Below
import Derived.SizedLaws
import Derived.Carry
/- What is read out of the arguments of a law: entries. -/
namespace Go.Proofs.Ytehhafnjbkbmjaa.Disk
open Go Go.RowKit Go.Proofs.YtehhafnjbkbmjaaW.PrintWords Go.Proofs.YtehhafnjbkbmjaaW.PrintLast Go.Proofs.YtehhafnjbkbmjaaW.PrintMore Go.Proofs.Ytehhafnjbkbmjaa.PObjstoreAtomic
open Go.ChangeShapes Go.WideShapes Go.Deep
open Go.Proofs.Ytehhafnjbkbmjaa.PCommitlogRecords (k47_mk k47_open)
theorem opens_le : Opens kLE tLE WfLE := fun _ _ _ _ cs _ h => by
  obtain ⟨hl, n, hf⟩ := struct_cells Try.underlying47 (by kernel_rfl) (by
    intro i f hf
    have hi := (Array.getElem?_eq_some_iff.1 hf).1
    match i, hi with
    | 0, _ => cases hf; exact ⟨rfl, by kernel_rfl⟩
    | 1, _ => cases hf; exact ⟨rfl, by kernel_rfl⟩
    | 2, _ => cases hf; exact ⟨rfl, by kernel_rfl⟩
    | 3, _ => cases hf; exact ⟨rfl, by kernel_rfl⟩
    | 4, _ => cases hf; exact ⟨rfl, by kernel_rfl⟩
    | 5, _ => cases hf; exact ⟨rfl, by kernel_rfl⟩) h
  match cs, hl with
  | [u0, u1, u2, u3, u4, u5], _ =>
    obtain ⟨y0, h0⟩ := hf 0 _ u0 rfl rfl
    obtain ⟨y1, h1⟩ := hf 1 _ u1 rfl rfl
    obtain ⟨y2, h2⟩ := hf 2 _ u2 rfl rfl
    obtain ⟨y3, h3⟩ := hf 3 _ u3 rfl rfl
    obtain ⟨y4, h4⟩ := hf 4 _ u4 rfl rfl
    obtain ⟨y5, h5⟩ := hf 5 _ u5 rfl rfl
    obtain ⟨a0, k0, w0⟩ := opens_int Try.underlying3 _ _ _ _ _ _ h0
    obtain ⟨a1, k1, w1⟩ := opens_int Try.underlying2 _ _ _ _ _ _ h1
    obtain ⟨a2, k2, w2⟩ := opens_int Try.underlying2 _ _ _ _ _ _ h2
    obtain ⟨a3, k3, w3⟩ := opens_int Try.underlying2 _ _ _ _ _ _ h3
    obtain ⟨a4, k4, w4⟩ := opens_int Try.underlying2 _ _ _ _ _ _ h4
    obtain ⟨a5, k5, _⟩ := opens_string Try.underlying9 _ _ _ _ _ _ h5
    cases k0
    cases k1
    cases k2
    cases k3
    cases k4
    cases k5
    exact ⟨⟨a0, a1, a2, a3, a4, a5⟩, k47_mk _ ⟨a0, a1, a2, a3, a4, a5⟩, ⟨(bounds_i64 w1).2, (bounds_i64 w2).2, (bounds_i64 w3).2, (bounds_i64 w4).2⟩⟩
set_option maxRecDepth 100000
instance : Inhabited LE := ⟨zLE⟩
theorem les_row {H : Type} {enc : TypeId × Value → H} {W : World} {a : Option Addr} {len cap : Nat} {d : DataW H} {ps : List MemPlace} (h : DataW.Trod enc Try.prog W 0 (fun _ => true) true 56 (.slice a len cap) d ps) : ∃ l : List LE, len = l.length ∧ l.length ≤ cap ∧ Kd.C kLE W a l.length l ∧ ∀ x ∈ l, WfLE x := by
  obtain ⟨fuel, hf⟩ := h
  obtain ⟨l, A, c, he, hl, hC, hw⟩ := opens_row (dd := kLE) Try.underlying56 (by kernel_rfl) opens_le hf
  simp [Value.cells] at he
  obtain ⟨rfl, rfl, rfl⟩ := he
  exact ⟨l, rfl, hl, hC, hw⟩
set_option maxRecDepth 100000 in
theorem le_arg {H : Type} {enc : TypeId × Value → H} {W : World} {base : Nat} {v : Value} {d : DataW H} {ps : List MemPlace} (hv : Value.okWide Try.prog W .any base tLE v) (h : DataW.Trod enc Try.prog W 0 (fun _ => true) true tLE v d ps) :
    ∃ x : LE, v = .agg (leC x) ∧ WfLE x := by
  obtain ⟨cs, rfl, _⟩ := okWide_struct Try.underlying47 hv
  obtain ⟨fuel, hf⟩ := h
  obtain ⟨x, hK, hw⟩ := opens_le _ _ _ _ _ _ hf
  refine ⟨x, ?_, hw⟩
  have e' : cs.toList = [.int .i64 x.f0, .int .i64 x.f1, .int .i64 x.f2, .int .i64 x.f3, .int .i64 x.f4, .string x.f5] := k47_open hK
  obtain ⟨cs⟩ := cs
  have e2 : cs = _ := e'
  rw [e2]
  rfl
theorem heap_le : Kd.Heap kLE := Kd.heap_iso _ (Kd.heap_pair (Kd.heap_int _) (Kd.heap_pair (Kd.heap_int _) (Kd.heap_pair (Kd.heap_int _) (Kd.heap_pair (Kd.heap_int _) (Kd.heap_pair (Kd.heap_int _) Kd.heap_string)))))
end Go.Proofs.Ytehhafnjbkbmjaa.Disk

/- commitlog: the laws Scan and Records, the walks. -/
namespace Go.Proofs.Ytehhafnjbkbmjaa.Disk
open Go Go.RowKit Go.Proofs.YtehhafnjbkbmjaaW.PrintWords Go.Proofs.YtehhafnjbkbmjaaW.PrintLast Go.Proofs.YtehhafnjbkbmjaaW.PrintMore Go.Proofs.Ytehhafnjbkbmjaa.PObjstoreAtomic
set_option maxHeartbeats 4000000 in
theorem scan_walk (w : World) (A : Option Addr) (c : Nat) (l : List Int) (h : Kd.C kB w A l.length l) (hc : l.length ≤ c) (hw : ∀ x ∈ l, 0 ≤ x ∧ x ≤ 255) :
    Calls Try.prog 7 #[.slice A l.length c] w fun e w' => e = .returned (.bool true) ∧ Below w.heap.size w w' := by
  have H := Lib.hid h
  have HW := Lib.hid hw
  clear h hw
  by_cases hl : 3000 < l.length
  · have t0 : decide ((3000 : Int) < (l.length : Int)) = true := by simp; omega
    go_enter Try.func7, Try.ntmps7
    go_wp2_with (first | (go_at_call 25; refine (lives24_calls _).mono ?_; rintro e w7 ⟨rfl, hb⟩; have B7 := Lib.hid hb; clear hb) | fail)
    go_ret
    exact ⟨rfl, B7.out⟩
  · have t0 : decide ((3000 : Int) < (l.length : Int)) = false := by simp; omega
    have HSO := Lib.hid (scanF_ok l)
    obtain ⟨s, hs⟩ : ∃ s, s = scanF l := ⟨_, rfl⟩
    obtain ⟨out, at'⟩ := s
    have HSC := Lib.hid hs
    rw [← hs] at HSO
    clear hs
    go_enter Try.func7, Try.ntmps7
    go_wp2_with (first
      | (go_at_call 30; refine (Scan_calls _ A c l H.out hc (by omega) HW.out).mono ?_; rw [← HSC.out]; rintro e w1 ⟨A1, c1, rfl, hr, hb⟩; have B1 := Lib.hid hb; have V1 := Lib.hid hr; have H1 := Lib.hid (Kd.C_below H.out hb); clear hr hb)
      | (go_at_call 31; refine (rScan_calls _ A c l H1.out hc (by omega) HW.out).mono ?_; rw [← HSC.out]; rintro e w2 ⟨A2, c2, rfl, hr, hb⟩; have B2 := Lib.hid (B1.out.trans (hb.mono B1.out.size)); have V2 := Lib.hid (V1.out.below hb); have U2 := Lib.hid hr; clear hr hb V1)
      | (go_at_call 32; refine (rEq_calls _ A1 c1 A2 c2 out V2.out.now V2.out.le U2.out.now U2.out.le (by have h1 : (out.length : Int) ≤ at' ∧ at' ≤ l.length := HSO.out.2; omega)).mono ?_; rintro e w3 ⟨rfl, hb⟩; have B3 := Lib.hid (B2.out.trans (hb.mono B2.out.size)); clear hb)
      | (go_at_call 25; refine (lives24_calls _).mono ?_; rintro e w7 ⟨rfl, hb⟩; have B7 := Lib.hid (B3.out.trans (hb.mono B3.out.size)); clear hb)
      | fail)
    go_ret
    exact ⟨rfl, B7.out⟩
theorem heap_le_new (w : World) (g0 g1 g2 g3 g4 : Int) (gs : ByteArray) : (w.alloc (.cells #[.int .i64 g0, .int .i64 g1, .int .i64 g2, .int .i64 g3, .int .i64 g4, .string gs] tLE)).heap[w.heap.size]? = some (.cells (leC ⟨g0, g1, g2, g3, g4, gs⟩) tLE (0, 0)) := heap_alloc_new w _
theorem str_now {w : World} {A : Option Addr} {c : Nat} {ok : Nat → Prop} {bs : List Int} (h : Rd kB w ok A c bs) {s : ByteArray} (hs : s = strOfNums bs) : (convert 22 9 (.slice A bs.length c)).run Try.prog w = .ok (.string s) w := by rw [hs]; exact str_run h
set_option maxHeartbeats 8000000 in
set_option maxRecDepth 100000 in
theorem records_walk (w : World) (x : LE) (hx : WfLE x) (A : Option Addr) (c : Nat) (l : List Int) (h : Kd.C kB w A l.length l) (hc : l.length ≤ c) (hw : ∀ x ∈ l, 0 ≤ x ∧ x ≤ 255) (off : Int) :
    Calls Try.prog 6 #[.agg (leC x), .slice A l.length c, .int .i64 off] w fun e w' => e = .returned (.bool true) ∧ Below w.heap.size w w' := by
  have hb0 : Below w.heap.size w (w.alloc (.cells (leC x) tLE)) := Below.of_alloc' w _
  obtain ⟨w0, hw0⟩ : ∃ w0, w0 = w.alloc (.cells (leC x) tLE) := ⟨_, rfl⟩
  have G0 := Lib.hid (show w0.heap[w.heap.size]? = some (.cells (leC x) tLE (0, 0)) by rw [hw0]; exact heap_alloc_new w _)
  rw [← hw0] at hb0
  have B0 := Lib.hid hb0
  have HW0 := Lib.hid hw0
  have H0 := Lib.hid (Kd.C_below h hb0)
  have HX := Lib.hid hx
  have HW := Lib.hid hw
  obtain ⟨p0, p1, p2, p3, p4, p5⟩ := six_le G0.out
  obtain ⟨f0, f1, f2, f3, f4, s⟩ := x
  simp only at p0 p1 p2 p3 p4 p5
  clear h hw hw0 hb0 hx
  by_cases hn : 500 < s.size
  · have t0 : decide ((500 : Int) < (s.size : Int)) = true := by simp; omega
    go_enter Try.func6, Try.ntmps6
    go_upto_region 1 with (fail)
    rw [← HW0.out]
    go_wp2_with (first | (go_at_call 25; refine (lives24_calls _).mono ?_; rintro e w7 ⟨rfl, hb⟩; have B7 := Lib.hid (B0.out.trans (hb.mono B0.out.size)); clear hb) | fail)
    go_ret
    exact ⟨rfl, B7.out⟩
  · have t0 : decide ((500 : Int) < (s.size : Int)) = false := by simp; omega
    by_cases hl : 1000 < l.length
    · have t1 : decide ((1000 : Int) < (l.length : Int)) = true := by simp; omega
      go_enter Try.func6, Try.ntmps6
      go_upto_region 1 with (fail)
      rw [← HW0.out]
      go_wp2_with (first | (go_at_call 25; refine (lives24_calls _).mono ?_; rintro e w7 ⟨rfl, hb⟩; have B7 := Lib.hid (B0.out.trans (hb.mono B0.out.size)); clear hb) | fail)
      go_ret
      exact ⟨rfl, B7.out⟩
    · have t1 : decide ((1000 : Int) < (l.length : Int)) = false := by simp; omega
      obtain ⟨en, hen⟩ : ∃ en, en = encE (⟨f0, f1, f2, f3, f4, s⟩ : LE) := ⟨_, rfl⟩
      obtain ⟨el, ec⟩ := en
      have HEN := Lib.hid hen
      obtain ⟨de, hde⟩ : ∃ de, de = decE l off := ⟨_, rfl⟩
      obtain ⟨⟨g0, g1, g2, g3, g4, gs⟩, nx, er⟩ := de
      have HDE := Lib.hid hde
      have HLG := Lib.hid (show leC ((((⟨g0, g1, g2, g3, g4, gs⟩ : LE), nx, er) : LE × Int × Int)).1 = #[.int .i64 g0, .int .i64 g1, .int .i64 g2, .int .i64 g3, .int .i64 g4, .string gs] from rfl)
      obtain ⟨sv, hsv⟩ : ∃ sv, sv = strOfNums el := ⟨_, rfl⟩
      have HSV := Lib.hid hsv
      clear hen hde hsv
      go_enter Try.func6, Try.ntmps6
      go_upto_region 1 with (fail)
      rw [← HW0.out]
      go_wp2_with (first
        | (go_at_call 26; refine (Enc_calls _ ⟨f0, f1, f2, f3, f4, s⟩ HX.out).mono ?_; rw [← HEN.out]; rintro e w1 ⟨A1, c1, rfl, hr, hb⟩; have B1 := Lib.hid (B0.out.trans (hb.mono B0.out.size)); have V1 := Lib.hid (hr.mono (ok' := fun _ => True) (fun _ _ _ => trivial)); have H1 := Lib.hid (Kd.C_below H0.out hb); have G1 := Lib.hid ((hb.block _ (lt_blk G0.out)).trans G0.out); obtain ⟨p0, p1, p2, p3, p4, p5⟩ := six_le G1.out; clear hr hb B0 H0 G0)
        | (go_at_call 27; refine (rEnc_calls _ ⟨f0, f1, f2, f3, f4, s⟩ HX.out).mono ?_; rw [← HEN.out]; rintro e w2 ⟨A2, c2, rfl, hr, hb⟩; have B2 := Lib.hid (B1.out.trans (hb.mono B1.out.size)); have V2 := Lib.hid (V1.out.below hb); have U2 := Lib.hid (hr.mono (ok' := fun _ => True) (fun _ _ _ => trivial)); have H2 := Lib.hid (Kd.C_below H1.out hb); clear hr hb B1 V1 H1 G1)
        | (go_at_call 28; refine (Dec_calls _ A c l off H2.out hc (by omega) HW.out).mono ?_; rw [← HDE.out, HLG.out]; rintro e w3 ⟨rfl, hb0⟩; have hb := hb0.trans ((Below.of_alloc' w3 (.cells #[.int .i64 g0, .int .i64 g1, .int .i64 g2, .int .i64 g3, .int .i64 g4, .string gs] tLE)).mono hb0.size); have B3 := Lib.hid (B2.out.trans (hb.mono B2.out.size)); have V3 := Lib.hid (V2.out.below hb); have U3 := Lib.hid (U2.out.below hb); have H3 := Lib.hid (Kd.C_below H2.out hb); have G3 := Lib.hid (heap_le_new w3 g0 g1 g2 g3 g4 gs); clear hb hb0 B2 V2 U2 H2)
        | (go_at_call 29; refine (rDec_calls _ A c l off H3.out hc (by omega) HW.out).mono ?_; rw [← HDE.out, HLG.out]; rintro e w4 ⟨rfl, hb0⟩; have hb := hb0.trans ((Below.of_alloc' w4 (.cells #[.int .i64 g0, .int .i64 g1, .int .i64 g2, .int .i64 g3, .int .i64 g4, .string gs] tLE)).mono hb0.size); have B4 := Lib.hid (B3.out.trans (hb.mono B3.out.size)); have hcv1 := str_now (V3.out.below hb) HSV.out; have hcv2 := str_now (U3.out.below hb) HSV.out; have G4 := Lib.hid ((hb.block _ (lt_blk G3.out)).trans G3.out); obtain ⟨a0, a1, a2, a3, a4, a5⟩ := six_le G4.out; obtain ⟨b0, b1, b2, b3, b4, b5⟩ := six_le (heap_le_new w4 g0 g1 g2 g3 g4 gs); clear hb hb0 B3 V3 U3 H3 G3)
        | (go_at_call 25; refine (lives24_calls _).mono ?_; rintro e w7 ⟨rfl, hb⟩; have B7 := Lib.hid (B4.out.trans (hb.mono B4.out.size)); clear hb)
        | fail)
      go_ret
      exact ⟨rfl, B7.out⟩
end Go.Proofs.Ytehhafnjbkbmjaa.Disk

/- commitlog: what is encoded decodes as it was, plain. -/
namespace Go.Proofs.Ytehhafnjbkbmjaa.Disk
open Go Go.RowKit Go.Proofs.YtehhafnjbkbmjaaW.PrintWords Go.Proofs.YtehhafnjbkbmjaaW.PrintLast Go.Proofs.YtehhafnjbkbmjaaW.PrintMore Go.Proofs.Ytehhafnjbkbmjaa.PObjstoreAtomic
theorem split128 (acc n p : Nat) : acc + n % 128 * p + n / 128 * (p * 128) = acc + n * p := by
  have e1 : n / 128 * (p * 128) = 128 * (n / 128 * p) := by rw [Nat.mul_comm p 128, ← Nat.mul_assoc, Nat.mul_comm (n / 128) 128, Nat.mul_assoc]
  have e2 : (128 * (n / 128) + n % 128) * p = 128 * (n / 128 * p) + n % 128 * p := by rw [Nat.add_mul, Nat.mul_assoc]
  have e3 : 128 * (n / 128) + n % 128 = n := by omega
  rw [e3] at e2
  omega
theorem decGo_enc : ∀ (m n i acc : Nat) (rest : List Int), n < 128 ^ (m + 1) → i + m ≤ 9 → n * 128 ^ i < 18446744073709551616 → (0 < i → 0 < n) →
    decGo (encVk (m + 1) n ++ rest) i acc = (acc + n * 128 ^ i, i + (encVk (m + 1) n).length, 0)
  | m, n, i, acc, rest, hn, hi, h64, h0 => by
    unfold encVk
    by_cases h : n < 128
    · rw [if_pos h]
      show decGo ((n : Int) :: rest) i acc = _
      unfold decGo
      rw [if_neg, if_pos (by omega)]
      · simp
      · rintro (⟨rfl, h1⟩ | ⟨h1, h2⟩)
        · have e : (128 : Nat) ^ 9 = 9223372036854775808 := by decide
          rw [e] at h64
          omega
        · have := h0 h1
          omega
    · rw [if_neg h]
      show decGo (((n % 128 + 128 : Nat) : Int) :: (encVk m (n / 128) ++ rest)) i acc = _
      cases m with
      | zero => exfalso; simp at hn; omega
      | succ m =>
        unfold decGo
        rw [if_neg (by rintro (⟨rfl, h1⟩ | ⟨h1, h2⟩) <;> omega), if_neg (by omega)]
        have hs := split128 acc n (128 ^ i)
        have hle : n / 128 * 128 ^ (i + 1) ≤ n * 128 ^ i := by rw [Nat.pow_succ]; omega
        rw [decGo_enc m (n / 128) (i + 1) _ rest (by rw [Nat.pow_succ] at hn; omega) (by omega) (by omega) (fun _ => by omega)]
        have e1 : (((n % 128 + 128 : Nat) : Int).toNat - 128) = n % 128 := by omega
        rw [e1, Nat.pow_succ 128 i, hs, List.length_cons]
        refine Prod.ext rfl (Prod.ext ?_ rfl)
        show i + 1 + (encVk (m + 1) (n / 128)).length = i + ((encVk (m + 1) (n / 128)).length + 1)
        omega
theorem decV_at {b : List Int} {o n : Nat} {rest : List Int} (ho : o ≤ b.length) (hd : b.drop o = encV n ++ rest) (hn : n < 18446744073709551616) : decV b (o : Int) = (n, ((o + (encV n).length : Nat) : Int), 0) := by
  unfold decV
  have e := decGo_enc 9 n 0 0 rest (Nat.lt_of_lt_of_le hn (by decide)) (by omega) (by simpa using hn) (by omega)
  rw [if_neg (by omega), Int.toNat_natCast, hd]
  unfold encV
  rw [e]
  simp
theorem drop_more {b : List Int} {o : Nat} {x y : List Int} (h : b.drop o = x ++ y) : b.drop (o + x.length) = y := by
  rw [← List.drop_drop, h]
  simp
theorem drop_len {b : List Int} {o : Nat} {x y : List Int} (ho : o ≤ b.length) (h : b.drop o = x ++ y) : o + x.length + y.length = b.length := by
  have := congrArg List.length h
  simp only [List.length_drop, List.length_append] at this
  omega
theorem fldGo_at (l : List Int) : ∀ (ns : List Nat) (a : Nat) (acc : List Nat) (rest : List Int), a ≤ l.length → l.drop a = ns.flatMap encV ++ rest → (∀ n ∈ ns, n ≤ 9223372036854775807) →
    fldGo l ns.length a acc = (acc ++ ns, ((a + (ns.flatMap encV).length : Nat) : Int), 0)
  | [], a, acc, rest, ha, hd, hn => by simp [fldGo]
  | n :: ns, a, acc, rest, ha, hd, hn => by
    have hn0 := hn n List.mem_cons_self
    have hd' : l.drop a = encV n ++ (ns.flatMap encV ++ rest) := by rw [hd]; simp
    have hlen := drop_len ha hd'
    have e := decV_at ha hd' (by omega)
    show fldGo l (ns.length + 1) a acc = _
    unfold fldGo
    rw [e]
    simp only
    rw [if_neg (by omega), if_neg (by omega), fldGo_at l ns (a + (encV n).length) (acc ++ [n]) rest (by omega) (drop_more hd') (fun m hm => hn m (List.mem_cons_of_mem _ hm))]
    simp [Nat.add_assoc]
theorem numsLE_small {x : LE} (hv : validB x = true) (hw : WfLE x) : ∀ n ∈ numsLE x, n ≤ 9223372036854775807 := by
  intro n hn
  have h1 := hw.h1
  have h2 := hw.h2
  have h3 := hw.h3
  have h4 := hw.h4
  have h5 := validB_size hv
  have h6 := rangeB_iff (validB_range hv)
  simp only [numsLE, List.mem_cons, List.not_mem_nil, or_false] at hn
  omega
theorem str_bytesOf (s : ByteArray) : strOfNums (bytesOf s) = s := by
  obtain ⟨⟨l⟩⟩ := s
  unfold strOfNums bytesOf
  congr 1
  simp only [List.map_map]
  congr 1
  conv => rhs; rw [← List.map_id l]
  apply List.map_congr_left
  intro c _
  simp
theorem leOf_nums {x : LE} (hv : validB x = true) : leOf (numsLE x) x.f5 = x := by
  have h6 := rangeB_iff (validB_range hv)
  obtain ⟨f0, f1, f2, f3, f4, s⟩ := x
  simp only at h6
  simp only [leOf, numsLE, List.getD_cons_zero, List.getD_cons_succ]
  congr 1 <;> omega
theorem entE_body {x : LE} (hv : validB x = true) (hw : WfLE x) : entE (bodyF x) = (x, 0) := by
  have e : fldF (bodyF x) = (numsLE x, ((((numsLE x).flatMap encV).length : Nat) : Int), 0) := by
    have := fldGo_at (bodyF x) (numsLE x) 0 [] (bytesOf x.f5) (Nat.zero_le _) rfl (numsLE_small hv hw)
    rw [Nat.zero_add, List.nil_append] at this
    exact this
  have hl : (bodyF x).length = ((numsLE x).flatMap encV).length + x.f5.size := by
    unfold bodyF
    rw [List.length_append, bytesOf_length]
  have hd : (bodyF x).drop ((numsLE x).flatMap encV).length = bytesOf x.f5 := by
    unfold bodyF
    simp
  have h5 : (numsLE x).getD 5 0 = x.f5.size := rfl
  unfold entE
  rw [e]
  simp only [Int.toNat_natCast]
  rw [hd, h5, str_bytesOf, leOf_nums hv, hv, if_neg (by omega), if_neg (by omega), if_neg (by omega), if_pos rfl]
theorem body_small {x : LE} (hv : validB x = true) : (bodyF x).length ≤ 92 := by
  have h1 := flat_enc_length (numsLE x)
  have e : (numsLE x).length = 6 := rfl
  have h2 := validB_size hv
  unfold bodyF
  rw [List.length_append, bytesOf_length]
  omega
theorem encV_small {n : Nat} (h : n < 128) : encV n = [(n : Int)] := by
  unfold encV encVk
  rw [if_pos h]
theorem recF_eq {x : LE} (hv : validB x = true) : recF x = ((bodyF x).length : Int) :: (bodyF x ++ le4 (crcF (bodyF x))) := by
  have := body_small hv
  unfold recF
  rw [encV_small (by omega)]
  rfl
theorem recF_len {x : LE} (hv : validB x = true) : (recF x).length = (bodyF x).length + 5 := by
  rw [recF_eq hv]
  simp [le4]
theorem valN_at {b : List Int} {o c : Nat} {rest : List Int} (hd : b.drop o = le4 c ++ rest) (hc : c < 4294967296) : valN b o 4 = c := by
  have h1 := valN_part b o
  have e : (b.take (o + 4)).drop o = le4 c := by
    rw [List.drop_take, hd]
    simp [le4]
  rw [e] at h1
  have h2 := valN_le4 [] c hc
  simp only [List.nil_append, List.length_nil] at h2
  omega
theorem decE_at {b : List Int} {o : Nat} {x : LE} {rest : List Int} (ho : o ≤ b.length) (hd : b.drop o = recF x ++ rest) (hv : validB x = true) (hw : WfLE x) : decE b (o : Int) = (x, ((o + (recF x).length : Nat) : Int), 0) := by
  have hs := body_small hv
  have hr := recF_len hv
  have hd1 : b.drop o = encV (bodyF x).length ++ (bodyF x ++ (le4 (crcF (bodyF x)) ++ rest)) := by rw [hd]; unfold recF; simp
  have he : (encV (bodyF x).length).length = 1 := by rw [encV_small (by omega)]; rfl
  have hl1 := drop_len ho hd1
  have hd2 := drop_more hd1
  have hd3 := drop_more hd2
  have e1 := decV_at ho hd1 (by omega)
  have h4 : (le4 (crcF (bodyF x))).length = 4 := rfl
  rw [he] at hd2 hd3 e1 hl1
  simp only [List.length_append, h4] at hl1
  have e2 : (b.drop (o + 1)).take (bodyF x).length = bodyF x := by rw [hd2]; simp
  have e3 := valN_at hd3 (crcF_lt (bodyF_bytes x))
  unfold decE
  rw [e1]
  simp only [Int.toNat_natCast]
  rw [e2, e3, entE_body hv hw, if_neg (by omega), if_neg (by omega), if_neg (by omega), if_neg (by simp), if_neg (by simp)]
  refine Prod.ext rfl (Prod.ext ?_ rfl)
  show ((o + 1 : Nat) : Int) + ((bodyF x).length : Int) + 4 = ((o + (recF x).length : Nat) : Int)
  omega
theorem scanGo_at (b : List Int) : ∀ (xs : List LE) (k a : Nat) (out : List LE) (rest : List Int), a ≤ b.length → b.drop a = recsF xs ++ rest → (∀ x ∈ xs, validB x = true ∧ WfLE x) →
    scanGo b (xs.length + k) a out = scanGo b k ((a + (recsF xs).length : Nat) : Int) (out ++ xs)
  | [], k, a, out, rest, ha, hd, hv => by simp [recsF]
  | x :: xs, k, a, out, rest, ha, hd, hv => by
    obtain ⟨hvx, hwx⟩ := hv x List.mem_cons_self
    have hd' : b.drop a = recF x ++ (recsF xs ++ rest) := by rw [hd]; simp [recsF]
    have hl := drop_len ha hd'
    have hr := recF_len hvx
    have e := decE_at ha hd' hvx hwx
    rw [List.length_cons, show xs.length + 1 + k = (xs.length + k) + 1 by omega]
    conv => lhs; unfold scanGo
    rw [e]
    simp only
    rw [if_pos (by omega), if_neg (by omega), scanGo_at b xs k (a + (recF x).length) (out ++ [x]) rest (by omega) (drop_more hd') (fun y hy => hv y (List.mem_cons_of_mem _ hy))]
    simp [recsF, Nat.add_assoc]
theorem recsF_count {xs : List LE} (hv : ∀ x ∈ xs, validB x = true) : xs.length ≤ (recsF xs).length := by
  induction xs with
  | nil => exact Nat.le_refl _
  | cons x xs ih =>
    have h1 := ih (fun y hy => hv y (List.mem_cons_of_mem _ hy))
    have h2 := recF_len (hv x List.mem_cons_self)
    unfold recsF at h1 ⊢
    simp only [List.flatMap_cons, List.length_append, List.length_cons]
    omega
theorem scanGo_mono (b : List Int) : ∀ (k : Nat) (a : Int) (out : List LE), a ≤ (scanGo b k a out).2 ∧ ∃ ys, (scanGo b k a out).1 = out ++ ys
  | 0, a, out => ⟨Int.le_refl _, [], (List.append_nil _).symm⟩
  | k + 1, a, out => by
    unfold scanGo
    split
    · split
      · exact ⟨Int.le_refl _, [], (List.append_nil _).symm⟩
      · rename_i h
        have h4 := decE_ok (b := b) (off := a) (by omega)
        obtain ⟨h1, ys, h2⟩ := scanGo_mono b k (decE b a).2.1 (out ++ [(decE b a).1])
        exact ⟨by omega, (decE b a).1 :: ys, by rw [h2]; simp⟩
    · exact ⟨Int.le_refl _, [], (List.append_nil _).symm⟩
/-- Records at the front are read as what they are; what comes behind them is read from there on. -/
theorem scanF_at {xs : List LE} (hv : ∀ x ∈ xs, validB x = true ∧ WfLE x) (rest : List Int) : ∃ k, 0 < k ∧ scanF (recsF xs ++ rest) = scanGo (recsF xs ++ rest) k (((recsF xs).length : Nat) : Int) xs := by
  have hc := recsF_count (fun x hx => (hv x hx).1)
  refine ⟨(recsF xs ++ rest).length + 1 - xs.length, by rw [List.length_append]; omega, ?_⟩
  have := scanGo_at (recsF xs ++ rest) xs ((recsF xs ++ rest).length + 1 - xs.length) 0 [] rest (Nat.zero_le _) rfl hv
  unfold scanF
  rw [show (recsF xs ++ rest).length + 1 = xs.length + ((recsF xs ++ rest).length + 1 - xs.length) by rw [List.length_append]; omega]
  simpa using this
theorem scanF_recs {xs : List LE} (hv : ∀ x ∈ xs, validB x = true ∧ WfLE x) : scanF (recsF xs) = (xs, ((recsF xs).length : Int)) := by
  obtain ⟨k, hk, h⟩ := scanF_at hv []
  rw [List.append_nil] at h
  rw [h]
  obtain ⟨k, rfl⟩ : ∃ m, k = m + 1 := ⟨k - 1, by omega⟩
  unfold scanGo
  rw [if_neg (by omega)]
theorem scanF_front {xs : List LE} (hv : ∀ x ∈ xs, validB x = true ∧ WfLE x) (rest : List Int) : ((recsF xs).length : Int) ≤ (scanF (recsF xs ++ rest)).2 ∧ ∃ ys, (scanF (recsF xs ++ rest)).1 = xs ++ ys := by
  obtain ⟨k, hk, h⟩ := scanF_at hv rest
  rw [h]
  exact scanGo_mono _ _ _ _
end Go.Proofs.Ytehhafnjbkbmjaa.Disk

/- commitlog: what decodes was encoded so, plain. -/
namespace Go.Proofs.Ytehhafnjbkbmjaa.Disk
open Go Go.RowKit Go.Proofs.YtehhafnjbkbmjaaW.PrintWords Go.Proofs.YtehhafnjbkbmjaaW.PrintLast Go.Proofs.YtehhafnjbkbmjaaW.PrintMore Go.Proofs.Ytehhafnjbkbmjaa.PObjstoreAtomic
theorem decGo_inv : ∀ (l : List Int) (i acc : Nat), i ≤ 9 → (∀ x ∈ l, 0 ≤ x ∧ x ≤ 255) → (decGo l i acc).2.2 = 0 →
    ∃ m, (decGo l i acc).1 = acc + m * 128 ^ i ∧ (0 < i → 0 < m) ∧ i < (decGo l i acc).2.1 ∧ l.take ((decGo l i acc).2.1 - i) = encVk (10 - i) m
  | [], i, acc, hi, hw, h => by simp [decGo] at h
  | c :: r, i, acc, hi, hw, h => by
    have hc := hw c List.mem_cons_self
    unfold decGo at h ⊢
    by_cases h1 : (i = 9 ∧ 1 < c) ∨ (0 < i ∧ c = 0)
    · rw [if_pos h1] at h
      simp at h
    · rw [if_neg h1] at h ⊢
      have hk : 10 - i = (9 - i) + 1 := by omega
      by_cases h2 : c < 128
      · rw [if_pos h2]
        refine ⟨c.toNat, rfl, fun h0 => ?_, Nat.lt_succ_self _, ?_⟩
        · rcases Nat.eq_zero_or_pos c.toNat with h3 | h3
          · exact absurd (Or.inr ⟨h0, by omega⟩) h1
          · exact h3
        · simp only [Nat.add_sub_cancel_left]
          rw [hk]
          unfold encVk
          rw [if_pos (by omega)]
          simp
          omega
      · rw [if_neg h2] at h ⊢
        have hi9 : i ≠ 9 := fun e => h1 (.inl ⟨e, by omega⟩)
        obtain ⟨m, e1, e2, e3, e4⟩ := decGo_inv r (i + 1) _ (by omega) (fun x hx => hw x (List.mem_cons_of_mem _ hx)) h
        have hm := e2 (by omega)
        obtain ⟨d, hd⟩ : ∃ d, d = c.toNat - 128 := ⟨_, rfl⟩
        have hdl : d < 128 := by omega
        rw [← hd] at e1 e3 e4 ⊢
        have hmod : (d + 128 * m) % 128 = d := by omega
        have hdiv : (d + 128 * m) / 128 = m := by omega
        refine ⟨d + 128 * m, ?_, fun _ => by omega, by omega, ?_⟩
        · rw [e1]
          have := split128 acc (d + 128 * m) (128 ^ i)
          rw [hmod, hdiv] at this
          rw [Nat.pow_succ, this]
        · rw [hk]
          unfold encVk
          rw [if_neg (by omega), hmod, hdiv]
          obtain ⟨q, hq⟩ : ∃ q, q = (decGo r (i + 1) (acc + d * 128 ^ i)).2.1 := ⟨_, rfl⟩
          rw [← hq] at e3 e4 ⊢
          rw [show q - i = (q - (i + 1)) + 1 by omega, List.take_succ_cons, e4, show 10 - (i + 1) = 9 - i by omega]
          congr 1
          omega
theorem decV_inv {b : List Int} {off : Int} (hw : ∀ x ∈ b, 0 ≤ x ∧ x ≤ 255) (h : (decV b off).2.2 = 0) : (b.drop off.toNat).take ((decV b off).2.1.toNat - off.toNat) = encV (decV b off).1 := by
  unfold decV at h ⊢
  split at h
  · simp at h
  · rename_i h1
    rw [if_neg h1]
    split at h
    · rename_i h2
      rw [if_pos h2]
      obtain ⟨m, e1, _, e3, e4⟩ := decGo_inv (b.drop off.toNat) 0 0 (by omega) (fun x hx => hw x (List.mem_of_mem_drop hx)) h2
      simp only
      rw [show (off + ((decGo (b.drop off.toNat) 0 0).2.1 : Int)).toNat - off.toNat = (decGo (b.drop off.toNat) 0 0).2.1 - 0 by omega, e4, e1]
      simp [encV]
    · rename_i h2
      exact absurd h h2
theorem take_join {b : List Int} {a m n : Nat} {x y : List Int} (h1 : (b.drop a).take (m - a) = x) (h2 : (b.drop m).take (n - m) = y) (ham : a ≤ m) (hmn : m ≤ n) : (b.drop a).take (n - a) = x ++ y := by
  subst h1 h2
  have e : b.drop m = (b.drop a).drop (m - a) := by rw [List.drop_drop]; congr 1; omega
  rw [e, show n - a = (m - a) + (n - m) by omega, List.take_add]
theorem fldGo_inv (l : List Int) (hw : ∀ x ∈ l, 0 ≤ x ∧ x ≤ 255) : ∀ (k : Nat) (a : Int) (ns : List Nat), 0 ≤ a → a ≤ l.length → (fldGo l k a ns).2.2 = 0 →
    ∃ ms : List Nat, (fldGo l k a ns).1 = ns ++ ms ∧ ms.length = k ∧ a ≤ (fldGo l k a ns).2.1 ∧ (l.drop a.toNat).take ((fldGo l k a ns).2.1.toNat - a.toNat) = ms.flatMap encV
  | 0, a, ns, h0, h1, h => ⟨[], by simp [fldGo], rfl, Int.le_refl _, by simp [fldGo]⟩
  | k + 1, a, ns, h0, h1, h => by
    unfold fldGo at h ⊢
    split at h
    · rename_i h2
      exact absurd h h2
    · rename_i h2
      rw [if_neg h2]
      have hd := decV_ok (b := l) (off := a) (by omega)
      have he := decV_inv (b := l) (off := a) hw (by omega)
      split at h
      · simp at h
      · rename_i h3
        rw [if_neg h3]
        obtain ⟨ms, e1, e2, e3, e4⟩ := fldGo_inv l hw k _ _ (by omega) hd.2.2 h
        refine ⟨(decV l a).1 :: ms, by rw [e1]; simp, by simp [e2], by omega, ?_⟩
        rw [List.flatMap_cons]
        exact take_join he e4 (by omega) (by omega)
theorem bytesOf_str {l : List Int} (hw : ∀ x ∈ l, 0 ≤ x ∧ x ≤ 255) : bytesOf (strOfNums l) = l := by
  unfold bytesOf strOfNums
  simp only [List.map_map]
  conv => rhs; rw [← List.map_id l]
  apply List.map_congr_left
  intro c hc
  have := hw c hc
  simp
  omega
theorem entE_inv {l : List Int} (hw : ∀ x ∈ l, 0 ≤ x ∧ x ≤ 255) (h : (entE l).2 = 0) : bodyF (entE l).1 = l := by
  unfold entE at h ⊢
  split at h
  · rename_i h1
    exact absurd h h1
  · rename_i h1
    rw [if_neg h1]
    have h1' : (fldF l).2.2 = 0 := by omega
    obtain ⟨o1, o2, o3⟩ := fldF_ok h1'
    obtain ⟨ms, e1, e2, e3, e4⟩ := fldGo_inv l hw 6 0 [] (by omega) (by omega) h1'
    have e1 : (fldF l).1 = ms := by simpa [fldF] using e1
    have e4 : l.take (fldF l).2.1.toNat = ms.flatMap encV := by simpa [fldF] using e4
    split at h
    · simp at h
    · rename_i h2
      rw [if_neg h2]
      split at h
      · simp at h
      · rename_i h3
        rw [if_neg h3]
        split at h
        · rename_i h4
          rw [if_pos h4]
          have hsz : (strOfNums (l.drop (fldF l).2.1.toNat)).size = (l.drop (fldF l).2.1.toNat).length := by
            rw [← bytesOf_length, bytesOf_str (fun x hx => hw x (List.mem_of_mem_drop hx))]
          rw [e1] at h2 h3 ⊢
          unfold bodyF
          have en : numsLE (leOf ms (strOfNums (l.drop (fldF l).2.1.toNat))) = ms := by
            match ms, e2 with
            | [m0, m1, m2, m3, m4, m5], _ =>
              have h2' : ¬ (l.length : Int) - (fldF l).2.1 < (m5 : Int) := h2
              have h3' : ¬ (m5 : Int) < (l.length : Int) - (fldF l).2.1 := h3
              have h5 : (strOfNums (l.drop (fldF l).2.1.toNat)).size = m5 := by rw [hsz, List.length_drop]; omega
              simp only [numsLE, leOf, h5]
              simp
          rw [en, ← e4]
          show l.take _ ++ bytesOf (strOfNums (l.drop (fldF l).2.1.toNat)) = l
          rw [bytesOf_str (fun x hx => hw x (List.mem_of_mem_drop hx)), List.take_append_drop]
        · simp at h
theorem decE_inv {b : List Int} {off : Int} (hw : ∀ x ∈ b, 0 ≤ x ∧ x ≤ 255) (h : (decE b off).2.2 = 0) : (b.drop off.toNat).take ((decE b off).2.1.toNat - off.toNat) = recF (decE b off).1 := by
  obtain ⟨h1, h2, h3, h4, h5, h6⟩ := decE_entry h
  have hd := decV_ok h1
  have he := decV_inv hw h1
  rw [h6]
  simp only
  obtain ⟨a, ha⟩ : ∃ a : Nat, (decV b off).2.1 = a := ⟨(decV b off).2.1.toNat, by omega⟩
  rw [ha] at h3 h4 h5 he hd ⊢
  simp only [Int.toNat_natCast] at h4 h5 he ⊢
  have hb : bodyF (entE ((b.drop a).take (decV b off).1)).1 = (b.drop a).take (decV b off).1 := entE_inv (fun x hx => hw x (List.mem_of_mem_drop (List.mem_of_mem_take hx))) h5
  have hbl : (bodyF (entE ((b.drop a).take (decV b off).1)).1).length = (decV b off).1 := by rw [hb, List.length_take, List.length_drop]; omega
  unfold recF
  rw [hbl, hb]
  have h8 : (b.drop (a + (decV b off).1)).take 4 = le4 (crcF ((b.drop a).take (decV b off).1)) := by
    have e0 : (b.drop (a + (decV b off).1)).take 4 = (b.take (a + (decV b off).1 + 4)).drop (a + (decV b off).1) := by rw [List.drop_take, show a + (decV b off).1 + 4 - (a + (decV b off).1) = 4 by omega]
    rw [h4, ← valN_part, e0]
    exact (le4_of _ (by rw [List.length_drop, List.length_take]; omega) (fun x hx => hw x (List.mem_of_mem_take (List.mem_of_mem_drop hx)))).symm
  have e9 : ((a : Int) + ((decV b off).1 : Int) + 4).toNat = a + (decV b off).1 + 4 := by omega
  rw [e9]
  refine take_join he ?_ (by omega) (by omega)
  refine take_join (m := a + (decV b off).1) (by rw [Nat.add_sub_cancel_left]) ?_ (by omega) (by omega)
  rw [Nat.add_sub_cancel_left]
  exact h8
theorem scanGo_inv (b : List Int) (hw : ∀ x ∈ b, 0 ≤ x ∧ x ≤ 255) : ∀ (k : Nat) (a : Int) (out : List LE), 0 ≤ a → a ≤ b.length → recsF out = b.take a.toNat → recsF (scanGo b k a out).1 = b.take (scanGo b k a out).2.toNat
  | 0, a, out, h0, h1, h => h
  | k + 1, a, out, h0, h1, h => by
    unfold scanGo
    split
    · split
      · exact h
      · rename_i h4
        have h4' : (decE b a).2.2 = 0 := by omega
        have h5 := decE_ok h4'
        have h6 := decE_inv hw h4'
        refine scanGo_inv b hw k _ _ (by omega) h5.2.2 ?_
        rw [recsF_snoc]
        have := take_join (b := b) (a := 0) (m := a.toNat) (n := (decE b a).2.1.toNat) (x := recsF out) (y := recF (decE b a).1) (by rw [h]; simp) h6 (by omega) (by omega)
        simpa using this.symm
    · exact h
theorem scanF_inv {b : List Int} (hw : ∀ x ∈ b, 0 ≤ x ∧ x ≤ 255) : recsF (scanF b).1 = b.take (scanF b).2.toNat := scanGo_inv b hw _ 0 [] (by omega) (by omega) (by simp [recsF])
/-! CRC: a row with one byte turned has another checksum. -/
theorem crcBit_inj {a b : Nat} (ha : a < 4294967296) (hb : b < 4294967296) (h : crcBit a = crcBit b) : a = b := by
  have key : ∀ r : Nat, r < 4294967296 → (crcBit r / 2147483648 = r % 2) ∧ crcBit r % 2147483648 = (if r % 2 = 1 then (r / 2) ^^^ 49691512 else r / 2) := by
    intro r hr
    unfold crcBit
    obtain h2 | h2 : r % 2 = 0 ∨ r % 2 = 1 := by omega
    · rw [if_neg (by omega), if_neg (by omega)]
      omega
    · rw [if_pos h2, if_pos h2]
      have h1 := Nat.xor_div_two_pow (a := r / 2) (b := 2197175160) (n := 31)
      have h3 := Nat.xor_mod_two_pow (a := r / 2) (b := 2197175160) (n := 31)
      have e1 : r / 2 / 2 ^ 31 = 0 := by omega
      have e2 : 2197175160 / 2 ^ 31 = 1 := by decide
      have e3 : r / 2 % 2 ^ 31 = r / 2 := by omega
      have e4 : 2197175160 % 2 ^ 31 = 49691512 := by decide
      rw [e1, e2] at h1
      rw [e3, e4] at h3
      have e5 : (0 : Nat) ^^^ 1 = 1 := rfl
      rw [e5] at h1
      exact ⟨by rw [h2]; exact h1, h3⟩
  obtain ⟨a1, a2⟩ := key a ha
  obtain ⟨b1, b2⟩ := key b hb
  have hp : a % 2 = b % 2 := by rw [← a1, ← b1, h]
  rw [h, b2] at a2
  have hh : a / 2 = b / 2 := by
    obtain h2 | h2 : a % 2 = 0 ∨ a % 2 = 1 := by omega
    · rw [if_neg (by omega), if_neg (by omega)] at a2
      exact a2.symm
    · rw [if_pos (by omega), if_pos h2] at a2
      have := congrArg (· ^^^ 49691512) a2
      simp only [Nat.xor_assoc, Nat.xor_self, Nat.xor_zero] at this
      exact this.symm
  omega
theorem crcBits_inj : ∀ (k : Nat) {a b : Nat}, a < 4294967296 → b < 4294967296 → crcBits a k = crcBits b k → a = b
  | 0, _, _, _, _, h => h
  | k + 1, _, _, ha, hb, h => crcBits_inj k ha hb (crcBit_inj (crcBits_lt ha k) (crcBits_lt hb k) h)
theorem xor_lt32 {a b : Nat} (ha : a < 4294967296) (hb : b < 256) : a ^^^ b < 4294967296 := Nat.xor_lt_two_pow (n := 32) (by omega) (by omega)
theorem adv1_inj {r s x y : Nat} (hr : r < 4294967296) (hs : s < 4294967296) (hx : x < 256) (hy : y < 256) (h : adv1 r (x : Int) = adv1 s (y : Int)) : r ^^^ x = s ^^^ y := by
  rw [← step_eq r x hx, ← step_eq s y hy] at h
  exact crcBits_inj 8 (xor_lt32 hr hx) (xor_lt32 hs hy) h
theorem adv_inj : ∀ (l : List Int) {r s : Nat}, r < 4294967296 → s < 4294967296 → (∀ x ∈ l, 0 ≤ x ∧ x ≤ 255) → adv r l = adv s l → r = s
  | [], r, s, _, _, _, h => h
  | c :: l, r, s, hr, hs, hw, h => by
    have hc := hw c List.mem_cons_self
    have hl : ∀ x ∈ l, 0 ≤ x ∧ x ≤ 255 := fun x hx => hw x (List.mem_cons_of_mem _ hx)
    obtain ⟨x, rfl⟩ : ∃ x : Nat, c = x := ⟨c.toNat, by omega⟩
    have h1 : adv1 r (x : Int) = adv1 s (x : Int) := adv_inj l (adv1_lt hr hc.1 hc.2) (adv1_lt hs hc.1 hc.2) hl h
    have h2 := adv1_inj hr hs (by omega) (by omega) h1
    have := congrArg (· ^^^ x) h2
    simpa [Nat.xor_assoc] using this
theorem adv_append (r : Nat) (l m : List Int) : adv r (l ++ m) = adv (adv r l) m := by simp [adv]
theorem crcF_other {p q : List Int} {x y : Int} (hp : ∀ z ∈ p, 0 ≤ z ∧ z ≤ 255) (hq : ∀ z ∈ q, 0 ≤ z ∧ z ≤ 255) (hx : 0 ≤ x ∧ x ≤ 255) (hy : 0 ≤ y ∧ y ≤ 255) (h : crcF (p ++ x :: q) = crcF (p ++ y :: q)) : x = y := by
  unfold crcF at h
  have h1 := congrArg (4294967295 ^^^ ·) h
  simp only [← Nat.xor_assoc, Nat.xor_self, Nat.zero_xor] at h1
  rw [adv_append, adv_append] at h1
  have hr : adv 4294967295 p < 4294967296 := adv_lt (by omega) hp
  obtain ⟨m, rfl⟩ : ∃ m : Nat, x = m := ⟨x.toNat, by omega⟩
  obtain ⟨n, rfl⟩ : ∃ n : Nat, y = n := ⟨y.toNat, by omega⟩
  have h2 := adv_inj q (adv1_lt hr hx.1 hx.2) (adv1_lt hr hy.1 hy.2) hq h1
  have h3 := adv1_inj hr hr (by omega) (by omega) h2
  have h4 := congrArg (adv 4294967295 p ^^^ ·) h3
  simp only [← Nat.xor_assoc, Nat.xor_self, Nat.zero_xor] at h4
  rw [h4]
end Go.Proofs.Ytehhafnjbkbmjaa.Disk

/- commitlog: a record with one byte turned does not decode, plain. -/
namespace Go.Proofs.Ytehhafnjbkbmjaa.Disk
open Go Go.RowKit Go.Proofs.YtehhafnjbkbmjaaW.PrintWords Go.Proofs.YtehhafnjbkbmjaaW.PrintLast Go.Proofs.YtehhafnjbkbmjaaW.PrintMore Go.Proofs.Ytehhafnjbkbmjaa.PObjstoreAtomic
theorem set_split {l : List Int} {i : Nat} (h : i < l.length) (y : Int) : l = l.take i ++ l[i] :: l.drop (i + 1) ∧ l.set i y = l.take i ++ y :: l.drop (i + 1) := by
  constructor
  · conv => lhs; rw [← List.take_append_drop i l, List.drop_eq_getElem_cons h]
  · exact List.set_eq_take_append_cons_drop.trans (if_pos h)
theorem valN_list {b q : List Int} {p : Nat} (hd : b.drop p = q) (hq : q.length = 4) (hw : ∀ z ∈ q, 0 ≤ z ∧ z ≤ 255) : le4 (valN b p 4) = q := by
  have e : (b.take (p + 4)).drop p = q := by rw [List.drop_take, hd, List.take_of_length_le (by omega)]
  rw [← valN_part, e]
  exact le4_of _ hq hw
theorem damage_at {b : List Int} {o : Nat} {x : LE} (ho : o ≤ b.length) (hv : validB x = true) {i : Nat} {y : Int} (hi : i + 1 < (recF x).length) (hd : b.drop o = (recF x).set (i + 1) y) (hy : 0 ≤ y ∧ y ≤ 255) (hne : (recF x)[i + 1] ≠ y) : (decE b (o : Int)).2.2 ≠ 0 := by
  intro h
  obtain ⟨-, -, -, h4, -, -⟩ := decE_entry h
  have hs := body_small hv
  have hlen := recF_len hv
  have hrec := recF_eq hv
  obtain ⟨B, hB⟩ : ∃ B, B = bodyF x := ⟨_, rfl⟩
  have hBb : ∀ z ∈ B, 0 ≤ z ∧ z ≤ 255 := by rw [hB]; exact bodyF_bytes x
  rw [← hB] at hs hlen hrec
  have hc := crcF_lt hBb
  have h4l : (le4 (crcF B)).length = 4 := rfl
  have hset : (recF x).set (i + 1) y = (B.length : Int) :: (B ++ le4 (crcF B)).set i y := by rw [hrec]; rfl
  have hi' : i < B.length + 4 := by omega
  have hil : i < (B ++ le4 (crcF B)).length := by rw [List.length_append, h4l]; exact hi'
  have hold : (recF x)[i + 1] = (B ++ le4 (crcF B))[i] := by simp [hrec]
  rw [hold] at hne
  rw [hset] at hd
  have hd0 : b.drop o = encV B.length ++ (B ++ le4 (crcF B)).set i y := by rw [hd, encV_small (by omega)]; rfl
  have e1 := decV_at ho hd0 (by omega)
  have hd1 := drop_more hd0
  have e2 : (encV B.length).length = 1 := by rw [encV_small (by omega)]; rfl
  rw [e2] at e1 hd1
  rw [e1] at h4
  simp only [Int.toNat_natCast] at h4
  by_cases hib : i < B.length
  · rw [List.set_append_left _ _ hib] at hd1
    have hg : (B ++ le4 (crcF B))[i] = B[i] := List.getElem_append_left hib
    rw [hg] at hne
    obtain ⟨s1, s2⟩ := set_split hib y
    have hd2 := drop_more hd1
    rw [List.length_set] at hd2
    have e3 : (b.drop (o + 1)).take B.length = B.set i y := by rw [hd1]; simp
    have e4 : valN b (o + 1 + B.length) 4 = crcF B := valN_at (rest := []) (by rw [hd2, List.append_nil]) hc
    rw [e3, e4, s2] at h4
    refine hne (crcF_other (p := B.take i) (q := B.drop (i + 1)) (fun z hz => hBb z (List.mem_of_mem_take hz)) (fun z hz => hBb z (List.mem_of_mem_drop hz)) (hBb _ (List.getElem_mem hib)) hy ?_)
    rw [← s1]
    exact h4.symm
  · obtain ⟨j, rfl⟩ : ∃ j, i = B.length + j := ⟨i - B.length, by omega⟩
    have hj : j < (le4 (crcF B)).length := by omega
    have hg : (B ++ le4 (crcF B))[B.length + j] = (le4 (crcF B))[j] := by
      rw [List.getElem_append_right (by omega)]
      simp
    rw [hg] at hne
    rw [List.set_append_right _ _ (by omega), Nat.add_sub_cancel_left] at hd1
    have hd2 := drop_more hd1
    have e3 : (b.drop (o + 1)).take B.length = B := by rw [hd1]; simp
    have hb4 : ∀ z ∈ (le4 (crcF B)).set j y, 0 ≤ z ∧ z ≤ 255 := by
      intro z hz
      rcases List.mem_or_eq_of_mem_set hz with hz | rfl
      · exact le4_ok _ z hz
      · exact hy
    rw [e3] at h4
    have h6 : le4 (crcF B) = (le4 (crcF B)).set j y := (congrArg le4 h4).trans (valN_list hd2 (by rw [List.length_set, h4l]) hb4)
    have h7 : (le4 (crcF B))[j]? = ((le4 (crcF B)).set j y)[j]? := congrArg (fun l => l[j]?) h6
    rw [List.getElem?_eq_getElem hj, List.getElem?_set_self hj] at h7
    exact hne (by simpa using h7)
theorem damage {x : LE} (hv : validB x = true) {i : Nat} {y : Int} (hi : i + 1 < (recF x).length) (hy : 0 ≤ y ∧ y ≤ 255) (hne : (recF x)[i + 1] ≠ y) : (decE ((recF x).set (i + 1) y) 0).2.2 ≠ 0 :=
  damage_at (o := 0) (Nat.zero_le _) hv hi rfl hy hne
end Go.Proofs.Ytehhafnjbkbmjaa.Disk

/- commitlog: what is left of a log behind a crash, plain. -/
namespace Go.Proofs.Ytehhafnjbkbmjaa.Disk
open Go Go.RowKit Go.Proofs.YtehhafnjbkbmjaaW.PrintWords Go.Proofs.YtehhafnjbkbmjaaW.PrintLast Go.Proofs.YtehhafnjbkbmjaaW.PrintMore Go.Proofs.Ytehhafnjbkbmjaa.PObjstoreAtomic
theorem xor255 {x : Int} (h : 0 ≤ x ∧ x ≤ 255) : Go.bits .xor .u8 x 255 = 255 - x := by
  have key : ∀ i : Fin 256, Go.bits .xor .u8 (i.val : Int) 255 = 255 - (i.val : Int) := by decide +kernel
  have := key ⟨x.toNat, by omega⟩
  simp only [Int.toNat_of_nonneg h.1] at this
  exact this
theorem rd_last {P : List Int} {j : Nat} (h : j < P.length) : rd P (j : Int) = P[j] := rd_at P j h
/-- What a crash leaves of bytes that were written behind synced ones. -/
def Tail (R t : List Int) : Prop := (∃ j, j ≤ R.length ∧ t = R.take j) ∨ ∃ (j : Nat) (h : j < R.length), t = (R.take (j + 1)).set j (255 - R[j])
theorem left_tail (P R : List Int) (hR : ∀ x ∈ R, 0 ≤ x ∧ x ≤ 255) (c : Cf) : ∃ t, pLeft ⟨P ++ R, P.length⟩ c = P ++ t ∧ Tail R t := by
  obtain ⟨j, hj, hk⟩ : ∃ j : Nat, j ≤ R.length ∧ pKept ⟨P ++ R, P.length⟩ c = (j : Int) := by
    have e : pKept ⟨P ++ R, P.length⟩ c = mn (mx 0 c.f0) (R.length : Int) := by
      unfold pKept
      congr 1
      simp only [List.length_append]
      omega
    have h1 : 0 ≤ mn (mx 0 c.f0) (R.length : Int) ∧ mn (mx 0 c.f0) (R.length : Int) ≤ R.length := by
      unfold mn mx
      repeat' split
      all_goals omega
    exact ⟨(mn (mx 0 c.f0) (R.length : Int)).toNat, by omega, by rw [e]; omega⟩
  have hb : (P ++ R).take (P.length + j) = P ++ R.take j := by rw [List.take_append, List.take_of_length_le (by omega), Nat.add_sub_cancel_left]
  unfold pLeft
  rw [hk]
  simp only
  rw [show ((P.length : Int) + (j : Int)).toNat = P.length + j by omega, hb]
  by_cases hf : c.f1 = true ∧ (0 : Int) < (j : Int)
  · rw [if_pos hf]
    obtain ⟨i, rfl⟩ : ∃ i, j = i + 1 := ⟨j - 1, by omega⟩
    have hlen : (P ++ R.take (i + 1)).length = P.length + i + 1 := by rw [List.length_append, List.length_take]; omega
    rw [hlen, Nat.add_sub_cancel]
    have hi : i < R.length := by omega
    have hrd : rd (P ++ R.take (i + 1)) (((P.length + i + 1 : Nat) : Int) - 1) = R[i] := by
      rw [show ((P.length + i + 1 : Nat) : Int) - 1 = ((P.length + i : Nat) : Int) by omega, rd_last (by omega), List.getElem_append_right (by omega)]
      simp
    rw [hrd, xor255 (hR _ (List.getElem_mem hi)), List.set_append_right _ _ (by omega), Nat.add_sub_cancel_left]
    exact ⟨_, rfl, .inr ⟨i, hi, rfl⟩⟩
  · rw [if_neg hf]
    exact ⟨_, rfl, .inl ⟨j, hj, rfl⟩⟩
theorem short_bad {b : List Int} {o : Nat} {x : LE} {r : List Int} (ho : o ≤ b.length) (hv : validB x = true) (hd : b.drop o = ((bodyF x).length : Int) :: r) (hr : r.length < (bodyF x).length + 4) : (decE b (o : Int)).2.2 ≠ 0 := by
  intro h
  obtain ⟨-, -, h3, -, -, -⟩ := decE_entry h
  have hs := body_small hv
  have hd0 : b.drop o = encV (bodyF x).length ++ r := by rw [hd, encV_small (by omega)]; rfl
  have e1 := decV_at ho hd0 (by omega)
  have hl := drop_len ho hd0
  rw [e1] at h3
  simp only at h3
  omega
theorem one_bad {b : List Int} {o : Nat} {c : Int} (hd : b.drop o = [c]) (hc : 128 ≤ c) : (decE b (o : Int)).2.2 ≠ 0 := by
  intro h
  obtain ⟨h1, -, -, -, -, -⟩ := decE_entry h
  unfold decV at h1
  rw [Int.toNat_natCast, hd] at h1
  have e : decGo [c] 0 0 = (0, 0, 2) := by
    unfold decGo
    rw [if_neg (by omega), if_neg (by omega)]
    rfl
  rw [e] at h1
  split at h1 <;> simp at h1
theorem take_one_set {l : List Int} (h : 0 < l.length) (y : Int) : (l.take (0 + 1)).set 0 y = [y] := by
  cases l with
  | nil => exact absurd h (by simp)
  | cons a l => simp
theorem take_more_set {l r : List Int} {n : Int} (h : l = n :: r) (j : Nat) (y : Int) : (l.take (j + 1 + 1)).set (j + 1) y = n :: (r.take (j + 1)).set j y := by
  subst h
  simp [List.take_succ_cons]
theorem tail_bad {b : List Int} {o : Nat} {x : LE} {t : List Int} (ho : o ≤ b.length) (hv : validB x = true) (hd : b.drop o = t) (ht : Tail (recF x) t) : t = recF x ∨ t = [] ∨ (decE b (o : Int)).2.2 ≠ 0 := by
  have hs := body_small hv
  have hlen := recF_len hv
  have hrec := recF_eq hv
  rcases ht with ⟨j, hj, rfl⟩ | ⟨j, hj, rfl⟩
  · by_cases h1 : j = (recF x).length
    · exact .inl (by rw [h1, List.take_length])
    · cases j with
      | zero => exact .inr (.inl rfl)
      | succ j =>
        refine .inr (.inr (short_bad ho hv (r := (bodyF x ++ le4 (crcF (bodyF x))).take j) (by rw [hd, hrec, List.take_succ_cons]) ?_))
        rw [List.length_take]
        omega
  · by_cases h1 : j + 1 = (recF x).length
    · cases j with
      | zero => omega
      | succ j =>
        refine .inr (.inr (damage_at ho hv hj (y := 255 - (recF x)[j + 1]) ?_ ?_ ?_))
        · rw [hd, h1, List.take_length]
        · have := recF_bytes x _ (List.getElem_mem hj)
          omega
        · omega
    · cases j with
      | zero =>
        have h0 : (recF x)[0] = ((bodyF x).length : Int) := by simp [hrec]
        refine .inr (.inr (one_bad (c := 255 - (recF x)[0]) ?_ ?_))
        · rw [hd]
          exact take_one_set hj _
        · rw [h0]
          omega
      | succ j =>
        refine .inr (.inr (short_bad ho hv (r := ((bodyF x ++ le4 (crcF (bodyF x))).take (j + 1)).set j (255 - (recF x)[j + 1])) (hd.trans (take_more_set hrec j _)) ?_))
        rw [List.length_set, List.length_take]
        omega
theorem scanF_stop {ys : List LE} (hv : ∀ y ∈ ys, validB y = true ∧ WfLE y) {t : List Int} (ht : t = [] ∨ (decE (recsF ys ++ t) (((recsF ys).length : Nat) : Int)).2.2 ≠ 0) : scanF (recsF ys ++ t) = (ys, ((recsF ys).length : Int)) := by
  rcases ht with rfl | ht
  · rw [List.append_nil]
    exact scanF_recs hv
  · obtain ⟨k, hk, h⟩ := scanF_at hv t
    obtain ⟨k, rfl⟩ : ∃ m, k = m + 1 := ⟨k - 1, by omega⟩
    rw [h]
    unfold scanGo
    split <;> rfl
theorem chk_pos {m : Int} (h : 0 < m) (l : List ByteArray) : pCheck true m l = okAll l := by
  unfold pCheck
  rw [if_neg]
  simp
  omega
/-- The disk with the log alone. -/
def dg (b : List Int) (s : Int) (lim : Bool) (m : Int) : PS := ⟨[⟨b, s⟩], [⟨sLog, 0⟩], [⟨sLog, 0⟩], [], lim, m⟩
def dh (b r : List Int) : PS := ⟨[⟨b, b.length⟩, ⟨r, r.length⟩], [⟨sLog, 1⟩], [⟨sLog, 1⟩], [], false, 0⟩
theorem lo1_dg : lo1 = dg [] 0 false 0 := by kernel_rfl
theorem dg_append (b r : List Int) (s : Int) {m : Int} (h : 0 < m) : pAppend (dg b s true m) sLog r = (dg (b ++ r) s true (m - 1), 0) := by
  unfold pAppend
  rw [if_pos (show pCheck (dg b s true m).lim (dg b s true m).left [sLog] = 0 from (chk_pos h _).trans (by kernel_rfl))]
  kernel_rfl
theorem dg_sync (b : List Int) (s : Int) {m : Int} (h : 0 < m) : pSync (dg b s true m) sLog = (dg b b.length true (m - 1), 0) := by
  unfold pSync
  rw [if_pos (show pCheck (dg b s true m).lim (dg b s true m).left [sLog] = 0 from (chk_pos h _).trans (by kernel_rfl))]
  kernel_rfl
theorem dg_append0 (b r : List Int) (s : Int) : pAppend (dg b s true 0) sLog r = (dg b s true 0, 16) := by kernel_rfl
theorem dg_sync0 (b : List Int) (s : Int) : pSync (dg b s true 0) sLog = (dg b s true 0, 16) := by kernel_rfl
theorem dg_appendF (b r : List Int) (s m : Int) : pAppend (dg b s false m) sLog r = (dg (b ++ r) s false m, 0) := by kernel_rfl
theorem dg_syncF (b : List Int) (s m : Int) : pSync (dg b s false m) sLog = (dg b b.length false m, 0) := by kernel_rfl
/-- While the appends succeed. -/
def DurSt (xs : List LE) (k : Nat) (S : PS) : Prop := ∃ lim m, (lim = true → 0 ≤ m) ∧ S = dg (recsF (xs.take k)) (recsF (xs.take k)).length lim m
/-- When they have ended. -/
def DurEnd (xs : List LE) (k : Nat) (S : PS) : Prop := ∃ R lim m, (R = [] ∨ ∃ h : k < xs.length, R = recF xs[k]) ∧ S = dg (recsF (xs.take k) ++ R) (recsF (xs.take k)).length lim m
theorem dur_start (xs : List LE) (n : Int) : DurSt xs 0 (pFail lo1 n) := by
  rw [lo1_dg]
  refine ⟨decide (0 ≤ n), if n < 0 then 0 else n, fun _ => ?_, rfl⟩
  split <;> omega
theorem DurSt.ended {xs : List LE} {k : Nat} {S : PS} (h : DurSt xs k S) : DurEnd xs k S := by
  obtain ⟨lim, m, -, rfl⟩ := h
  exact ⟨[], lim, m, .inl rfl, by rw [List.append_nil]⟩
theorem take_snoc {xs : List LE} {k : Nat} (h : k < xs.length) : recsF (xs.take (k + 1)) = recsF (xs.take k) ++ recF xs[k] := by
  rw [List.take_add_one, List.getElem?_eq_getElem h, Option.toList_some, recsF_snoc]
theorem dur_step {xs : List LE} {k : Nat} {S : PS} (hk : k < xs.length) (hv : validB xs[k] = true) (h : DurSt xs k S) :
    ((pLogAppend S sLog xs[k]).2 = 0 ∧ DurSt xs (k + 1) (pLogAppend S sLog xs[k]).1) ∨ ((pLogAppend S sLog xs[k]).2 = 16 ∧ DurEnd xs k (pLogAppend S sLog xs[k]).1) := by
  obtain ⟨lim, m, hm, rfl⟩ := h
  have hs := take_snoc hk
  obtain ⟨P, hP⟩ : ∃ P, P = recsF (xs.take k) := ⟨_, rfl⟩
  obtain ⟨R, hR⟩ : ∃ R, R = recF xs[k] := ⟨_, rfl⟩
  unfold pLogAppend
  rw [if_pos hv]
  unfold DurSt DurEnd
  rw [hs, ← hP, ← hR]
  cases lim with
  | false =>
    rw [dg_appendF, if_pos rfl, dg_syncF]
    exact .inl ⟨rfl, false, m, (fun h => by cases h), rfl⟩
  | true =>
    have hm := hm rfl
    by_cases h0 : m = 0
    · subst h0
      rw [dg_append0, if_neg (show ¬ (16 : Int) = 0 by decide)]
      exact .inr ⟨rfl, [], true, 0, .inl rfl, by rw [List.append_nil]⟩
    · rw [dg_append _ _ _ (by omega), if_pos rfl]
      by_cases h1 : m = 1
      · subst h1
        show (((pSync (dg (P ++ R) P.length true 0) sLog).2 = 0) ∧ _) ∨ _
        rw [show (1 : Int) - 1 = 0 from rfl, dg_sync0]
        exact .inr ⟨rfl, R, true, 0, .inr ⟨hk, hR⟩, rfl⟩
      · rw [dg_sync _ _ (by omega)]
        exact .inl ⟨rfl, true, m - 1 - 1, fun _ => by omega, rfl⟩
theorem crash_dg (b : List Int) (s : Int) (lim : Bool) (m n : Int) (cs : List Cf) : pCrash (dg b s lim m) n cs = dg (pLeft ⟨b, s⟩ (cfAt cs 0)) (pLeft ⟨b, s⟩ (cfAt cs 0)).length false 0 := by
  have hd : pCrashDir (dg b s lim m) n = [⟨sLog, 0⟩] := by unfold pCrashDir dg; simp
  unfold pCrash newFiles newDir
  rw [hd]
  rfl
theorem open_whole {b : List Int} {ys : List LE} (hs : scanF b = (ys, (b.length : Int))) : pOpen (dg b b.length false 0) sLog = (dg b b.length false 0, ys, 0) := by
  have h1 : pHas (dg b b.length false 0) sLog = true := by kernel_rfl
  have h2 : pRead (dg b b.length false 0) sLog = (b, 0) := by kernel_rfl
  unfold pOpen
  rw [h1, h2]
  simp [hs]
theorem replace_dg (b r : List Int) : pReplace (dg b b.length false 0) (tmpOf sLog) sLog r = (dh b r, 0) := by kernel_rfl
theorem open_part {b : List Int} {ys : List LE} (hv : ∀ y ∈ ys, validB y = true) (hs : scanF b = (ys, ((recsF ys).length : Int))) (hne : ((recsF ys).length : Int) ≠ b.length) : pOpen (dg b b.length false 0) sLog = (dh b (recsF ys), ys, 0) := by
  have h1 : pHas (dg b b.length false 0) sLog = true := by kernel_rfl
  have h2 : pRead (dg b b.length false 0) sLog = (b, 0) := by kernel_rfl
  have h3 : pRewrite (dg b b.length false 0) sLog ys = (dh b (recsF ys), 0) := by
    unfold pRewrite
    rw [if_pos (by rw [List.all_eq_true]; exact hv), replace_dg]
  unfold pOpen
  rw [h1, h2]
  simp [hs, hne, h3]
theorem open_dh {b : List Int} {ys : List LE} (hv : ∀ y ∈ ys, validB y = true ∧ WfLE y) : pOpen (dh b (recsF ys)) sLog = (dh b (recsF ys), ys, 0) := by
  have h1 : pHas (dh b (recsF ys)) sLog = true := by kernel_rfl
  have h2 : pRead (dh b (recsF ys)) sLog = (recsF ys, 0) := by kernel_rfl
  unfold pOpen
  rw [h1, h2]
  simp [scanF_recs hv]
/-- What the law looks at behind the crash. -/
structure DurSeen (xs : List LE) (k : Nat) (S4 S5 : PS) (ys : List LE) : Prop where
  part : ∃ j, ys = xs.take j ∧ k ≤ j ∧ j ≤ k + 1 ∧ j ≤ xs.length
  read : (pRead S4 sLog).1.length ≤ 1100 * (k + 1)
  scan : (scanF (pRead S4 sLog).1).1 = ys
  one : pOpen S4 sLog = (S5, ys, 0)
  two : pOpen S5 sLog = (S5, ys, 0)
  read5 : (pRead S5 sLog).1.length ≤ 1100 * (k + 1)
  scan5 : (scanF (pRead S5 sLog).1).1 = ys
theorem recsF_take_len {xs : List LE} (hv : ∀ y ∈ xs, validB y = true) (k : Nat) : (recsF (xs.take k)).length ≤ 1100 * k := by
  have h1 := recsF_length (xs := xs.take k) (fun y hy => hv y (List.mem_of_mem_take hy))
  have h2 : (xs.take k).length ≤ k := by rw [List.length_take]; omega
  have := Nat.mul_le_mul_left 1100 h2
  omega
theorem tail_len {R t : List Int} (h : Tail R t) : t.length ≤ R.length := by
  rcases h with ⟨j, hj, rfl⟩ | ⟨j, hj, rfl⟩
  · rw [List.length_take]; omega
  · rw [List.length_set, List.length_take]; omega
theorem dur_seen {xs : List LE} (hv : ∀ y ∈ xs, validB y = true ∧ WfLE y) {k : Nat} {S : PS} (hk : k ≤ xs.length) (h : DurEnd xs k S) (n : Int) (cs : List Cf) : ∃ S5 ys, DurSeen xs k (pCrash S n cs) S5 ys := by
  obtain ⟨R, lim, m, hR, rfl⟩ := h
  have hvt : ∀ j, ∀ y ∈ xs.take j, validB y = true ∧ WfLE y := fun j y hy => hv y (List.mem_of_mem_take hy)
  have hl0 := recsF_take_len (fun y hy => (hv y hy).1) k
  have hl1 := recsF_take_len (fun y hy => (hv y hy).1) (k + 1)
  have hRb : ∀ x ∈ R, 0 ≤ x ∧ x ≤ 255 := by
    rcases hR with rfl | ⟨_, rfl⟩
    · simp
    · exact recF_bytes _
  have hRl : R.length ≤ 1100 := by
    rcases hR with rfl | ⟨hk', rfl⟩
    · simp
    · exact recF_length (hv _ (List.getElem_mem hk')).1
  rw [crash_dg]
  obtain ⟨t, he, ht⟩ := left_tail (recsF (xs.take k)) R hRb (cfAt cs 0)
  rw [he]
  have htl := tail_len ht
  have hr4 : ∀ b : List Int, (pRead (dg b b.length false 0) sLog).1 = b := fun b => by kernel_rfl
  have hr5 : ∀ b r : List Int, (pRead (dh b r) sLog).1 = r := fun b r => by kernel_rfl
  have hcase : (∃ hk' : k < xs.length, t = recF xs[k]) ∨ (t = [] ∨ (decE (recsF (xs.take k) ++ t) (((recsF (xs.take k)).length : Nat) : Int)).2.2 ≠ 0) := by
    rcases hR with rfl | ⟨hk', rfl⟩
    · exact .inr (.inl (List.eq_nil_of_length_eq_zero (by simpa using htl)))
    · rcases tail_bad (b := recsF (xs.take k) ++ t) (o := (recsF (xs.take k)).length) (by simp) (hv _ (List.getElem_mem hk')).1 (by simp) ht with h1 | h1
      · exact .inl ⟨hk', h1⟩
      · exact .inr h1
  rcases hcase with ⟨hk', rfl⟩ | hst
  · have hs := take_snoc hk'
    rw [← hs]
    have hsc := scanF_recs (hvt (k + 1))
    refine ⟨_, xs.take (k + 1), ⟨⟨k + 1, rfl, by omega, by omega, by omega⟩, by rw [hr4]; exact hl1, by rw [hr4, hsc], open_whole hsc, open_whole hsc, by rw [hr4]; exact hl1, by rw [hr4, hsc]⟩⟩
  · have hsc := scanF_stop (hvt k) hst
    by_cases hz : t = []
    · subst hz
      rw [List.append_nil] at hsc ⊢
      exact ⟨_, xs.take k, ⟨⟨k, rfl, by omega, by omega, hk⟩, by rw [hr4]; omega, by rw [hr4, hsc], open_whole hsc, open_whole hsc, by rw [hr4]; omega, by rw [hr4, hsc]⟩⟩
    · have hne : ((recsF (xs.take k)).length : Int) ≠ ((recsF (xs.take k) ++ t).length : Nat) := by
        have : t.length ≠ 0 := fun e => hz (List.eq_nil_of_length_eq_zero e)
        rw [List.length_append]
        omega
      exact ⟨_, xs.take k, ⟨⟨k, rfl, by omega, by omega, hk⟩, by rw [hr4, List.length_append]; omega, by rw [hr4, hsc], open_part (fun y hy => (hvt k y hy).1) hsc hne, open_dh (hvt k), by rw [hr5]; omega, by rw [hr5, scanF_recs (hvt k)]⟩⟩
end Go.Proofs.Ytehhafnjbkbmjaa.Disk

/- commitlog: the law Durable, the walk. -/
namespace Go.Proofs.Ytehhafnjbkbmjaa.Disk
open Go Go.RowKit Go.Proofs.YtehhafnjbkbmjaaW.PrintWords Go.Proofs.YtehhafnjbkbmjaaW.PrintLast Go.Proofs.YtehhafnjbkbmjaaW.PrintMore Go.Proofs.Ytehhafnjbkbmjaa.PObjstoreAtomic
open Go.Proofs.Ytehhafnjbkbmjaa.PCommitlogRecords (k47 at_T47 rd_T47 laminaref24_Valid.calls)
theorem heap_cfs : Kd.Heap kCf := Kd.heap_iso _ (Kd.heap_pair (Kd.heap_int _) Kd.heap_bool)
theorem Rd.begin {α : Type} {dd : Kd α} (hd : Kd.Heap dd) {w : World} {A : Option Addr} {c : Nat} {xs : List α} (h : dd.C w A xs.length xs) (hc : xs.length ≤ c) : Rd dd w (fun k => ¬ (fun _ : Nat => False) k) A c xs := (Rd.ofC hd h hc).mono (fun _ _ _ => id)
def DurRel1 (w : World) (xs : List LE) (i : Value) (wx : World) : Prop := ∃ j : Nat, j ≤ xs.length ∧ i = .int .i64 j ∧ (∀ x ∈ xs.take j, validB x = true) ∧ Below w.heap.size w wx
def DurRel2 (w : World) (d : Nat) (xs : List LE) (i : Value) (wx : World) : Prop :=
  ∃ (k : Nat) (F : Nat → Prop) (L : Lay) (S : PS), k ≤ xs.length ∧ i = .int .i64 k ∧ DurSt xs k S ∧ Rep wx F d L S (Live S) ∧ Sound S (700 + 1200 * k) ∧ Chg w (fun _ => False) wx F
theorem fresh_rd {α : Type} {dk : Kd α} {w w' : World} {F : Nat → Prop} {A : Option Addr} {c : Nat} {xs : List α} (h : Rd dk w (fun k => ¬ (fun _ : Nat => False) k) A c xs) (hc : Chg w (fun _ => False) w' F) : Rd dk w' (fun k => ¬ F k) A c xs := h.chg hc
set_option maxHeartbeats 16000000 in
set_option maxRecDepth 100000 in
theorem durable_walk (w : World) (A : Option Addr) (c : Nat) (xs : List LE) (hC : Kd.C kLE w A xs.length xs) (hc : xs.length ≤ c) (hwf : ∀ x ∈ xs, WfLE x) (op : Int) (hop : op ≤ 9223372036854775807) (n : Int) (A3 : Option Addr) (c3 : Nat) (cs : List Cf) (hC3 : Kd.C kCf w A3 cs.length cs) (hc3 : cs.length ≤ c3) :
    Calls Try.prog 10 #[.slice A xs.length c, .int .i64 op, .int .i64 n, .slice A3 cs.length c3] w fun e w' => e = .returned (.bool true) ∧ Below w.heap.size w w' := by
  have V0 := Lib.hid (Rd.begin heap_le hC hc)
  have X0 := Lib.hid (Rd.begin heap_cfs hC3 hc3)
  have HWF := Lib.hid hwf
  clear hC hC3 hwf
  by_cases hl : 20 < xs.length
  · have t0 : decide ((20 : Int) < (xs.length : Int)) = true := by simp; omega
    go_enter Try.func10, Try.ntmps10
    go_wp2_with (first | (go_at_call 25; refine (lives24_calls _).mono ?_; rintro e w7 ⟨rfl, hb⟩; have B7 := Lib.hid hb; clear hb) | fail)
    go_ret
    exact ⟨rfl, B7.out⟩
  · have t0 : decide ((20 : Int) < (xs.length : Int)) = false := by simp; omega
    by_cases hl3 : 10 < cs.length
    · have t1 : decide ((10 : Int) < (cs.length : Int)) = true := by simp; omega
      go_enter Try.func10, Try.ntmps10
      go_wp2_with (first | (go_at_call 25; refine (lives24_calls _).mono ?_; rintro e w7 ⟨rfl, hb⟩; have B7 := Lib.hid hb; clear hb) | fail)
      go_ret
      exact ⟨rfl, B7.out⟩
    · have t1 : decide ((10 : Int) < (cs.length : Int)) = false := by simp; omega
      go_enter Try.func10, Try.ntmps10
      go_wp2_with fail
      go_loopw [9] (fun i wx => DurRel1 w xs i wx) (fun i _ => xs.length - (intOf i).toNat)
      case atStart => exact ⟨0, Nat.zero_le _, rfl, by simp, Below.refl _ _⟩
      case round =>
        obtain ⟨j, hj, rfl, hval, hb⟩ := hrel
        have HB := Lib.hid hb
        have HVL := Lib.hid hval
        have V1 := Lib.hid (V0.out.below hb)
        clear hb hval
        by_cases hlt : j < xs.length
        · have hltI : (j : Int) < (xs.length : Int) := by omega
          have h0I : (0 : Int) ≤ (j : Int) := by omega
          obtain ⟨ad, hA, q0, q1, q2, q3, q4, q5⟩ := at_T47 V1.out.now (j : Int) h0I hltI
          subst hA
          rw [Int.toNat_natCast] at q0 q1 q2 q3 q4 q5
          obtain ⟨x, hx⟩ : ∃ x, x = rd_T47 xs (j : Int) := ⟨_, rfl⟩
          rw [← hx] at q0 q1 q2 q3 q4 q5
          rw [rd_le hlt] at hx
          have HTK := Lib.hid (show xs.take (j + 1) = xs.take j ++ [x] by rw [hx, List.take_add_one, List.getElem?_eq_getElem hlt]; rfl)
          have HVF := Lib.hid (rvalid_f x 61 (by decide))
          clear hx
          by_cases hs : 100 < x.f5.size
          · have t2 : decide ((100 : Int) < (x.f5.size : Int)) = true := by simp; omega
            go_wp2_with (first | (go_at_call 25; refine (lives24_calls _).mono ?_; rintro e w7 ⟨rfl, hb⟩; have B7 := Lib.hid (HB.out.trans (hb.mono HB.out.size)); clear hb) | fail)
            go_ret
            exact ⟨rfl, B7.out⟩
          · have t2 : decide ((100 : Int) < (x.f5.size : Int)) = false := by simp; omega
            cases hv : validB x
            · rw [hv] at HVF
              clear hv
              go_wp2_with (first
                | (go_at_call 33; refine (laminaref24_Valid.calls 61 _ _ _ _ _ _ _ _ HVF.out).mono ?_; rintro e w6 ⟨rfl, hb⟩; have B6 := Lib.hid (HB.out.trans (hb.mono HB.out.size)); clear hb)
                | (go_at_call 25; refine (lives24_calls _).mono ?_; rintro e w7 ⟨rfl, hb⟩; have B7 := Lib.hid (B6.out.trans (hb.mono B6.out.size)); clear hb)
                | fail)
              go_ret
              exact ⟨rfl, B7.out⟩
            · rw [hv] at HVF
              have HVX := Lib.hid hv
              clear hv
              go_wp2_with (first
                | (go_at_call 33; refine (laminaref24_Valid.calls 61 _ _ _ _ _ _ _ _ HVF.out).mono ?_; rintro e w6 ⟨rfl, hb⟩; have B6 := Lib.hid (HB.out.trans (hb.mono HB.out.size)); clear hb)
                | fail)
              go_roundw
              case rel =>
                refine ⟨j + 1, by omega, by simp, fun y hy => ?_, B6.out⟩
                rw [HTK.out] at hy
                rcases List.mem_append.1 hy with hy | hy
                · exact HVL.out y hy
                · simp at hy
                  rw [hy]
                  exact HVX.out
              case measure => simp [intOf]; omega
        · obtain rfl : j = xs.length := by omega
          have hv := HVL.out
          rw [List.take_length] at hv
          have HV := Lib.hid (show ∀ y ∈ xs, validB y = true ∧ WfLE y from fun y hy => ⟨hv y hy, HWF.out y hy⟩)
          have S1 := Lib.hid (show Sound (pFail lo1 op) (700 + 1200 * 0) from s_lo1.fail hop)
          clear hv HVL V1
          go_wp2_with (first
            | (go_at_call 12; refine (New_calls _).mono ?_; rintro e w1 ⟨d, F1, L1, rfl, hr, hc⟩; have R1 := Lib.hid hr; have C1 := Lib.hid ((Chg.ofBelow HB.out).trans hc); clear hr hc)
            | (go_at_call 34; refine (lopen1 _ _ _ _ R1.out C1.out.lt).mono ?_; rintro e w2 ⟨A2, c2, rfl, F2, L2, hr, hc⟩; have R2 := Lib.hid hr; have C2 := Lib.hid (C1.out.trans hc); clear hr hc R1 C1)
            | (go_at_call 14; refine (FailAfter_calls _ F2 d L2 lo1 op R2.out).mono ?_; rintro e w3 ⟨rfl, F3, L3, hr, hc⟩; have R3 := Lib.hid hr; have C3 := Lib.hid (C2.out.trans hc); clear hr hc R2 C2)
            | fail)
          go_loopw [13] (fun i wx => DurRel2 w d xs i wx) (fun i _ => xs.length - (intOf i).toNat)
          case atStart => exact ⟨0, F3, L3, _, Nat.zero_le _, rfl, dur_start xs op, R3.out, S1.out, C3.out⟩
          case round =>
            clear R3 C3
            obtain ⟨k, FK, LK, SK, hk, rfl, hst, hrk, hsk, hck⟩ := hrel
            have HR := Lib.hid hrk
            have HS := Lib.hid hsk
            have HC := Lib.hid hck
            have VK := Lib.hid (fresh_rd V0.out hck)
            have XK := Lib.hid (fresh_rd X0.out hck)
            have HST := Lib.hid hst
            clear hrk hsk hck hst
            by_cases hlt2 : k < xs.length
            · have hltI : (k : Int) < (xs.length : Int) := by omega
              have h0I : (0 : Int) ≤ (k : Int) := by omega
              obtain ⟨ad, hA, q0, q1, q2, q3, q4, q5⟩ := at_T47 VK.out.now (k : Int) h0I hltI
              subst hA
              rw [Int.toNat_natCast] at q0 q1 q2 q3 q4 q5
              obtain ⟨x, hx⟩ : ∃ x, x = rd_T47 xs (k : Int) := ⟨_, rfl⟩
              rw [← hx] at q0 q1 q2 q3 q4 q5
              rw [rd_le hlt2] at hx
              have hvx := HV.out _ (List.getElem_mem hlt2)
              have hds := dur_step hlt2 hvx.1 HST.out
              have hsn1 : Sound (pLogAppend SK sLog xs[k]).1 (700 + 1200 * (k + 1)) := HS.out.logAppend
              rw [← hx] at hvx hds hsn1
              have HWX := Lib.hid hvx.2
              obtain ⟨r, hr⟩ : ∃ r, r = pLogAppend SK sLog x := ⟨_, rfl⟩
              rw [← hr] at hds hsn1
              have HRR := Lib.hid hr
              have HSE := Lib.hid hsn1
              clear hr hx hvx hsn1
              rcases hds with ⟨h0, hst⟩ | ⟨h16, hen⟩
              · have H0 := Lib.hid h0
                have HST1 := Lib.hid hst
                clear h0 hst
                go_wp2_with (first
                  | (go_at_call 35; refine (LogAppend_calls _ FK d LK SK (700 + 1200 * k) sLog x HR.out HC.out.lt HS.out (by omega) HWX.out).mono ?_; rw [← HRR.out, H0.out]; rintro e w4 ⟨rfl, FE, LE', hr, hc⟩; have RE := Lib.hid hr; have CE := Lib.hid (HC.out.trans hc); clear hr hc)
                  | fail)
                go_roundw
                case rel => exact ⟨k + 1, FE, LE', r.1, by omega, by simp, HST1.out, RE.out, HSE.out, CE.out⟩
                case measure => simp [intOf]; omega
              · have H16 := Lib.hid h16
                obtain ⟨SE, hse⟩ : ∃ SE, SE = r.1 := ⟨_, rfl⟩
                rw [← hse] at hen HSE
                have HSE' := Lib.hid hse
                have HEN := Lib.hid hen
                clear h16 hen hse
                obtain ⟨S5, ys, hsn⟩ := dur_seen HV.out hk HEN.out n cs
                have SN := Lib.hid hsn
                obtain ⟨jy, hyj, hj1, hj2, hj3⟩ := hsn.part
                have hyl : ys.length = jy := by rw [hyj, List.length_take]; omega
                have HYT := Lib.hid (show xs.take ys.length = ys by rw [hyl]; exact hyj.symm)
                rw [← hyl] at hj1 hj2 hj3
                clear hyl hyj
                obtain ⟨S4, hS4⟩ : ∃ S4, S4 = pCrash SE n cs := ⟨_, rfl⟩
                rw [← hS4] at SN
                have HQ := Lib.hid hS4
                have HS4 := Lib.hid (show Sound S4 30000 by rw [hS4]; exact (HSE.out.mono (by omega)).crash)
                have hr4 : (pRead S4 sLog).1.length ≤ 65535 := by have := SN.out.read; omega
                have hr5 : (pRead S5 sLog).1.length ≤ 65535 := by have := SN.out.read5; omega
                have hb4 : 1100 * (scanF (pRead S4 sLog).1).1.length ≤ 22000 := by rw [SN.out.scan]; omega
                have hb5 : 1100 * (scanF (pRead S5 sLog).1).1.length ≤ 22000 := by rw [SN.out.scan5]; omega
                have HS5 := Lib.hid (show Sound S5 162000 by have h1 := HS4.out.logOpen (n := sLog) (show 100 ≤ 22000 by decide) hb4; rw [SN.out.one] at h1; exact h1)
                have u1 : decide ((ys.length : Int) < (k : Int)) = false := by simp; omega
                have u2 : decide (ys.length < k) = false := by simp; omega
                have u3 : decide ((k : Int) + 1 < (ys.length : Int)) = false := by simp; omega
                have u4 : decide ((xs.length : Int) < (ys.length : Int)) = false := by simp; omega
                have u5 : decide (xs.length < ys.length) = false := by simp; omega
                have u6 : ys.length ≤ c := by omega
                have u7 : (ys.length : Int) ≤ (c : Int) := by omega
                have u8 : ys.length ≤ 1000000 := by omega
                clear hsn hS4
                go_wp2_with (first
                  | (go_at_call 25; refine (lives24_calls _).mono ?_; rintro e w9 ⟨rfl, hb⟩; have Z9 := Lib.hid (C8.out.fr2 (Below.toFr hb _)); clear hb C8)
                  | (go_at_call 32; have hz := C7.out; clear hz; refine (rEq_calls _ A6 c6 A5 c5 ys V7.out.now V7.out.le U7.out.now U7.out.le u8).mono ?_; rintro e w8 ⟨rfl, hb⟩; have C8 := Lib.hid (C7.out.fr2 (Below.toFr hb _)); clear hb C7 V7 U7)
                  | (go_at_call 32; refine (rEq_calls _ A5 c5 _ c ys U6.out.now U6.out.le (by have h1 := Kd.C_take VK6.out.now (show ys.length ≤ xs.length by omega); rw [HYT.out] at h1; exact h1) u6 u8).mono ?_; rintro e w7 ⟨rfl, hb⟩; have C7 := Lib.hid (C6.out.fr2 (Below.toFr hb _)); have V7 := Lib.hid (V6.out.below hb); have U7 := Lib.hid (U6.out.below hb); clear hb C6 V6 U6 VK6)
                  | (go_at_call 34; have hz := R5.out; clear hz; refine (LogOpen_calls _ F5 d L5 S5 162000 22000 sLog R5.out C5.out.lt HS5.out (by decide) (by decide) (by decide) hr5 hb5).mono ?_; rw [SN.out.two]; rintro e w6 ⟨A6, c6, F6, L6, rfl, -, hc, hv⟩; have C6 := Lib.hid (C5.out.trans hc); have V6 := Lib.hid hv; have U6 := Lib.hid (U5.out.chg hc); have VK6 := Lib.hid (VK5.out.chg hc); clear hc hv R5 C5 U5 VK5)
                  | (go_at_call 34; refine (LogOpen_calls _ F4 d L4 S4 30000 22000 sLog R4.out C4.out.lt HS4.out (by decide) (by decide) (by decide) hr4 hb4).mono ?_; rw [SN.out.one]; rintro e w5 ⟨A5, c5, F5, L5, rfl, hr, hc, hv⟩; have R5 := Lib.hid hr; have C5 := Lib.hid (C4.out.trans hc); have U5 := Lib.hid hv; have VK5 := Lib.hid (VK4.out.chg hc); clear hr hc hv R4 C4 VK4)
                  | (go_at_call 15; refine (Crash_calls _ FE d LE' SE 30000 n A3 c3 cs XE.out.now RE.out (HSE.out.mono (by omega)).good (by decide)).mono ?_; rw [← HQ.out]; rintro e w4 ⟨rfl, F4, L4, hr, hc⟩; have R4 := Lib.hid hr; have C4 := Lib.hid (CE.out.trans hc); have VK4 := Lib.hid (VE.out.chg hc); clear hr hc RE CE VE XE)
                  | (go_at_call 35; refine (LogAppend_calls _ FK d LK SK (700 + 1200 * k) sLog x HR.out HC.out.lt HS.out (by omega) HWX.out).mono ?_; rw [← HRR.out, H16.out, ← HSE'.out]; rintro e w3 ⟨rfl, FE, LE', hr, hc⟩; have RE := Lib.hid hr; have CE := Lib.hid (HC.out.trans hc); have VE := Lib.hid (VK.out.chg hc); have XE := Lib.hid (XK.out.chg hc); clear hr hc HR HC VK XK)
                  | fail)
                go_ret
                exact ⟨rfl, Z9.out.fr.toBelow (Nat.le_refl _) (fun _ hk => hk.elim)⟩
            · obtain rfl : k = xs.length := by omega
              have HEN := Lib.hid HST.out.ended
              have HSE := HS
              have RE := HR
              have CE := HC
              have VE := VK
              have XE := XK
              clear HS HR HC VK XK
              obtain ⟨S5, ys, hsn⟩ := dur_seen HV.out hk HEN.out n cs
              have SN := Lib.hid hsn
              obtain ⟨jy, hyj, hj1, hj2, hj3⟩ := hsn.part
              have hyl : ys.length = jy := by rw [hyj, List.length_take]; omega
              have HYT := Lib.hid (show xs.take ys.length = ys by rw [hyl]; exact hyj.symm)
              rw [← hyl] at hj1 hj2 hj3
              clear hyl hyj
              obtain ⟨S4, hS4⟩ : ∃ S4, S4 = pCrash SK n cs := ⟨_, rfl⟩
              rw [← hS4] at SN
              have HQ := Lib.hid hS4
              have HS4 := Lib.hid (show Sound S4 30000 by rw [hS4]; exact (HSE.out.mono (by omega)).crash)
              have hr4 : (pRead S4 sLog).1.length ≤ 65535 := by have := SN.out.read; omega
              have hr5 : (pRead S5 sLog).1.length ≤ 65535 := by have := SN.out.read5; omega
              have hb4 : 1100 * (scanF (pRead S4 sLog).1).1.length ≤ 22000 := by rw [SN.out.scan]; omega
              have hb5 : 1100 * (scanF (pRead S5 sLog).1).1.length ≤ 22000 := by rw [SN.out.scan5]; omega
              have HS5 := Lib.hid (show Sound S5 162000 by have h1 := HS4.out.logOpen (n := sLog) (show 100 ≤ 22000 by decide) hb4; rw [SN.out.one] at h1; exact h1)
              have u1 : decide ((ys.length : Int) < (xs.length : Int)) = false := by simp; omega
              have u2 : decide (ys.length < xs.length) = false := by simp; omega
              have u3 : decide ((xs.length : Int) + 1 < (ys.length : Int)) = false := by simp; omega
              have u4 : decide ((xs.length : Int) < (ys.length : Int)) = false := by simp; omega
              have u5 : decide (xs.length < ys.length) = false := by simp; omega
              have u6 : ys.length ≤ c := by omega
              have u7 : (ys.length : Int) ≤ (c : Int) := by omega
              have u8 : ys.length ≤ 1000000 := by omega
              clear hsn hS4
              go_wp2_with (first
                | (go_at_call 25; refine (lives24_calls _).mono ?_; rintro e w9 ⟨rfl, hb⟩; have Z9 := Lib.hid (C8.out.fr2 (Below.toFr hb _)); clear hb C8)
                | (go_at_call 32; have hz := C7.out; clear hz; refine (rEq_calls _ A6 c6 A5 c5 ys V7.out.now V7.out.le U7.out.now U7.out.le u8).mono ?_; rintro e w8 ⟨rfl, hb⟩; have C8 := Lib.hid (C7.out.fr2 (Below.toFr hb _)); clear hb C7 V7 U7)
                | (go_at_call 32; refine (rEq_calls _ A5 c5 _ c ys U6.out.now U6.out.le (by have h1 := Kd.C_take VK6.out.now (show ys.length ≤ xs.length by omega); rw [HYT.out] at h1; exact h1) u6 u8).mono ?_; rintro e w7 ⟨rfl, hb⟩; have C7 := Lib.hid (C6.out.fr2 (Below.toFr hb _)); have V7 := Lib.hid (V6.out.below hb); have U7 := Lib.hid (U6.out.below hb); clear hb C6 V6 U6 VK6)
                | (go_at_call 34; have hz := R5.out; clear hz; refine (LogOpen_calls _ F5 d L5 S5 162000 22000 sLog R5.out C5.out.lt HS5.out (by decide) (by decide) (by decide) hr5 hb5).mono ?_; rw [SN.out.two]; rintro e w6 ⟨A6, c6, F6, L6, rfl, -, hc, hv⟩; have C6 := Lib.hid (C5.out.trans hc); have V6 := Lib.hid hv; have U6 := Lib.hid (U5.out.chg hc); have VK6 := Lib.hid (VK5.out.chg hc); clear hc hv R5 C5 U5 VK5)
                | (go_at_call 34; refine (LogOpen_calls _ F4 d L4 S4 30000 22000 sLog R4.out C4.out.lt HS4.out (by decide) (by decide) (by decide) hr4 hb4).mono ?_; rw [SN.out.one]; rintro e w5 ⟨A5, c5, F5, L5, rfl, hr, hc, hv⟩; have R5 := Lib.hid hr; have C5 := Lib.hid (C4.out.trans hc); have U5 := Lib.hid hv; have VK5 := Lib.hid (VK4.out.chg hc); clear hr hc hv R4 C4 VK4)
                | (go_at_call 15; refine (Crash_calls _ FK d LK SK 30000 n A3 c3 cs XE.out.now RE.out (HSE.out.mono (by omega)).good (by decide)).mono ?_; rw [← HQ.out]; rintro e w4 ⟨rfl, F4, L4, hr, hc⟩; have R4 := Lib.hid hr; have C4 := Lib.hid (CE.out.trans hc); have VK4 := Lib.hid (VE.out.chg hc); clear hr hc RE CE VE XE)
                | fail)
              go_ret
              exact ⟨rfl, Z9.out.fr.toBelow (Nat.le_refl _) (fun _ hk => hk.elim)⟩
end Go.Proofs.Ytehhafnjbkbmjaa.Disk

/- The law CommitlogDurable holds: for every input the call returns true, and each argument reads behind the call as it read before. No condition. -/
namespace Go.Proofs.Ytehhafnjbkbmjaa.commitlogDurable
open Go.ChangeShapes Go.WideShapes Go.ChangeAt Go.RowKit
open Go.ChangeMaps (open_string shut_string)
open Go.Proofs.YtehhafnjbkbmjaaW.PrintWords Go.Proofs.Ytehhafnjbkbmjaa.Disk
set_option linter.unusedVariables false
theorem own : ownKnob Try.prog.godebug = none := by kernel_rfl
theorem laidOut : laidOutB Try.prog = true := by kernel_rfl
set_option maxRecDepth 100000 in
theorem lifted (os : Os) (started : os.Started) (H : Type) (enc : TypeId × Value → H) :
    ReturnsInHanded {} Try.checked os 10 .any (Rows.commitlogDurableSpec.pre6 enc Try.prog Try.f10 Rows.commitlogDurableRow.domain false) (Rows.commitlogDurableSpec.post enc Try.prog Try.f10 false true false false) := by
  refine returnsInHanded_of_change_sized (C := Try.checked) own started (by kernel_rfl) Try.func10
    (ChangeSpec.witness6 (enc := enc) (C := Try.checked) false ⟨#[], #[.slice none 0 0, .int .i64 0, .int .i64 0, .slice none 0 0], []⟩ 8 (by kernel_rfl) (by kernel_rfl) (by kernel_rfl) (by kernel_rfl)) ?_
  intro W base args ds gs before hval0 hW hcnd hsz0 _
  have hval : ∀ (j : Nat) t v, Try.f10.params[j]? = some t → args[j]? = some v → Value.okWide Try.prog W .any base t v := hval0
  have hW' := hW
  obtain ⟨p, q, hA0, hV, rfl, hfz, hnd⟩ := hW
  have hA : DataW.TrodAll enc Try.prog W 0 (fun _ => true) true Try.f10.params.toList args.toList ds p := hA0
  rw [Try.params10] at hA hval
  obtain ⟨v0, vs0, d0, ds0, p0, q0, hargs, rfl, rfl, h0, r0⟩ := trodAll_cons hA
  obtain ⟨v1, vs1, d1, ds1, p1, q1, rfl, rfl, rfl, h1, r1⟩ := trodAll_cons r0
  obtain ⟨v2, vs2, d2, ds2, p2, q2, rfl, rfl, rfl, h2, r2⟩ := trodAll_cons r1
  obtain ⟨v3, vs3, d3, ds3, p3, q3, rfl, rfl, rfl, h3, r3⟩ := trodAll_cons r2
  obtain ⟨rfl, rfl, rfl⟩ := trodAll_nil r3
  obtain rfl : args = #[v0, v1, v2, v3] := by cases args; simp_all
  obtain ⟨rfl, rfl⟩ := trodVars_none hV
  obtain ⟨a0, len0, cap0, rfl⟩ := okWide_slice Try.underlying56 (hval 0 56 v0 rfl rfl)
  have lt0 : ∀ x ∈ p0, x.block < W.heap.size := by obtain ⟨m, hm⟩ := h0; exact DataW.trod_lt m _ _ _ hm
  obtain ⟨l0, rfl, hc0, hC0, hw0⟩ := les_row h0
  obtain ⟨n1, rfl, rfl, rfl, w1⟩ := open_int Try.underlying3 (hval 1 3 v1 rfl rfl) h1
  obtain ⟨n2, rfl, rfl, rfl, w2⟩ := open_int Try.underlying3 (hval 2 3 v2 rfl rfl) h2
  obtain ⟨a3, len3, cap3, rfl⟩ := okWide_slice Try.underlying23 (hval 3 23 v3 rfl rfl)
  have lt3 : ∀ x ∈ p3, x.block < W.heap.size := by obtain ⟨m, hm⟩ := h3; exact DataW.trod_lt m _ _ _ hm
  obtain ⟨l3, rfl, hc3, hC3⟩ := cfs_row h3
  clear hA0 hval0 hsz0
  refine (durable_walk W a0 cap0 l0 hC0 hc0 hw0 n1 (bounds_i64 w1).2 n2 a3 cap3 l3 hC3 hc3).mono fun e W' ⟨he, bel⟩ => ?_
  subst he
  exact ⟨_, rfl, _, _, _, [], _, [], hW', trodAll_mk1 (shut_bool Try.underlying4 _), (trodAll_cons_mk (Below.trod laidOut (by kernel_rfl) (of_decide_eq_true (by kernel_rfl)) h0 bel lt0) (trodAll_cons_mk (shut_int Try.underlying3 w1) (trodAll_cons_mk (shut_int Try.underlying3 w2) (trodAll_cons_mk (Below.trod laidOut (by kernel_rfl) (of_decide_eq_true (by kernel_rfl)) h3 bel lt3) trodAll_mk0)))), rfl, bel.frame _, fun h => by cases h⟩
theorem over : Rows.commitlogDurableRow.holds Try.pinned (OpenSpec.ofChange Rows.commitlogDurableSpec) :=
  OpenClaim.holds_of_wide 10 Try.f10 rfl rfl rfl rfl rfl rfl rfl ⟨rfl, rfl, rfl, rfl, rfl⟩ rfl rfl rfl rfl rfl (by kernel_rfl) Try.func10 (by kernel_rfl)
    (of_decide_eq_true (by kernel_rfl)) (by unfold Func.isWrapper; first | (rw [if_pos (by decide +kernel)]; kernel_rfl) | (rw [if_neg (by decide +kernel)]; exact ⟨rfl, rfl⟩))
    (fun os started H enc _ => lifted os started H enc)
theorem proved : Rows.CommitlogDurableSaid := over
#print axioms proved
end Go.Proofs.Ytehhafnjbkbmjaa.commitlogDurable
namespace Go.Proofs.Ytehhafnjbkbmjaa
theorem commitlogDurable_holds : Rows.CommitlogDurableSaid := commitlogDurable.proved
end Go.Proofs.Ytehhafnjbkbmjaa
