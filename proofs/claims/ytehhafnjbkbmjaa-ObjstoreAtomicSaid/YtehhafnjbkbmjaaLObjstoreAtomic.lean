import Derived.Test.YtehhafnjbkbmjaaM5
import Derived.Deep.QuietTactic
import Derived.BigQuiet
import Derived.Test.YtehhafnjbkbmjaaRows
import Derived.WalkKit
import Derived.ProofKit
import Derived.OpenShut
import Derived.ShutString
import Derived.ChangeOld
import Derived.Below
import Derived.SizedLaws
import Derived.Carry
/- objstore: a damaged object is reported as corrupt. -/
namespace Go.Proofs.Ytehhafnjbkbmjaa.Disk
open Go Go.RowKit Go.Proofs.YtehhafnjbkbmjaaW.PrintWords Go.Proofs.YtehhafnjbkbmjaaW.PrintLast Go.Proofs.YtehhafnjbkbmjaaW.PrintMore Go.Proofs.Ytehhafnjbkbmjaa.PObjstoreAtomic
abbrev sA : ByteArray := ⟨#[97]⟩
abbrev sB : ByteArray := ⟨#[98]⟩
def co1 (b : List Int) : PS := ⟨[⟨sealF b, (sealF b).length⟩], [⟨sA, 0⟩], [⟨sA, 0⟩], [], false, 0⟩
def co2 (b : List Int) : PS := ⟨[⟨sealF b, (sealF b).length⟩, ⟨[], 0⟩], [⟨sA, 0⟩, ⟨sB, 1⟩], [⟨sA, 0⟩], [⟨1, sB, ⟨#[]⟩, 1⟩], false, 0⟩
def co3 (b x : List Int) : PS := ⟨[⟨sealF b, (sealF b).length⟩, ⟨x, 0⟩], [⟨sA, 0⟩, ⟨sB, 1⟩], [⟨sA, 0⟩], [⟨1, sB, ⟨#[]⟩, 1⟩], false, 0⟩
theorem co1_eq (b : List Int) : pPut pNew sA b = (co1 b, 0) := by kernel_rfl
theorem co2_eq (b : List Int) : pCreate (co1 b) sB = (co2 b, 0) := by kernel_rfl
theorem co3_eq (b x : List Int) : pAppend (co2 b) sB x = (co3 b x, 0) := by kernel_rfl
theorem co3_read (b x : List Int) : pRead (co3 b x) sB = (x, 0) ∧ pRead (co3 b x) sA = (sealF b, 0) ∧ pExists (co3 b x) sB = true ∧ pExists (co3 b x) sA = true := ⟨by kernel_rfl, by kernel_rfl, by kernel_rfl, by kernel_rfl⟩
theorem co3_b (b x : List Int) (h : x.length < 4) : pGet (co3 b x) sB = ([], 19) := by
  obtain ⟨h1, h2, h3, h4⟩ := co3_read b x
  unfold pGet
  rw [h3, h1]
  simp [open_short h]
theorem co3_a (b x : List Int) (hw : ∀ y ∈ b, 0 ≤ y ∧ y ≤ 255) : pGet (co3 b x) sA = (b, 0) := by
  obtain ⟨h1, h2, h3, h4⟩ := co3_read b x
  unfold pGet
  rw [h4, h2]
  simp [open_seal hw]
theorem s_co1 {b : List Int} (hb : b.length ≤ 300) (hw : ∀ y ∈ b, 0 ≤ y ∧ y ≤ 255) : Sound (co1 b) 2400 := by
  have := Sound.new.put (m := 400) (n := sA) (l := b) (by decide) (by omega) hw
  rw [co1_eq] at this
  exact this
theorem s_co2 {b : List Int} (hb : b.length ≤ 300) (hw : ∀ y ∈ b, 0 ≤ y ∧ y ≤ 255) : Sound (co2 b) 2500 := by
  have := (s_co1 hb hw).create (n := sB)
  rw [co2_eq] at this
  exact this
theorem s_co3 {b x : List Int} (hb : b.length ≤ 300) (hw : ∀ y ∈ b, 0 ≤ y ∧ y ≤ 255) (hx : x.length ≤ 100) (hxw : ∀ y ∈ x, 0 ≤ y ∧ y ≤ 255) : Sound (co3 b x) 2600 := by
  have := (s_co2 hb hw).append (n := sB) hx hxw
  rw [co3_eq] at this
  exact this
theorem Rd.start {α : Type} {dd : Kd α} (hd : Kd.Heap dd) {w : World} {A : Option Addr} {c : Nat} {xs : List α} (h : dd.C w A xs.length xs) (hc : xs.length ≤ c) : Rd dd w (fun k => ¬ (fun _ : Nat => False) k) A c xs := (Rd.ofC hd h hc).mono (fun _ _ _ => id)
theorem get_str {w : World} {d : Nat} {S : PS} {n : ByteArray} {l : List Int} {cd : Int} (hp : pGet S n = (l, cd)) (h : Calls Try.prog 16 #[.pointer (some ⟨d, 0, none⟩), .string n] w fun e w' => ∃ v, e = .returned (.tuple #[v, .int .i64 (pGet S n).2]) ∧ w'.ownsRow w.heap.size 5 1 v (pGet S n).1.length (nums .u8 (pGet S n).1) ∧ Fr (fun _ => False) w w') :
    Calls Try.prog 16 #[.pointer (some ⟨d, 0, none⟩), .string n] w fun e w' => ∃ A c, e = .returned (.tuple #[.slice A l.length c, .int .i64 cd]) ∧ Rd kB w' (fun k => w.heap.size ≤ k) A c l ∧ Fr (fun _ => False) w w' := by
  rw [hp] at h
  refine h.mono fun e w' hq => ?_
  obtain ⟨v, q1, q2, q3⟩ := hq
  obtain ⟨A, c, e, _⟩ := own_bytes (l := l) q2
  subst e
  exact ⟨A, c, q1, Rd.ofOwn q2, q3⟩
set_option maxHeartbeats 4000000 in
set_option maxRecDepth 100000 in
theorem corrupt_walk (W : World) (a0 : Option Addr) (c0 : Nat) (b : List Int) (hC0 : Kd.C kB W a0 b.length b) (hc0 : b.length ≤ c0) (hw0 : ∀ y ∈ b, 0 ≤ y ∧ y ≤ 255) (a1 : Option Addr) (c1 : Nat) (x : List Int) (hC1 : Kd.C kB W a1 x.length x) (hc1 : x.length ≤ c1) (hw1 : ∀ y ∈ x, 0 ≤ y ∧ y ≤ 255) :
    Calls Try.prog 5 #[.slice a0 b.length c0, .slice a1 x.length c1] W fun e w' => e = .returned (.bool true) ∧ Below W.heap.size W w' := by
  by_cases hgo : b.length ≤ 300 ∧ x.length ≤ 3 ∧ 0 < x.length
  · obtain ⟨hb, hx, hx0⟩ := hgo
    have t0 : decide ((300 : Int) < (b.length : Int)) = false := by simp; omega
    have t1 : decide ((3 : Int) < (x.length : Int)) = false := by simp; omega
    have t2 : ((x.length : Int) == 0) = false := by rw [beq_eq_false_iff_ne]; omega
    have V0 := Lib.hid (Rd.start (Kd.heap_int _) hC0 hc0)
    have X0 := Lib.hid (Rd.start (Kd.heap_int _) hC1 hc1)
    have HW0 := Lib.hid hw0
    have HW1 := Lib.hid hw1
    have S1 := Lib.hid (s_co1 hb hw0)
    have S2 := Lib.hid (s_co2 hb hw0)
    have S3 := Lib.hid (s_co3 (x := x) hb hw0 (by omega) hw1)
    have GB := Lib.hid (co3_b b x (by omega))
    have GA := Lib.hid (co3_a b x hw0)
    have EB := Lib.hid (co3_read b x).2.2.1
    have HBL := Lib.hid (show b.length + 4 ≤ 400 by omega)
    have HXL := Lib.hid (show x.length ≤ 1099511627776 by omega)
    clear hC0 hC1 hw0 hw1
    go_enter Try.func5, Try.ntmps5
    go_wp2_with (first
      | (go_at_call 11; have hz := C6.out; clear hz; refine (lives_calls _).mono ?_; rintro e w7 ⟨rfl, hb⟩; have B7 := Lib.hid (C6.out.fr.below hb); clear hb C6)
      | (go_at_call 17; refine (Exists_calls _ F3 d L3 (co3 b x) 2600 sB R5.out S3.out.good (by decide)).mono ?_; rw [EB.out]; rintro e w6 ⟨rfl, hf⟩; have C6 := Lib.hid (C5.out.fr2 hf); clear hf R5)
      | (go_at_call 16; have hz := R4.out; clear hz; refine (get_str GA.out (Get_calls _ F3 d L3 (co3 b x) 2600 sA R4.out S3.out.good (by decide))).mono ?_; rintro e w5 ⟨A5, c5, rfl, hr, hf⟩; have R5 := Lib.hid (R4.out.fr hf (fun _ _ => id)); have C5 := Lib.hid (C4.out.fr2 hf); have cv1 := str_run hr; have cv2 := str_run (V4.out.below (fr_below hf)); obtain ⟨s, hs⟩ : ∃ s, s = strOfNums b := ⟨_, rfl⟩; rw [← hs] at cv1 cv2; clear hs hf hr R4)
      | (go_at_call 16; have hz := R3.out; clear hz; refine (get_str GB.out (Get_calls _ F3 d L3 (co3 b x) 2600 sB R3.out S3.out.good (by decide))).mono ?_; rintro e w4 ⟨A4, c4, rfl, hr, hf⟩; have R4 := Lib.hid (R3.out.fr hf (fun _ _ => id)); have C4 := Lib.hid (C3.out.fr2 hf); have V4 := Lib.hid (V3.out.below (fr_below hf)); clear hf hr R3 V3)
      | (go_at_call 24; refine (Append_calls _ F2 d L2 (co2 b) 2500 sB a1 x c1 X2.out.now HXL.out R2.out S2.out.good (by decide)).mono ?_; rw [co3_eq]; rintro e w3 ⟨rfl, F3, L3, hr, hc⟩; have R3 := Lib.hid hr; have C3 := Lib.hid (C2.out.trans hc); have V3 := Lib.hid (V2.out.chg hc); clear hr hc R2 V2 X2)
      | (go_at_call 23; refine (Create_calls _ F1 d L1 (co1 b) 2400 sB R1.out S1.out.good (by decide)).mono ?_; rw [co2_eq]; rintro e w2 ⟨rfl, F2, L2, hr, hc⟩; have R2 := Lib.hid hr; have C2 := Lib.hid (C1.out.trans hc); have V2 := Lib.hid (V1.out.chg hc); have X2 := Lib.hid (X1.out.chg hc); clear hr hc R1 V1 X1)
      | (go_at_call 13; refine (Put_calls _ F0 d L0 pNew 0 400 sA a0 c0 b R0.out C0.out.lt Sound.new (by decide) HBL.out (by decide) HW0.out (V0.out.chg C0.out)).mono ?_; rw [co1_eq]; rintro e w1 ⟨rfl, F1, L1, hr, hc⟩; have R1 := Lib.hid hr; have C1 := Lib.hid (C0.out.trans hc); have V1 := Lib.hid (V0.out.chg C1.out); have X1 := Lib.hid (X0.out.chg C1.out); clear hr hc R0)
      | (go_at_call 12; refine (New_calls _).mono ?_; rintro e w0 ⟨d, F0, L0, rfl, hr, hc⟩; have R0 := Lib.hid hr; have C0 := Lib.hid hc; clear hr hc)
      | fail)
    go_ret
    exact ⟨rfl, B7.out.toBelow (Nat.le_refl _) (fun _ hk => hk.elim)⟩
  · have HN := Lib.hid hgo
    clear hgo hC0 hC1 hw0 hw1
    by_cases h1 : 300 < b.length
    · have t0 : decide ((300 : Int) < (b.length : Int)) = true := by simp; omega
      go_enter Try.func5, Try.ntmps5
      go_wp2_with (first | (go_at_call 11; refine (lives_calls _).mono ?_; rintro e w7 ⟨rfl, hb⟩; have B7 := Lib.hid hb; clear hb) | fail)
      go_ret
      exact ⟨rfl, B7.out⟩
    · have t0 : decide ((300 : Int) < (b.length : Int)) = false := by simp; omega
      by_cases h3 : 3 < x.length
      · have t1 : decide ((3 : Int) < (x.length : Int)) = true := by simp; omega
        go_enter Try.func5, Try.ntmps5
        go_wp2_with (first | (go_at_call 11; refine (lives_calls _).mono ?_; rintro e w7 ⟨rfl, hb⟩; have B7 := Lib.hid hb; clear hb) | fail)
        go_ret
        exact ⟨rfl, B7.out⟩
      · have t1 : decide ((3 : Int) < (x.length : Int)) = false := by simp; omega
        obtain rfl : x = [] := List.eq_nil_of_length_eq_zero (by have := HN.out; omega)
        clear h3 t1
        go_enter Try.func5, Try.ntmps5
        go_wp2_with (first | (go_at_call 11; refine (lives_calls _).mono ?_; rintro e w7 ⟨rfl, hb⟩; have B7 := Lib.hid hb; clear hb) | fail)
        go_ret
        exact ⟨rfl, B7.out⟩
end Go.Proofs.Ytehhafnjbkbmjaa.Disk

/- objstore: objects are kept, plain. -/
namespace Go.Proofs.Ytehhafnjbkbmjaa.Disk
open Go Go.RowKit Go.Proofs.YtehhafnjbkbmjaaW.PrintWords Go.Proofs.YtehhafnjbkbmjaaW.PrintLast Go.Proofs.YtehhafnjbkbmjaaW.PrintMore Go.Proofs.Ytehhafnjbkbmjaa.PObjstoreAtomic
/-- The name of object i. -/
def nmK (i : Nat) : ByteArray := ⟨#[UInt8.ofNat (97 + i)]⟩
def flK (f : Nat → List Int) (i : Nat) : Fil := ⟨sealF (f i), (sealF (f i)).length⟩
/-- The disk behind i puts. -/
def keK (f : Nat → List Int) (i : Nat) : PS := ⟨(List.range i).map (flK f), (List.range i).map (fun j => ⟨nmK j, (j : Int)⟩), (List.range i).map (fun j => ⟨nmK j, (j : Int)⟩), [], false, 0⟩
theorem ke_put (f : Nat → List Int) (i : Nat) (h : i < 10) : pPut (keK f i) (nmK i) (f i) = (keK f (i + 1), 0) := by
  obtain rfl | rfl | rfl | rfl | rfl | rfl | rfl | rfl | rfl | rfl : i = 0 ∨ i = 1 ∨ i = 2 ∨ i = 3 ∨ i = 4 ∨ i = 5 ∨ i = 6 ∨ i = 7 ∨ i = 8 ∨ i = 9 := by omega
  all_goals kernel_rfl
theorem ke_again (f : Nat → List Int) (i : Nat) (h : i < 10) : pPut (keK f (i + 1)) (nmK i) [] = (keK f (i + 1), 9) := by
  obtain rfl | rfl | rfl | rfl | rfl | rfl | rfl | rfl | rfl | rfl : i = 0 ∨ i = 1 ∨ i = 2 ∨ i = 3 ∨ i = 4 ∨ i = 5 ∨ i = 6 ∨ i = 7 ∨ i = 8 ∨ i = 9 := by omega
  all_goals kernel_rfl
def ndir (l : List Ent) (s : Nat) : List Ent := (l.zipIdx s).map (fun p => ⟨p.1.f0, (p.2 : Int)⟩)
theorem newDir_ndir (l : List Ent) : newDir l l.length = ndir l 0 := by simp [newDir, ndir]
theorem look_ndir {n : ByteArray} {x : Int} : ∀ (l : List Ent) (s : Nat), pLook l n = some x → ∃ (j : Nat) (hj : j < l.length), l[j].f1 = x ∧ pLook (ndir l s) n = some ((s + j : Nat) : Int)
  | [], _, h => by simp [pLook] at h
  | y :: r, s, h => by
    rw [pLook_cons] at h
    have e : ndir (y :: r) s = ⟨y.f0, (s : Int)⟩ :: ndir r (s + 1) := by simp [ndir]
    rw [e, pLook_cons]
    by_cases hy : y.f0 = n
    · rw [if_pos hy] at h
      rw [if_pos hy]
      exact ⟨0, by simp, by simpa using h, by simp⟩
    · rw [if_neg hy] at h
      rw [if_neg hy]
      obtain ⟨j, hj, h1, h2⟩ := look_ndir r (s + 1) h
      exact ⟨j + 1, by simp; omega, by simpa using h1, by rw [h2, show s + 1 + j = s + (j + 1) by omega]⟩
theorem look_ndir_none {n : ByteArray} : ∀ (l : List Ent) (s : Nat), pLook l n = none → pLook (ndir l s) n = none
  | [], _, _ => rfl
  | y :: r, s, h => by
    rw [pLook_cons] at h
    have e : ndir (y :: r) s = ⟨y.f0, (s : Int)⟩ :: ndir r (s + 1) := by simp [ndir]
    rw [e, pLook_cons]
    by_cases hy : y.f0 = n
    · rw [if_pos hy] at h
      cases h
    · rw [if_neg hy] at h
      rw [if_neg hy]
      exact look_ndir_none r (s + 1) h
theorem pHas_look (S : PS) (n : ByteArray) : pHas S n = (pLook S.dir n).isSome := by
  unfold pHas
  generalize S.dir = l
  induction l with
  | nil => rfl
  | cons y r ih =>
    rw [pLook_cons, List.map_cons, List.any_cons, ih]
    by_cases hy : y.f0 = n
    · simp [hy]
    · simp [hy]
theorem left_full {l : List Int} {c : Cf} : pLeft ⟨l, l.length⟩ c = l := by
  have h : pKept ⟨l, l.length⟩ c = 0 := by
    unfold pKept mn mx
    simp only [Int.sub_self]
    repeat' split
    all_goals omega
  unfold pLeft
  rw [h]
  simp
/-- A file that was durable whole reads behind a crash as it did. -/
theorem crash_read {S : PS} {n : Int} {cs : List Cf} {nm : ByteArray} {x : Int} {l : List Int} (hx : pLook (pCrashDir S n) nm = some x) (hf : fileAt S x = ⟨l, l.length⟩) (ok : okName nm = true) : pRead (pCrash S n cs) nm = (l, 0) ∧ pHas (pCrash S n cs) nm = true := by
  obtain ⟨j, hj, h2, h3⟩ := look_ndir (pCrashDir S n) 0 hx
  have h4 : pLook (pCrash S n cs).dir nm = some (j : Int) := by
    show pLook (newDir (pCrashDir S n) (pCrashDir S n).length) nm = _
    rw [newDir_ndir, h3, Nat.zero_add]
  have h5 : fileAt (pCrash S n cs) (j : Int) = ⟨l, l.length⟩ := by
    rw [fileAt_crash]
    unfold nf
    rw [newFiles_at S _ cs j hj, h2, hf, left_full]
  refine ⟨?_, by rw [pHas_look, h4]; rfl⟩
  unfold pRead
  rw [if_pos ok, h4]
  simp only [h5]
theorem crash_gone {S : PS} {n : Int} {cs : List Cf} {nm : ByteArray} (hx : pLook (pCrashDir S n) nm = none) : pHas (pCrash S n cs) nm = false := by
  have h4 : pLook (pCrash S n cs).dir nm = none := by
    show pLook (newDir (pCrashDir S n) (pCrashDir S n).length) nm = _
    rw [newDir_ndir, look_ndir_none _ _ hx]
  rw [pHas_look, h4]
  rfl
/-- Behind the deletion of object g (of none, where g is none of them). -/
def keD (f : Nat → List Int) (N g : Nat) : PS := ⟨(List.range N).map (flK f), ((List.range N).filter (fun j => j != g)).map (fun j => ⟨nmK j, (j : Int)⟩), ((List.range N).filter (fun j => j != g)).map (fun j => ⟨nmK j, (j : Int)⟩), [], false, 0⟩
theorem ke_del (f : Nat → List Int) (N g : Nat) (hN : N ≤ 10) (hg : g < N) : pDelete (keK f N) [nmK g] = (keD f N g, 0) := by
  obtain rfl | rfl | rfl | rfl | rfl | rfl | rfl | rfl | rfl | rfl : N = 1 ∨ N = 2 ∨ N = 3 ∨ N = 4 ∨ N = 5 ∨ N = 6 ∨ N = 7 ∨ N = 8 ∨ N = 9 ∨ N = 10 := by omega
  all_goals obtain rfl | rfl | rfl | rfl | rfl | rfl | rfl | rfl | rfl | rfl : g = 0 ∨ g = 1 ∨ g = 2 ∨ g = 3 ∨ g = 4 ∨ g = 5 ∨ g = 6 ∨ g = 7 ∨ g = 8 ∨ g = 9 := by omega
  all_goals first | (exfalso; omega) | kernel_rfl
theorem ke_none (f : Nat → List Int) (N g : Nat) (hg : N ≤ g) : keK f N = keD f N g := by
  have e : (List.range N).filter (fun j => j != g) = List.range N := List.filter_eq_self.2 (fun j hj => by have := List.mem_range.1 hj; simp; omega)
  unfold keK keD
  rw [e]
theorem nmK_inj {i j : Nat} (hi : i < 10) (hj : j < 10) (h : nmK i = nmK j) : i = j := by
  have key : ∀ i j : Fin 10, nmK i = nmK j → i = j := by decide
  have := key ⟨i, hi⟩ ⟨j, hj⟩ h
  simpa using this
theorem nmK_ok (i : Nat) (hi : i < 10) : okName (nmK i) = true ∧ okObj (nmK i) = true := by
  have key : ∀ i : Fin 10, okName (nmK i) = true ∧ okObj (nmK i) = true := by decide
  exact key ⟨i, hi⟩
theorem look_ke {i : Nat} (hi : i < 10) : ∀ l : List Nat, (∀ j ∈ l, j < 10) → pLook (l.map (fun j => (⟨nmK j, (j : Int)⟩ : Ent))) (nmK i) = if i ∈ l then some (i : Int) else none
  | [], _ => rfl
  | y :: r, h => by
    have ih := look_ke hi r (fun j hj => h j (List.mem_cons_of_mem _ hj))
    rw [List.map_cons, pLook_cons]
    by_cases hy : nmK y = nmK i
    · have e := nmK_inj (h y List.mem_cons_self) hi hy
      subst e
      simp
    · rw [if_neg hy, ih]
      have hne : i ≠ y := fun e => hy (by rw [e])
      simp [hne]
theorem ke_file (f : Nat → List Int) (N g i : Nat) (hi : i < N) : fileAt (keD f N g) (i : Int) = ⟨sealF (f i), (sealF (f i)).length⟩ := by
  unfold fileAt keD
  simp [hi, flK]
theorem ke_get (f : Nat → List Int) (N g i : Nat) (hN : N ≤ 10) (hi : i < N) (hw : ∀ y ∈ f i, 0 ≤ y ∧ y ≤ 255) (cs : List Cf) : pGet (pCrash (keD f N g) 0 cs) (nmK i) = if i = g then ([], 15) else (f i, 0) := by
  have hd : pCrashDir (keD f N g) 0 = ((List.range N).filter (fun j => j != g)).map (fun j => ⟨nmK j, (j : Int)⟩) := rfl
  have hl := look_ke (i := i) (by omega) ((List.range N).filter (fun j => j != g)) (fun j hj => by
    have := List.mem_range.1 (List.mem_filter.1 hj).1
    omega)
  obtain ⟨ok1, ok2⟩ := nmK_ok i (by omega)
  by_cases hg : i = g
  · rw [if_pos hg]
    rw [if_neg (by simp [hg])] at hl
    have h1 := crash_gone (cs := cs) (S := keD f N g) (n := 0) (by rw [hd]; exact hl)
    unfold pGet pExists
    rw [h1]
    simp
  · rw [if_neg hg]
    rw [if_pos (List.mem_filter.2 ⟨List.mem_range.2 hi, by simpa using hg⟩)] at hl
    obtain ⟨h1, h2⟩ := crash_read (cs := cs) (S := keD f N g) (n := 0) (by rw [hd]; exact hl) (ke_file f N g i hi) ok1
    unfold pGet pExists
    rw [h1, h2, ok2]
    simp [open_seal hw]
end Go.Proofs.Ytehhafnjbkbmjaa.Disk

/- objstore: objects are kept: the walk. -/
namespace Go.Proofs.Ytehhafnjbkbmjaa.Disk
open Go Go.RowKit Go.Proofs.YtehhafnjbkbmjaaW.PrintWords Go.Proofs.YtehhafnjbkbmjaaW.PrintLast Go.Proofs.YtehhafnjbkbmjaaW.PrintMore Go.Proofs.Ytehhafnjbkbmjaa.PObjstoreAtomic
theorem brow_at {w : World} {ok : Nat → Prop} {A : Option Addr} {c : Nat} {l : List (List Int)} (h : Rd kBB w ok A c l) (j : Nat) (hj : j < l.length) : ∃ ad A3 c3, A = some ad ∧ w.cell? (ad.add j) = some (.slice A3 (l.getD j []).length c3) ∧ Rd kB w ok A3 c3 (l.getD j []) := by
  obtain ⟨_, _, hn⟩ := Kd.F_rows h.f
  obtain ⟨ad, hA, hc⟩ := hn (by omega)
  have e : l.getD j [] = l[j] := by simp [List.getD, hj]
  rw [e]
  obtain ⟨cs, hs, hfk, hcell⟩ := hc j l[j] (List.getElem?_eq_getElem hj)
  obtain ⟨A3, c3, rfl, h3, f3⟩ := Kd.FK_slice_open hfk
  have hs6 : kBB.sz = 1 := rfl
  rw [hs6] at hcell
  have := hcell 0 _ rfl
  rw [Nat.mul_one, Nat.add_zero] at this
  exact ⟨ad, A3, c3, hA, this, ⟨h3, f3⟩⟩
def KeRel (w : World) (d : Nat) (A : Option Addr) (c : Nat) (all : List (List Int)) (i : Value) (wx : World) : Prop :=
  ∃ (j : Nat) (F' : Nat → Prop) (L' : Lay), j ≤ all.length ∧ i = .int .i64 j ∧ (∀ k, k < j → (all.getD k []).length ≤ 300) ∧ Rep wx F' d L' (keK (fun k => all.getD k []) j) (Live (keK (fun k => all.getD k []) j)) ∧ Chg w (fun _ => False) wx F' ∧ Rd kBB wx (fun k => ¬ F' k) A c all
theorem s_keK {f : Nat → List Int} {N : Nat} (hN : N ≤ 10) (hw : ∀ j, ∀ y ∈ f j, 0 ≤ y ∧ y ≤ 255) : ∀ j, j ≤ N → (∀ k, k < j → (f k).length ≤ 300) → Sound (keK f j) (2400 * j)
  | 0, _, _ => Sound.new
  | j + 1, hj, hl => by
    have ih := s_keK (f := f) hN hw j (by omega) (fun k hk => hl k (by omega))
    have := ih.put (m := 400) (n := nmK j) (l := f j) (by decide) (by have := hl j (by omega); omega) (hw j)
    rw [ke_put f j (by omega)] at this
    rw [show 2400 * (j + 1) = 2400 * j + 400 * 6 by omega]
    exact this
theorem nm_run (w : World) (j : Nat) (hj : j < 10) : (convert 22 9 (.slice (some ⟨w.heap.size, 0, none⟩) 1 1)).run Try.prog (w.alloc (.cells #[.int .u8 (97 + (j : Int))] 5)) = .ok (.string (nmK j)) (w.alloc (.cells #[.int .u8 (97 + (j : Int))] 5)) := by
  have h := str_run (Rd.blk (ok := fun _ => True) (xs := [97 + (j : Int)]) (heap_alloc_new w (.cells #[.int .u8 (97 + (j : Int))] 5)) (by simp) trivial)
  have e : strOfNums [97 + (j : Int)] = nmK j := by
    unfold strOfNums nmK
    simp only [List.map_cons, List.map_nil]
    rw [show (97 + (j : Int)).toNat = 97 + j by omega]
  rw [e] at h
  exact h
theorem ke_next {w wx w2 w3 : World} {d j : Nat} {A : Option Addr} {c : Nat} {all : List (List Int)} {F' F2 F3 : Nat → Prop} {L3 : Lay} {o : Obj} (hj : j < all.length) (hl : ∀ k, k < j → (all.getD k []).length ≤ 300) (hx : (all.getD j []).length ≤ 300) (hc : Chg w (fun _ => False) wx F') (hrow : Rd kBB wx (fun k => ¬ F' k) A c all) (hc2 : Chg (wx.alloc o) F' w2 F2) (hc3 : Chg w2 F2 w3 F3) (hr : Rep w3 F3 d L3 (keK (fun k => all.getD k []) (j + 1)) (Live (keK (fun k => all.getD k []) (j + 1)))) :
    KeRel w d A c all (.int .i64 ((j : Int) + 1)) w3 := by
  have h := (chg_up hc2).trans hc3
  exact ⟨j + 1, F3, L3, by omega, by go_num, fun k hk => by
    by_cases e : k = j
    · rw [e]; exact hx
    · exact hl k (by omega), hr, hc.trans h, hrow.chg h⟩
theorem str_runs {w : World} {A : Option Addr} {c : Nat} {ok : Nat → Prop} {bs : List Int} (h : Rd kB w ok A c bs) (m : Nat) : (convert 22 9 (.slice A bs.length c)).run Try.prog (w.drewN m) = .ok (.string (strOfNums bs)) (w.drewN m) := str_run (h.move (w' := w.drewN m) (fun _ _ _ => rfl))
theorem ke_delete (w : World) (F : Nat → Prop) (d : Nat) (L : Lay) (S : PS) (B : Nat) (n : ByteArray) (o : Obj) (h : Rep w F d L S (Live S)) (hF : ∀ k, F k → k < w.heap.size) (hs : Sound S B) (hB : B + 100 ≤ 549755813888) :
    Calls Try.prog 22 #[.pointer (some ⟨d, 0, none⟩), .slice (some ⟨w.heap.size + 1, 0, none⟩) 1 1] ((w.alloc o).alloc (.cells #[.string n] 9)) fun e w' => e = .returned (.int .i64 (pDelete S [n]).2) ∧ ∃ F' L', Rep w' F' d L' (pDelete S [n]).1 (Live (pDelete S [n]).1) ∧ Chg w F w' F' := by
  have hb := heap_alloc_new (w.alloc o) (.cells #[.string n] 9)
  rw [show (w.alloc o).heap.size = w.heap.size + 1 by simp] at hb
  refine (Delete_calls ((w.alloc o).alloc (.cells #[.string n] 9)) F d L S B (some ⟨w.heap.size + 1, 0, none⟩) 1 [n] ((h.alloc _).alloc _) (fun k hk => by have := hF k hk; simp; omega) hs (by simpa using hB) (Rd.blkS (xs := [n]) hb (by simp) (fun e => by have := hF _ e; omega))).mono ?_
  rintro e w' ⟨q, F', L', h1, h2⟩
  exact ⟨q, F', L', h1, chg_up (chg_up h2)⟩
theorem Rep.drawN {w : World} {F : Nat → Prop} {d : Nat} {L : Lay} {S : PS} {X : Int → Prop} (h : Rep w F d L S X) (m : Nat) : Rep (w.drewN m) F d L S X := h.move (fun _ _ _ => rfl)
theorem Chg.drawN {a b : World} {F G : Nat → Prop} (h : Chg a F b G) (m : Nat) : Chg a F (b.drewN m) G := ⟨h.fr.drewN m, h.new, h.lt⟩
theorem Rd.drawN {α : Type} {dk : Kd α} {w : World} {ok : Nat → Prop} {A : Option Addr} {c : Nat} {xs : List α} (h : Rd dk w ok A c xs) (m : Nat) : Rd dk (w.drewN m) ok A c xs := h.move (fun _ _ _ => rfl)
def KeRel2 (w : World) (d N : Nat) (A : Option Addr) (c : Nat) (all : List (List Int)) (S : PS) (i : Value) (wx : World) : Prop :=
  ∃ (j : Nat) (F' : Nat → Prop) (L' : Lay), j ≤ N ∧ i = .int .i64 j ∧ Rep wx F' d L' S (Live S) ∧ Chg w (fun _ => False) wx F' ∧ Rd kBB wx (fun k => ¬ F' k) A c all
set_option maxHeartbeats 4000000 in
set_option maxRecDepth 100000 in
theorem keeps_walk (W : World) (a0 : Option Addr) (c0 : Nat) (all : List (List Int)) (hC0 : Kd.C kBB W a0 all.length all) (hc0 : all.length ≤ c0) (hw0 : ∀ x ∈ all, ∀ y ∈ x, 0 ≤ y ∧ y ≤ 255) (gone : Int) (hgn : gone ≤ 9223372036854775807) :
    Calls Try.prog 4 #[.slice a0 all.length c0, .int .i64 gone] W fun e w' => e = .returned (.bool true) ∧ Below W.heap.size W w' := by
  have V0 := Lib.hid (Rd.start (Kd.heap_slice _ (Kd.heap_int _)) hC0 hc0)
  clear hC0
  have HW := Lib.hid (show ∀ j, ∀ y ∈ all.getD j [], 0 ≤ y ∧ y ≤ 255 from fun j y hy => by
    by_cases hj : j < all.length
    · exact hw0 (all.getD j []) (by simp [List.getD, hj]) y hy
    · simp [List.getD, hj] at hy)
  clear hw0
  by_cases h1 : 10 < all.length
  · have t0 : decide ((10 : Int) < (all.length : Int)) = true := by simp; omega
    go_enter Try.func4, Try.ntmps4
    go_wp2_with (first | (go_at_call 11; refine (lives_calls _).mono ?_; rintro e w7 ⟨rfl, hb⟩; have B7 := Lib.hid hb; clear hb) | fail)
    go_ret
    exact ⟨rfl, B7.out⟩
  · have t0 : decide ((10 : Int) < (all.length : Int)) = false := by simp; omega
    have hN : all.length ≤ 10 := by omega
    clear h1
    go_enter Try.func4, Try.ntmps4
    go_wp2_with (first | (go_at_call 12; refine (New_calls _).mono ?_; rintro e w0 ⟨d, F0, L0, rfl, hr, hc⟩; have R0 := Lib.hid hr; have C0 := Lib.hid hc; clear hr hc) | fail)
    go_loopw [6] (fun i wx => KeRel W d a0 c0 all i wx) (fun i _ => all.length - (intOf i).toNat)
    case atStart => exact ⟨0, F0, L0, by omega, rfl, fun k hk => absurd hk (by omega), R0.out, C0.out, V0.out.chg C0.out⟩
    case round =>
      obtain ⟨j, F', L', hj, rfl, hlen, hr, hc, hrow⟩ := hrel
      have HL := Lib.hid hlen
      have HR := Lib.hid hr
      have HC := Lib.hid hc
      have HV := Lib.hid hrow
      clear hlen hr hc
      by_cases hlt : j < all.length
      · obtain ⟨ad, A3, c3, hA, hcell, hrow3⟩ := brow_at hrow j hlt
        clear hrow
        subst hA
        have HROW3 := Lib.hid hrow3
        clear hrow3
        obtain ⟨x, hx⟩ : ∃ x, x = all.getD j [] := ⟨_, rfl⟩
        have HX := Lib.hid hx
        rw [← hx] at hcell HROW3
        clear hx
        by_cases h3 : 300 < x.length
        · have t3 : decide ((300 : Int) < (x.length : Int)) = true := by simp; omega
          go_wp2_with (first | (go_at_call 11; refine (lives_calls _).mono ?_; rintro e w7 ⟨rfl, hb⟩; have B7 := Lib.hid (HC.out.fr.below hb); clear hb) | fail)
          go_ret
          exact ⟨rfl, B7.out.toBelow (Nat.le_refl _) (fun _ hk => hk.elim)⟩
        · have h3' : x.length ≤ 300 := by omega
          have t3 : decide ((300 : Int) < (x.length : Int)) = false := by simp; omega
          have hj10 : j < 10 := by omega
          have hcv := nm_run wr j hj10
          have hc2 := fun o => cell_alloc hcell o
          have HP := Lib.hid (show pPut (keK (fun k => all.getD k []) j) (nmK j) x = (keK (fun k => all.getD k []) (j + 1), 0) by rw [HX.out]; exact ke_put (fun k => all.getD k []) j hj10)
          have HP2 := Lib.hid (ke_again (fun k => all.getD k []) j hj10)
          have HS := Lib.hid (s_keK hN HW.out j hj HL.out)
          have HS2 := Lib.hid (s_keK hN HW.out (j + 1) hlt (fun k hk => by
            by_cases e : k = j
            · rw [e, ← HX.out]; exact h3'
            · exact HL.out k (by omega)))
          have HXL := Lib.hid (show x.length + 4 ≤ 400 by omega)
          have HXW := Lib.hid (show ∀ y ∈ x, 0 ≤ y ∧ y ≤ 255 by rw [HX.out]; exact HW.out j)
          have HB1 := Lib.hid (show 2400 * j + 400 * 6 ≤ 549755813888 by omega)
          have HB2 := Lib.hid (show 2400 * (j + 1) + 400 * 6 ≤ 549755813888 by omega)
          clear h3
          go_wp2_with (first
            | (go_at_call 13; have hz := R2.out; clear hz; refine (Put_calls _ F2 d L2 _ _ 400 (nmK j) none 0 [] R2.out C2.out.lt HS2.out (by decide) (by decide) HB2.out (by simp) (Rd.nil kB _ _)).mono ?_; rw [HP2.out]; rintro e w3 ⟨rfl, F3, L3, hr, hc⟩; have R3 := Lib.hid hr; have C3 := Lib.hid hc; clear hr hc R2)
            | (go_at_call 13; have hz := HP.out; clear hz; refine (Put_calls _ F' d L' _ _ 400 (nmK j) A3 c3 x (HR.out.alloc _) (fun k hk => by have := HC.out.lt k hk; simp; omega) HS.out (by decide) HXL.out HB1.out HXW.out (HROW3.out.below (Below.of_alloc' _ _))).mono ?_; rw [HP.out]; rintro e w2 ⟨rfl, F2, L2, hr, hc⟩; have R2 := Lib.hid hr; have C2 := Lib.hid hc; clear hr hc HP)
            | fail)
          go_roundw
          case rel => exact ke_next hlt HL.out (by rw [← HX.out]; exact h3') HC.out HV.out C2.out C3.out R3.out
          case measure => simp [intOf]; omega
      · clear hrow
        obtain rfl : j = all.length := by omega
        obtain ⟨g, HGI, HST⟩ : ∃ g : Nat, Hid (∀ i : Nat, i < all.length → (i = g ↔ (i : Int) = gone)) ∧ Hid ((0 ≤ gone ∧ gone < all.length ∧ gone = (g : Int)) ∨ (all.length ≤ g ∧ ¬ (0 ≤ gone ∧ gone < all.length))) := by
          by_cases hg : 0 ≤ gone ∧ gone < all.length
          · exact ⟨gone.toNat, fun i hi => by omega, .inl ⟨hg.1, hg.2, by omega⟩⟩
          · exact ⟨all.length, fun i hi => by omega, .inr ⟨Nat.le_refl _, hg⟩⟩
        have HS := Lib.hid (s_keK hN HW.out all.length (Nat.le_refl _) HL.out)
        have HBN := Lib.hid (show 2400 * all.length + 200 ≤ 549755813888 by omega)
        have HKD := Lib.hid (show Sound (keD (fun k => all.getD k []) all.length g) (2400 * all.length + 200) from by
          rcases HST.out with ⟨h1, h2, h3⟩ | ⟨h1, h2⟩
          · have := HS.out.delete (zs := [nmK g])
            rw [ke_del _ _ _ hN (by omega)] at this
            exact this
          · rw [← ke_none _ _ _ h1]
            exact HS.out.mono (by omega))
        obtain ⟨SC, hSC⟩ : ∃ SC, SC = pCrash (keD (fun k => all.getD k []) all.length g) 0 [] := ⟨_, rfl⟩
        have HSC := Lib.hid hSC
        have HSS := Lib.hid (show Sound SC (2400 * all.length + 200) by rw [hSC]; exact HKD.out.crash)
        have HGET := Lib.hid (show ∀ i, i < all.length → pGet SC (nmK i) = if i = g then ([], 15) else (all.getD i [], 0) by rw [hSC]; exact fun i hi => ke_get (fun k => all.getD k []) all.length g i hN hi (HW.out i) [])
        clear hSC
        rcases HST.out with ⟨h1, h2, h3⟩ | ⟨h1, h2⟩
        · subst h3
          have hg10 : g < 10 := by omega
          have hgl : g < all.length := by omega
          have hcv := nm_run wr g hg10
          have HD := Lib.hid (ke_del (fun k => all.getD k []) all.length g hN hgl)
          go_wp2_with (first
            | (go_at_call 15; refine (Crash_calls _ F2 d L2 _ _ 0 none 0 [] (Kd.C_nil _ _) R2.out HKD.out.good (Nat.le_trans (Nat.le_refl _) HBN.out)).mono ?_; rw [← HSC.out]; rintro e w3 ⟨rfl, F3, L3, hr, hc⟩; have R3 := Lib.hid hr; have C3 := Lib.hid (C2.out.trans hc); have V3 := Lib.hid (V2.out.chg hc); clear hr hc R2 V2)
            | (go_at_call 22; refine (ke_delete _ F' d L' _ _ (nmK g) _ HR.out HC.out.lt HS.out (by omega)).mono ?_; rw [HD.out]; rintro e w2 ⟨rfl, F2, L2, hr, hc⟩; have R2 := Lib.hid hr; have C2 := Lib.hid (HC.out.trans hc); have V2 := Lib.hid (HV.out.chg hc); clear hr hc)
            | fail)
          go_loopw [8] (fun i wx => KeRel2 W d all.length a0 c0 all SC i wx) (fun i _ => all.length - (intOf i).toNat)
          case atStart => exact ⟨0, F3, L3, by omega, rfl, R3.out, C3.out, V3.out⟩
          case round =>
            obtain ⟨i, F4, L4, hi, rfl, hr, hc, hrow⟩ := hrel
            have R4 := Lib.hid hr
            have C4 := Lib.hid hc
            have V4 := Lib.hid hrow
            clear hr hc
            by_cases hlt2 : i < all.length
            · obtain ⟨ad, A5, c5, hA, hcell, hrow5⟩ := brow_at hrow i hlt2
              clear hrow
              subst hA
              have V5 := Lib.hid hrow5
              obtain ⟨x, hx⟩ : ∃ x, x = all.getD i [] := ⟨_, rfl⟩
              have HX := Lib.hid hx
              rw [← hx] at hcell V5
              clear hx hrow5
              have hi10 : i < 10 := by omega
              have hcv := nm_run wr i hi10
              have hG := HGET.out i hlt2
              by_cases hig : i = g
              · rw [if_pos hig] at hG
                have HG := Lib.hid hG
                have e1 : ((i : Int) == (g : Int)) = true := by rw [beq_iff_eq]; exact (HGI.out i hlt2).1 hig
                have e2 : ((i : Int) != (g : Int)) = false := by simp [bne, e1]
                clear hig hG
                go_wp2_with (first
                  | (go_at_call 16; refine (get_str HG.out (Get_calls _ F4 d L4 SC _ (nmK i) (R4.out.alloc _) HSS.out.good (Nat.le_trans (Nat.le_refl _) HBN.out))).mono ?_; rintro e w5 ⟨A6, c6, rfl, hr, hf⟩; have R6 := Lib.hid ((R4.out.alloc _).fr hf (fun _ _ => id)); have C6 := Lib.hid ((C4.out.up _).fr2 hf); have V6 := Lib.hid ((V4.out.below (Below.of_alloc' _ _)).below (fr_below hf)); clear hf hr)
                  | fail)
                go_quiet (fail)
                go_wp2_with fail
                go_roundw
                case rel => exact ⟨i + 1, F4, L4, by omega, by go_num, R6.out.drawN _, C6.out.drawN _, V6.out.drawN _⟩
                case measure => simp [intOf]; omega
              · rw [if_neg hig, ← HX.out] at hG
                have HG := Lib.hid hG
                have e1 : ((i : Int) == (g : Int)) = false := by rw [beq_eq_false_iff_ne]; exact fun e => hig ((HGI.out i hlt2).2 e)
                have e2 : ((i : Int) != (g : Int)) = true := by simp [bne, e1]
                clear hig hG
                go_wp2_with (first
                  | (go_at_call 16; refine (get_str HG.out (Get_calls _ F4 d L4 SC _ (nmK i) (R4.out.alloc _) HSS.out.good (Nat.le_trans (Nat.le_refl _) HBN.out))).mono ?_; rintro e w5 ⟨A6, c6, rfl, hr, hf⟩; have R6 := Lib.hid ((R4.out.alloc _).fr hf (fun _ _ => id)); have C6 := Lib.hid ((C4.out.up _).fr2 hf); have V6 := Lib.hid ((V4.out.below (Below.of_alloc' _ _)).below (fr_below hf)); have hcell5 := cell_below (fr_below hf) (cell_alloc hcell (.cells #[.int .u8 (97 + (i : Int))] 5)); have cvs := str_runs hr; have cvt := str_runs ((V5.out.below (Below.of_alloc' _ _)).below (fr_below hf)); obtain ⟨s, hs⟩ : ∃ s, s = strOfNums x := ⟨_, rfl⟩; rw [← hs] at cvs cvt; clear hf hr hs)
                  | fail)
                go_quiet (fail)
                go_wp2_with fail
                go_roundw
                case rel => exact ⟨i + 1, F4, L4, by omega, by go_num, R6.out.drawN _, C6.out.drawN _, V6.out.drawN _⟩
                case measure => simp [intOf]; omega
            · clear hrow
              go_wp2_with (first | (go_at_call 11; refine (lives_calls _).mono ?_; rintro e w7 ⟨rfl, hb⟩; have B7 := Lib.hid (C4.out.fr.below hb); clear hb) | fail)
              go_ret
              exact ⟨rfl, B7.out.toBelow (Nat.le_refl _) (fun _ hk => hk.elim)⟩
        · have R2 := Lib.hid (show Rep wr F' d L' (keD (fun k => all.getD k []) all.length g) (Live (keD (fun k => all.getD k []) all.length g)) by rw [← ke_none _ _ _ h1]; exact HR.out)
          have F2e : ∃ F2, F2 = F' := ⟨_, rfl⟩
          obtain ⟨F2, hF2⟩ := F2e
          obtain ⟨L2, hL2⟩ : ∃ L2, L2 = L' := ⟨_, rfl⟩
          rw [← hF2] at R2 HC HV
          rw [← hL2] at R2
          clear hF2 hL2
          have C2 := HC
          have V2 := HV
          by_cases h0 : 0 ≤ gone
          · have e0 : ¬ gone < all.length := fun e => h2 ⟨h0, e⟩
            clear h1 h2
            go_wp2_with (first
              | (go_at_call 15; refine (Crash_calls _ F2 d L2 _ _ 0 none 0 [] (Kd.C_nil _ _) R2.out HKD.out.good (Nat.le_trans (Nat.le_refl _) HBN.out)).mono ?_; rw [← HSC.out]; rintro e w3 ⟨rfl, F3, L3, hr, hc⟩; have R3 := Lib.hid hr; have C3 := Lib.hid (C2.out.trans hc); have V3 := Lib.hid (V2.out.chg hc); clear hr hc R2 V2)
              | fail)
            go_loopw [8] (fun i wx => KeRel2 W d all.length a0 c0 all SC i wx) (fun i _ => all.length - (intOf i).toNat)
            case atStart => exact ⟨0, F3, L3, by omega, rfl, R3.out, C3.out, V3.out⟩
            case round =>
              obtain ⟨i, F4, L4, hi, rfl, hr, hc, hrow⟩ := hrel
              have R4 := Lib.hid hr
              have C4 := Lib.hid hc
              have V4 := Lib.hid hrow
              clear hr hc
              by_cases hlt2 : i < all.length
              · obtain ⟨ad, A5, c5, hA, hcell, hrow5⟩ := brow_at hrow i hlt2
                clear hrow
                subst hA
                have V5 := Lib.hid hrow5
                obtain ⟨x, hx⟩ : ∃ x, x = all.getD i [] := ⟨_, rfl⟩
                have HX := Lib.hid hx
                rw [← hx] at hcell V5
                clear hx hrow5
                have hi10 : i < 10 := by omega
                have hcv := nm_run wr i hi10
                have hG := HGET.out i hlt2
                by_cases hig : i = g
                · rw [if_pos hig] at hG
                  have HG := Lib.hid hG
                  have e1 : ((i : Int) == gone) = true := by rw [beq_iff_eq]; exact (HGI.out i hlt2).1 hig
                  have e2 : ((i : Int) != gone) = false := by simp [bne, e1]
                  clear hig hG
                  go_wp2_with (first
                    | (go_at_call 16; refine (get_str HG.out (Get_calls _ F4 d L4 SC _ (nmK i) (R4.out.alloc _) HSS.out.good (Nat.le_trans (Nat.le_refl _) HBN.out))).mono ?_; rintro e w5 ⟨A6, c6, rfl, hr, hf⟩; have R6 := Lib.hid ((R4.out.alloc _).fr hf (fun _ _ => id)); have C6 := Lib.hid ((C4.out.up _).fr2 hf); have V6 := Lib.hid ((V4.out.below (Below.of_alloc' _ _)).below (fr_below hf)); clear hf hr)
                    | fail)
                  go_quiet (fail)
                  go_wp2_with fail
                  go_roundw
                  case rel => exact ⟨i + 1, F4, L4, by omega, by go_num, R6.out.drawN _, C6.out.drawN _, V6.out.drawN _⟩
                  case measure => simp [intOf]; omega
                · rw [if_neg hig, ← HX.out] at hG
                  have HG := Lib.hid hG
                  have e1 : ((i : Int) == gone) = false := by rw [beq_eq_false_iff_ne]; exact fun e => hig ((HGI.out i hlt2).2 e)
                  have e2 : ((i : Int) != gone) = true := by simp [bne, e1]
                  clear hig hG
                  go_wp2_with (first
                    | (go_at_call 16; refine (get_str HG.out (Get_calls _ F4 d L4 SC _ (nmK i) (R4.out.alloc _) HSS.out.good (Nat.le_trans (Nat.le_refl _) HBN.out))).mono ?_; rintro e w5 ⟨A6, c6, rfl, hr, hf⟩; have R6 := Lib.hid ((R4.out.alloc _).fr hf (fun _ _ => id)); have C6 := Lib.hid ((C4.out.up _).fr2 hf); have V6 := Lib.hid ((V4.out.below (Below.of_alloc' _ _)).below (fr_below hf)); have hcell5 := cell_below (fr_below hf) (cell_alloc hcell (.cells #[.int .u8 (97 + (i : Int))] 5)); have cvs := str_runs hr; have cvt := str_runs ((V5.out.below (Below.of_alloc' _ _)).below (fr_below hf)); obtain ⟨s, hs⟩ : ∃ s, s = strOfNums x := ⟨_, rfl⟩; rw [← hs] at cvs cvt; clear hf hr hs)
                    | fail)
                  go_quiet (fail)
                  go_wp2_with fail
                  go_roundw
                  case rel => exact ⟨i + 1, F4, L4, by omega, by go_num, R6.out.drawN _, C6.out.drawN _, V6.out.drawN _⟩
                  case measure => simp [intOf]; omega
              · clear hrow
                go_wp2_with (first | (go_at_call 11; refine (lives_calls _).mono ?_; rintro e w7 ⟨rfl, hb⟩; have B7 := Lib.hid (C4.out.fr.below hb); clear hb) | fail)
                go_ret
                exact ⟨rfl, B7.out.toBelow (Nat.le_refl _) (fun _ hk => hk.elim)⟩

          · clear h1 h2
            go_wp2_with (first
              | (go_at_call 15; refine (Crash_calls _ F2 d L2 _ _ 0 none 0 [] (Kd.C_nil _ _) R2.out HKD.out.good (Nat.le_trans (Nat.le_refl _) HBN.out)).mono ?_; rw [← HSC.out]; rintro e w3 ⟨rfl, F3, L3, hr, hc⟩; have R3 := Lib.hid hr; have C3 := Lib.hid (C2.out.trans hc); have V3 := Lib.hid (V2.out.chg hc); clear hr hc R2 V2)
              | fail)
            go_loopw [8] (fun i wx => KeRel2 W d all.length a0 c0 all SC i wx) (fun i _ => all.length - (intOf i).toNat)
            case atStart => exact ⟨0, F3, L3, by omega, rfl, R3.out, C3.out, V3.out⟩
            case round =>
              obtain ⟨i, F4, L4, hi, rfl, hr, hc, hrow⟩ := hrel
              have R4 := Lib.hid hr
              have C4 := Lib.hid hc
              have V4 := Lib.hid hrow
              clear hr hc
              by_cases hlt2 : i < all.length
              · obtain ⟨ad, A5, c5, hA, hcell, hrow5⟩ := brow_at hrow i hlt2
                clear hrow
                subst hA
                have V5 := Lib.hid hrow5
                obtain ⟨x, hx⟩ : ∃ x, x = all.getD i [] := ⟨_, rfl⟩
                have HX := Lib.hid hx
                rw [← hx] at hcell V5
                clear hx hrow5
                have hi10 : i < 10 := by omega
                have hcv := nm_run wr i hi10
                have hG := HGET.out i hlt2
                by_cases hig : i = g
                · rw [if_pos hig] at hG
                  have HG := Lib.hid hG
                  have e1 : ((i : Int) == gone) = true := by rw [beq_iff_eq]; exact (HGI.out i hlt2).1 hig
                  have e2 : ((i : Int) != gone) = false := by simp [bne, e1]
                  clear hig hG
                  go_wp2_with (first
                    | (go_at_call 16; refine (get_str HG.out (Get_calls _ F4 d L4 SC _ (nmK i) (R4.out.alloc _) HSS.out.good (Nat.le_trans (Nat.le_refl _) HBN.out))).mono ?_; rintro e w5 ⟨A6, c6, rfl, hr, hf⟩; have R6 := Lib.hid ((R4.out.alloc _).fr hf (fun _ _ => id)); have C6 := Lib.hid ((C4.out.up _).fr2 hf); have V6 := Lib.hid ((V4.out.below (Below.of_alloc' _ _)).below (fr_below hf)); clear hf hr)
                    | fail)
                  go_quiet (fail)
                  go_wp2_with fail
                  go_roundw
                  case rel => exact ⟨i + 1, F4, L4, by omega, by go_num, R6.out.drawN _, C6.out.drawN _, V6.out.drawN _⟩
                  case measure => simp [intOf]; omega
                · rw [if_neg hig, ← HX.out] at hG
                  have HG := Lib.hid hG
                  have e1 : ((i : Int) == gone) = false := by rw [beq_eq_false_iff_ne]; exact fun e => hig ((HGI.out i hlt2).2 e)
                  have e2 : ((i : Int) != gone) = true := by simp [bne, e1]
                  clear hig hG
                  go_wp2_with (first
                    | (go_at_call 16; refine (get_str HG.out (Get_calls _ F4 d L4 SC _ (nmK i) (R4.out.alloc _) HSS.out.good (Nat.le_trans (Nat.le_refl _) HBN.out))).mono ?_; rintro e w5 ⟨A6, c6, rfl, hr, hf⟩; have R6 := Lib.hid ((R4.out.alloc _).fr hf (fun _ _ => id)); have C6 := Lib.hid ((C4.out.up _).fr2 hf); have V6 := Lib.hid ((V4.out.below (Below.of_alloc' _ _)).below (fr_below hf)); have hcell5 := cell_below (fr_below hf) (cell_alloc hcell (.cells #[.int .u8 (97 + (i : Int))] 5)); have cvs := str_runs hr; have cvt := str_runs ((V5.out.below (Below.of_alloc' _ _)).below (fr_below hf)); obtain ⟨s, hs⟩ : ∃ s, s = strOfNums x := ⟨_, rfl⟩; rw [← hs] at cvs cvt; clear hf hr hs)
                    | fail)
                  go_quiet (fail)
                  go_wp2_with fail
                  go_roundw
                  case rel => exact ⟨i + 1, F4, L4, by omega, by go_num, R6.out.drawN _, C6.out.drawN _, V6.out.drawN _⟩
                  case measure => simp [intOf]; omega
              · clear hrow
                go_wp2_with (first | (go_at_call 11; refine (lives_calls _).mono ?_; rintro e w7 ⟨rfl, hb⟩; have B7 := Lib.hid (C4.out.fr.below hb); clear hb) | fail)
                go_ret
                exact ⟨rfl, B7.out.toBelow (Nat.le_refl _) (fun _ hk => hk.elim)⟩
end Go.Proofs.Ytehhafnjbkbmjaa.Disk

/- objstore: Put is atomic, plain. -/
namespace Go.Proofs.Ytehhafnjbkbmjaa.Disk
open Go Go.RowKit Go.Proofs.YtehhafnjbkbmjaaW.PrintWords Go.Proofs.YtehhafnjbkbmjaaW.PrintLast Go.Proofs.YtehhafnjbkbmjaaW.PrintMore Go.Proofs.Ytehhafnjbkbmjaa.PObjstoreAtomic
abbrev sO : ByteArray := ⟨#[111, 116, 104, 101, 114]⟩
abbrev sN : ByteArray := ⟨#[110, 101, 119]⟩
abbrev sT : ByteArray := ⟨#[116, 109, 112, 45, 110, 101, 119]⟩
abbrev sE : ByteArray := ⟨#[]⟩
def flS (l : List Int) : Fil := ⟨sealF l, (sealF l).length⟩
def at1 (o : List Int) : PS := ⟨[flS o], [⟨sO, 0⟩], [⟨sO, 0⟩], [], false, 0⟩
theorem at1_eq (o : List Int) : pPut pNew sO o = (at1 o, 0) := by kernel_rfl
/-- The states of Put under a limit. -/
def ax0 (o : List Int) (m : Int) : PS := ⟨[flS o], [⟨sO, 0⟩], [⟨sO, 0⟩], [], true, m⟩
def ax1 (o : List Int) (m : Int) : PS := ⟨[flS o, ⟨[], 0⟩], [⟨sO, 0⟩, ⟨sT, 1⟩], [⟨sO, 0⟩], [⟨1, sT, sE, 1⟩], true, m⟩
def ax2 (o b : List Int) (m : Int) : PS := ⟨[flS o, ⟨sealF b, 0⟩], [⟨sO, 0⟩, ⟨sT, 1⟩], [⟨sO, 0⟩], [⟨1, sT, sE, 1⟩], true, m⟩
def ax3 (o b : List Int) (m : Int) : PS := ⟨[flS o, flS b], [⟨sO, 0⟩, ⟨sT, 1⟩], [⟨sO, 0⟩], [⟨1, sT, sE, 1⟩], true, m⟩
def ax4 (o b : List Int) (m : Int) : PS := ⟨[flS o, flS b], [⟨sN, 1⟩, ⟨sO, 0⟩], [⟨sO, 0⟩], [⟨1, sT, sE, 1⟩, ⟨2, sT, sN, 0⟩], true, m⟩
def ax5 (o b : List Int) (m : Int) : PS := ⟨[flS o, flS b], [⟨sN, 1⟩, ⟨sO, 0⟩], [⟨sN, 1⟩, ⟨sO, 0⟩], [], true, m⟩
def ay5 (o b : List Int) : PS := ⟨[flS o, flS b], [⟨sN, 1⟩, ⟨sO, 0⟩], [⟨sN, 1⟩, ⟨sO, 0⟩], [], false, 0⟩
theorem chk_ok {m : Int} (h : 0 < m) (l : List ByteArray) : pCheck true m l = okAll l := by
  unfold pCheck
  rw [if_neg]
  simp
  omega
theorem chk_no (l : List ByteArray) : pCheck true 0 l = 16 := by
  unfold pCheck
  rw [if_pos]
  simp
theorem ax_create (o : List Int) {m : Int} (h : 0 < m) : pCreate (ax0 o m) sT = (ax1 o (m - 1), 0) := by
  unfold pCreate
  rw [if_pos (show pCheck (ax0 o m).lim (ax0 o m).left [sT] = 0 from (chk_ok h _).trans (by kernel_rfl))]
  kernel_rfl
theorem ax_append (o b : List Int) {m : Int} (h : 0 < m) : pAppend (ax1 o m) sT (sealF b) = (ax2 o b (m - 1), 0) := by
  unfold pAppend
  rw [if_pos (show pCheck (ax1 o m).lim (ax1 o m).left [sT] = 0 from (chk_ok h _).trans (by kernel_rfl))]
  kernel_rfl
theorem ax_sync (o b : List Int) {m : Int} (h : 0 < m) : pSync (ax2 o b m) sT = (ax3 o b (m - 1), 0) := by
  unfold pSync
  rw [if_pos (show pCheck (ax2 o b m).lim (ax2 o b m).left [sT] = 0 from (chk_ok h _).trans (by kernel_rfl))]
  kernel_rfl
theorem ax_rename (o b : List Int) {m : Int} (h : 0 < m) : pRename (ax3 o b m) sT sN = (ax4 o b (m - 1), 0) := by
  unfold pRename
  rw [if_pos (show pCheck (ax3 o b m).lim (ax3 o b m).left [sT, sN] = 0 from (chk_ok h _).trans (by kernel_rfl))]
  kernel_rfl
theorem ax_syncDir (o b : List Int) {m : Int} (h : 0 < m) : pSyncDir (ax4 o b m) = (ax5 o b (m - 1), 0) := by
  unfold pSyncDir
  rw [if_pos (show pCheck (ax4 o b m).lim (ax4 o b m).left [] = 0 from (chk_ok h _).trans (by kernel_rfl))]
  kernel_rfl
theorem ax_clear (o : List Int) (m : Int) : pClear (ax0 o m) sT = (ax0 o m, 0) := by kernel_rfl
theorem ax_put (o b : List Int) (m : Int) : pPut (ax0 o m) sN b = runTo (ax0 o m) sT sN (sealF b) 6 := by kernel_rfl
theorem runTo_step {S S1 S2 : PS} {t n : ByteArray} {bs : List Int} {j : Nat} {e : Int} (h : runTo S t n bs j = (S1, 0)) (hs : stepF t n bs j S1 = (S2, e)) : runTo S t n bs (j + 1) = (S2, e) := by
  rw [runTo_go (by rw [h]), h]
  exact hs
theorem runTo_halt {S S1 : PS} {t n : ByteArray} {bs : List Int} {j m : Nat} {e : Int} (h : runTo S t n bs j = (S1, e)) (he : e ≠ 0) (hj : j ≤ m) : runTo S t n bs m = (S1, e) := by
  have := runTo_stop (S := S) (t := t) (n := n) (bs := bs) (j := j) (by rw [h]; exact he) (m - j)
  rw [show j + (m - j) = m by omega, h] at this
  exact this
/-- What a limited Put leaves. -/
def AtOut (o b : List Int) (r : PS × Int) : Prop :=
  r.2 ≠ 0 ∧ (r.1 = ax0 o 0 ∨ r.1 = ax1 o 0 ∨ r.1 = ax2 o b 0 ∨ r.1 = ax3 o b 0 ∨ r.1 = ax4 o b 0) ∨ (r.2 = 0 ∧ ((∃ m, r.1 = ax5 o b m) ∨ r.1 = ay5 o b))
theorem at_out (o b : List Int) (m : Int) : AtOut o b (pPut (pFail (at1 o) m) sN b) := by
  by_cases h0 : m < 0
  · have e : pFail (at1 o) m = at1 o := by
      unfold pFail at1
      rw [if_pos h0]
      simp
      omega
    rw [e]
    have e2 : pPut (at1 o) sN b = (ay5 o b, 0) := by kernel_rfl
    rw [e2]
    exact .inr ⟨rfl, .inr rfl⟩
  · have e : pFail (at1 o) m = ax0 o m := by
      unfold pFail at1 ax0
      rw [if_neg h0]
      simp
      omega
    rw [e, ax_put]
    have r1 : runTo (ax0 o m) sT sN (sealF b) 1 = (ax0 o m, 0) := runTo_step (j := 0) rfl (ax_clear o m)
    by_cases h1 : m = 0
    · subst h1
      have r2 := runTo_step r1 (show stepF sT sN (sealF b) 1 (ax0 o 0) = (ax0 o 0, 16) by kernel_rfl)
      rw [runTo_halt r2 (by decide) (by decide)]
      exact .inl ⟨show (16 : Int) ≠ 0 by decide, .inl rfl⟩
    have r2 := runTo_step r1 (show stepF sT sN (sealF b) 1 (ax0 o m) = (ax1 o (m - 1), 0) from ax_create o (by omega))
    by_cases h2 : m = 1
    · subst h2
      have r3 := runTo_step r2 (show stepF sT sN (sealF b) 2 (ax1 o (1 - 1)) = (ax1 o 0, 16) by kernel_rfl)
      rw [runTo_halt r3 (by decide) (by decide)]
      exact .inl ⟨show (16 : Int) ≠ 0 by decide, .inr (.inl rfl)⟩
    have r3 := runTo_step r2 (show stepF sT sN (sealF b) 2 (ax1 o (m - 1)) = (ax2 o b (m - 1 - 1), 0) from ax_append o b (by omega))
    by_cases h3 : m = 2
    · subst h3
      have r4 := runTo_step r3 (show stepF sT sN (sealF b) 3 (ax2 o b (2 - 1 - 1)) = (ax2 o b 0, 16) by kernel_rfl)
      rw [runTo_halt r4 (by decide) (by decide)]
      exact .inl ⟨show (16 : Int) ≠ 0 by decide, .inr (.inr (.inl rfl))⟩
    have r4 := runTo_step r3 (show stepF sT sN (sealF b) 3 (ax2 o b (m - 1 - 1)) = (ax3 o b (m - 1 - 1 - 1), 0) from ax_sync o b (by omega))
    by_cases h4 : m = 3
    · subst h4
      have r5 := runTo_step r4 (show stepF sT sN (sealF b) 4 (ax3 o b (3 - 1 - 1 - 1)) = (ax3 o b 0, 16) by kernel_rfl)
      rw [runTo_halt r5 (by decide) (by decide)]
      exact .inl ⟨show (16 : Int) ≠ 0 by decide, .inr (.inr (.inr (.inl rfl)))⟩
    have r5 := runTo_step r4 (show stepF sT sN (sealF b) 4 (ax3 o b (m - 1 - 1 - 1)) = (ax4 o b (m - 1 - 1 - 1 - 1), 0) from ax_rename o b (by omega))
    by_cases h5 : m = 4
    · subst h5
      have r6 := runTo_step r5 (show stepF sT sN (sealF b) 5 (ax4 o b (4 - 1 - 1 - 1 - 1)) = (ax4 o b 0, 16) by kernel_rfl)
      rw [r6]
      exact .inl ⟨show (16 : Int) ≠ 0 by decide, .inr (.inr (.inr (.inr rfl)))⟩
    have r6 := runTo_step r5 (show stepF sT sN (sealF b) 5 (ax4 o b (m - 1 - 1 - 1 - 1)) = (ax5 o b (m - 1 - 1 - 1 - 1 - 1), 0) from ax_syncDir o b (by omega))
    rw [r6]
    exact .inr ⟨rfl, .inl ⟨_, rfl⟩⟩
/-! ### behind the crash -/
def ad2 (o t : List Int) : PS := ⟨[flS o, ⟨t, t.length⟩], [⟨sO, 0⟩, ⟨sT, 1⟩], [⟨sO, 0⟩, ⟨sT, 1⟩], [], false, 0⟩
def ad3 (o b : List Int) : PS := ⟨[flS b, flS o], [⟨sN, 0⟩, ⟨sO, 1⟩], [⟨sN, 0⟩, ⟨sO, 1⟩], [], false, 0⟩
def ae2 (o t : List Int) : PS := ⟨[flS o, ⟨t, t.length⟩], [⟨sO, 0⟩], [⟨sO, 0⟩], [], false, 0⟩
theorem left_flS (l : List Int) (c : Cf) : pLeft (flS l) c = sealF l := left_full
theorem crash_dir1 {S : PS} {n : Int} {cs : List Cf} {o : List Int} (hd : pCrashDir S n = [⟨sO, 0⟩]) (h0 : fileAt S 0 = flS o) : pCrash S n cs = at1 o := by
  unfold pCrash newFiles newDir
  rw [hd]
  simp only [List.zipIdx_cons, List.zipIdx_nil, List.map_cons, List.map_nil, List.length_cons, List.length_nil, List.take_succ_cons, List.take_zero, h0, left_flS]
  rfl
theorem crash_dir2 {S : PS} {n : Int} {cs : List Cf} {o : List Int} (hd : pCrashDir S n = [⟨sO, 0⟩, ⟨sT, 1⟩]) (h0 : fileAt S 0 = flS o) : pCrash S n cs = ad2 o (pLeft (fileAt S 1) (cfAt cs 1)) := by
  unfold pCrash newFiles newDir
  rw [hd]
  simp only [List.zipIdx_cons, List.zipIdx_nil, List.map_cons, List.map_nil, List.length_cons, List.length_nil, List.take_succ_cons, List.take_zero, h0, left_flS]
  rfl
theorem crash_dir3 {S : PS} {n : Int} {cs : List Cf} {o b : List Int} (hd : pCrashDir S n = [⟨sN, 1⟩, ⟨sO, 0⟩]) (h0 : fileAt S 0 = flS o) (h1 : fileAt S 1 = flS b) : pCrash S n cs = ad3 o b := by
  unfold pCrash newFiles newDir
  rw [hd]
  simp only [List.zipIdx_cons, List.zipIdx_nil, List.map_cons, List.map_nil, List.length_cons, List.length_nil, List.take_succ_cons, List.take_zero, h0, h1, left_flS]
  rfl
theorem take1 {α : Type} {x : α} (n : Nat) : [x].take n = [] ∨ [x].take n = [x] := by
  cases n with
  | zero => exact .inl rfl
  | succ n => exact .inr (by simp)
theorem take2 {α : Type} {x y : α} (n : Nat) : [x, y].take n = [] ∨ [x, y].take n = [x] ∨ [x, y].take n = [x, y] := by
  match n with
  | 0 => exact .inl rfl
  | 1 => exact .inr (.inl rfl)
  | n + 2 => exact .inr (.inr (by simp))
/-- The three states behind the crash; the put has failed, or the object is whole. -/
theorem at_crash {o b : List Int} {r : PS × Int} (h : AtOut o b r) (n : Int) (cs : List Cf) : (r.2 ≠ 0 ∧ (pCrash r.1 n cs = at1 o ∨ ∃ t, pCrash r.1 n cs = ad2 o t)) ∨ pCrash r.1 n cs = ad3 o b := by
  obtain ⟨S, e⟩ := r
  rcases h with ⟨he, h⟩ | ⟨_, h⟩
  · simp only at he h ⊢
    rcases h with rfl | rfl | rfl | rfl | rfl
    · exact .inl ⟨he, .inl (crash_dir1 (by unfold pCrashDir ax0; simp) rfl)⟩
    · rcases take1 (x := (⟨1, sT, sE, 1⟩ : Opn)) n.toNat with ht | ht
      · exact .inl ⟨he, .inl (crash_dir1 (by unfold pCrashDir ax1; simp only [ht]; rfl) rfl)⟩
      · exact .inl ⟨he, .inr ⟨_, crash_dir2 (by unfold pCrashDir ax1; simp only [ht]; kernel_rfl) rfl⟩⟩
    · rcases take1 (x := (⟨1, sT, sE, 1⟩ : Opn)) n.toNat with ht | ht
      · exact .inl ⟨he, .inl (crash_dir1 (by unfold pCrashDir ax2; simp only [ht]; rfl) rfl)⟩
      · exact .inl ⟨he, .inr ⟨_, crash_dir2 (by unfold pCrashDir ax2; simp only [ht]; kernel_rfl) rfl⟩⟩
    · rcases take1 (x := (⟨1, sT, sE, 1⟩ : Opn)) n.toNat with ht | ht
      · exact .inl ⟨he, .inl (crash_dir1 (by unfold pCrashDir ax3; simp only [ht]; rfl) rfl)⟩
      · exact .inl ⟨he, .inr ⟨_, crash_dir2 (by unfold pCrashDir ax3; simp only [ht]; kernel_rfl) rfl⟩⟩
    · rcases take2 (x := (⟨1, sT, sE, 1⟩ : Opn)) (y := ⟨2, sT, sN, 0⟩) n.toNat with ht | ht | ht
      · exact .inl ⟨he, .inl (crash_dir1 (by unfold pCrashDir ax4; simp only [ht]; rfl) rfl)⟩
      · exact .inl ⟨he, .inr ⟨_, crash_dir2 (by unfold pCrashDir ax4; simp only [ht]; kernel_rfl) rfl⟩⟩
      · exact .inr (crash_dir3 (by unfold pCrashDir ax4; simp only [ht]; kernel_rfl) rfl rfl)
  · simp only at h ⊢
    rcases h with ⟨m, rfl⟩ | rfl
    · exact .inr (crash_dir3 (by unfold pCrashDir ax5; simp) rfl rfl)
    · exact .inr (crash_dir3 (by unfold pCrashDir ay5; simp) rfl rfl)
/-- What the law looks at, behind the crash. -/
structure AtSeen (o : List Int) (g : List Int) (ge pe : Int) (l : List ByteArray) (b : List Int) (S4 S5 : PS) : Prop where
  other : pGet S4 sO = (o, 0)
  new : pGet S4 sN = (g, ge)
  ex : pExists S4 sN = decide (ge = 0)
  rm : pRemoveAll S4 (pTmps S4) = (S5, 0)
  l4 : pObjs S4 = l
  l5 : pObjs S5 = l
  n5 : pDirNames S5 = l
  put : (pPut S5 sN b).2 = pe
theorem get_of {S : PS} {n : ByteArray} {o : List Int} (he : pExists S n = true) (hr : pRead S n = (sealF o, 0)) (hw : ∀ y ∈ o, 0 ≤ y ∧ y ≤ 255) : pGet S n = (o, 0) := by
  unfold pGet
  rw [he, hr]
  simp [open_seal hw]
theorem seen1 (o b : List Int) (ho : ∀ y ∈ o, 0 ≤ y ∧ y ≤ 255) : AtSeen o [] 15 0 [sO] b (at1 o) (at1 o) :=
  ⟨get_of (by kernel_rfl) (by kernel_rfl) ho, by kernel_rfl, by kernel_rfl, by kernel_rfl, by kernel_rfl, by kernel_rfl, by kernel_rfl, by kernel_rfl⟩
theorem seen2 (o t b : List Int) (ho : ∀ y ∈ o, 0 ≤ y ∧ y ≤ 255) : AtSeen o [] 15 0 [sO] b (ad2 o t) (ae2 o t) :=
  ⟨get_of (by kernel_rfl) (by kernel_rfl) ho, by kernel_rfl, by kernel_rfl, by kernel_rfl, by kernel_rfl, by kernel_rfl, by kernel_rfl, by kernel_rfl⟩
theorem seen3 (o b : List Int) (ho : ∀ y ∈ o, 0 ≤ y ∧ y ≤ 255) (hb : ∀ y ∈ b, 0 ≤ y ∧ y ≤ 255) : AtSeen o b 0 9 [sN, sO] b (ad3 o b) (ad3 o b) :=
  ⟨get_of (by kernel_rfl) (by kernel_rfl) ho, get_of (by kernel_rfl) (by kernel_rfl) hb, by kernel_rfl, by kernel_rfl, by kernel_rfl, by kernel_rfl, by kernel_rfl, by kernel_rfl⟩
theorem at_seen (o b : List Int) (m n : Int) (cs : List Cf) (ho : ∀ y ∈ o, 0 ≤ y ∧ y ≤ 255) (hb : ∀ y ∈ b, 0 ≤ y ∧ y ≤ 255) :
    ((pPut (pFail (at1 o) m) sN b).2 ≠ 0 ∧ ∃ S5, AtSeen o [] 15 0 [sO] b (pCrash (pPut (pFail (at1 o) m) sN b).1 n cs) S5) ∨ ∃ S5, AtSeen o b 0 9 [sN, sO] b (pCrash (pPut (pFail (at1 o) m) sN b).1 n cs) S5 := by
  rcases at_crash (at_out o b m) n cs with ⟨he, h | ⟨t, h⟩⟩ | h
  · exact .inl ⟨he, _, h ▸ seen1 o b ho⟩
  · exact .inl ⟨he, _, h ▸ seen2 o t b ho⟩
  · exact .inr ⟨_, h ▸ seen3 o b ho hb⟩
end Go.Proofs.Ytehhafnjbkbmjaa.Disk

/- objstore: Put is atomic: the walk. -/
namespace Go.Proofs.Ytehhafnjbkbmjaa.Disk
open Go Go.RowKit Go.Proofs.YtehhafnjbkbmjaaW.PrintWords Go.Proofs.YtehhafnjbkbmjaaW.PrintLast Go.Proofs.YtehhafnjbkbmjaaW.PrintMore Go.Proofs.Ytehhafnjbkbmjaa.PObjstoreAtomic
theorem texts_same (w : World) (A A' : Option Addr) (c c' : Nat) (l : List ByteArray) (hl : l = [sO] ∨ l = [sN, sO]) (ok ok' : Nat → Prop) (h : Rd kS w ok A c l) (h' : Rd kS w ok' A' c' l) :
    Calls Try.prog 20 #[.slice A l.length c, .slice A' l.length c'] w fun e w' => e = .returned (.bool true) ∧ Drawn0 w w' := by
  refine laminalaw21_texts.calls 10 A c l A' c' l true w h.now h.le h'.now h'.le ?_
  rcases hl with rfl | rfl <;> kernel_rfl
theorem objs_calls (w : World) (F : Nat → Prop) (d : Nat) (L : Lay) (S : PS) (B : Nat) (l : List ByteArray) (hl : pObjs S = l) (h : Rep w F d L S (Live S)) (hg : Good S B) (hB : B ≤ 549755813888) :
    Calls Try.prog 18 #[.pointer (some ⟨d, 0, none⟩)] w fun e w' => ∃ A c, e = .returned (.slice A l.length c) ∧ Rd kS w' (fun k => w.heap.size ≤ k) A c l ∧ Fr (fun _ => False) w w' :=
  (objList_calls w F d L S B h hg hB).mono fun e w' hq => by
    rw [hl] at hq
    obtain ⟨v, q1, q2, q3⟩ := hq
    obtain ⟨A, c, e, hr⟩ := Rd.ofOwnS q2
    subst e
    exact ⟨A, c, q1, hr, q3⟩
theorem list_calls (w : World) (F : Nat → Prop) (d : Nat) (L : Lay) (S : PS) (B : Nat) (l : List ByteArray) (hl : pDirNames S = l) (h : Rep w F d L S (Live S)) (hg : Good S B) (hB : B ≤ 549755813888) :
    Calls Try.prog 21 #[.pointer (some ⟨d, 0, none⟩)] w fun e w' => ∃ A c, e = .returned (.slice A l.length c) ∧ Rd kS w' (fun k => w.heap.size ≤ k) A c l ∧ Fr (fun _ => False) w w' :=
  (List_calls w F d L S B h hg hB).mono fun e w' hq => by
    obtain ⟨v, q1, q2, q3⟩ := hq
    have q2 := names_own q2
    rw [hl] at q2
    obtain ⟨A, c, e, hr⟩ := Rd.ofOwnS q2
    subst e
    exact ⟨A, c, q1, hr, q3⟩
theorem Fr.dn {F : Nat → Prop} {a w w' : World} (h : Fr F a w) (hd : Drawn0 w w') : Fr F a w' := h.drawn hd
theorem s_rm {S S5 : PS} {B : Nat} (hs : Sound S B) (h : pRemoveAll S (pTmps S) = (S5, 0)) : Sound S5 (B + 100 * B + 100) := by
  have := hs.removeAll (zs := pTmps S)
  rw [h] at this
  exact this.mono (by have := tmps_length S; have := hs.good.nDir; omega)
theorem heap_cf : Kd.Heap kCf := Kd.heap_iso _ (Kd.heap_pair (Kd.heap_int _) Kd.heap_bool)
set_option maxHeartbeats 8000000 in
set_option maxRecDepth 100000 in
theorem atomic_fail (W : World) (a0 : Option Addr) (c0 : Nat) (b : List Int) (hC0 : Kd.C kB W a0 b.length b) (hc0 : b.length ≤ c0) (hw0 : ∀ y ∈ b, 0 ≤ y ∧ y ≤ 255) (a1 : Option Addr) (c1 : Nat) (o : List Int) (hC1 : Kd.C kB W a1 o.length o) (hc1 : o.length ≤ c1) (hw1 : ∀ y ∈ o, 0 ≤ y ∧ y ≤ 255) (m n : Int) (hm : m ≤ 9223372036854775807)
    (a4 : Option Addr) (c4 : Nat) (cs : List Cf) (hC4 : Kd.C kCf W a4 cs.length cs) (hc4 : cs.length ≤ c4) (hb : b.length ≤ 300) (ho : o.length ≤ 300) (hcs : cs.length ≤ 10) (S3 S4 S5 : PS) (ec : Int) (hp : (S3, ec) = pPut (pFail (at1 o) m) sN b) (hq : S4 = pCrash S3 n cs) (hsn : AtSeen o [] 15 0 [sO] b S4 S5) (hec : (ec == 0) = false) :
    Calls Try.prog 3 #[.slice a0 b.length c0, .slice a1 o.length c1, .int .i64 m, .int .i64 n, .slice a4 cs.length c4] W fun e w' => e = .returned (.bool true) ∧ Below W.heap.size W w' := by
  have t0 : decide ((300 : Int) < (b.length : Int)) = false := by simp; omega
  have t1 : decide ((300 : Int) < (o.length : Int)) = false := by simp; omega
  have t2 : decide ((10 : Int) < (cs.length : Int)) = false := by simp; omega
  have VB := Lib.hid (Rd.start (Kd.heap_int _) hC0 hc0)
  have VO := Lib.hid (Rd.start (Kd.heap_int _) hC1 hc1)
  have VX := Lib.hid (Rd.start heap_cf hC4 hc4)
  have HWB := Lib.hid hw0
  have HWO := Lib.hid hw1
  have HBL := Lib.hid (show b.length + 4 ≤ 400 by omega)
  have HOL := Lib.hid (show o.length + 4 ≤ 400 by omega)
  have S1 := Lib.hid (show Sound (at1 o) 2400 by have := Sound.new.put (m := 400) (n := sO) (l := o) (by decide) (by omega) hw1; rw [at1_eq] at this; exact this)
  have S2 := Lib.hid (show Sound (pFail (at1 o) m) 2500 from S1.out.fail hm)
  have HS3 := Lib.hid (show Sound S3 4900 by have := S2.out.put (m := 400) (n := sN) (l := b) (by decide) (by omega) hw0; rw [← hp] at this; exact this)
  have HS4 := Lib.hid (show Sound S4 4900 by rw [hq]; exact HS3.out.crash)
  have HS5 := Lib.hid (show Sound S5 500000 from (s_rm HS4.out hsn.rm).mono (by decide))
  have HP := Lib.hid hp
  have HQ := Lib.hid hq
  have SN := Lib.hid hsn
  have HEX := Lib.hid (show pExists S4 sN = false by rw [hsn.ex]; rfl)
  clear hC0 hC1 hC4 hw0 hw1 hp hq hsn hc0 hc1 hc4
  go_enter Try.func3, Try.ntmps3
  go_wp2_with (first
    | (go_at_call 13; have hz := R13.out; clear hz; refine (Put_calls _ F9 d L9 S5 500000 400 sN a0 c0 b R13.out C13.out.lt HS5.out (by decide) HBL.out (by decide) HWB.out B13.out).mono ?_; rw [SN.out.put]; rintro e w14 ⟨rfl, F14, L14, hr, hc⟩; have C14 := Lib.hid (C13.out.trans hc); clear hr hc R13)
    | (go_at_call 20; have hz := R12.out; clear hz; refine (texts_same _ _ _ _ _ [sO] (.inl rfl) _ _ V12.out N12.out).mono ?_; rintro e w13 ⟨rfl, hd⟩; have R13 := Lib.hid (R12.out.drawn hd); have hb := fr_below ((Fr.refl (fun _ => False) w12).drawn hd); have C13 := Lib.hid (C12.out.fr2 ((Fr.refl _ _).drawn hd)); have B13 := Lib.hid (B12.out.below hb); clear hd hb R12)
    | (go_at_call 21; have hz := R11.out; clear hz; refine (list_calls _ F9 d L9 S5 500000 _ SN.out.n5 R11.out HS5.out.good (by decide)).mono ?_; rintro e w12 ⟨A12, c12, rfl, hr, hf⟩; have R12 := Lib.hid (R11.out.fr hf (fun _ _ => id)); have C12 := Lib.hid (C11.out.fr2 hf); have B12 := Lib.hid (B11.out.below (fr_below hf)); have N12 := Lib.hid (N11.out.below (fr_below hf)); have V12 := Lib.hid hr; clear hr hf R11)
    | (go_at_call 20; have hz := R10.out; clear hz; refine (texts_same _ _ _ _ _ [sO] (.inl rfl) _ _ V10.out N10.out).mono ?_; rintro e w11 ⟨rfl, hd⟩; have R11 := Lib.hid (R10.out.drawn hd); have hb := fr_below ((Fr.refl (fun _ => False) w10).drawn hd); have C11 := Lib.hid (C10.out.fr2 ((Fr.refl _ _).drawn hd)); have B11 := Lib.hid (B10.out.below hb); have N11 := Lib.hid (N10.out.below hb); clear hd hb R10)
    | (go_at_call 18; have hz := R9.out; clear hz; refine (objs_calls _ F9 d L9 S5 500000 _ SN.out.l5 R9.out HS5.out.good (by decide)).mono ?_; rintro e w10 ⟨A10, c10, rfl, hr, hf⟩; have R10 := Lib.hid (R9.out.fr hf (fun _ _ => id)); have C10 := Lib.hid (C9.out.fr2 hf); have B10 := Lib.hid (B9.out.below (fr_below hf)); have N10 := Lib.hid (N9.out.below (fr_below hf)); have V10 := Lib.hid hr; clear hr hf R9)
    | (go_at_call 19; refine (RemoveTemporary_calls _ F4 d L4 S4 4900 R8.out C8.out.lt HS4.out (by decide)).mono ?_; rw [SN.out.rm]; rintro e w9 ⟨rfl, F9, L9, hr, hc⟩; have R9 := Lib.hid hr; have C9 := Lib.hid (C8.out.trans hc); have B9 := Lib.hid (B8.out.chg hc); have N9 := Lib.hid (N8.out.chg hc); clear hr hc R8)
    | (go_at_call 18; have hz := R7.out; clear hz; refine (objs_calls _ F4 d L4 S4 4900 _ SN.out.l4 R7.out HS4.out.good (by decide)).mono ?_; rintro e w8 ⟨A8, c8, rfl, hr, hf⟩; have R8 := Lib.hid (R7.out.fr hf (fun _ _ => id)); have C8 := Lib.hid (C7.out.fr2 hf); have B8 := Lib.hid (B7.out.below (fr_below hf)); have N8 := Lib.hid (hr.mono (ok' := fun k => ¬ F4 k) (fun k hk _ e => by have := C7.out.lt k e; omega)); clear hr hf R7)
    | (go_at_call 17; refine (Exists_calls _ F4 d L4 S4 4900 sN R6.out HS4.out.good (by decide)).mono ?_; rw [HEX.out]; rintro e w7 ⟨rfl, hf⟩; have R7 := Lib.hid (R6.out.fr hf (fun _ _ => id)); have C7 := Lib.hid (C6.out.fr2 hf); have B7 := Lib.hid (B6.out.below (fr_below hf)); clear hf R6)
    | (go_at_call 16; have hz := R5.out; clear hz; refine (get_str SN.out.new (Get_calls _ F4 d L4 S4 4900 sN R5.out HS4.out.good (by decide))).mono ?_; rintro e w6 ⟨A6, c6, rfl, hr, hf⟩; have R6 := Lib.hid (R5.out.fr hf (fun _ _ => id)); have C6 := Lib.hid (C5.out.fr2 hf); have B6 := Lib.hid (B5.out.below (fr_below hf)); have cv1 := str_run (V5.out.below (fr_below hf)); have cv2 := str_run (O5.out.below (fr_below hf)); obtain ⟨so, hso⟩ : ∃ so, so = strOfNums o := ⟨_, rfl⟩; rw [← hso] at cv1 cv2; clear hso; clear hr hf R5)
    | (go_at_call 16; have hz := R4.out; clear hz; refine (get_str SN.out.other (Get_calls _ F4 d L4 S4 4900 sO R4.out HS4.out.good (by decide))).mono ?_; rintro e w5 ⟨A5, c5, rfl, hr, hf⟩; have R5 := Lib.hid (R4.out.fr hf (fun _ _ => id)); have C5 := Lib.hid (C4.out.fr2 hf); have O5 := Lib.hid (O4.out.below (fr_below hf)); have B5 := Lib.hid (B4.out.below (fr_below hf)); have V5 := Lib.hid hr; clear hr hf R4)
    | (go_at_call 15; refine (Crash_calls _ F3 d L3 S3 4900 n a4 c4 cs X3.out.now R3.out HS3.out.good (by decide)).mono ?_; rw [← HQ.out]; rintro e w4 ⟨rfl, F4, L4, hr, hc⟩; have R4 := Lib.hid hr; have C4 := Lib.hid (C3.out.trans hc); have O4 := Lib.hid (O3.out.chg hc); have B4 := Lib.hid (B3.out.chg hc); clear hr hc R3)
    | (go_at_call 13; have hz := R2.out; clear hz; refine (Put_calls _ F2 d L2 (pFail (at1 o) m) 2500 400 sN a0 c0 b R2.out C2.out.lt S2.out (by decide) HBL.out (by decide) HWB.out B2.out).mono ?_; rw [← HP.out]; rintro e w3 ⟨rfl, F3, L3, hr, hc⟩; have R3 := Lib.hid hr; have C3 := Lib.hid (C2.out.trans hc); have O3 := Lib.hid (O2.out.chg hc); have B3 := Lib.hid (B2.out.chg hc); have X3 := Lib.hid (X2.out.chg hc); clear hr hc R2)
    | (go_at_call 14; refine (FailAfter_calls _ F1 d L1 (at1 o) m R1.out).mono ?_; rintro e w2 ⟨rfl, F2, L2, hr, hc⟩; have R2 := Lib.hid hr; have C2 := Lib.hid (C1.out.trans hc); have O2 := Lib.hid (O1.out.chg hc); have B2 := Lib.hid (B1.out.chg hc); have X2 := Lib.hid (X1.out.chg hc); clear hr hc R1)
    | (go_at_call 13; have hz := R0.out; clear hz; refine (Put_calls _ F0 d L0 pNew 0 400 sO a1 c1 o R0.out C0.out.lt Sound.new (by decide) HOL.out (by decide) HWO.out (VO.out.chg C0.out)).mono ?_; rw [at1_eq]; rintro e w1 ⟨rfl, F1, L1, hr, hc⟩; have hc := C0.out.trans hc; have R1 := Lib.hid hr; have C1 := Lib.hid hc; have O1 := Lib.hid (VO.out.chg hc); have B1 := Lib.hid (VB.out.chg hc); have X1 := Lib.hid (VX.out.chg hc); clear hr hc R0)
    | (go_at_call 12; refine (New_calls _).mono ?_; rintro e w0 ⟨d, F0, L0, rfl, hr, hc⟩; have R0 := Lib.hid hr; have C0 := Lib.hid hc; clear hr hc)
    | fail)
  go_ret
  exact ⟨rfl, C14.out.fr.toBelow (Nat.le_refl _) (fun _ hk => hk.elim)⟩
set_option maxHeartbeats 8000000 in
set_option maxRecDepth 100000 in
theorem atomic_whole0 (W : World) (a0 : Option Addr) (c0 : Nat) (b : List Int) (hC0 : Kd.C kB W a0 b.length b) (hc0 : b.length ≤ c0) (hw0 : ∀ y ∈ b, 0 ≤ y ∧ y ≤ 255) (a1 : Option Addr) (c1 : Nat) (o : List Int) (hC1 : Kd.C kB W a1 o.length o) (hc1 : o.length ≤ c1) (hw1 : ∀ y ∈ o, 0 ≤ y ∧ y ≤ 255) (m n : Int) (hm : m ≤ 9223372036854775807)
    (a4 : Option Addr) (c4 : Nat) (cs : List Cf) (hC4 : Kd.C kCf W a4 cs.length cs) (hc4 : cs.length ≤ c4) (hb : b.length ≤ 300) (ho : o.length ≤ 300) (hcs : cs.length ≤ 10) (S3 S4 S5 : PS) (ec : Int) (hp : (S3, ec) = pPut (pFail (at1 o) m) sN b) (hq : S4 = pCrash S3 n cs) (hsn : AtSeen o b 0 9 [sN, sO] b S4 S5) (hec : (ec == 0) = true) :
    Calls Try.prog 3 #[.slice a0 b.length c0, .slice a1 o.length c1, .int .i64 m, .int .i64 n, .slice a4 cs.length c4] W fun e w' => e = .returned (.bool true) ∧ Below W.heap.size W w' := by
  have t0 : decide ((300 : Int) < (b.length : Int)) = false := by simp; omega
  have t1 : decide ((300 : Int) < (o.length : Int)) = false := by simp; omega
  have t2 : decide ((10 : Int) < (cs.length : Int)) = false := by simp; omega
  have VB := Lib.hid (Rd.start (Kd.heap_int _) hC0 hc0)
  have VO := Lib.hid (Rd.start (Kd.heap_int _) hC1 hc1)
  have VX := Lib.hid (Rd.start heap_cf hC4 hc4)
  have HWB := Lib.hid hw0
  have HWO := Lib.hid hw1
  have HBL := Lib.hid (show b.length + 4 ≤ 400 by omega)
  have HOL := Lib.hid (show o.length + 4 ≤ 400 by omega)
  have S1 := Lib.hid (show Sound (at1 o) 2400 by have := Sound.new.put (m := 400) (n := sO) (l := o) (by decide) (by omega) hw1; rw [at1_eq] at this; exact this)
  have S2 := Lib.hid (show Sound (pFail (at1 o) m) 2500 from S1.out.fail hm)
  have HS3 := Lib.hid (show Sound S3 4900 by have := S2.out.put (m := 400) (n := sN) (l := b) (by decide) (by omega) hw0; rw [← hp] at this; exact this)
  have HS4 := Lib.hid (show Sound S4 4900 by rw [hq]; exact HS3.out.crash)
  have HS5 := Lib.hid (show Sound S5 500000 from (s_rm HS4.out hsn.rm).mono (by decide))
  have HP := Lib.hid hp
  have HQ := Lib.hid hq
  have SN := Lib.hid hsn
  have HEX := Lib.hid (show pExists S4 sN = true by rw [hsn.ex]; rfl)
  clear hC0 hC1 hC4 hw0 hw1 hp hq hsn hc0 hc1 hc4
  go_enter Try.func3, Try.ntmps3
  go_wp2_with (first
    | (go_at_call 11; refine (lives_calls _).mono ?_; rintro e w15 ⟨rfl, hb⟩; have Z15 := Lib.hid (C14.out.fr.below hb); clear hb)
    | (go_at_call 13; have hz := R13.out; clear hz; refine (Put_calls _ F9 d L9 S5 500000 400 sN a0 c0 b R13.out C13.out.lt HS5.out (by decide) HBL.out (by decide) HWB.out B13.out).mono ?_; rw [SN.out.put]; rintro e w14 ⟨rfl, F14, L14, hr, hc⟩; have C14 := Lib.hid (C13.out.trans hc); clear hr hc R13)
    | (go_at_call 20; have hz := R12.out; clear hz; refine (texts_same _ _ _ _ _ [sN, sO] (.inr rfl) _ _ V12.out N12.out).mono ?_; rintro e w13 ⟨rfl, hd⟩; have R13 := Lib.hid (R12.out.drawn hd); have hb := fr_below ((Fr.refl (fun _ => False) w12).drawn hd); have C13 := Lib.hid (C12.out.fr2 ((Fr.refl _ _).drawn hd)); have B13 := Lib.hid (B12.out.below hb); clear hd hb R12)
    | (go_at_call 21; have hz := R11.out; clear hz; refine (list_calls _ F9 d L9 S5 500000 _ SN.out.n5 R11.out HS5.out.good (by decide)).mono ?_; rintro e w12 ⟨A12, c12, rfl, hr, hf⟩; have R12 := Lib.hid (R11.out.fr hf (fun _ _ => id)); have C12 := Lib.hid (C11.out.fr2 hf); have B12 := Lib.hid (B11.out.below (fr_below hf)); have N12 := Lib.hid (N11.out.below (fr_below hf)); have V12 := Lib.hid hr; clear hr hf R11)
    | (go_at_call 20; have hz := R10.out; clear hz; refine (texts_same _ _ _ _ _ [sN, sO] (.inr rfl) _ _ V10.out N10.out).mono ?_; rintro e w11 ⟨rfl, hd⟩; have R11 := Lib.hid (R10.out.drawn hd); have hb := fr_below ((Fr.refl (fun _ => False) w10).drawn hd); have C11 := Lib.hid (C10.out.fr2 ((Fr.refl _ _).drawn hd)); have B11 := Lib.hid (B10.out.below hb); have N11 := Lib.hid (N10.out.below hb); clear hd hb R10)
    | (go_at_call 18; have hz := R9.out; clear hz; refine (objs_calls _ F9 d L9 S5 500000 _ SN.out.l5 R9.out HS5.out.good (by decide)).mono ?_; rintro e w10 ⟨A10, c10, rfl, hr, hf⟩; have R10 := Lib.hid (R9.out.fr hf (fun _ _ => id)); have C10 := Lib.hid (C9.out.fr2 hf); have B10 := Lib.hid (B9.out.below (fr_below hf)); have N10 := Lib.hid (N9.out.below (fr_below hf)); have V10 := Lib.hid hr; clear hr hf R9)
    | (go_at_call 19; refine (RemoveTemporary_calls _ F4 d L4 S4 4900 R8.out C8.out.lt HS4.out (by decide)).mono ?_; rw [SN.out.rm]; rintro e w9 ⟨rfl, F9, L9, hr, hc⟩; have R9 := Lib.hid hr; have C9 := Lib.hid (C8.out.trans hc); have B9 := Lib.hid (B8.out.chg hc); have N9 := Lib.hid (N8.out.chg hc); clear hr hc R8)
    | (go_at_call 18; have hz := R7.out; clear hz; refine (objs_calls _ F4 d L4 S4 4900 _ SN.out.l4 R7.out HS4.out.good (by decide)).mono ?_; rintro e w8 ⟨A8, c8, rfl, hr, hf⟩; have R8 := Lib.hid (R7.out.fr hf (fun _ _ => id)); have C8 := Lib.hid (C7.out.fr2 hf); have B8 := Lib.hid (B7.out.below (fr_below hf)); have N8 := Lib.hid (hr.mono (ok' := fun k => ¬ F4 k) (fun k hk _ e => by have := C7.out.lt k e; omega)); clear hr hf R7)
    | (go_at_call 17; refine (Exists_calls _ F4 d L4 S4 4900 sN R6.out HS4.out.good (by decide)).mono ?_; rw [HEX.out]; rintro e w7 ⟨rfl, hf⟩; have R7 := Lib.hid (R6.out.fr hf (fun _ _ => id)); have C7 := Lib.hid (C6.out.fr2 hf); have B7 := Lib.hid (B6.out.below (fr_below hf)); have cv5 := str_run (W6.out.below (fr_below hf)); have cv6 := str_run (B6.out.below (fr_below hf)); obtain ⟨sb, hsb⟩ : ∃ sb, sb = strOfNums b := ⟨_, rfl⟩; rw [← hsb] at cv5 cv6; clear hsb; clear hf R6)
    | (go_at_call 16; have hz := R5.out; clear hz; refine (get_str SN.out.new (Get_calls _ F4 d L4 S4 4900 sN R5.out HS4.out.good (by decide))).mono ?_; rintro e w6 ⟨A6, c6, rfl, hr, hf⟩; have R6 := Lib.hid (R5.out.fr hf (fun _ _ => id)); have C6 := Lib.hid (C5.out.fr2 hf); have B6 := Lib.hid (B5.out.below (fr_below hf)); have cv1 := str_run (V5.out.below (fr_below hf)); have cv2 := str_run (O5.out.below (fr_below hf)); obtain ⟨so, hso⟩ : ∃ so, so = strOfNums o := ⟨_, rfl⟩; rw [← hso] at cv1 cv2; clear hso; have W6 := Lib.hid hr; clear hr hf R5)
    | (go_at_call 16; have hz := R4.out; clear hz; refine (get_str SN.out.other (Get_calls _ F4 d L4 S4 4900 sO R4.out HS4.out.good (by decide))).mono ?_; rintro e w5 ⟨A5, c5, rfl, hr, hf⟩; have R5 := Lib.hid (R4.out.fr hf (fun _ _ => id)); have C5 := Lib.hid (C4.out.fr2 hf); have O5 := Lib.hid (O4.out.below (fr_below hf)); have B5 := Lib.hid (B4.out.below (fr_below hf)); have V5 := Lib.hid hr; clear hr hf R4)
    | (go_at_call 15; refine (Crash_calls _ F3 d L3 S3 4900 n a4 c4 cs X3.out.now R3.out HS3.out.good (by decide)).mono ?_; rw [← HQ.out]; rintro e w4 ⟨rfl, F4, L4, hr, hc⟩; have R4 := Lib.hid hr; have C4 := Lib.hid (C3.out.trans hc); have O4 := Lib.hid (O3.out.chg hc); have B4 := Lib.hid (B3.out.chg hc); clear hr hc R3)
    | (go_at_call 13; have hz := R2.out; clear hz; refine (Put_calls _ F2 d L2 (pFail (at1 o) m) 2500 400 sN a0 c0 b R2.out C2.out.lt S2.out (by decide) HBL.out (by decide) HWB.out B2.out).mono ?_; rw [← HP.out]; rintro e w3 ⟨rfl, F3, L3, hr, hc⟩; have R3 := Lib.hid hr; have C3 := Lib.hid (C2.out.trans hc); have O3 := Lib.hid (O2.out.chg hc); have B3 := Lib.hid (B2.out.chg hc); have X3 := Lib.hid (X2.out.chg hc); clear hr hc R2)
    | (go_at_call 14; refine (FailAfter_calls _ F1 d L1 (at1 o) m R1.out).mono ?_; rintro e w2 ⟨rfl, F2, L2, hr, hc⟩; have R2 := Lib.hid hr; have C2 := Lib.hid (C1.out.trans hc); have O2 := Lib.hid (O1.out.chg hc); have B2 := Lib.hid (B1.out.chg hc); have X2 := Lib.hid (X1.out.chg hc); clear hr hc R1)
    | (go_at_call 13; have hz := R0.out; clear hz; refine (Put_calls _ F0 d L0 pNew 0 400 sO a1 c1 o R0.out C0.out.lt Sound.new (by decide) HOL.out (by decide) HWO.out (VO.out.chg C0.out)).mono ?_; rw [at1_eq]; rintro e w1 ⟨rfl, F1, L1, hr, hc⟩; have hc := C0.out.trans hc; have R1 := Lib.hid hr; have C1 := Lib.hid hc; have O1 := Lib.hid (VO.out.chg hc); have B1 := Lib.hid (VB.out.chg hc); have X1 := Lib.hid (VX.out.chg hc); clear hr hc R0)
    | (go_at_call 12; refine (New_calls _).mono ?_; rintro e w0 ⟨d, F0, L0, rfl, hr, hc⟩; have R0 := Lib.hid hr; have C0 := Lib.hid hc; clear hr hc)
    | fail)
  go_ret
  exact ⟨rfl, Z15.out.toBelow (Nat.le_refl _) (fun _ hk => hk.elim)⟩
set_option maxHeartbeats 8000000 in
set_option maxRecDepth 100000 in
theorem atomic_whole1 (W : World) (a0 : Option Addr) (c0 : Nat) (b : List Int) (hC0 : Kd.C kB W a0 b.length b) (hc0 : b.length ≤ c0) (hw0 : ∀ y ∈ b, 0 ≤ y ∧ y ≤ 255) (a1 : Option Addr) (c1 : Nat) (o : List Int) (hC1 : Kd.C kB W a1 o.length o) (hc1 : o.length ≤ c1) (hw1 : ∀ y ∈ o, 0 ≤ y ∧ y ≤ 255) (m n : Int) (hm : m ≤ 9223372036854775807)
    (a4 : Option Addr) (c4 : Nat) (cs : List Cf) (hC4 : Kd.C kCf W a4 cs.length cs) (hc4 : cs.length ≤ c4) (hb : b.length ≤ 300) (ho : o.length ≤ 300) (hcs : cs.length ≤ 10) (S3 S4 S5 : PS) (ec : Int) (hp : (S3, ec) = pPut (pFail (at1 o) m) sN b) (hq : S4 = pCrash S3 n cs) (hsn : AtSeen o b 0 9 [sN, sO] b S4 S5) (hec : (ec == 0) = false) :
    Calls Try.prog 3 #[.slice a0 b.length c0, .slice a1 o.length c1, .int .i64 m, .int .i64 n, .slice a4 cs.length c4] W fun e w' => e = .returned (.bool true) ∧ Below W.heap.size W w' := by
  have t0 : decide ((300 : Int) < (b.length : Int)) = false := by simp; omega
  have t1 : decide ((300 : Int) < (o.length : Int)) = false := by simp; omega
  have t2 : decide ((10 : Int) < (cs.length : Int)) = false := by simp; omega
  have VB := Lib.hid (Rd.start (Kd.heap_int _) hC0 hc0)
  have VO := Lib.hid (Rd.start (Kd.heap_int _) hC1 hc1)
  have VX := Lib.hid (Rd.start heap_cf hC4 hc4)
  have HWB := Lib.hid hw0
  have HWO := Lib.hid hw1
  have HBL := Lib.hid (show b.length + 4 ≤ 400 by omega)
  have HOL := Lib.hid (show o.length + 4 ≤ 400 by omega)
  have S1 := Lib.hid (show Sound (at1 o) 2400 by have := Sound.new.put (m := 400) (n := sO) (l := o) (by decide) (by omega) hw1; rw [at1_eq] at this; exact this)
  have S2 := Lib.hid (show Sound (pFail (at1 o) m) 2500 from S1.out.fail hm)
  have HS3 := Lib.hid (show Sound S3 4900 by have := S2.out.put (m := 400) (n := sN) (l := b) (by decide) (by omega) hw0; rw [← hp] at this; exact this)
  have HS4 := Lib.hid (show Sound S4 4900 by rw [hq]; exact HS3.out.crash)
  have HS5 := Lib.hid (show Sound S5 500000 from (s_rm HS4.out hsn.rm).mono (by decide))
  have HP := Lib.hid hp
  have HQ := Lib.hid hq
  have SN := Lib.hid hsn
  have HEX := Lib.hid (show pExists S4 sN = true by rw [hsn.ex]; rfl)
  clear hC0 hC1 hC4 hw0 hw1 hp hq hsn hc0 hc1 hc4
  go_enter Try.func3, Try.ntmps3
  go_wp2_with (first
    | (go_at_call 11; refine (lives_calls _).mono ?_; rintro e w15 ⟨rfl, hb⟩; have Z15 := Lib.hid (C14.out.fr.below hb); clear hb)
    | (go_at_call 13; have hz := R13.out; clear hz; refine (Put_calls _ F9 d L9 S5 500000 400 sN a0 c0 b R13.out C13.out.lt HS5.out (by decide) HBL.out (by decide) HWB.out B13.out).mono ?_; rw [SN.out.put]; rintro e w14 ⟨rfl, F14, L14, hr, hc⟩; have C14 := Lib.hid (C13.out.trans hc); clear hr hc R13)
    | (go_at_call 20; have hz := R12.out; clear hz; refine (texts_same _ _ _ _ _ [sN, sO] (.inr rfl) _ _ V12.out N12.out).mono ?_; rintro e w13 ⟨rfl, hd⟩; have R13 := Lib.hid (R12.out.drawn hd); have hb := fr_below ((Fr.refl (fun _ => False) w12).drawn hd); have C13 := Lib.hid (C12.out.fr2 ((Fr.refl _ _).drawn hd)); have B13 := Lib.hid (B12.out.below hb); clear hd hb R12)
    | (go_at_call 21; have hz := R11.out; clear hz; refine (list_calls _ F9 d L9 S5 500000 _ SN.out.n5 R11.out HS5.out.good (by decide)).mono ?_; rintro e w12 ⟨A12, c12, rfl, hr, hf⟩; have R12 := Lib.hid (R11.out.fr hf (fun _ _ => id)); have C12 := Lib.hid (C11.out.fr2 hf); have B12 := Lib.hid (B11.out.below (fr_below hf)); have N12 := Lib.hid (N11.out.below (fr_below hf)); have V12 := Lib.hid hr; clear hr hf R11)
    | (go_at_call 20; have hz := R10.out; clear hz; refine (texts_same _ _ _ _ _ [sN, sO] (.inr rfl) _ _ V10.out N10.out).mono ?_; rintro e w11 ⟨rfl, hd⟩; have R11 := Lib.hid (R10.out.drawn hd); have hb := fr_below ((Fr.refl (fun _ => False) w10).drawn hd); have C11 := Lib.hid (C10.out.fr2 ((Fr.refl _ _).drawn hd)); have B11 := Lib.hid (B10.out.below hb); have N11 := Lib.hid (N10.out.below hb); clear hd hb R10)
    | (go_at_call 18; have hz := R9.out; clear hz; refine (objs_calls _ F9 d L9 S5 500000 _ SN.out.l5 R9.out HS5.out.good (by decide)).mono ?_; rintro e w10 ⟨A10, c10, rfl, hr, hf⟩; have R10 := Lib.hid (R9.out.fr hf (fun _ _ => id)); have C10 := Lib.hid (C9.out.fr2 hf); have B10 := Lib.hid (B9.out.below (fr_below hf)); have N10 := Lib.hid (N9.out.below (fr_below hf)); have V10 := Lib.hid hr; clear hr hf R9)
    | (go_at_call 19; refine (RemoveTemporary_calls _ F4 d L4 S4 4900 R8.out C8.out.lt HS4.out (by decide)).mono ?_; rw [SN.out.rm]; rintro e w9 ⟨rfl, F9, L9, hr, hc⟩; have R9 := Lib.hid hr; have C9 := Lib.hid (C8.out.trans hc); have B9 := Lib.hid (B8.out.chg hc); have N9 := Lib.hid (N8.out.chg hc); clear hr hc R8)
    | (go_at_call 18; have hz := R7.out; clear hz; refine (objs_calls _ F4 d L4 S4 4900 _ SN.out.l4 R7.out HS4.out.good (by decide)).mono ?_; rintro e w8 ⟨A8, c8, rfl, hr, hf⟩; have R8 := Lib.hid (R7.out.fr hf (fun _ _ => id)); have C8 := Lib.hid (C7.out.fr2 hf); have B8 := Lib.hid (B7.out.below (fr_below hf)); have N8 := Lib.hid (hr.mono (ok' := fun k => ¬ F4 k) (fun k hk _ e => by have := C7.out.lt k e; omega)); clear hr hf R7)
    | (go_at_call 17; refine (Exists_calls _ F4 d L4 S4 4900 sN R6.out HS4.out.good (by decide)).mono ?_; rw [HEX.out]; rintro e w7 ⟨rfl, hf⟩; have R7 := Lib.hid (R6.out.fr hf (fun _ _ => id)); have C7 := Lib.hid (C6.out.fr2 hf); have B7 := Lib.hid (B6.out.below (fr_below hf)); have cv5 := str_run (W6.out.below (fr_below hf)); have cv6 := str_run (B6.out.below (fr_below hf)); obtain ⟨sb, hsb⟩ : ∃ sb, sb = strOfNums b := ⟨_, rfl⟩; rw [← hsb] at cv5 cv6; clear hsb; clear hf R6)
    | (go_at_call 16; have hz := R5.out; clear hz; refine (get_str SN.out.new (Get_calls _ F4 d L4 S4 4900 sN R5.out HS4.out.good (by decide))).mono ?_; rintro e w6 ⟨A6, c6, rfl, hr, hf⟩; have R6 := Lib.hid (R5.out.fr hf (fun _ _ => id)); have C6 := Lib.hid (C5.out.fr2 hf); have B6 := Lib.hid (B5.out.below (fr_below hf)); have cv1 := str_run (V5.out.below (fr_below hf)); have cv2 := str_run (O5.out.below (fr_below hf)); obtain ⟨so, hso⟩ : ∃ so, so = strOfNums o := ⟨_, rfl⟩; rw [← hso] at cv1 cv2; clear hso; have W6 := Lib.hid hr; clear hr hf R5)
    | (go_at_call 16; have hz := R4.out; clear hz; refine (get_str SN.out.other (Get_calls _ F4 d L4 S4 4900 sO R4.out HS4.out.good (by decide))).mono ?_; rintro e w5 ⟨A5, c5, rfl, hr, hf⟩; have R5 := Lib.hid (R4.out.fr hf (fun _ _ => id)); have C5 := Lib.hid (C4.out.fr2 hf); have O5 := Lib.hid (O4.out.below (fr_below hf)); have B5 := Lib.hid (B4.out.below (fr_below hf)); have V5 := Lib.hid hr; clear hr hf R4)
    | (go_at_call 15; refine (Crash_calls _ F3 d L3 S3 4900 n a4 c4 cs X3.out.now R3.out HS3.out.good (by decide)).mono ?_; rw [← HQ.out]; rintro e w4 ⟨rfl, F4, L4, hr, hc⟩; have R4 := Lib.hid hr; have C4 := Lib.hid (C3.out.trans hc); have O4 := Lib.hid (O3.out.chg hc); have B4 := Lib.hid (B3.out.chg hc); clear hr hc R3)
    | (go_at_call 13; have hz := R2.out; clear hz; refine (Put_calls _ F2 d L2 (pFail (at1 o) m) 2500 400 sN a0 c0 b R2.out C2.out.lt S2.out (by decide) HBL.out (by decide) HWB.out B2.out).mono ?_; rw [← HP.out]; rintro e w3 ⟨rfl, F3, L3, hr, hc⟩; have R3 := Lib.hid hr; have C3 := Lib.hid (C2.out.trans hc); have O3 := Lib.hid (O2.out.chg hc); have B3 := Lib.hid (B2.out.chg hc); have X3 := Lib.hid (X2.out.chg hc); clear hr hc R2)
    | (go_at_call 14; refine (FailAfter_calls _ F1 d L1 (at1 o) m R1.out).mono ?_; rintro e w2 ⟨rfl, F2, L2, hr, hc⟩; have R2 := Lib.hid hr; have C2 := Lib.hid (C1.out.trans hc); have O2 := Lib.hid (O1.out.chg hc); have B2 := Lib.hid (B1.out.chg hc); have X2 := Lib.hid (X1.out.chg hc); clear hr hc R1)
    | (go_at_call 13; have hz := R0.out; clear hz; refine (Put_calls _ F0 d L0 pNew 0 400 sO a1 c1 o R0.out C0.out.lt Sound.new (by decide) HOL.out (by decide) HWO.out (VO.out.chg C0.out)).mono ?_; rw [at1_eq]; rintro e w1 ⟨rfl, F1, L1, hr, hc⟩; have hc := C0.out.trans hc; have R1 := Lib.hid hr; have C1 := Lib.hid hc; have O1 := Lib.hid (VO.out.chg hc); have B1 := Lib.hid (VB.out.chg hc); have X1 := Lib.hid (VX.out.chg hc); clear hr hc R0)
    | (go_at_call 12; refine (New_calls _).mono ?_; rintro e w0 ⟨d, F0, L0, rfl, hr, hc⟩; have R0 := Lib.hid hr; have C0 := Lib.hid hc; clear hr hc)
    | fail)
  go_ret
  exact ⟨rfl, Z15.out.toBelow (Nat.le_refl _) (fun _ hk => hk.elim)⟩
set_option maxHeartbeats 1000000 in
theorem atomic_great (W : World) (a0 : Option Addr) (c0 : Nat) (k0 : Nat) (a1 : Option Addr) (c1 k1 : Nat) (m n : Int) (a4 : Option Addr) (c4 k4 : Nat) (h : 300 < k0 ∨ 300 < k1 ∨ 10 < k4) :
    Calls Try.prog 3 #[.slice a0 k0 c0, .slice a1 k1 c1, .int .i64 m, .int .i64 n, .slice a4 k4 c4] W fun e w' => e = .returned (.bool true) ∧ Below W.heap.size W w' := by
  have H := Lib.hid h
  clear h
  by_cases h0 : 300 < k0
  · have t0 : decide ((300 : Int) < (k0 : Int)) = true := by simp; omega
    go_enter Try.func3, Try.ntmps3
    go_wp2_with (first | (go_at_call 11; refine (lives_calls _).mono ?_; rintro e w7 ⟨rfl, hb⟩; have B7 := Lib.hid hb; clear hb) | fail)
    go_ret
    exact ⟨rfl, B7.out⟩
  · have t0 : decide ((300 : Int) < (k0 : Int)) = false := by simp; omega
    by_cases h1 : 300 < k1
    · have t1 : decide ((300 : Int) < (k1 : Int)) = true := by simp; omega
      go_enter Try.func3, Try.ntmps3
      go_wp2_with (first | (go_at_call 11; refine (lives_calls _).mono ?_; rintro e w7 ⟨rfl, hb⟩; have B7 := Lib.hid hb; clear hb) | fail)
      go_ret
      exact ⟨rfl, B7.out⟩
    · have t1 : decide ((300 : Int) < (k1 : Int)) = false := by simp; omega
      have t2 : decide ((10 : Int) < (k4 : Int)) = true := by have := H.out; simp; omega
      go_enter Try.func3, Try.ntmps3
      go_wp2_with (first | (go_at_call 11; refine (lives_calls _).mono ?_; rintro e w7 ⟨rfl, hb⟩; have B7 := Lib.hid hb; clear hb) | fail)
      go_ret
      exact ⟨rfl, B7.out⟩
theorem atomic_walk (W : World) (a0 : Option Addr) (c0 : Nat) (b : List Int) (hC0 : Kd.C kB W a0 b.length b) (hc0 : b.length ≤ c0) (hw0 : ∀ y ∈ b, 0 ≤ y ∧ y ≤ 255) (a1 : Option Addr) (c1 : Nat) (o : List Int) (hC1 : Kd.C kB W a1 o.length o) (hc1 : o.length ≤ c1) (hw1 : ∀ y ∈ o, 0 ≤ y ∧ y ≤ 255) (m : Int) (hm : m ≤ 9223372036854775807) (n : Int) (_hn : n ≤ 9223372036854775807)
    (a4 : Option Addr) (c4 : Nat) (cs : List Cf) (hC4 : Kd.C kCf W a4 cs.length cs) (hc4 : cs.length ≤ c4) :
    Calls Try.prog 3 #[.slice a0 b.length c0, .slice a1 o.length c1, .int .i64 m, .int .i64 n, .slice a4 cs.length c4] W fun e w' => e = .returned (.bool true) ∧ Below W.heap.size W w' := by
  by_cases h : 300 < b.length ∨ 300 < o.length ∨ 10 < cs.length
  · exact atomic_great W a0 c0 b.length a1 c1 o.length m n a4 c4 cs.length h
  · obtain ⟨hb, ho, hcs⟩ : b.length ≤ 300 ∧ o.length ≤ 300 ∧ cs.length ≤ 10 := by omega
    rcases at_seen o b m n cs hw1 hw0 with ⟨he, S5, hs⟩ | ⟨S5, hs⟩
    · exact atomic_fail W a0 c0 b hC0 hc0 hw0 a1 c1 o hC1 hc1 hw1 m n hm a4 c4 cs hC4 hc4 hb ho hcs _ _ S5 _ rfl rfl hs (beq_eq_false_iff_ne.2 he)
    · by_cases he : (pPut (pFail (at1 o) m) sN b).2 = 0
      · exact atomic_whole0 W a0 c0 b hC0 hc0 hw0 a1 c1 o hC1 hc1 hw1 m n hm a4 c4 cs hC4 hc4 hb ho hcs _ _ S5 _ rfl rfl hs (beq_iff_eq.2 he)
      · exact atomic_whole1 W a0 c0 b hC0 hc0 hw0 a1 c1 o hC1 hc1 hw1 m n hm a4 c4 cs hC4 hc4 hb ho hcs _ _ S5 _ rfl rfl hs (beq_eq_false_iff_ne.2 he)
end Go.Proofs.Ytehhafnjbkbmjaa.Disk

/- The law ObjstoreAtomic holds: for every input the call returns true, and each argument reads behind the call as it read before. No condition. -/
namespace Go.Proofs.Ytehhafnjbkbmjaa.objstoreAtomic
open Go.ChangeShapes Go.WideShapes Go.ChangeAt Go.RowKit
open Go.ChangeMaps (open_string shut_string)
open Go.Proofs.YtehhafnjbkbmjaaW.PrintWords Go.Proofs.Ytehhafnjbkbmjaa.Disk
set_option linter.unusedVariables false
theorem own : ownKnob Try.prog.godebug = none := by kernel_rfl
theorem laidOut : laidOutB Try.prog = true := by kernel_rfl
set_option maxRecDepth 100000 in
theorem lifted (os : Os) (started : os.Started) (H : Type) (enc : TypeId × Value → H) :
    ReturnsInHanded {} Try.checked os 3 .any (Rows.objstoreAtomicSpec.pre6 enc Try.prog Try.f3 Rows.objstoreAtomicRow.domain false) (Rows.objstoreAtomicSpec.post enc Try.prog Try.f3 false true false false) := by
  refine returnsInHanded_of_change_sized (C := Try.checked) own started (by kernel_rfl) Try.func3
    (ChangeSpec.witness6 (enc := enc) (C := Try.checked) false ⟨#[], #[.slice none 0 0, .slice none 0 0, .int .i64 0, .int .i64 0, .slice none 0 0], []⟩ 8 (by kernel_rfl) (by kernel_rfl) (by kernel_rfl) (by kernel_rfl)) ?_
  intro W base args ds gs before hval0 hW hcnd hsz0 _
  have hval : ∀ (j : Nat) t v, Try.f3.params[j]? = some t → args[j]? = some v → Value.okWide Try.prog W .any base t v := hval0
  have hW' := hW
  obtain ⟨p, q, hA0, hV, rfl, hfz, hnd⟩ := hW
  have hA : DataW.TrodAll enc Try.prog W 0 (fun _ => true) true Try.f3.params.toList args.toList ds p := hA0
  rw [Try.params3] at hA hval
  obtain ⟨v0, vs0, d0, ds0, p0, q0, hargs, rfl, rfl, h0, r0⟩ := trodAll_cons hA
  obtain ⟨v1, vs1, d1, ds1, p1, q1, rfl, rfl, rfl, h1, r1⟩ := trodAll_cons r0
  obtain ⟨v2, vs2, d2, ds2, p2, q2, rfl, rfl, rfl, h2, r2⟩ := trodAll_cons r1
  obtain ⟨v3, vs3, d3, ds3, p3, q3, rfl, rfl, rfl, h3, r3⟩ := trodAll_cons r2
  obtain ⟨v4, vs4, d4, ds4, p4, q4, rfl, rfl, rfl, h4, r4⟩ := trodAll_cons r3
  obtain ⟨rfl, rfl, rfl⟩ := trodAll_nil r4
  obtain rfl : args = #[v0, v1, v2, v3, v4] := by cases args; simp_all
  obtain ⟨rfl, rfl⟩ := trodVars_none hV
  obtain ⟨a0, len0, cap0, rfl⟩ := okWide_slice Try.underlying22 (hval 0 22 v0 rfl rfl)
  have lt0 : ∀ x ∈ p0, x.block < W.heap.size := by obtain ⟨m, hm⟩ := h0; exact DataW.trod_lt m _ _ _ hm
  obtain ⟨l0, rfl, hc0, hC0, hw0⟩ := bytes_row h0
  obtain ⟨a1, len1, cap1, rfl⟩ := okWide_slice Try.underlying22 (hval 1 22 v1 rfl rfl)
  have lt1 : ∀ x ∈ p1, x.block < W.heap.size := by obtain ⟨m, hm⟩ := h1; exact DataW.trod_lt m _ _ _ hm
  obtain ⟨l1, rfl, hc1, hC1, hw1⟩ := bytes_row h1
  obtain ⟨n2, rfl, rfl, rfl, w2⟩ := open_int Try.underlying3 (hval 2 3 v2 rfl rfl) h2
  obtain ⟨n3, rfl, rfl, rfl, w3⟩ := open_int Try.underlying3 (hval 3 3 v3 rfl rfl) h3
  obtain ⟨a4, len4, cap4, rfl⟩ := okWide_slice Try.underlying23 (hval 4 23 v4 rfl rfl)
  have lt4 : ∀ x ∈ p4, x.block < W.heap.size := by obtain ⟨m, hm⟩ := h4; exact DataW.trod_lt m _ _ _ hm
  obtain ⟨l4, rfl, hc4, hC4⟩ := cfs_row h4
  clear hA0 hval0 hsz0
  refine (atomic_walk W a0 cap0 l0 hC0 hc0 hw0 a1 cap1 l1 hC1 hc1 hw1 n2 (bounds_i64 w2).2 n3 (bounds_i64 w3).2 a4 cap4 l4 hC4 hc4).mono fun e W' ⟨he, bel⟩ => ?_
  subst he
  exact ⟨_, rfl, _, _, _, [], _, [], hW', trodAll_mk1 (shut_bool Try.underlying4 _), (trodAll_cons_mk (Below.trod laidOut (by kernel_rfl) (of_decide_eq_true (by kernel_rfl)) h0 bel lt0) (trodAll_cons_mk (Below.trod laidOut (by kernel_rfl) (of_decide_eq_true (by kernel_rfl)) h1 bel lt1) (trodAll_cons_mk (shut_int Try.underlying3 w2) (trodAll_cons_mk (shut_int Try.underlying3 w3) (trodAll_cons_mk (Below.trod laidOut (by kernel_rfl) (of_decide_eq_true (by kernel_rfl)) h4 bel lt4) trodAll_mk0))))), rfl, bel.frame _, fun h => by cases h⟩
theorem over : Rows.objstoreAtomicRow.holds Try.pinned (OpenSpec.ofChange Rows.objstoreAtomicSpec) :=
  OpenClaim.holds_of_wide 3 Try.f3 rfl rfl rfl rfl rfl rfl rfl ⟨rfl, rfl, rfl, rfl, rfl⟩ rfl rfl rfl rfl rfl (by kernel_rfl) Try.func3 (by kernel_rfl)
    (of_decide_eq_true (by kernel_rfl)) (by unfold Func.isWrapper; first | (rw [if_pos (by decide +kernel)]; kernel_rfl) | (rw [if_neg (by decide +kernel)]; exact ⟨rfl, rfl⟩))
    (fun os started H enc _ => lifted os started H enc)
theorem proved : Rows.ObjstoreAtomicSaid := over
#print axioms proved
end Go.Proofs.Ytehhafnjbkbmjaa.objstoreAtomic
namespace Go.Proofs.Ytehhafnjbkbmjaa
theorem objstoreAtomic_holds : Rows.ObjstoreAtomicSaid := objstoreAtomic.proved
end Go.Proofs.Ytehhafnjbkbmjaa
