import Derived.Test.YtehhafnjbkbmjaaM5
import Derived.Deep.QuietTactic
import Derived.BigQuiet
import Derived.Test.YtehhafnjbkbmjaaRows
import Derived.WalkKit
import Derived.ProofKit
import Derived.OpenShut
import Derived.ShutString
import Derived.ChangeOld
import Derived.Below
import Derived.SizedLaws
import Derived.Carry
/- objstore: a damaged object is reported as corrupt. -/
namespace Go.Proofs.Ytehhafnjbkbmjaa.Disk
open Go Go.RowKit Go.Proofs.YtehhafnjbkbmjaaW.PrintWords Go.Proofs.YtehhafnjbkbmjaaW.PrintLast Go.Proofs.YtehhafnjbkbmjaaW.PrintMore Go.Proofs.Ytehhafnjbkbmjaa.PObjstoreAtomic
abbrev sA : ByteArray := ⟨#[97]⟩
abbrev sB : ByteArray := ⟨#[98]⟩
def co1 (b : List Int) : PS := ⟨[⟨sealF b, (sealF b).length⟩], [⟨sA, 0⟩], [⟨sA, 0⟩], [], false, 0⟩
def co2 (b : List Int) : PS := ⟨[⟨sealF b, (sealF b).length⟩, ⟨[], 0⟩], [⟨sA, 0⟩, ⟨sB, 1⟩], [⟨sA, 0⟩], [⟨1, sB, ⟨#[]⟩, 1⟩], false, 0⟩
def co3 (b x : List Int) : PS := ⟨[⟨sealF b, (sealF b).length⟩, ⟨x, 0⟩], [⟨sA, 0⟩, ⟨sB, 1⟩], [⟨sA, 0⟩], [⟨1, sB, ⟨#[]⟩, 1⟩], false, 0⟩
theorem co1_eq (b : List Int) : pPut pNew sA b = (co1 b, 0) := by kernel_rfl
theorem co2_eq (b : List Int) : pCreate (co1 b) sB = (co2 b, 0) := by kernel_rfl
theorem co3_eq (b x : List Int) : pAppend (co2 b) sB x = (co3 b x, 0) := by kernel_rfl
theorem co3_read (b x : List Int) : pRead (co3 b x) sB = (x, 0) ∧ pRead (co3 b x) sA = (sealF b, 0) ∧ pExists (co3 b x) sB = true ∧ pExists (co3 b x) sA = true := ⟨by kernel_rfl, by kernel_rfl, by kernel_rfl, by kernel_rfl⟩
theorem co3_b (b x : List Int) (h : x.length < 4) : pGet (co3 b x) sB = ([], 19) := by
  obtain ⟨h1, h2, h3, h4⟩ := co3_read b x
  unfold pGet
  rw [h3, h1]
  simp [open_short h]
theorem co3_a (b x : List Int) (hw : ∀ y ∈ b, 0 ≤ y ∧ y ≤ 255) : pGet (co3 b x) sA = (b, 0) := by
  obtain ⟨h1, h2, h3, h4⟩ := co3_read b x
  unfold pGet
  rw [h4, h2]
  simp [open_seal hw]
theorem s_co1 {b : List Int} (hb : b.length ≤ 300) (hw : ∀ y ∈ b, 0 ≤ y ∧ y ≤ 255) : Sound (co1 b) 2400 := by
  have := Sound.new.put (m := 400) (n := sA) (l := b) (by decide) (by omega) hw
  rw [co1_eq] at this
  exact this
theorem s_co2 {b : List Int} (hb : b.length ≤ 300) (hw : ∀ y ∈ b, 0 ≤ y ∧ y ≤ 255) : Sound (co2 b) 2500 := by
  have := (s_co1 hb hw).create (n := sB)
  rw [co2_eq] at this
  exact this
theorem s_co3 {b x : List Int} (hb : b.length ≤ 300) (hw : ∀ y ∈ b, 0 ≤ y ∧ y ≤ 255) (hx : x.length ≤ 100) (hxw : ∀ y ∈ x, 0 ≤ y ∧ y ≤ 255) : Sound (co3 b x) 2600 := by
  have := (s_co2 hb hw).append (n := sB) hx hxw
  rw [co3_eq] at this
  exact this
theorem Rd.start {α : Type} {dd : Kd α} (hd : Kd.Heap dd) {w : World} {A : Option Addr} {c : Nat} {xs : List α} (h : dd.C w A xs.length xs) (hc : xs.length ≤ c) : Rd dd w (fun k => ¬ (fun _ : Nat => False) k) A c xs := (Rd.ofC hd h hc).mono (fun _ _ _ => id)
theorem get_str {w : World} {d : Nat} {S : PS} {n : ByteArray} {l : List Int} {cd : Int} (hp : pGet S n = (l, cd)) (h : Calls Try.prog 16 #[.pointer (some ⟨d, 0, none⟩), .string n] w fun e w' => ∃ v, e = .returned (.tuple #[v, .int .i64 (pGet S n).2]) ∧ w'.ownsRow w.heap.size 5 1 v (pGet S n).1.length (nums .u8 (pGet S n).1) ∧ Fr (fun _ => False) w w') :
    Calls Try.prog 16 #[.pointer (some ⟨d, 0, none⟩), .string n] w fun e w' => ∃ A c, e = .returned (.tuple #[.slice A l.length c, .int .i64 cd]) ∧ Rd kB w' (fun k => w.heap.size ≤ k) A c l ∧ Fr (fun _ => False) w w' := by
  rw [hp] at h
  refine h.mono fun e w' hq => ?_
  obtain ⟨v, q1, q2, q3⟩ := hq
  obtain ⟨A, c, e, _⟩ := own_bytes (l := l) q2
  subst e
  exact ⟨A, c, q1, Rd.ofOwn q2, q3⟩
set_option maxHeartbeats 4000000 in
set_option maxRecDepth 100000 in
theorem corrupt_walk (W : World) (a0 : Option Addr) (c0 : Nat) (b : List Int) (hC0 : Kd.C kB W a0 b.length b) (hc0 : b.length ≤ c0) (hw0 : ∀ y ∈ b, 0 ≤ y ∧ y ≤ 255) (a1 : Option Addr) (c1 : Nat) (x : List Int) (hC1 : Kd.C kB W a1 x.length x) (hc1 : x.length ≤ c1) (hw1 : ∀ y ∈ x, 0 ≤ y ∧ y ≤ 255) :
    Calls Try.prog 5 #[.slice a0 b.length c0, .slice a1 x.length c1] W fun e w' => e = .returned (.bool true) ∧ Below W.heap.size W w' := by
  by_cases hgo : b.length ≤ 300 ∧ x.length ≤ 3 ∧ 0 < x.length
  · obtain ⟨hb, hx, hx0⟩ := hgo
    have t0 : decide ((300 : Int) < (b.length : Int)) = false := by simp; omega
    have t1 : decide ((3 : Int) < (x.length : Int)) = false := by simp; omega
    have t2 : ((x.length : Int) == 0) = false := by rw [beq_eq_false_iff_ne]; omega
    have V0 := Lib.hid (Rd.start (Kd.heap_int _) hC0 hc0)
    have X0 := Lib.hid (Rd.start (Kd.heap_int _) hC1 hc1)
    have HW0 := Lib.hid hw0
    have HW1 := Lib.hid hw1
    have S1 := Lib.hid (s_co1 hb hw0)
    have S2 := Lib.hid (s_co2 hb hw0)
    have S3 := Lib.hid (s_co3 (x := x) hb hw0 (by omega) hw1)
    have GB := Lib.hid (co3_b b x (by omega))
    have GA := Lib.hid (co3_a b x hw0)
    have EB := Lib.hid (co3_read b x).2.2.1
    have HBL := Lib.hid (show b.length + 4 ≤ 400 by omega)
    have HXL := Lib.hid (show x.length ≤ 1099511627776 by omega)
    clear hC0 hC1 hw0 hw1
    go_enter Try.func5, Try.ntmps5
    go_wp2_with (first
      | (go_at_call 11; have hz := C6.out; clear hz; refine (lives_calls _).mono ?_; rintro e w7 ⟨rfl, hb⟩; have B7 := Lib.hid (C6.out.fr.below hb); clear hb C6)
      | (go_at_call 17; refine (Exists_calls _ F3 d L3 (co3 b x) 2600 sB R5.out S3.out.good (by decide)).mono ?_; rw [EB.out]; rintro e w6 ⟨rfl, hf⟩; have C6 := Lib.hid (C5.out.fr2 hf); clear hf R5)
      | (go_at_call 16; have hz := R4.out; clear hz; refine (get_str GA.out (Get_calls _ F3 d L3 (co3 b x) 2600 sA R4.out S3.out.good (by decide))).mono ?_; rintro e w5 ⟨A5, c5, rfl, hr, hf⟩; have R5 := Lib.hid (R4.out.fr hf (fun _ _ => id)); have C5 := Lib.hid (C4.out.fr2 hf); have cv1 := str_run hr; have cv2 := str_run (V4.out.below (fr_below hf)); obtain ⟨s, hs⟩ : ∃ s, s = strOfNums b := ⟨_, rfl⟩; rw [← hs] at cv1 cv2; clear hs hf hr R4)
      | (go_at_call 16; have hz := R3.out; clear hz; refine (get_str GB.out (Get_calls _ F3 d L3 (co3 b x) 2600 sB R3.out S3.out.good (by decide))).mono ?_; rintro e w4 ⟨A4, c4, rfl, hr, hf⟩; have R4 := Lib.hid (R3.out.fr hf (fun _ _ => id)); have C4 := Lib.hid (C3.out.fr2 hf); have V4 := Lib.hid (V3.out.below (fr_below hf)); clear hf hr R3 V3)
      | (go_at_call 24; refine (Append_calls _ F2 d L2 (co2 b) 2500 sB a1 x c1 X2.out.now HXL.out R2.out S2.out.good (by decide)).mono ?_; rw [co3_eq]; rintro e w3 ⟨rfl, F3, L3, hr, hc⟩; have R3 := Lib.hid hr; have C3 := Lib.hid (C2.out.trans hc); have V3 := Lib.hid (V2.out.chg hc); clear hr hc R2 V2 X2)
      | (go_at_call 23; refine (Create_calls _ F1 d L1 (co1 b) 2400 sB R1.out S1.out.good (by decide)).mono ?_; rw [co2_eq]; rintro e w2 ⟨rfl, F2, L2, hr, hc⟩; have R2 := Lib.hid hr; have C2 := Lib.hid (C1.out.trans hc); have V2 := Lib.hid (V1.out.chg hc); have X2 := Lib.hid (X1.out.chg hc); clear hr hc R1 V1 X1)
      | (go_at_call 13; refine (Put_calls _ F0 d L0 pNew 0 400 sA a0 c0 b R0.out C0.out.lt Sound.new (by decide) HBL.out (by decide) HW0.out (V0.out.chg C0.out)).mono ?_; rw [co1_eq]; rintro e w1 ⟨rfl, F1, L1, hr, hc⟩; have R1 := Lib.hid hr; have C1 := Lib.hid (C0.out.trans hc); have V1 := Lib.hid (V0.out.chg C1.out); have X1 := Lib.hid (X0.out.chg C1.out); clear hr hc R0)
      | (go_at_call 12; refine (New_calls _).mono ?_; rintro e w0 ⟨d, F0, L0, rfl, hr, hc⟩; have R0 := Lib.hid hr; have C0 := Lib.hid hc; clear hr hc)
      | fail)
    go_ret
    exact ⟨rfl, B7.out.toBelow (Nat.le_refl _) (fun _ hk => hk.elim)⟩
  · have HN := Lib.hid hgo
    clear hgo hC0 hC1 hw0 hw1
    by_cases h1 : 300 < b.length
    · have t0 : decide ((300 : Int) < (b.length : Int)) = true := by simp; omega
      go_enter Try.func5, Try.ntmps5
      go_wp2_with (first | (go_at_call 11; refine (lives_calls _).mono ?_; rintro e w7 ⟨rfl, hb⟩; have B7 := Lib.hid hb; clear hb) | fail)
      go_ret
      exact ⟨rfl, B7.out⟩
    · have t0 : decide ((300 : Int) < (b.length : Int)) = false := by simp; omega
      by_cases h3 : 3 < x.length
      · have t1 : decide ((3 : Int) < (x.length : Int)) = true := by simp; omega
        go_enter Try.func5, Try.ntmps5
        go_wp2_with (first | (go_at_call 11; refine (lives_calls _).mono ?_; rintro e w7 ⟨rfl, hb⟩; have B7 := Lib.hid hb; clear hb) | fail)
        go_ret
        exact ⟨rfl, B7.out⟩
      · have t1 : decide ((3 : Int) < (x.length : Int)) = false := by simp; omega
        obtain rfl : x = [] := List.eq_nil_of_length_eq_zero (by have := HN.out; omega)
        clear h3 t1
        go_enter Try.func5, Try.ntmps5
        go_wp2_with (first | (go_at_call 11; refine (lives_calls _).mono ?_; rintro e w7 ⟨rfl, hb⟩; have B7 := Lib.hid hb; clear hb) | fail)
        go_ret
        exact ⟨rfl, B7.out⟩
end Go.Proofs.Ytehhafnjbkbmjaa.Disk

/- objstore: objects are kept, plain. -/
namespace Go.Proofs.Ytehhafnjbkbmjaa.Disk
open Go Go.RowKit Go.Proofs.YtehhafnjbkbmjaaW.PrintWords Go.Proofs.YtehhafnjbkbmjaaW.PrintLast Go.Proofs.YtehhafnjbkbmjaaW.PrintMore Go.Proofs.Ytehhafnjbkbmjaa.PObjstoreAtomic
/-- The name of object i. -/
def nmK (i : Nat) : ByteArray := ⟨#[UInt8.ofNat (97 + i)]⟩
def flK (f : Nat → List Int) (i : Nat) : Fil := ⟨sealF (f i), (sealF (f i)).length⟩
/-- The disk behind i puts. -/
def keK (f : Nat → List Int) (i : Nat) : PS := ⟨(List.range i).map (flK f), (List.range i).map (fun j => ⟨nmK j, (j : Int)⟩), (List.range i).map (fun j => ⟨nmK j, (j : Int)⟩), [], false, 0⟩
theorem ke_put (f : Nat → List Int) (i : Nat) (h : i < 10) : pPut (keK f i) (nmK i) (f i) = (keK f (i + 1), 0) := by
  obtain rfl | rfl | rfl | rfl | rfl | rfl | rfl | rfl | rfl | rfl : i = 0 ∨ i = 1 ∨ i = 2 ∨ i = 3 ∨ i = 4 ∨ i = 5 ∨ i = 6 ∨ i = 7 ∨ i = 8 ∨ i = 9 := by omega
  all_goals kernel_rfl
theorem ke_again (f : Nat → List Int) (i : Nat) (h : i < 10) : pPut (keK f (i + 1)) (nmK i) [] = (keK f (i + 1), 9) := by
  obtain rfl | rfl | rfl | rfl | rfl | rfl | rfl | rfl | rfl | rfl : i = 0 ∨ i = 1 ∨ i = 2 ∨ i = 3 ∨ i = 4 ∨ i = 5 ∨ i = 6 ∨ i = 7 ∨ i = 8 ∨ i = 9 := by omega
  all_goals kernel_rfl
def ndir (l : List Ent) (s : Nat) : List Ent := (l.zipIdx s).map (fun p => ⟨p.1.f0, (p.2 : Int)⟩)
theorem newDir_ndir (l : List Ent) : newDir l l.length = ndir l 0 := by simp [newDir, ndir]
theorem look_ndir {n : ByteArray} {x : Int} : ∀ (l : List Ent) (s : Nat), pLook l n = some x → ∃ (j : Nat) (hj : j < l.length), l[j].f1 = x ∧ pLook (ndir l s) n = some ((s + j : Nat) : Int)
  | [], _, h => by simp [pLook] at h
  | y :: r, s, h => by
    rw [pLook_cons] at h
    have e : ndir (y :: r) s = ⟨y.f0, (s : Int)⟩ :: ndir r (s + 1) := by simp [ndir]
    rw [e, pLook_cons]
    by_cases hy : y.f0 = n
    · rw [if_pos hy] at h
      rw [if_pos hy]
      exact ⟨0, by simp, by simpa using h, by simp⟩
    · rw [if_neg hy] at h
      rw [if_neg hy]
      obtain ⟨j, hj, h1, h2⟩ := look_ndir r (s + 1) h
      exact ⟨j + 1, by simp; omega, by simpa using h1, by rw [h2, show s + 1 + j = s + (j + 1) by omega]⟩
theorem look_ndir_none {n : ByteArray} : ∀ (l : List Ent) (s : Nat), pLook l n = none → pLook (ndir l s) n = none
  | [], _, _ => rfl
  | y :: r, s, h => by
    rw [pLook_cons] at h
    have e : ndir (y :: r) s = ⟨y.f0, (s : Int)⟩ :: ndir r (s + 1) := by simp [ndir]
    rw [e, pLook_cons]
    by_cases hy : y.f0 = n
    · rw [if_pos hy] at h
      cases h
    · rw [if_neg hy] at h
      rw [if_neg hy]
      exact look_ndir_none r (s + 1) h
theorem pHas_look (S : PS) (n : ByteArray) : pHas S n = (pLook S.dir n).isSome := by
  unfold pHas
  generalize S.dir = l
  induction l with
  | nil => rfl
  | cons y r ih =>
    rw [pLook_cons, List.map_cons, List.any_cons, ih]
    by_cases hy : y.f0 = n
    · simp [hy]
    · simp [hy]
theorem left_full {l : List Int} {c : Cf} : pLeft ⟨l, l.length⟩ c = l := by
  have h : pKept ⟨l, l.length⟩ c = 0 := by
    unfold pKept mn mx
    simp only [Int.sub_self]
    repeat' split
    all_goals omega
  unfold pLeft
  rw [h]
  simp
/-- A file that was durable whole reads behind a crash as it did. -/
theorem crash_read {S : PS} {n : Int} {cs : List Cf} {nm : ByteArray} {x : Int} {l : List Int} (hx : pLook (pCrashDir S n) nm = some x) (hf : fileAt S x = ⟨l, l.length⟩) (ok : okName nm = true) : pRead (pCrash S n cs) nm = (l, 0) ∧ pHas (pCrash S n cs) nm = true := by
  obtain ⟨j, hj, h2, h3⟩ := look_ndir (pCrashDir S n) 0 hx
  have h4 : pLook (pCrash S n cs).dir nm = some (j : Int) := by
    show pLook (newDir (pCrashDir S n) (pCrashDir S n).length) nm = _
    rw [newDir_ndir, h3, Nat.zero_add]
  have h5 : fileAt (pCrash S n cs) (j : Int) = ⟨l, l.length⟩ := by
    rw [fileAt_crash]
    unfold nf
    rw [newFiles_at S _ cs j hj, h2, hf, left_full]
  refine ⟨?_, by rw [pHas_look, h4]; rfl⟩
  unfold pRead
  rw [if_pos ok, h4]
  simp only [h5]
theorem crash_gone {S : PS} {n : Int} {cs : List Cf} {nm : ByteArray} (hx : pLook (pCrashDir S n) nm = none) : pHas (pCrash S n cs) nm = false := by
  have h4 : pLook (pCrash S n cs).dir nm = none := by
    show pLook (newDir (pCrashDir S n) (pCrashDir S n).length) nm = _
    rw [newDir_ndir, look_ndir_none _ _ hx]
  rw [pHas_look, h4]
  rfl
/-- Behind the deletion of object g (of none, where g is none of them). -/
def keD (f : Nat → List Int) (N g : Nat) : PS := ⟨(List.range N).map (flK f), ((List.range N).filter (fun j => j != g)).map (fun j => ⟨nmK j, (j : Int)⟩), ((List.range N).filter (fun j => j != g)).map (fun j => ⟨nmK j, (j : Int)⟩), [], false, 0⟩
theorem ke_del (f : Nat → List Int) (N g : Nat) (hN : N ≤ 10) (hg : g < N) : pDelete (keK f N) [nmK g] = (keD f N g, 0) := by
  obtain rfl | rfl | rfl | rfl | rfl | rfl | rfl | rfl | rfl | rfl : N = 1 ∨ N = 2 ∨ N = 3 ∨ N = 4 ∨ N = 5 ∨ N = 6 ∨ N = 7 ∨ N = 8 ∨ N = 9 ∨ N = 10 := by omega
  all_goals obtain rfl | rfl | rfl | rfl | rfl | rfl | rfl | rfl | rfl | rfl : g = 0 ∨ g = 1 ∨ g = 2 ∨ g = 3 ∨ g = 4 ∨ g = 5 ∨ g = 6 ∨ g = 7 ∨ g = 8 ∨ g = 9 := by omega
  all_goals first | (exfalso; omega) | kernel_rfl
theorem ke_none (f : Nat → List Int) (N g : Nat) (hg : N ≤ g) : keK f N = keD f N g := by
  have e : (List.range N).filter (fun j => j != g) = List.range N := List.filter_eq_self.2 (fun j hj => by have := List.mem_range.1 hj; simp; omega)
  unfold keK keD
  rw [e]
theorem nmK_inj {i j : Nat} (hi : i < 10) (hj : j < 10) (h : nmK i = nmK j) : i = j := by
  have key : ∀ i j : Fin 10, nmK i = nmK j → i = j := by decide
  have := key ⟨i, hi⟩ ⟨j, hj⟩ h
  simpa using this
theorem nmK_ok (i : Nat) (hi : i < 10) : okName (nmK i) = true ∧ okObj (nmK i) = true := by
  have key : ∀ i : Fin 10, okName (nmK i) = true ∧ okObj (nmK i) = true := by decide
  exact key ⟨i, hi⟩
theorem look_ke {i : Nat} (hi : i < 10) : ∀ l : List Nat, (∀ j ∈ l, j < 10) → pLook (l.map (fun j => (⟨nmK j, (j : Int)⟩ : Ent))) (nmK i) = if i ∈ l then some (i : Int) else none
  | [], _ => rfl
  | y :: r, h => by
    have ih := look_ke hi r (fun j hj => h j (List.mem_cons_of_mem _ hj))
    rw [List.map_cons, pLook_cons]
    by_cases hy : nmK y = nmK i
    · have e := nmK_inj (h y List.mem_cons_self) hi hy
      subst e
      simp
    · rw [if_neg hy, ih]
      have hne : i ≠ y := fun e => hy (by rw [e])
      simp [hne]
theorem ke_file (f : Nat → List Int) (N g i : Nat) (hi : i < N) : fileAt (keD f N g) (i : Int) = ⟨sealF (f i), (sealF (f i)).length⟩ := by
  unfold fileAt keD
  simp [hi, flK]
theorem ke_get (f : Nat → List Int) (N g i : Nat) (hN : N ≤ 10) (hi : i < N) (hw : ∀ y ∈ f i, 0 ≤ y ∧ y ≤ 255) (cs : List Cf) : pGet (pCrash (keD f N g) 0 cs) (nmK i) = if i = g then ([], 15) else (f i, 0) := by
  have hd : pCrashDir (keD f N g) 0 = ((List.range N).filter (fun j => j != g)).map (fun j => ⟨nmK j, (j : Int)⟩) := rfl
  have hl := look_ke (i := i) (by omega) ((List.range N).filter (fun j => j != g)) (fun j hj => by
    have := List.mem_range.1 (List.mem_filter.1 hj).1
    omega)
  obtain ⟨ok1, ok2⟩ := nmK_ok i (by omega)
  by_cases hg : i = g
  · rw [if_pos hg]
    rw [if_neg (by simp [hg])] at hl
    have h1 := crash_gone (cs := cs) (S := keD f N g) (n := 0) (by rw [hd]; exact hl)
    unfold pGet pExists
    rw [h1]
    simp
  · rw [if_neg hg]
    rw [if_pos (List.mem_filter.2 ⟨List.mem_range.2 hi, by simpa using hg⟩)] at hl
    obtain ⟨h1, h2⟩ := crash_read (cs := cs) (S := keD f N g) (n := 0) (by rw [hd]; exact hl) (ke_file f N g i hi) ok1
    unfold pGet pExists
    rw [h1, h2, ok2]
    simp [open_seal hw]
end Go.Proofs.Ytehhafnjbkbmjaa.Disk

/- objstore: objects are kept: the walk. -/
namespace Go.Proofs.Ytehhafnjbkbmjaa.Disk
open Go Go.RowKit Go.Proofs.YtehhafnjbkbmjaaW.PrintWords Go.Proofs.YtehhafnjbkbmjaaW.PrintLast Go.Proofs.YtehhafnjbkbmjaaW.PrintMore Go.Proofs.Ytehhafnjbkbmjaa.PObjstoreAtomic
theorem brow_at {w : World} {ok : Nat → Prop} {A : Option Addr} {c : Nat} {l : List (List Int)} (h : Rd kBB w ok A c l) (j : Nat) (hj : j < l.length) : ∃ ad A3 c3, A = some ad ∧ w.cell? (ad.add j) = some (.slice A3 (l.getD j []).length c3) ∧ Rd kB w ok A3 c3 (l.getD j []) := by
  obtain ⟨_, _, hn⟩ := Kd.F_rows h.f
  obtain ⟨ad, hA, hc⟩ := hn (by omega)
  have e : l.getD j [] = l[j] := by simp [List.getD, hj]
  rw [e]
  obtain ⟨cs, hs, hfk, hcell⟩ := hc j l[j] (List.getElem?_eq_getElem hj)
  obtain ⟨A3, c3, rfl, h3, f3⟩ := Kd.FK_slice_open hfk
  have hs6 : kBB.sz = 1 := rfl
  rw [hs6] at hcell
  have := hcell 0 _ rfl
  rw [Nat.mul_one, Nat.add_zero] at this
  exact ⟨ad, A3, c3, hA, this, ⟨h3, f3⟩⟩
def KeRel (w : World) (d : Nat) (A : Option Addr) (c : Nat) (all : List (List Int)) (i : Value) (wx : World) : Prop :=
  ∃ (j : Nat) (F' : Nat → Prop) (L' : Lay), j ≤ all.length ∧ i = .int .i64 j ∧ (∀ k, k < j → (all.getD k []).length ≤ 300) ∧ Rep wx F' d L' (keK (fun k => all.getD k []) j) (Live (keK (fun k => all.getD k []) j)) ∧ Chg w (fun _ => False) wx F' ∧ Rd kBB wx (fun k => ¬ F' k) A c all
theorem s_keK {f : Nat → List Int} {N : Nat} (hN : N ≤ 10) (hw : ∀ j, ∀ y ∈ f j, 0 ≤ y ∧ y ≤ 255) : ∀ j, j ≤ N → (∀ k, k < j → (f k).length ≤ 300) → Sound (keK f j) (2400 * j)
  | 0, _, _ => Sound.new
  | j + 1, hj, hl => by
    have ih := s_keK (f := f) hN hw j (by omega) (fun k hk => hl k (by omega))
    have := ih.put (m := 400) (n := nmK j) (l := f j) (by decide) (by have := hl j (by omega); omega) (hw j)
    rw [ke_put f j (by omega)] at this
    rw [show 2400 * (j + 1) = 2400 * j + 400 * 6 by omega]
    exact this
theorem nm_run (w : World) (j : Nat) (hj : j < 10) : (convert 22 9 (.slice (some ⟨w.heap.size, 0, none⟩) 1 1)).run Try.prog (w.alloc (.cells #[.int .u8 (97 + (j : Int))] 5)) = .ok (.string (nmK j)) (w.alloc (.cells #[.int .u8 (97 + (j : Int))] 5)) := by
  have h := str_run (Rd.blk (ok := fun _ => True) (xs := [97 + (j : Int)]) (heap_alloc_new w (.cells #[.int .u8 (97 + (j : Int))] 5)) (by simp) trivial)
  have e : strOfNums [97 + (j : Int)] = nmK j := by
    unfold strOfNums nmK
    simp only [List.map_cons, List.map_nil]
    rw [show (97 + (j : Int)).toNat = 97 + j by omega]
  rw [e] at h
  exact h
theorem ke_next {w wx w2 w3 : World} {d j : Nat} {A : Option Addr} {c : Nat} {all : List (List Int)} {F' F2 F3 : Nat → Prop} {L3 : Lay} {o : Obj} (hj : j < all.length) (hl : ∀ k, k < j → (all.getD k []).length ≤ 300) (hx : (all.getD j []).length ≤ 300) (hc : Chg w (fun _ => False) wx F') (hrow : Rd kBB wx (fun k => ¬ F' k) A c all) (hc2 : Chg (wx.alloc o) F' w2 F2) (hc3 : Chg w2 F2 w3 F3) (hr : Rep w3 F3 d L3 (keK (fun k => all.getD k []) (j + 1)) (Live (keK (fun k => all.getD k []) (j + 1)))) :
    KeRel w d A c all (.int .i64 ((j : Int) + 1)) w3 := by
  have h := (chg_up hc2).trans hc3
  exact ⟨j + 1, F3, L3, by omega, by go_num, fun k hk => by
    by_cases e : k = j
    · rw [e]; exact hx
    · exact hl k (by omega), hr, hc.trans h, hrow.chg h⟩
theorem str_runs {w : World} {A : Option Addr} {c : Nat} {ok : Nat → Prop} {bs : List Int} (h : Rd kB w ok A c bs) (m : Nat) : (convert 22 9 (.slice A bs.length c)).run Try.prog (w.drewN m) = .ok (.string (strOfNums bs)) (w.drewN m) := str_run (h.move (w' := w.drewN m) (fun _ _ _ => rfl))
theorem ke_delete (w : World) (F : Nat → Prop) (d : Nat) (L : Lay) (S : PS) (B : Nat) (n : ByteArray) (o : Obj) (h : Rep w F d L S (Live S)) (hF : ∀ k, F k → k < w.heap.size) (hs : Sound S B) (hB : B + 100 ≤ 549755813888) :
    Calls Try.prog 22 #[.pointer (some ⟨d, 0, none⟩), .slice (some ⟨w.heap.size + 1, 0, none⟩) 1 1] ((w.alloc o).alloc (.cells #[.string n] 9)) fun e w' => e = .returned (.int .i64 (pDelete S [n]).2) ∧ ∃ F' L', Rep w' F' d L' (pDelete S [n]).1 (Live (pDelete S [n]).1) ∧ Chg w F w' F' := by
  have hb := heap_alloc_new (w.alloc o) (.cells #[.string n] 9)
  rw [show (w.alloc o).heap.size = w.heap.size + 1 by simp] at hb
  refine (Delete_calls ((w.alloc o).alloc (.cells #[.string n] 9)) F d L S B (some ⟨w.heap.size + 1, 0, none⟩) 1 [n] ((h.alloc _).alloc _) (fun k hk => by have := hF k hk; simp; omega) hs (by simpa using hB) (Rd.blkS (xs := [n]) hb (by simp) (fun e => by have := hF _ e; omega))).mono ?_
  rintro e w' ⟨q, F', L', h1, h2⟩
  exact ⟨q, F', L', h1, chg_up (chg_up h2)⟩
theorem Rep.drawN {w : World} {F : Nat → Prop} {d : Nat} {L : Lay} {S : PS} {X : Int → Prop} (h : Rep w F d L S X) (m : Nat) : Rep (w.drewN m) F d L S X := h.move (fun _ _ _ => rfl)
theorem Chg.drawN {a b : World} {F G : Nat → Prop} (h : Chg a F b G) (m : Nat) : Chg a F (b.drewN m) G := ⟨h.fr.drewN m, h.new, h.lt⟩
theorem Rd.drawN {α : Type} {dk : Kd α} {w : World} {ok : Nat → Prop} {A : Option Addr} {c : Nat} {xs : List α} (h : Rd dk w ok A c xs) (m : Nat) : Rd dk (w.drewN m) ok A c xs := h.move (fun _ _ _ => rfl)
def KeRel2 (w : World) (d N : Nat) (A : Option Addr) (c : Nat) (all : List (List Int)) (S : PS) (i : Value) (wx : World) : Prop :=
  ∃ (j : Nat) (F' : Nat → Prop) (L' : Lay), j ≤ N ∧ i = .int .i64 j ∧ Rep wx F' d L' S (Live S) ∧ Chg w (fun _ => False) wx F' ∧ Rd kBB wx (fun k => ¬ F' k) A c all
set_option maxHeartbeats 4000000 in
set_option maxRecDepth 100000 in
theorem keeps_walk (W : World) (a0 : Option Addr) (c0 : Nat) (all : List (List Int)) (hC0 : Kd.C kBB W a0 all.length all) (hc0 : all.length ≤ c0) (hw0 : ∀ x ∈ all, ∀ y ∈ x, 0 ≤ y ∧ y ≤ 255) (gone : Int) (hgn : gone ≤ 9223372036854775807) :
    Calls Try.prog 4 #[.slice a0 all.length c0, .int .i64 gone] W fun e w' => e = .returned (.bool true) ∧ Below W.heap.size W w' := by
  have V0 := Lib.hid (Rd.start (Kd.heap_slice _ (Kd.heap_int _)) hC0 hc0)
  clear hC0
  have HW := Lib.hid (show ∀ j, ∀ y ∈ all.getD j [], 0 ≤ y ∧ y ≤ 255 from fun j y hy => by
    by_cases hj : j < all.length
    · exact hw0 (all.getD j []) (by simp [List.getD, hj]) y hy
    · simp [List.getD, hj] at hy)
  clear hw0
  by_cases h1 : 10 < all.length
  · have t0 : decide ((10 : Int) < (all.length : Int)) = true := by simp; omega
    go_enter Try.func4, Try.ntmps4
    go_wp2_with (first | (go_at_call 11; refine (lives_calls _).mono ?_; rintro e w7 ⟨rfl, hb⟩; have B7 := Lib.hid hb; clear hb) | fail)
    go_ret
    exact ⟨rfl, B7.out⟩
  · have t0 : decide ((10 : Int) < (all.length : Int)) = false := by simp; omega
    have hN : all.length ≤ 10 := by omega
    clear h1
    go_enter Try.func4, Try.ntmps4
    go_wp2_with (first | (go_at_call 12; refine (New_calls _).mono ?_; rintro e w0 ⟨d, F0, L0, rfl, hr, hc⟩; have R0 := Lib.hid hr; have C0 := Lib.hid hc; clear hr hc) | fail)
    go_loopw [6] (fun i wx => KeRel W d a0 c0 all i wx) (fun i _ => all.length - (intOf i).toNat)
    case atStart => exact ⟨0, F0, L0, by omega, rfl, fun k hk => absurd hk (by omega), R0.out, C0.out, V0.out.chg C0.out⟩
    case round =>
      obtain ⟨j, F', L', hj, rfl, hlen, hr, hc, hrow⟩ := hrel
      have HL := Lib.hid hlen
      have HR := Lib.hid hr
      have HC := Lib.hid hc
      have HV := Lib.hid hrow
      clear hlen hr hc
      by_cases hlt : j < all.length
      · obtain ⟨ad, A3, c3, hA, hcell, hrow3⟩ := brow_at hrow j hlt
        clear hrow
        subst hA
        have HROW3 := Lib.hid hrow3
        clear hrow3
        obtain ⟨x, hx⟩ : ∃ x, x = all.getD j [] := ⟨_, rfl⟩
        have HX := Lib.hid hx
        rw [← hx] at hcell HROW3
        clear hx
        by_cases h3 : 300 < x.length
        · have t3 : decide ((300 : Int) < (x.length : Int)) = true := by simp; omega
          go_wp2_with (first | (go_at_call 11; refine (lives_calls _).mono ?_; rintro e w7 ⟨rfl, hb⟩; have B7 := Lib.hid (HC.out.fr.below hb); clear hb) | fail)
          go_ret
          exact ⟨rfl, B7.out.toBelow (Nat.le_refl _) (fun _ hk => hk.elim)⟩
        · have h3' : x.length ≤ 300 := by omega
          have t3 : decide ((300 : Int) < (x.length : Int)) = false := by simp; omega
          have hj10 : j < 10 := by omega
          have hcv := nm_run wr j hj10
          have hc2 := fun o => cell_alloc hcell o
          have HP := Lib.hid (show pPut (keK (fun k => all.getD k []) j) (nmK j) x = (keK (fun k => all.getD k []) (j + 1), 0) by rw [HX.out]; exact ke_put (fun k => all.getD k []) j hj10)
          have HP2 := Lib.hid (ke_again (fun k => all.getD k []) j hj10)
          have HS := Lib.hid (s_keK hN HW.out j hj HL.out)
          have HS2 := Lib.hid (s_keK hN HW.out (j + 1) hlt (fun k hk => by
            by_cases e : k = j
            · rw [e, ← HX.out]; exact h3'
            · exact HL.out k (by omega)))
          have HXL := Lib.hid (show x.length + 4 ≤ 400 by omega)
          have HXW := Lib.hid (show ∀ y ∈ x, 0 ≤ y ∧ y ≤ 255 by rw [HX.out]; exact HW.out j)
          have HB1 := Lib.hid (show 2400 * j + 400 * 6 ≤ 549755813888 by omega)
          have HB2 := Lib.hid (show 2400 * (j + 1) + 400 * 6 ≤ 549755813888 by omega)
          clear h3
          go_wp2_with (first
            | (go_at_call 13; have hz := R2.out; clear hz; refine (Put_calls _ F2 d L2 _ _ 400 (nmK j) none 0 [] R2.out C2.out.lt HS2.out (by decide) (by decide) HB2.out (by simp) (Rd.nil kB _ _)).mono ?_; rw [HP2.out]; rintro e w3 ⟨rfl, F3, L3, hr, hc⟩; have R3 := Lib.hid hr; have C3 := Lib.hid hc; clear hr hc R2)
            | (go_at_call 13; have hz := HP.out; clear hz; refine (Put_calls _ F' d L' _ _ 400 (nmK j) A3 c3 x (HR.out.alloc _) (fun k hk => by have := HC.out.lt k hk; simp; omega) HS.out (by decide) HXL.out HB1.out HXW.out (HROW3.out.below (Below.of_alloc' _ _))).mono ?_; rw [HP.out]; rintro e w2 ⟨rfl, F2, L2, hr, hc⟩; have R2 := Lib.hid hr; have C2 := Lib.hid hc; clear hr hc HP)
            | fail)
          go_roundw
          case rel => exact ke_next hlt HL.out (by rw [← HX.out]; exact h3') HC.out HV.out C2.out C3.out R3.out
          case measure => simp [intOf]; omega
      · clear hrow
        obtain rfl : j = all.length := by omega
        obtain ⟨g, HGI, HST⟩ : ∃ g : Nat, Hid (∀ i : Nat, i < all.length → (i = g ↔ (i : Int) = gone)) ∧ Hid ((0 ≤ gone ∧ gone < all.length ∧ gone = (g : Int)) ∨ (all.length ≤ g ∧ ¬ (0 ≤ gone ∧ gone < all.length))) := by
          by_cases hg : 0 ≤ gone ∧ gone < all.length
          · exact ⟨gone.toNat, fun i hi => by omega, .inl ⟨hg.1, hg.2, by omega⟩⟩
          · exact ⟨all.length, fun i hi => by omega, .inr ⟨Nat.le_refl _, hg⟩⟩
        have HS := Lib.hid (s_keK hN HW.out all.length (Nat.le_refl _) HL.out)
        have HBN := Lib.hid (show 2400 * all.length + 200 ≤ 549755813888 by omega)
        have HKD := Lib.hid (show Sound (keD (fun k => all.getD k []) all.length g) (2400 * all.length + 200) from by
          rcases HST.out with ⟨h1, h2, h3⟩ | ⟨h1, h2⟩
          · have := HS.out.delete (zs := [nmK g])
            rw [ke_del _ _ _ hN (by omega)] at this
            exact this
          · rw [← ke_none _ _ _ h1]
            exact HS.out.mono (by omega))
        obtain ⟨SC, hSC⟩ : ∃ SC, SC = pCrash (keD (fun k => all.getD k []) all.length g) 0 [] := ⟨_, rfl⟩
        have HSC := Lib.hid hSC
        have HSS := Lib.hid (show Sound SC (2400 * all.length + 200) by rw [hSC]; exact HKD.out.crash)
        have HGET := Lib.hid (show ∀ i, i < all.length → pGet SC (nmK i) = if i = g then ([], 15) else (all.getD i [], 0) by rw [hSC]; exact fun i hi => ke_get (fun k => all.getD k []) all.length g i hN hi (HW.out i) [])
        clear hSC
        rcases HST.out with ⟨h1, h2, h3⟩ | ⟨h1, h2⟩
        · subst h3
          have hg10 : g < 10 := by omega
          have hgl : g < all.length := by omega
          have hcv := nm_run wr g hg10
          have HD := Lib.hid (ke_del (fun k => all.getD k []) all.length g hN hgl)
          go_wp2_with (first
            | (go_at_call 15; refine (Crash_calls _ F2 d L2 _ _ 0 none 0 [] (Kd.C_nil _ _) R2.out HKD.out.good (Nat.le_trans (Nat.le_refl _) HBN.out)).mono ?_; rw [← HSC.out]; rintro e w3 ⟨rfl, F3, L3, hr, hc⟩; have R3 := Lib.hid hr; have C3 := Lib.hid (C2.out.trans hc); have V3 := Lib.hid (V2.out.chg hc); clear hr hc R2 V2)
            | (go_at_call 22; refine (ke_delete _ F' d L' _ _ (nmK g) _ HR.out HC.out.lt HS.out (by omega)).mono ?_; rw [HD.out]; rintro e w2 ⟨rfl, F2, L2, hr, hc⟩; have R2 := Lib.hid hr; have C2 := Lib.hid (HC.out.trans hc); have V2 := Lib.hid (HV.out.chg hc); clear hr hc)
            | fail)
          go_loopw [8] (fun i wx => KeRel2 W d all.length a0 c0 all SC i wx) (fun i _ => all.length - (intOf i).toNat)
          case atStart => exact ⟨0, F3, L3, by omega, rfl, R3.out, C3.out, V3.out⟩
          case round =>
            obtain ⟨i, F4, L4, hi, rfl, hr, hc, hrow⟩ := hrel
            have R4 := Lib.hid hr
            have C4 := Lib.hid hc
            have V4 := Lib.hid hrow
            clear hr hc
            by_cases hlt2 : i < all.length
            · obtain ⟨ad, A5, c5, hA, hcell, hrow5⟩ := brow_at hrow i hlt2
              clear hrow
              subst hA
              have V5 := Lib.hid hrow5
              obtain ⟨x, hx⟩ : ∃ x, x = all.getD i [] := ⟨_, rfl⟩
              have HX := Lib.hid hx
              rw [← hx] at hcell V5
              clear hx hrow5
              have hi10 : i < 10 := by omega
              have hcv := nm_run wr i hi10
              have hG := HGET.out i hlt2
              by_cases hig : i = g
              · rw [if_pos hig] at hG
                have HG := Lib.hid hG
                have e1 : ((i : Int) == (g : Int)) = true := by rw [beq_iff_eq]; exact (HGI.out i hlt2).1 hig
                have e2 : ((i : Int) != (g : Int)) = false := by simp [bne, e1]
                clear hig hG
                go_wp2_with (first
                  | (go_at_call 16; refine (get_str HG.out (Get_calls _ F4 d L4 SC _ (nmK i) (R4.out.alloc _) HSS.out.good (Nat.le_trans (Nat.le_refl _) HBN.out))).mono ?_; rintro e w5 ⟨A6, c6, rfl, hr, hf⟩; have R6 := Lib.hid ((R4.out.alloc _).fr hf (fun _ _ => id)); have C6 := Lib.hid ((C4.out.up _).fr2 hf); have V6 := Lib.hid ((V4.out.below (Below.of_alloc' _ _)).below (fr_below hf)); clear hf hr)
                  | fail)
                go_quiet (fail)
                go_wp2_with fail
                go_roundw
                case rel => exact ⟨i + 1, F4, L4, by omega, by go_num, R6.out.drawN _, C6.out.drawN _, V6.out.drawN _⟩
                case measure => simp [intOf]; omega
              · rw [if_neg hig, ← HX.out] at hG
                have HG := Lib.hid hG
                have e1 : ((i : Int) == (g : Int)) = false := by rw [beq_eq_false_iff_ne]; exact fun e => hig ((HGI.out i hlt2).2 e)
                have e2 : ((i : Int) != (g : Int)) = true := by simp [bne, e1]
                clear hig hG
                go_wp2_with (first
                  | (go_at_call 16; refine (get_str HG.out (Get_calls _ F4 d L4 SC _ (nmK i) (R4.out.alloc _) HSS.out.good (Nat.le_trans (Nat.le_refl _) HBN.out))).mono ?_; rintro e w5 ⟨A6, c6, rfl, hr, hf⟩; have R6 := Lib.hid ((R4.out.alloc _).fr hf (fun _ _ => id)); have C6 := Lib.hid ((C4.out.up _).fr2 hf); have V6 := Lib.hid ((V4.out.below (Below.of_alloc' _ _)).below (fr_below hf)); have hcell5 := cell_below (fr_below hf) (cell_alloc hcell (.cells #[.int .u8 (97 + (i : Int))] 5)); have cvs := str_runs hr; have cvt := str_runs ((V5.out.below (Below.of_alloc' _ _)).below (fr_below hf)); obtain ⟨s, hs⟩ : ∃ s, s = strOfNums x := ⟨_, rfl⟩; rw [← hs] at cvs cvt; clear hf hr hs)
                  | fail)
                go_quiet (fail)
                go_wp2_with fail
                go_roundw
                case rel => exact ⟨i + 1, F4, L4, by omega, by go_num, R6.out.drawN _, C6.out.drawN _, V6.out.drawN _⟩
                case measure => simp [intOf]; omega
            · clear hrow
              go_wp2_with (first | (go_at_call 11; refine (lives_calls _).mono ?_; rintro e w7 ⟨rfl, hb⟩; have B7 := Lib.hid (C4.out.fr.below hb); clear hb) | fail)
              go_ret
              exact ⟨rfl, B7.out.toBelow (Nat.le_refl _) (fun _ hk => hk.elim)⟩
        · have R2 := Lib.hid (show Rep wr F' d L' (keD (fun k => all.getD k []) all.length g) (Live (keD (fun k => all.getD k []) all.length g)) by rw [← ke_none _ _ _ h1]; exact HR.out)
          have F2e : ∃ F2, F2 = F' := ⟨_, rfl⟩
          obtain ⟨F2, hF2⟩ := F2e
          obtain ⟨L2, hL2⟩ : ∃ L2, L2 = L' := ⟨_, rfl⟩
          rw [← hF2] at R2 HC HV
          rw [← hL2] at R2
          clear hF2 hL2
          have C2 := HC
          have V2 := HV
          by_cases h0 : 0 ≤ gone
          · have e0 : ¬ gone < all.length := fun e => h2 ⟨h0, e⟩
            clear h1 h2
            go_wp2_with (first
              | (go_at_call 15; refine (Crash_calls _ F2 d L2 _ _ 0 none 0 [] (Kd.C_nil _ _) R2.out HKD.out.good (Nat.le_trans (Nat.le_refl _) HBN.out)).mono ?_; rw [← HSC.out]; rintro e w3 ⟨rfl, F3, L3, hr, hc⟩; have R3 := Lib.hid hr; have C3 := Lib.hid (C2.out.trans hc); have V3 := Lib.hid (V2.out.chg hc); clear hr hc R2 V2)
              | fail)
            go_loopw [8] (fun i wx => KeRel2 W d all.length a0 c0 all SC i wx) (fun i _ => all.length - (intOf i).toNat)
            case atStart => exact ⟨0, F3, L3, by omega, rfl, R3.out, C3.out, V3.out⟩
            case round =>
              obtain ⟨i, F4, L4, hi, rfl, hr, hc, hrow⟩ := hrel
              have R4 := Lib.hid hr
              have C4 := Lib.hid hc
              have V4 := Lib.hid hrow
              clear hr hc
              by_cases hlt2 : i < all.length
              · obtain ⟨ad, A5, c5, hA, hcell, hrow5⟩ := brow_at hrow i hlt2
                clear hrow
                subst hA
                have V5 := Lib.hid hrow5
                obtain ⟨x, hx⟩ : ∃ x, x = all.getD i [] := ⟨_, rfl⟩
                have HX := Lib.hid hx
                rw [← hx] at hcell V5
                clear hx hrow5
                have hi10 : i < 10 := by omega
                have hcv := nm_run wr i hi10
                have hG := HGET.out i hlt2
                by_cases hig : i = g
                · rw [if_pos hig] at hG
                  have HG := Lib.hid hG
                  have e1 : ((i : Int) == gone) = true := by rw [beq_iff_eq]; exact (HGI.out i hlt2).1 hig
                  have e2 : ((i : Int) != gone) = false := by simp [bne, e1]
                  clear hig hG
                  go_wp2_with (first
                    | (go_at_call 16; refine (get_str HG.out (Get_calls _ F4 d L4 SC _ (nmK i) (R4.out.alloc _) HSS.out.good (Nat.le_trans (Nat.le_refl _) HBN.out))).mono ?_; rintro e w5 ⟨A6, c6, rfl, hr, hf⟩; have R6 := Lib.hid ((R4.out.alloc _).fr hf (fun _ _ => id)); have C6 := Lib.hid ((C4.out.up _).fr2 hf); have V6 := Lib.hid ((V4.out.below (Below.of_alloc' _ _)).below (fr_below hf)); clear hf hr)
                    | fail)
                  go_quiet (fail)
                  go_wp2_with fail
                  go_roundw
                  case rel => exact ⟨i + 1, F4, L4, by omega, by go_num, R6.out.drawN _, C6.out.drawN _, V6.out.drawN _⟩
                  case measure => simp [intOf]; omega
                · rw [if_neg hig, ← HX.out] at hG
                  have HG := Lib.hid hG
                  have e1 : ((i : Int) == gone) = false := by rw [beq_eq_false_iff_ne]; exact fun e => hig ((HGI.out i hlt2).2 e)
                  have e2 : ((i : Int) != gone) = true := by simp [bne, e1]
                  clear hig hG
                  go_wp2_with (first
                    | (go_at_call 16; refine (get_str HG.out (Get_calls _ F4 d L4 SC _ (nmK i) (R4.out.alloc _) HSS.out.good (Nat.le_trans (Nat.le_refl _) HBN.out))).mono ?_; rintro e w5 ⟨A6, c6, rfl, hr, hf⟩; have R6 := Lib.hid ((R4.out.alloc _).fr hf (fun _ _ => id)); have C6 := Lib.hid ((C4.out.up _).fr2 hf); have V6 := Lib.hid ((V4.out.below (Below.of_alloc' _ _)).below (fr_below hf)); have hcell5 := cell_below (fr_below hf) (cell_alloc hcell (.cells #[.int .u8 (97 + (i : Int))] 5)); have cvs := str_runs hr; have cvt := str_runs ((V5.out.below (Below.of_alloc' _ _)).below (fr_below hf)); obtain ⟨s, hs⟩ : ∃ s, s = strOfNums x := ⟨_, rfl⟩; rw [← hs] at cvs cvt; clear hf hr hs)
                    | fail)
                  go_quiet (fail)
                  go_wp2_with fail
                  go_roundw
                  case rel => exact ⟨i + 1, F4, L4, by omega, by go_num, R6.out.drawN _, C6.out.drawN _, V6.out.drawN _⟩
                  case measure => simp [intOf]; omega
              · clear hrow
                go_wp2_with (first | (go_at_call 11; refine (lives_calls _).mono ?_; rintro e w7 ⟨rfl, hb⟩; have B7 := Lib.hid (C4.out.fr.below hb); clear hb) | fail)
                go_ret
                exact ⟨rfl, B7.out.toBelow (Nat.le_refl _) (fun _ hk => hk.elim)⟩

          · clear h1 h2
            go_wp2_with (first
              | (go_at_call 15; refine (Crash_calls _ F2 d L2 _ _ 0 none 0 [] (Kd.C_nil _ _) R2.out HKD.out.good (Nat.le_trans (Nat.le_refl _) HBN.out)).mono ?_; rw [← HSC.out]; rintro e w3 ⟨rfl, F3, L3, hr, hc⟩; have R3 := Lib.hid hr; have C3 := Lib.hid (C2.out.trans hc); have V3 := Lib.hid (V2.out.chg hc); clear hr hc R2 V2)
              | fail)
            go_loopw [8] (fun i wx => KeRel2 W d all.length a0 c0 all SC i wx) (fun i _ => all.length - (intOf i).toNat)
            case atStart => exact ⟨0, F3, L3, by omega, rfl, R3.out, C3.out, V3.out⟩
            case round =>
              obtain ⟨i, F4, L4, hi, rfl, hr, hc, hrow⟩ := hrel
              have R4 := Lib.hid hr
              have C4 := Lib.hid hc
              have V4 := Lib.hid hrow
              clear hr hc
              by_cases hlt2 : i < all.length
              · obtain ⟨ad, A5, c5, hA, hcell, hrow5⟩ := brow_at hrow i hlt2
                clear hrow
                subst hA
                have V5 := Lib.hid hrow5
                obtain ⟨x, hx⟩ : ∃ x, x = all.getD i [] := ⟨_, rfl⟩
                have HX := Lib.hid hx
                rw [← hx] at hcell V5
                clear hx hrow5
                have hi10 : i < 10 := by omega
                have hcv := nm_run wr i hi10
                have hG := HGET.out i hlt2
                by_cases hig : i = g
                · rw [if_pos hig] at hG
                  have HG := Lib.hid hG
                  have e1 : ((i : Int) == gone) = true := by rw [beq_iff_eq]; exact (HGI.out i hlt2).1 hig
                  have e2 : ((i : Int) != gone) = false := by simp [bne, e1]
                  clear hig hG
                  go_wp2_with (first
                    | (go_at_call 16; refine (get_str HG.out (Get_calls _ F4 d L4 SC _ (nmK i) (R4.out.alloc _) HSS.out.good (Nat.le_trans (Nat.le_refl _) HBN.out))).mono ?_; rintro e w5 ⟨A6, c6, rfl, hr, hf⟩; have R6 := Lib.hid ((R4.out.alloc _).fr hf (fun _ _ => id)); have C6 := Lib.hid ((C4.out.up _).fr2 hf); have V6 := Lib.hid ((V4.out.below (Below.of_alloc' _ _)).below (fr_below hf)); clear hf hr)
                    | fail)
                  go_quiet (fail)
                  go_wp2_with fail
                  go_roundw
                  case rel => exact ⟨i + 1, F4, L4, by omega, by go_num, R6.out.drawN _, C6.out.drawN _, V6.out.drawN _⟩
                  case measure => simp [intOf]; omega
                · rw [if_neg hig, ← HX.out] at hG
                  have HG := Lib.hid hG
                  have e1 : ((i : Int) == gone) = false := by rw [beq_eq_false_iff_ne]; exact fun e => hig ((HGI.out i hlt2).2 e)
                  have e2 : ((i : Int) != gone) = true := by simp [bne, e1]
                  clear hig hG
                  go_wp2_with (first
                    | (go_at_call 16; refine (get_str HG.out (Get_calls _ F4 d L4 SC _ (nmK i) (R4.out.alloc _) HSS.out.good (Nat.le_trans (Nat.le_refl _) HBN.out))).mono ?_; rintro e w5 ⟨A6, c6, rfl, hr, hf⟩; have R6 := Lib.hid ((R4.out.alloc _).fr hf (fun _ _ => id)); have C6 := Lib.hid ((C4.out.up _).fr2 hf); have V6 := Lib.hid ((V4.out.below (Below.of_alloc' _ _)).below (fr_below hf)); have hcell5 := cell_below (fr_below hf) (cell_alloc hcell (.cells #[.int .u8 (97 + (i : Int))] 5)); have cvs := str_runs hr; have cvt := str_runs ((V5.out.below (Below.of_alloc' _ _)).below (fr_below hf)); obtain ⟨s, hs⟩ : ∃ s, s = strOfNums x := ⟨_, rfl⟩; rw [← hs] at cvs cvt; clear hf hr hs)
                    | fail)
                  go_quiet (fail)
                  go_wp2_with fail
                  go_roundw
                  case rel => exact ⟨i + 1, F4, L4, by omega, by go_num, R6.out.drawN _, C6.out.drawN _, V6.out.drawN _⟩
                  case measure => simp [intOf]; omega
              · clear hrow
                go_wp2_with (first | (go_at_call 11; refine (lives_calls _).mono ?_; rintro e w7 ⟨rfl, hb⟩; have B7 := Lib.hid (C4.out.fr.below hb); clear hb) | fail)
                go_ret
                exact ⟨rfl, B7.out.toBelow (Nat.le_refl _) (fun _ hk => hk.elim)⟩
end Go.Proofs.Ytehhafnjbkbmjaa.Disk

/- The law ObjstoreKeeps holds: for every input the call returns true, and each argument reads behind the call as it read before. No condition. -/
namespace Go.Proofs.Ytehhafnjbkbmjaa.objstoreKeeps
open Go.ChangeShapes Go.WideShapes Go.ChangeAt Go.RowKit
open Go.ChangeMaps (open_string shut_string)
open Go.Proofs.YtehhafnjbkbmjaaW.PrintWords Go.Proofs.Ytehhafnjbkbmjaa.Disk
set_option linter.unusedVariables false
theorem own : ownKnob Try.prog.godebug = none := by kernel_rfl
theorem laidOut : laidOutB Try.prog = true := by kernel_rfl
set_option maxRecDepth 100000 in
theorem lifted (os : Os) (started : os.Started) (H : Type) (enc : TypeId × Value → H) :
    ReturnsInHanded {} Try.checked os 4 .any (Rows.objstoreKeepsSpec.pre6 enc Try.prog Try.f4 Rows.objstoreKeepsRow.domain false) (Rows.objstoreKeepsSpec.post enc Try.prog Try.f4 false true false false) := by
  refine returnsInHanded_of_change_sized (C := Try.checked) own started (by kernel_rfl) Try.func4
    (ChangeSpec.witness6 (enc := enc) (C := Try.checked) false ⟨#[], #[.slice none 0 0, .int .i64 0], []⟩ 8 (by kernel_rfl) (by kernel_rfl) (by kernel_rfl) (by kernel_rfl)) ?_
  intro W base args ds gs before hval0 hW hcnd hsz0 _
  have hval : ∀ (j : Nat) t v, Try.f4.params[j]? = some t → args[j]? = some v → Value.okWide Try.prog W .any base t v := hval0
  have hW' := hW
  obtain ⟨p, q, hA0, hV, rfl, hfz, hnd⟩ := hW
  have hA : DataW.TrodAll enc Try.prog W 0 (fun _ => true) true Try.f4.params.toList args.toList ds p := hA0
  rw [Try.params4] at hA hval
  obtain ⟨v0, vs0, d0, ds0, p0, q0, hargs, rfl, rfl, h0, r0⟩ := trodAll_cons hA
  obtain ⟨v1, vs1, d1, ds1, p1, q1, rfl, rfl, rfl, h1, r1⟩ := trodAll_cons r0
  obtain ⟨rfl, rfl, rfl⟩ := trodAll_nil r1
  obtain rfl : args = #[v0, v1] := by cases args; simp_all
  obtain ⟨rfl, rfl⟩ := trodVars_none hV
  obtain ⟨a0, len0, cap0, rfl⟩ := okWide_slice Try.underlying40 (hval 0 40 v0 rfl rfl)
  have lt0 : ∀ x ∈ p0, x.block < W.heap.size := by obtain ⟨m, hm⟩ := h0; exact DataW.trod_lt m _ _ _ hm
  obtain ⟨l0, rfl, hc0, hC0, hw0⟩ := brows_row h0
  obtain ⟨n1, rfl, rfl, rfl, w1⟩ := open_int Try.underlying3 (hval 1 3 v1 rfl rfl) h1
  clear hA0 hval0 hsz0
  refine (keeps_walk W a0 cap0 l0 hC0 hc0 hw0 n1 (bounds_i64 w1).2).mono fun e W' ⟨he, bel⟩ => ?_
  subst he
  exact ⟨_, rfl, _, _, _, [], _, [], hW', trodAll_mk1 (shut_bool Try.underlying4 _), (trodAll_cons_mk (Below.trod laidOut (by kernel_rfl) (of_decide_eq_true (by kernel_rfl)) h0 bel lt0) (trodAll_cons_mk (shut_int Try.underlying3 w1) trodAll_mk0)), rfl, bel.frame _, fun h => by cases h⟩
theorem over : Rows.objstoreKeepsRow.holds Try.pinned (OpenSpec.ofChange Rows.objstoreKeepsSpec) :=
  OpenClaim.holds_of_wide 4 Try.f4 rfl rfl rfl rfl rfl rfl rfl ⟨rfl, rfl, rfl, rfl, rfl⟩ rfl rfl rfl rfl rfl (by kernel_rfl) Try.func4 (by kernel_rfl)
    (of_decide_eq_true (by kernel_rfl)) (by unfold Func.isWrapper; first | (rw [if_pos (by decide +kernel)]; kernel_rfl) | (rw [if_neg (by decide +kernel)]; exact ⟨rfl, rfl⟩))
    (fun os started H enc _ => lifted os started H enc)
theorem proved : Rows.ObjstoreKeepsSaid := over
#print axioms proved
end Go.Proofs.Ytehhafnjbkbmjaa.objstoreKeeps
namespace Go.Proofs.Ytehhafnjbkbmjaa
theorem objstoreKeeps_holds : Rows.ObjstoreKeepsSaid := objstoreKeeps.proved
end Go.Proofs.Ytehhafnjbkbmjaa
