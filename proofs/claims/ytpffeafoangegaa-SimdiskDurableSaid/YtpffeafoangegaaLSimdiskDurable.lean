import Derived.Test.YtpffeafoangegaaM4
import Derived.Test.YtpffeafoangegaaRows
import Derived.WalkKit
import Derived.ProofKit
import Derived.OpenShut
import Derived.ShutString
import Derived.ChangeOld
import Derived.Below
import Derived.SizedLaws
import Derived.Carry
/- SimdiskDurable, plain: the file that is kept. -/
namespace Go.Proofs.Ytpffeafoangegaa.Disk
open Go Go.RowKit Go.Proofs.YtpffeafoangegaaW.PrintWords Go.Proofs.YtpffeafoangegaaW.PrintLast Go.Proofs.YtpffeafoangegaaW.PrintMore Go.Proofs.Ytpffeafoangegaa.PSimdiskOperations
abbrev sK : ByteArray := ⟨#[107, 101, 112, 116]⟩
def du0 : PS := (pCreate pNew sK).1
def du1 (b : List Int) : PS := (pAppend du0 sK b).1
def du2 (b : List Int) : PS := (pSync (du1 b) sK).1
def du3 (b : List Int) : PS := (pSyncDir (du2 b)).1
def du4 (b more : List Int) : PS := (pAppend (du3 b) sK more).1
theorem du0_eq : pCreate pNew sK = (⟨[⟨[], 0⟩], [⟨sK, 0⟩], [], [⟨1, sK, ⟨#[]⟩, 0⟩], false, 0⟩, 0) := by kernel_rfl
theorem du1_eq (b : List Int) : pAppend du0 sK b = (⟨[⟨b, 0⟩], [⟨sK, 0⟩], [], [⟨1, sK, ⟨#[]⟩, 0⟩], false, 0⟩, 0) := by kernel_rfl
theorem du2_eq (b : List Int) : pSync (du1 b) sK = (⟨[⟨b, b.length⟩], [⟨sK, 0⟩], [], [⟨1, sK, ⟨#[]⟩, 0⟩], false, 0⟩, 0) := by kernel_rfl
theorem du3_eq (b : List Int) : pSyncDir (du2 b) = (⟨[⟨b, b.length⟩], [⟨sK, 0⟩], [⟨sK, 0⟩], [], false, 0⟩, 0) := by kernel_rfl
theorem du4_eq (b more : List Int) : pAppend (du3 b) sK more = (⟨[⟨b ++ more, b.length⟩], [⟨sK, 0⟩], [⟨sK, 0⟩], [], false, 0⟩, 0) := by kernel_rfl
theorem s_du0 : Sound du0 100 := Sound.new.create
theorem s_du1 {b : List Int} (hb : b.length ≤ 100) (hw : ∀ y ∈ b, 0 ≤ y ∧ y ≤ 255) : Sound (du1 b) 200 := s_du0.append hb hw
theorem s_du2 {b : List Int} (hb : b.length ≤ 100) (hw : ∀ y ∈ b, 0 ≤ y ∧ y ≤ 255) : Sound (du2 b) 300 := (s_du1 hb hw).sync
theorem s_du3 {b : List Int} (hb : b.length ≤ 100) (hw : ∀ y ∈ b, 0 ≤ y ∧ y ≤ 255) : Sound (du3 b) 400 := (s_du2 hb hw).syncDir
theorem s_du4 {b more : List Int} (hb : b.length ≤ 100) (hw : ∀ y ∈ b, 0 ≤ y ∧ y ≤ 255) (hm : more.length ≤ 100) (hwm : ∀ y ∈ more, 0 ≤ y ∧ y ≤ 255) : Sound (du4 b more) 500 := (s_du3 hb hw).append hm hwm

theorem look_insert {x : Ent} {n : ByteArray} (h : x.f0 ≠ n) : ∀ l : List Ent, pLook (pInsert x l) n = pLook l n
  | [] => by
    simp only [pInsert]
    rw [pLook_cons, if_neg h]
  | y :: r => by
    unfold pInsert
    split
    · rw [pLook_cons, if_neg h]
    · rw [pLook_cons, pLook_cons, look_insert h r]
theorem look_without {m n : ByteArray} (h : m ≠ n) : ∀ l : List Ent, pLook (pWithout l m) n = pLook l n
  | [] => rfl
  | y :: r => by
    rw [pWithout_cons, pLook_cons]
    by_cases hy : y.f0 = m
    · rw [if_pos hy, look_without h r, if_neg (by rw [hy]; exact h)]
    · rw [if_neg hy, pLook_cons, look_without h r]
theorem look_with {m n : ByteArray} {i : Int} (h : m ≠ n) (l : List Ent) : pLook (pWith l m i) n = pLook l n := by
  unfold pWith
  rw [look_insert (x := ⟨m, i⟩) h, look_without h]
theorem look_apply {l : List Ent} {o : Opn} {n : ByteArray} (h1 : o.f1 ≠ n) (h2 : o.f2 ≠ n) : pLook (pApply l o) n = pLook l n := by
  unfold pApply
  split
  · exact look_with h1 l
  · split
    · split
      · rw [look_with h2, look_without h1]
      · rfl
    · exact look_without h1 l
theorem look_fold {n : ByteArray} : ∀ (os : List Opn) (l : List Ent), (∀ o ∈ os, o.f1 ≠ n ∧ o.f2 ≠ n) → pLook (os.foldl pApply l) n = pLook l n
  | [], _, _ => rfl
  | o :: r, l, h => by
    rw [List.foldl_cons, look_fold r _ (fun p hp => h p (List.mem_cons_of_mem _ hp)), look_apply (h o List.mem_cons_self).1 (h o List.mem_cons_self).2]
/-- The file 'kept' is file 0, durable up to b; no other name leads to it. -/
structure Keeps (S : PS) (b more : List Int) : Prop where
  dur : pLook S.dur sK = some 0
  dir : pLook S.dir sK = some 0
  pend : ∀ o ∈ S.pend, o.f1 ≠ sK ∧ o.f2 ≠ sK
  only : ∀ e ∈ S.dir, e.f1 = 0 → e.f0 = sK
  file : fileAt S 0 = ⟨b ++ more, b.length⟩
  some_ : 0 < S.files.length
theorem keeps_start (b more : List Int) : Keeps (du4 b more) b more := by
  have e : du4 b more = ⟨[⟨b ++ more, b.length⟩], [⟨sK, 0⟩], [⟨sK, 0⟩], [], false, 0⟩ := congrArg Prod.fst (du4_eq b more)
  rw [e]
  refine ⟨by kernel_rfl, by kernel_rfl, fun o ho => ?_, fun e he _ => ?_, rfl, by simp⟩
  · simp at ho
  · simp only [List.mem_singleton] at he
    rw [he]
theorem Keeps.done {S : PS} {b more : List Int} (h : Keeps S b more) : Keeps (pDone S) b more := ⟨h.dur, h.dir, h.pend, h.only, h.file, h.some_⟩
theorem nil_ne : (⟨#[]⟩ : ByteArray) ≠ sK := by decide
theorem only_with {l : List Ent} {n : ByteArray} {i : Int} (h : ∀ e ∈ l, e.f1 = 0 → e.f0 = sK) (hi : i ≠ 0) : ∀ e ∈ pWith l n i, e.f1 = 0 → e.f0 = sK := fun e he h0 => by
  rcases mem_pWith he with rfl | he
  · exact absurd h0 hi
  · exact h e he h0
theorem Keeps.create {S : PS} {b more : List Int} {n : ByteArray} (h : Keeps S b more) (hn : n ≠ sK) : Keeps (pCreate S n).1 b more := by
  unfold pCreate
  split
  · split
    · exact h
    · refine Keeps.done ⟨h.dur, ?_, fun o ho => ?_, ?_, ?_, ?_⟩
      · exact (look_apply (o := ⟨1, n, ⟨#[]⟩, S.files.length⟩) hn nil_ne).trans h.dir
      · rcases List.mem_append.1 ho with ho | ho
        · exact h.pend o ho
        · rw [List.mem_singleton.1 ho]
          exact ⟨hn, nil_ne⟩
      · exact only_with (l := S.dir) (n := n) (i := (S.files.length : Int)) h.only (by have := h.some_; omega)
      · have := fileAt_old (S := S) (f := ⟨[], 0⟩) (i := 0) (Int.le_refl 0) (by have := h.some_; omega)
        exact this.trans h.file
      · show 0 < (S.files ++ [_]).length
        rw [List.length_append]
        have := h.some_
        omega
  · exact h
theorem Keeps.set {S : PS} {b more : List Int} {i : Int} {f : Fil} (h : Keeps S b more) (hr : 0 ≤ i ∧ i < S.files.length) (hi : i ≠ 0) : Keeps (pSet S i f) b more := by
  refine ⟨h.dur, h.dir, h.pend, h.only, ?_, ?_⟩
  · rw [fileAt_set hr (Int.le_refl 0), if_neg (fun e => hi e.symm)]
    exact h.file
  · show 0 < (S.files.set _ _).length
    rw [List.length_set]
    exact h.some_
theorem Keeps.other {S : PS} {b more : List Int} {n : ByteArray} {i : Int} (h : Keeps S b more) (hn : n ≠ sK) (hl : pLook S.dir n = some i) : i ≠ 0 := fun e => by
  obtain ⟨x, hx, h1, h2⟩ := pLook_mem hl
  exact hn (h1.symm.trans (h.only x hx (h2.trans e)))
theorem Keeps.append {S : PS} {B : Nat} {b more bs : List Int} {n : ByteArray} (h : Keeps S b more) (hg : Good S B) (hn : n ≠ sK) : Keeps (pAppend S n bs).1 b more := by
  unfold pAppend
  split
  · split
    · rename_i i hi
      exact (h.set (hg.range i (live_look hi)) (h.other hn hi)).done
    · exact h
  · exact h
theorem Keeps.sync {S : PS} {B : Nat} {b more : List Int} {n : ByteArray} (h : Keeps S b more) (hg : Good S B) (hn : n ≠ sK) : Keeps (pSync S n).1 b more := by
  unfold pSync
  split
  · split
    · rename_i i hi
      exact (h.set (hg.range i (live_look hi)) (h.other hn hi)).done
    · exact h
  · exact h
theorem Keeps.rename {S : PS} {b more : List Int} {m n : ByteArray} (h : Keeps S b more) (hm : m ≠ sK) (hn : n ≠ sK) : Keeps (pRename S m n).1 b more := by
  unfold pRename
  split
  · split
    · split
      · exact h.done
      · refine Keeps.done ⟨h.dur, ?_, fun o ho => ?_, fun e he h0 => ?_, h.file, h.some_⟩
        · exact (look_apply (o := ⟨2, m, n, 0⟩) hm hn).trans h.dir
        · rcases List.mem_append.1 ho with ho | ho
          · exact h.pend o ho
          · rw [List.mem_singleton.1 ho]
            exact ⟨hm, hn⟩
        · have he' : e ∈ pApply S.dir ⟨2, m, n, 0⟩ := he
          unfold pApply at he'
          rw [if_neg (show ¬ (2 : Int) = 1 by decide), if_pos rfl] at he'
          split at he'
          · rename_i i hi
            exact only_with (l := pWithout S.dir m) (n := n) (fun x hx => h.only x (List.mem_filter.1 hx).1) (h.other hm hi) e he' h0
          · exact h.only e he' h0
    · exact h
  · exact h
theorem Keeps.remove {S : PS} {b more : List Int} {n : ByteArray} (h : Keeps S b more) (hn : n ≠ sK) : Keeps (pRemove S n).1 b more := by
  unfold pRemove
  split
  · split
    · refine Keeps.done ⟨h.dur, ?_, fun o ho => ?_, fun e he h0 => ?_, h.file, h.some_⟩
      · exact (look_apply (o := ⟨3, n, ⟨#[]⟩, 0⟩) hn nil_ne).trans h.dir
      · rcases List.mem_append.1 ho with ho | ho
        · exact h.pend o ho
        · rw [List.mem_singleton.1 ho]
          exact ⟨hn, nil_ne⟩
      · have he' : e ∈ pApply S.dir ⟨3, n, ⟨#[]⟩, 0⟩ := he
        unfold pApply at he'
        rw [if_neg (show ¬ (3 : Int) = 1 by decide), if_neg (show ¬ (3 : Int) = 2 by decide)] at he'
        exact h.only e (List.mem_filter.1 he').1 h0
    · exact h
  · exact h
theorem Keeps.syncDir {S : PS} {b more : List Int} (h : Keeps S b more) : Keeps (pSyncDir S).1 b more := by
  unfold pSyncDir
  split
  · exact Keeps.done ⟨h.dir, h.dir, fun o ho => by simp [pSynced] at ho, h.only, h.file, h.some_⟩
  · exact h
theorem Keeps.fail {S : PS} {b more : List Int} {n : Int} (h : Keeps S b more) : Keeps (pFail S n) b more := ⟨h.dur, h.dir, h.pend, h.only, h.file, h.some_⟩
def duOk (x : SOp) : Prop := x.f1 ≠ sK ∧ x.f2 ≠ sK ∧ x.f0 ≠ 7
theorem Keeps.step {S : PS} {B : Nat} {b more : List Int} {x : SOp} (h : Keeps S b more) (hg : Good S B) (hx : duOk x) : Keeps (pStep S x) b more := by
  unfold pStep
  repeat' split
  · exact h.create hx.1
  · exact h.append hg hx.1
  · exact h.sync hg hx.1
  · exact h.rename hx.1 hx.2.1
  · exact h.remove hx.1
  · exact h.syncDir
  · exact h.fail
  · exact absurd ‹_› hx.2.2
  · exact h
/-- A round of the law's loop. -/
noncomputable def duStep (S : PS) (x : SOp) : PS := by
  classical
  exact if duOk x then pStep S x else S
theorem duStep_yes {S : PS} {x : SOp} (h : duOk x) : duStep S x = pStep S x := by unfold duStep; rw [if_pos h]
theorem duStep_no {S : PS} {x : SOp} (h : ¬ duOk x) : duStep S x = S := by unfold duStep; rw [if_neg h]
noncomputable def duAt (S : PS) (l : List SOp) (j : Nat) : PS := (l.take j).foldl duStep S
theorem duAt_succ (S : PS) (l : List SOp) (j : Nat) (hj : j < l.length) : duAt S l (j + 1) = duStep (duAt S l j) l[j] := by
  unfold duAt
  rw [List.take_succ_eq_append_getElem hj, List.foldl_append]
  rfl
theorem duAt_sound {S : PS} {B : Nat} {l : List SOp} (hs : Sound S B) (h : lightB l = true) (hw : ∀ x ∈ l, WfOp x) : ∀ j, j ≤ l.length → Sound (duAt S l j) (B + 100 * j) := by
  intro j
  induction j with
  | zero => intro _; exact hs
  | succ j ih =>
    intro hj
    have hj' : j < l.length := by omega
    rw [duAt_succ S l j hj']
    have hm : l[j] ∈ l := List.getElem_mem hj'
    by_cases hx : duOk l[j]
    · rw [duStep_yes hx]
      exact ((ih (by omega)).step (x := l[j]) ((light_at h).2 _ hm) (hw _ hm).1 (hw _ hm).2).mono (by omega)
    · rw [duStep_no hx]
      exact (ih (by omega)).mono (by omega)
theorem duAt_keeps {S : PS} {B : Nat} {l : List SOp} {b more : List Int} (hk : Keeps S b more) (hs : Sound S B) (h : lightB l = true) (hw : ∀ x ∈ l, WfOp x) : ∀ j, j ≤ l.length → Keeps (duAt S l j) b more := by
  intro j
  induction j with
  | zero => intro _; exact hk
  | succ j ih =>
    intro hj
    have hj' : j < l.length := by omega
    rw [duAt_succ S l j hj']
    by_cases hx : duOk l[j]
    · rw [duStep_yes hx]
      exact (ih (by omega)).step (duAt_sound hs h hw j (by omega)).good hx
    · rw [duStep_no hx]
      exact ih (by omega)

/-! ### behind a crash -/
def ndir (l : List Ent) (s : Nat) : List Ent := (l.zipIdx s).map (fun p => ⟨p.1.f0, (p.2 : Int)⟩)
theorem newDir_ndir (l : List Ent) : newDir l l.length = ndir l 0 := by simp [newDir, ndir]
theorem look_ndir {n : ByteArray} {x : Int} : ∀ (l : List Ent) (s : Nat), pLook l n = some x → ∃ (j : Nat) (hj : j < l.length), l[j].f1 = x ∧ pLook (ndir l s) n = some ((s + j : Nat) : Int)
  | [], _, h => by simp [pLook] at h
  | y :: r, s, h => by
    rw [pLook_cons] at h
    have e : ndir (y :: r) s = ⟨y.f0, (s : Int)⟩ :: ndir r (s + 1) := by simp [ndir]
    rw [e, pLook_cons]
    by_cases hy : y.f0 = n
    · rw [if_pos hy] at h
      rw [if_pos hy]
      exact ⟨0, by simp, by simpa using h, by simp⟩
    · rw [if_neg hy] at h
      rw [if_neg hy]
      obtain ⟨j, hj, h1, h2⟩ := look_ndir r (s + 1) h
      exact ⟨j + 1, by simp; omega, by simpa using h1, by rw [h2, show s + 1 + j = s + (j + 1) by omega]⟩
/-- What Read gives of the kept file behind a crash. -/
theorem kept_read {S : PS} {b more : List Int} (h : Keeps S b more) (n : Int) (cs : List Cf) : ∃ c : Cf, pRead (pCrash S n cs) sK = (pLeft ⟨b ++ more, b.length⟩ c, 0) := by
  have h1 : pLook (pCrashDir S n) sK = some 0 := by
    unfold pCrashDir
    rw [look_fold _ _ (fun o ho => h.pend o (List.mem_of_mem_take ho))]
    exact h.dur
  obtain ⟨j, hj, h2, h3⟩ := look_ndir (pCrashDir S n) 0 h1
  refine ⟨cfAt cs j, ?_⟩
  have h4 : pLook (pCrash S n cs).dir sK = some (j : Int) := by
    show pLook (newDir (pCrashDir S n) (pCrashDir S n).length) sK = _
    rw [newDir_ndir, h3, Nat.zero_add]
  have h5 : fileAt (pCrash S n cs) (j : Int) = ⟨pLeft ⟨b ++ more, b.length⟩ (cfAt cs j), (pLeft ⟨b ++ more, b.length⟩ (cfAt cs j)).length⟩ := by
    rw [fileAt_crash]
    unfold nf
    rw [newFiles_at S _ cs j hj, h2, h.file]
  unfold pRead
  rw [if_pos (by decide), h4]
  simp only [h5]
theorem kept_left (b more : List Int) (c : Cf) : b.length ≤ (pLeft ⟨b ++ more, b.length⟩ c).length ∧ (pLeft ⟨b ++ more, b.length⟩ c).length ≤ b.length + more.length ∧ (pLeft ⟨b ++ more, b.length⟩ c).take b.length = b := by
  obtain ⟨k, hk, hk2⟩ : ∃ k : Nat, pKept ⟨b ++ more, b.length⟩ c = (k : Int) ∧ k ≤ more.length := by
    refine ⟨(pKept ⟨b ++ more, b.length⟩ c).toNat, ?_, ?_⟩ <;>
      (unfold pKept mn mx; simp only [List.length_append]; split <;> split <;> omega)
  unfold pLeft
  rw [hk]
  simp only
  rw [show ((b.length : Int) + (k : Int)).toNat = b.length + k by omega]
  have e1 : ((b ++ more).take (b.length + k)).length = b.length + k := by rw [List.length_take, List.length_append]; omega
  have e2 : ((b ++ more).take (b.length + k)).take b.length = b := by rw [List.take_take, Nat.min_eq_left (by omega), List.take_left']; rfl
  split
  · rename_i hc
    rw [List.length_set, e1]
    refine ⟨by omega, by omega, ?_⟩
    rw [List.take_set, List.set_eq_of_length_le (by rw [List.length_take, e1]; omega)]
    exact e2
  · rw [e1]
    exact ⟨by omega, by omega, e2⟩
end Go.Proofs.Ytpffeafoangegaa.Disk

/- The law SimdiskCrash: the walk. -/
namespace Go.Proofs.Ytpffeafoangegaa.Disk
open Go Go.RowKit Go.Proofs.YtpffeafoangegaaW.PrintWords Go.Proofs.YtpffeafoangegaaW.PrintLast Go.Proofs.YtpffeafoangegaaW.PrintMore Go.Proofs.Ytpffeafoangegaa.PSimdiskOperations
theorem pLeft_full (f : Fil) (c : Cf) (h : f.f1 = f.f0.length) : pLeft f c = f.f0 := by
  have e : pKept f c = 0 := by
    unfold pKept mn mx
    rw [h]
    simp only [Int.sub_self]
    split <;> (try split) <;> omega
  unfold pLeft
  rw [e, h]
  simp
theorem newDir_at (l : List Ent) (j : Nat) (h : j < (newDir l l.length).length) : (newDir l l.length)[j] = ⟨(l[j]'(by rw [newDir_length l _ (Nat.le_refl _)] at h; exact h)).f0, (j : Int)⟩ := by
  simp [newDir]
theorem newDir_twice (l : List Ent) : newDir (newDir l l.length) (newDir l l.length).length = newDir l l.length := by
  have hl := newDir_length l l.length (Nat.le_refl _)
  apply List.ext_getElem
  · rw [newDir_length _ _ (Nat.le_refl _)]
  · intro j h1 h2
    rw [newDir_at _ j h1, newDir_at l j h2]
theorem newFiles_getElem (S : PS) (l : List Ent) (cs : List Cf) (j : Nat) (h : j < (newFiles S l cs).length) : (newFiles S l cs)[j] = ⟨pLeft (fileAt S (l[j]'(by rw [newFiles_length] at h; exact h)).f1) (cfAt cs j), (pLeft (fileAt S (l[j]'(by rw [newFiles_length] at h; exact h)).f1) (cfAt cs j)).length⟩ := by
  simp [newFiles]
/-- A second crash changes nothing. -/
theorem crash_twice (S : PS) (n m : Int) (cs ds : List Cf) : pCrash (pCrash S n cs) m ds = pCrash S n cs := by
  have e1 : pCrashDir (pCrash S n cs) m = newDir (pCrashDir S n) (pCrashDir S n).length := by simp [pCrashDir, pCrash]
  have e2 : newFiles (pCrash S n cs) (newDir (pCrashDir S n) (pCrashDir S n).length) ds = newFiles S (pCrashDir S n) cs := by
    apply List.ext_getElem
    · rw [newFiles_length, newFiles_length, newDir_length _ _ (Nat.le_refl _)]
    · intro j h1 h2
      rw [newFiles_getElem]
      have h3 : j < (newDir (pCrashDir S n) (pCrashDir S n).length).length := by rw [newFiles_length] at h1; exact h1
      have e3 : fileAt (pCrash S n cs) ((newDir (pCrashDir S n) (pCrashDir S n).length)[j]).f1 = (newFiles S (pCrashDir S n) cs)[j] := by
        rw [newDir_at _ j h3]
        show (newFiles S (pCrashDir S n) cs).getD ((j : Int)).toNat _ = _
        simp [List.getD, h2]
      have e4 : ((newFiles S (pCrashDir S n) cs)[j]).f1 = (((newFiles S (pCrashDir S n) cs)[j]).f0.length : Int) := by rw [newFiles_getElem]
      rw [e3, pLeft_full _ _ e4]
      generalize (newFiles S (pCrashDir S n) cs)[j] = f at e4 ⊢
      obtain ⟨a, b⟩ := f
      simp only at e4 ⊢
      rw [e4]
  show (⟨newFiles (pCrash S n cs) (pCrashDir (pCrash S n cs) m) ds, newDir (pCrashDir (pCrash S n cs) m) (pCrashDir (pCrash S n cs) m).length, newDir (pCrashDir (pCrash S n cs) m) (pCrashDir (pCrash S n cs) m).length, [], false, 0⟩ : PS) = _
  rw [e1, e2, newDir_twice]
  rfl
theorem sync_crash (S : PS) (n : Int) (cs : List Cf) : (pSyncDir (pCrash S n cs)).2 = 0 := by
  have : pCheck (pCrash S n cs).lim (pCrash S n cs).left [] = 0 := by kernel_rfl
  simp [pSyncDir, this]
/-- A disk's call, then the reference's, whose state is stored into the box b. -/
theorem pair_store {w wx w4 w5 w6 : World} {F ok F' : Nat → Prop} {d b : Nat} {L' : Lay} {S' : PS} {b0 : Option Addr} {d0 : Nat} {b1 : Option Addr} {d1 : Nat} {b2 : Option Addr} {d2 : Nat} {b3 : Option Addr} {d3 : Nat} {x0 x1 x2 x3 x4 x5 : Value}
    (hw : Below w.heap.size w wx) (hbw : w.heap.size ≤ b) (hk : wx.heap[b]? = some (.cells #[x0, x1, x2, x3, x4, x5] tState (0, 0))) (hap : ∀ k, ok k → ¬ F k) (hF : ∀ k, F k → w.heap.size ≤ k ∧ k ≠ b) (hok : ∀ k, ok k → k ≠ b)
    (hc : Chg wx F w4 F') (hr : Rep w4 F' d L' S' (Live S')) (hb : Below w4.heap.size w4 w5) (hf : Ref w5 (fun k => (ok k ∧ k < wx.heap.size) ∨ w4.heap.size ≤ k) b0 d0 b1 d1 b2 d2 b3 d3 S')
    (h6 : w6 = ((((((w5.setCell ⟨b, 0, none⟩ (.slice b0 S'.files.length d0)).setCell ⟨b, 1, none⟩ (.slice b1 S'.dir.length d1)).setCell ⟨b, 2, none⟩ (.slice b2 S'.dur.length d2)).setCell ⟨b, 3, none⟩ (.slice b3 S'.pend.length d3)).setCell ⟨b, 4, none⟩ (.bool S'.lim)).setCell ⟨b, 5, none⟩ (.int .i64 S'.left))) :
    w6.heap[b]? = some (.cells (svC b0 d0 b1 d1 b2 d2 b3 d3 S') tState (0, 0)) ∧ Pair w6 F' (okN ok wx F') d (sv b0 d0 b1 d1 b2 d2 b3 d3 S') S' ∧ Below w.heap.size w w6 ∧ (∀ k, F' k → w.heap.size ≤ k ∧ k ≠ b) ∧ (∀ k, okN ok wx F' k → k ≠ b) ∧ w5.heap.size = w6.heap.size := by
  have lb := lt_blk hk
  have s4 : wx.heap.size ≤ w4.heap.size := hc.fr.size
  have s5 := hb.size
  have sw := hw.size
  have far : ∀ k, k ≠ b → w6.heap[k]? = w5.heap[k]? := fun k hkb => by rw [h6, other_six hkb]
  have hs6 : w5.heap.size = w6.heap.size := by rw [h6]; simp [World.setCell]
  have kb5 : w5.heap[b]? = some (.cells #[x0, x1, x2, x3, x4, x5] tState (0, 0)) := (hb.block b (by omega)).trans ((hc.fr.block b lb (fun e => (hF b e).2 rfl)).trans hk)
  have kb6 : w6.heap[b]? = some (.cells (svC b0 d0 b1 d1 b2 d2 b3 d3 S') tState (0, 0)) := by rw [h6]; exact set_six _ _ _ _ _ _ kb5
  have b56 : Below w.heap.size w5 w6 := by rw [h6]; exact below_six (Below.refl _ _) hbw _ _ _ _ _ _
  clear h6
  have newF : ∀ k, F' k → w.heap.size ≤ k ∧ k ≠ b := fun k hk => by
    rcases hc.new k hk with h1 | h1
    · exact hF k h1
    · omega
  have newO : ∀ k, okN ok wx F' k → k ≠ b := fun k hk => by
    rcases hk with hk | hk
    · exact hok k hk.1
    · have := hk.1; omega
  have bx4 : Below w.heap.size wx w4 := hc.fr.toBelow (by omega) (fun k hk => (hF k hk).1)
  refine ⟨kb6, ⟨⟨L', ?_⟩, ⟨b0, d0, b1, d1, b2, d2, b3, d3, rfl, ?_⟩, fun k hk => ?_, fun k hk hk' => ?_⟩, ((hw.trans bx4).trans (hb.mono (by omega))).trans b56, newF, newO, hs6⟩
  · exact (hr.below hb).move (fun k hk _ => far k (newF k hk).2)
  · refine (hf.move (fun k hk hlt5 => far k ?_)).mono (fun k hk _ => ?_)
    · rcases hk with hk | hk
      · exact hok k hk.1
      · omega
    · rcases hk with hk | hk
      · exact .inl hk
      · exact .inr ⟨by omega, fun e => by have := hc.lt k e; omega⟩
  · have := hc.lt k hk; omega
  · rcases hk with hk | hk
    · rcases hc.new k hk' with h | h
      · exact hap k hk.1 h
      · have := hk.2; omega
    · exact hk.2 hk'
theorem pair_after {w7 w8 : World} {F ok F' : Nat → Prop} {d : Nat} {v : Value} {S : PS} {L' : Lay} (h : Pair w7 F ok d v S) (hc : Chg w7 F w8 F') (hr : Rep w8 F' d L' S (Live S)) : Pair w8 F' (fun k => ok k ∧ k < w7.heap.size) d v S := by
  obtain ⟨_, ⟨a0, c0, a1, c1, a2, c2, a3, c3, rfl, hf⟩, _, hap⟩ := h
  refine ⟨⟨L', hr⟩, ⟨a0, c0, a1, c1, a2, c2, a3, c3, rfl, (hf.mono (ok' := fun k => ok k ∧ k < w7.heap.size) (fun k h1 h2 => ⟨h1, h2⟩)).move (fun k hk hlt => hc.fr.block k hlt (hap k hk.1))⟩, hc.lt, fun k hk hk' => ?_⟩
  rcases hc.new k hk' with h1 | h1
  · exact hap k hk.1 h1
  · have := hk.2; omega
theorem two_cellsA {w : World} {b : Nat} {x0 x1 : Value} {t : Nat} {fz : Nat × Nat} (h : w.heap[b]? = some (.cells #[x0, x1] t fz)) : (∀ o, (w.alloc o).cell? ⟨b, 0, none⟩ = some x0) ∧ (∀ o, (w.alloc o).cell? ⟨b, 1, none⟩ = some x1) := ⟨fun o => cell_blk (blk_allocN h o) 0, fun o => cell_blk (blk_allocN h o) 1⟩
theorem chg_below {a b : World} {F F' : Nat → Prop} {B : Nat} (h : Chg a F b F') (hF : ∀ k, F k → B ≤ k) (hB : B ≤ a.heap.size) : Below B a b := h.fr.toBelow hB hF
set_option maxHeartbeats 4000000 in
set_option maxRecDepth 100000 in
theorem crash_walk (w : World) (A : Option Addr) (c : Nat) (l : List SOp) (h : Kd.C kOp w A l.length l) (hc : l.length ≤ c) (hw : ∀ x ∈ l, WfOp x) (n0 n1 : Int) (A2 : Option Addr) (c2 : Nat) (cs : List Cf) (h2 : Kd.C kC w A2 cs.length cs) (hc2 : cs.length ≤ c2) (A3 : Option Addr) (c3 : Nat) (ds : List Cf) (h3 : Kd.C kC w A3 ds.length ds) (hc3 : ds.length ≤ c3) :
    Calls Try.prog 4 #[.slice A l.length c, .agg #[.int .i64 n0, .int .i64 n1], .slice A2 cs.length c2, .slice A3 ds.length c3] w fun e w' => e = .returned (.bool true) ∧ Below w.heap.size w w' := by
  have HR := Lib.hid (Rd.ofC heap_op h hc)
  have HR2 := Lib.hid (Rd.ofC heap_cf h2 hc2)
  have HR3 := Lib.hid (Rd.ofC heap_cf h3 hc3)
  have HW := Lib.hid hw
  have HC2 := Lib.hid hc2
  have HC3 := Lib.hid hc3
  have hcap1 := h.2.1
  have hcap2 := h2.2.1
  have hcap3 := h3.2.1
  obtain ⟨w1, hw1⟩ : ∃ w1, w1 = w.alloc (.cells #[.int .i64 n0, .int .i64 n1] 34) := ⟨_, rfl⟩
  have hb1 : Below w.heap.size w w1 := by rw [hw1]; exact below_alloc (Below.refl _ _) _
  have hk1 : w1.heap[w.heap.size]? = some (.cells #[.int .i64 n0, .int .i64 n1] 34 (0, 0)) := by rw [hw1]; exact heap_alloc_new w _
  have HB1 := Lib.hid hb1
  have HK1 := Lib.hid hk1
  clear h h2 h3 hc hc2 hc3 hw hb1 hk1
  by_cases hmain : lightB l = true ∧ cs.length ≤ 100 ∧ ds.length ≤ 100
  · obtain ⟨hl, hcs, hds⟩ := hmain
    have HL := Lib.hid hl
    have HS := Lib.hid (stAt_sound Sound.new hl HW.out l.length (Nat.le_refl _))
    have h60 := (light_at hl).1
    have hd1 : decide ((100 : Int) < (cs.length : Int)) = false := decide_eq_false (by omega)
    have hd2 : decide ((100 : Int) < (ds.length : Int)) = false := decide_eq_false (by omega)
    clear hl hcs hds
    go_enter Try.func4, Try.ntmps4
    go_upto_region 1 with (fail)
    rw [← hw1]
    clear hw1
    go_wp2_with (first
      | (go_at_call 8; refine (light_calls _ A c l (HR.out.below HB1.out).now HR.out.le).mono ?_; rw [HL.out]; rintro e w2 ⟨rfl, hb⟩; have HB2 := Lib.hid hb; clear hb)
      | (go_at_call 10; refine (play_calls _ A c l ((HR.out.below HB1.out).below HB2.out).now HR.out.le HL.out HW.out).mono ?_; rintro e w3 ⟨d, v, F, ok, rfl, hp, hb, hF, hok⟩; obtain ⟨St, hSt⟩ : ∃ St, St = stAt pNew l l.length := ⟨_, rfl⟩; rw [← hSt] at hp; have HST := Lib.hid (hSt ▸ HS.out); obtain ⟨a0, c0, a1, c1, a2, cc2, a3, cc3, hv, href⟩ := hp.ref; subst hv; obtain ⟨L, hrep⟩ := hp.rep; have HREP3 := Lib.hid hrep; have HREF3 := Lib.hid href; have HP3 := Lib.hid hp; have HB3 := Lib.hid (HB2.out.trans (hb.mono HB2.out.size)); have HF3 := Lib.hid (show ∀ k, F k → w1.heap.size ≤ k from fun k hk => Nat.le_trans HB2.out.size (hF k hk)); have K53 := Lib.hid (blk_below HK1.out HB3.out); obtain ⟨q0, q1⟩ := two_cellsA K53.out; clear hp hb hF hok hrep href hSt)
      | (go_at_call 12; refine (Crash_calls _ F d L St _ n0 A2 c2 cs (((HR2.out.below HB1.out).below HB3.out).below (below_alloc (Below.refl _ _) _)).now (HREP3.out.alloc _) HST.out.good (by omega)).mono ?_; rintro e w4 ⟨rfl, F4, L4, hr4, hc4⟩; have HR4 := Lib.hid hr4; have HC4 := Lib.hid hc4; have HB4 := Lib.hid (show Below w1.heap.size w1 w4 from (below_alloc HB3.out _).trans (chg_below hc4 HF3.out (by have := HB3.out.size; simp; omega))); have K54 := Lib.hid (blk_below HK1.out HB4.out); have KB4 := Lib.hid (chg_blk hc4 (heap_alloc_new w3 _) (not_new HP3.out.lt (Nat.le_refl _))); have HREF4 := Lib.hid (((HREF3.out.mono (ok' := fun k => ok k ∧ k < w3.heap.size) (fun k h1 h2 => ⟨h1, h2⟩)).below (below_alloc (Below.refl _ _) _)).chg hc4 (fun k hk => HP3.out.apart k hk.1)); clear q0 q1; obtain ⟨q0, q1⟩ := two_cells K54.out; obtain ⟨s0, s1, s2, s3, s4, s5⟩ := six_cells KB4.out; clear hr4 hc4 HREP3)
      | (go_at_call 13; refine (refCrash_calls _ (fun k => ok k ∧ k < w3.heap.size) a0 c0 a1 c1 a2 cc2 a3 cc3 St _ n0 A2 c2 cs ((HR2.out.below HB1.out).below HB4.out).now HC2.out HREF4.out HST.out.good (by omega)).mono ?_; rintro e w5 ⟨v, rfl, ⟨b0, d0, b1, d1, b2, d2, b3, d3, rfl, hr⟩, hb⟩; have hps := fun w6 h6 => @pair_store w1 _ w4 w5 w6 F (fun k => ok k ∧ k < w3.heap.size) F4 d w3.heap.size L4 _ b0 d0 b1 d1 b2 d2 b3 d3 _ _ _ _ _ _ (below_alloc HB3.out _) HB3.out.size (heap_alloc_new w3 _) (fun k hk => HP3.out.apart k hk.1) (fun k hk => ⟨HF3.out k hk, by have := HP3.out.lt k hk; omega⟩) (fun k hk => by have := hk.2; omega) HC4.out HR4.out hb (hr.mono (ok' := fun k => ((ok k ∧ k < w3.heap.size) ∧ k < _) ∨ w4.heap.size ≤ k) (fun k hk _ => by rcases hk with hk | hk; exact .inl ⟨hk, by have := hk.2; simp; omega⟩; exact .inr hk)) h6; have HPS := Lib.hid hps; have KB5 := Lib.hid (blk_below KB4.out hb); clear s0 s1 s2 s3 s4 s5 q0 q1; obtain ⟨f0, f1, f2, f3, f4, f5⟩ := six_frozen KB5.out; obtain ⟨s0, s1, s2, s3, s4, s5⟩ := six_cells KB5.out; clear hr hb hps)
      | (go_at_call 11; obtain ⟨z1, z2, z3, z4, z5, z6⟩ := HPS.out _ rfl; refine (same_calls _ F4 _ d _ _ _ z2 HST.out.crash.good (by omega)).mono ?_; rintro e w7 ⟨rfl, hb⟩; have HP7 := Lib.hid (z2.below hb); have HB7 := Lib.hid (z3.trans (hb.mono z3.size)); have HF7 := Lib.hid z4; have K57 := Lib.hid (blk_below HK1.out HB7.out); have KB7 := Lib.hid (blk_below z1 hb); clear z1 z2 z3 z4 z5 z6 HPS hb s0 s1 s2 s3 s4 s5 f0 f1 f2 f3 f4 f5; obtain ⟨q0, q1⟩ := two_cells K57.out; obtain ⟨s0, s1, s2, s3, s4, s5⟩ := six_cells KB7.out)
      | (go_at_call 12; obtain ⟨L7, hr7⟩ := HP7.out.rep; refine (Crash_calls _ F4 d L7 _ _ n1 A3 c3 ds ((HR3.out.below HB1.out).below HB7.out).now hr7 HST.out.crash.good (by omega)).mono ?_; rintro e w8 ⟨rfl, F8, L8, hr8, hc8⟩; rw [crash_twice] at hr8; have HR8 := Lib.hid hr8; have HF8 := Lib.hid (show ∀ k, F8 k → w1.heap.size ≤ k from fun k hk => by rcases hc8.new k hk with h1 | h1; exact (HF7.out k h1).1; exact Nat.le_trans HB7.out.size h1); have HP8 := Lib.hid (pair_after HP7.out hc8 hr8); have HB8 := Lib.hid (HB7.out.trans (chg_below hc8 (fun k hk => (HF7.out k hk).1) HB7.out.size)); have KB8 := Lib.hid (chg_blk hc8 KB7.out (fun e => (HF7.out _ e).2 rfl)); clear hr7 hr8 hc8 q0 q1 s0 s1 s2 s3 s4 s5 HP7; obtain ⟨s0, s1, s2, s3, s4, s5⟩ := six_cells KB8.out)
      | (go_at_call 11; refine (same_calls _ F8 _ d _ _ _ HP8.out HST.out.crash.good (by omega)).mono ?_; rintro e w9 ⟨rfl, hb⟩; have HR9 := Lib.hid (HR8.out.below hb); have HB9 := Lib.hid (HB8.out.trans (hb.mono HB8.out.size)); clear hb HP8 s0 s1 s2 s3 s4 s5)
      | (go_at_call 14; refine (SyncDir_calls _ F8 d L8 _ _ HR9.out HST.out.crash.good (by omega)).mono ?_; rw [sync_crash]; rintro e w10 ⟨rfl, F10, L10, hr10, hc10⟩; have HC10 := Lib.hid hc10; clear hr10 hc10)
      | (go_at_call 9; refine (awake_calls _).mono ?_; rintro e w11 ⟨rfl, hb⟩; have HB11 := Lib.hid hb; clear hb)
      | fail)
    go_ret
    have hb10 := HB9.out.trans (chg_below HC10.out HF8.out HB9.out.size)
    exact ⟨rfl, HB1.out.trans ((hb10.trans (HB11.out.mono hb10.size)).mono HB1.out.size)⟩
  · cases hl : lightB l with
    | false =>
      have HL := Lib.hid hl
      clear hl hmain
      go_enter Try.func4, Try.ntmps4
      go_upto_region 1 with (fail)
      rw [← hw1]
      clear hw1
      go_wp2_with (first | (go_at_call 8; refine (light_calls _ A c l (HR.out.below HB1.out).now HR.out.le).mono ?_; rw [HL.out]; rintro e w2 ⟨rfl, hb⟩; have HB2 := Lib.hid hb; clear hb) | (go_at_call 9; refine (awake_calls _).mono ?_; rintro e w11 ⟨rfl, hb⟩; have HB11 := Lib.hid hb; clear hb) | fail)
      go_ret
      exact ⟨rfl, HB1.out.trans ((HB2.out.trans (HB11.out.mono HB2.out.size)).mono HB1.out.size)⟩
    | true =>
      have HL := Lib.hid hl
      have hways : (decide ((100 : Int) < (cs.length : Int)) = true) ∨ (decide ((100 : Int) < (cs.length : Int)) = false ∧ decide ((100 : Int) < (ds.length : Int)) = true) := by
        by_cases h1 : cs.length ≤ 100
        · right
          exact ⟨decide_eq_false (by omega), decide_eq_true (by have : ¬ ds.length ≤ 100 := fun h2 => hmain ⟨hl, h1, h2⟩; omega)⟩
        · left
          exact decide_eq_true (by omega)
      clear hl hmain
      rcases hways with hd1 | ⟨hd1, hd2⟩
      all_goals
        go_enter Try.func4, Try.ntmps4
        go_upto_region 1 with (fail)
        rw [← hw1]
        clear hw1
        go_wp2_with (first | (go_at_call 8; refine (light_calls _ A c l (HR.out.below HB1.out).now HR.out.le).mono ?_; rw [HL.out]; rintro e w2 ⟨rfl, hb⟩; have HB2 := Lib.hid hb; clear hb) | (go_at_call 9; refine (awake_calls _).mono ?_; rintro e w11 ⟨rfl, hb⟩; have HB11 := Lib.hid hb; clear hb) | fail)
        go_ret
        exact ⟨rfl, HB1.out.trans ((HB2.out.trans (HB11.out.mono HB2.out.size)).mono HB1.out.size)⟩
end Go.Proofs.Ytpffeafoangegaa.Disk

/- The law SimdiskDurable: the walk. -/
namespace Go.Proofs.Ytpffeafoangegaa.Disk
open Go Go.RowKit Go.Proofs.YtpffeafoangegaaW.PrintWords Go.Proofs.YtpffeafoangegaaW.PrintLast Go.Proofs.YtpffeafoangegaaW.PrintMore Go.Proofs.Ytpffeafoangegaa.PSimdiskOperations
theorem du_create (w : World) (F : Nat → Prop) (d : Nat) (L : Lay) (h : Rep w F d L pNew (Live pNew)) : Calls Try.prog 16 #[.pointer (some ⟨d, 0, none⟩), .string sK] w fun e w' => e = .returned (.int .i64 0) ∧ After w F d du0 w' := by
  have := Create_calls w F d L pNew 0 sK h Sound.new.good (by decide)
  rw [show (pCreate pNew sK).2 = 0 from congrArg Prod.snd du0_eq] at this
  exact this
theorem du_append (w : World) (F : Nat → Prop) (d : Nat) (L : Lay) (A : Option Addr) (c : Nat) (b : List Int) (hb : b.length ≤ 100) (hC : Kd.C kB w A b.length b) (h : Rep w F d L du0 (Live du0)) : Calls Try.prog 17 #[.pointer (some ⟨d, 0, none⟩), .string sK, .slice A b.length c] w fun e w' => e = .returned (.int .i64 0) ∧ After w F d (du1 b) w' := by
  have := Append_calls w F d L du0 100 sK A b c hC (by omega) h s_du0.good (by decide)
  rw [show (pAppend du0 sK b).2 = 0 from congrArg Prod.snd (du1_eq b)] at this
  exact this
theorem du_sync (w : World) (F : Nat → Prop) (d : Nat) (L : Lay) (b : List Int) (hb : b.length ≤ 100) (hw : ∀ y ∈ b, 0 ≤ y ∧ y ≤ 255) (h : Rep w F d L (du1 b) (Live (du1 b))) : Calls Try.prog 18 #[.pointer (some ⟨d, 0, none⟩), .string sK] w fun e w' => e = .returned (.int .i64 0) ∧ After w F d (du2 b) w' := by
  have := Sync_calls w F d L (du1 b) 200 sK h (s_du1 hb hw).good (by decide)
  rw [show (pSync (du1 b) sK).2 = 0 from congrArg Prod.snd (du2_eq b)] at this
  exact this
theorem du_syncdir (w : World) (F : Nat → Prop) (d : Nat) (L : Lay) (b : List Int) (hb : b.length ≤ 100) (hw : ∀ y ∈ b, 0 ≤ y ∧ y ≤ 255) (h : Rep w F d L (du2 b) (Live (du2 b))) : Calls Try.prog 14 #[.pointer (some ⟨d, 0, none⟩)] w fun e w' => e = .returned (.int .i64 0) ∧ After w F d (du3 b) w' := by
  have := SyncDir_calls w F d L (du2 b) 300 h (s_du2 hb hw).good (by decide)
  rw [show (pSyncDir (du2 b)).2 = 0 from congrArg Prod.snd (du3_eq b)] at this
  exact this
theorem du_more (w : World) (F : Nat → Prop) (d : Nat) (L : Lay) (b more : List Int) (A : Option Addr) (c : Nat) (hb : b.length ≤ 100) (hw : ∀ y ∈ b, 0 ≤ y ∧ y ≤ 255) (hm : more.length ≤ 100) (hC : Kd.C kB w A more.length more) (h : Rep w F d L (du3 b) (Live (du3 b))) : Calls Try.prog 17 #[.pointer (some ⟨d, 0, none⟩), .string sK, .slice A more.length c] w fun e w' => e = .returned (.int .i64 0) ∧ After w F d (du4 b more) w' := by
  have := Append_calls w F d L (du3 b) 400 sK A more c hC (by omega) h (s_du3 hb hw).good (by decide)
  rw [show (pAppend (du3 b) sK more).2 = 0 from congrArg Prod.snd (du4_eq b more)] at this
  exact this
/-- The loop of the law. -/
def DurRel (w : World) (S S2 : PS) (l : List SOp) (d bx : Nat) (i : Value) (wr : World) : Prop :=
  ∃ (j : Nat) (F ok : Nat → Prop) (a0 : Option Addr) (c0 : Nat) (a1 : Option Addr) (c1 : Nat) (a2 : Option Addr) (c2 : Nat) (a3 : Option Addr) (c3 : Nat), j ≤ l.length ∧ i = .int .i64 j ∧
    wr.heap[bx]? = some (.cells (svC a0 c0 a1 c1 a2 c2 a3 c3 (duAt S2 l j)) tState (0, 0)) ∧ Pair2 wr F ok d (sv a0 c0 a1 c1 a2 c2 a3 c3 (duAt S2 l j)) (duAt S l j) (duAt S2 l j) ∧
    Below w.heap.size w wr ∧ (∀ k, F k → w.heap.size ≤ k ∧ k ≠ bx) ∧ (∀ k, ok k → k ≠ bx) ∧ ∀ k, k < w.heap.size → ok k
theorem Pair2.move {w w' : World} {F ok : Nat → Prop} {d : Nat} {v : Value} {S S2 : PS} (h : Pair2 w F ok d v S S2) (hs : w.heap.size ≤ w'.heap.size) (hm : ∀ k, F k ∨ ok k → k < w.heap.size → w'.heap[k]? = w.heap[k]?) : Pair2 w' F ok d v S S2 := by
  obtain ⟨⟨L, hr⟩, ⟨a0, c0, a1, c1, a2, c2, a3, c3, rfl, hf⟩, hlt, hap⟩ := h
  exact ⟨⟨L, hr.move (fun k hk hlt => hm k (.inl hk) hlt)⟩, ⟨a0, c0, a1, c1, a2, c2, a3, c3, rfl, hf.move (fun k hk hlt => hm k (.inr hk) hlt)⟩, fun k hk => Nat.lt_of_lt_of_le (hlt k hk) hs, hap⟩
theorem Pair2.below {w w' : World} {F ok : Nat → Prop} {d : Nat} {v : Value} {S S2 : PS} (h : Pair2 w F ok d v S S2) (hb : Below w.heap.size w w') : Pair2 w' F ok d v S S2 := h.move hb.size (fun k _ hk => hb.block k hk)
theorem dur_next {w wr wx w5 w6 : World} {S S2 S' S2' : PS} {l : List SOp} {d bx j : Nat} {F ok F' : Nat → Prop} {b0 : Option Addr} {d0 : Nat} {b1 : Option Addr} {d1 : Nat} {b2 : Option Addr} {d2 : Nat} {b3 : Option Addr} {d3 : Nat} {x0 x1 x2 x3 x4 x5 : Value}
    (hj : j < l.length) (hS : S' = duAt S l (j + 1)) (hS2 : S2' = duAt S2 l (j + 1)) (hw : w.heap.size ≤ bx) (hbw : Below w.heap.size w wr) (hbx : Below wr.heap.size wr wx) (hk : wr.heap[bx]? = some (.cells #[x0, x1, x2, x3, x4, x5] tState (0, 0)))
    (hF : ∀ k, F k → w.heap.size ≤ k ∧ k ≠ bx) (hok : ∀ k, ok k → k ≠ bx) (hold : ∀ k, k < w.heap.size → ok k) (hp : Pair2 w5 F' (okN ok wx F') d (sv b0 d0 b1 d1 b2 d2 b3 d3 S2') S' S2') (hc : Chg wx F w5 F')
    (h6 : w6 = ((((((w5.setCell ⟨bx, 0, none⟩ (.slice b0 S2'.files.length d0)).setCell ⟨bx, 1, none⟩ (.slice b1 S2'.dir.length d1)).setCell ⟨bx, 2, none⟩ (.slice b2 S2'.dur.length d2)).setCell ⟨bx, 3, none⟩ (.slice b3 S2'.pend.length d3)).setCell ⟨bx, 4, none⟩ (.bool S2'.lim)).setCell ⟨bx, 5, none⟩ (.int .i64 S2'.left))) :
    DurRel w S S2 l d bx (.int .i64 ((j + 1 : Nat) : Int)) w6 := by
  subst hS hS2
  have lb := lt_blk hk
  have sx := hbx.size
  have s5 : wx.heap.size ≤ w5.heap.size := hc.fr.size
  have sw := hbw.size
  have e5 : w5.heap[bx]? = some (.cells #[x0, x1, x2, x3, x4, x5] tState (0, 0)) := (hc.fr.block bx (by omega) (fun e => (hF bx e).2 rfl)).trans ((hbx.block bx lb).trans hk)
  have far : ∀ k, k ≠ bx → w6.heap[k]? = w5.heap[k]? := fun k hk => by rw [h6, other_six hk]
  have e6 : w6.heap[bx]? = some (.cells (svC b0 d0 b1 d1 b2 d2 b3 d3 (duAt S2 l (j + 1))) tState (0, 0)) := by rw [h6]; exact set_six _ _ _ _ _ _ e5
  have hs6 : w5.heap.size ≤ w6.heap.size := by rw [h6]; simp [World.setCell]
  have b56 : Below w.heap.size w5 w6 := by rw [h6]; exact below_six (Below.refl _ _) hw _ _ _ _ _ _
  clear h6
  have newF : ∀ k, F' k → w.heap.size ≤ k ∧ k ≠ bx := fun k hk => by
    rcases hc.new k hk with h1 | h1
    · exact hF k h1
    · omega
  have newO : ∀ k, okN ok wx F' k → k ≠ bx := fun k hk => by
    rcases hk with hk | hk
    · exact hok k hk.1
    · have := hk.1; omega
  have bx5 : Below w.heap.size wx w5 := hc.fr.toBelow (by omega) (fun k hk => (hF k hk).1)
  exact ⟨j + 1, F', okN ok wx F', b0, d0, b1, d1, b2, d2, b3, d3, by omega, rfl, e6, hp.move hs6 (fun k hk _ => far k (by rcases hk with hk | hk; exact (newF k hk).2; exact newO k hk)), ((hbw.trans (hbx.mono hbw.size)).trans bx5).trans b56, newF, newO, fun k hk => .inl ⟨hold k hk, by omega⟩⟩
theorem dur_skip {w wr wx : World} {S S2 : PS} {l : List SOp} {d bx j : Nat} {F ok : Nat → Prop} {a0 : Option Addr} {c0 : Nat} {a1 : Option Addr} {c1 : Nat} {a2 : Option Addr} {c2 : Nat} {a3 : Option Addr} {c3 : Nat} {St St2 : PS}
    (hj : j < l.length) (hS : St = duAt S l (j + 1)) (hS2 : St2 = duAt S2 l (j + 1)) (hbw : Below w.heap.size w wr) (hbx : Below wr.heap.size wr wx) (hk : wr.heap[bx]? = some (.cells (svC a0 c0 a1 c1 a2 c2 a3 c3 St2) tState (0, 0)))
    (hF : ∀ k, F k → w.heap.size ≤ k ∧ k ≠ bx) (hok : ∀ k, ok k → k ≠ bx) (hold : ∀ k, k < w.heap.size → ok k) (hp : Pair2 wr F ok d (sv a0 c0 a1 c1 a2 c2 a3 c3 St2) St St2) :
    DurRel w S S2 l d bx (.int .i64 ((j + 1 : Nat) : Int)) wx := by
  subst hS hS2
  exact ⟨j + 1, F, ok, a0, c0, a1, c1, a2, c2, a3, c3, by omega, rfl, blk_below hk hbx, hp.below hbx, hbw.trans (hbx.mono hbw.size), hF, hok, hold⟩
end Go.Proofs.Ytpffeafoangegaa.Disk

/- The law SimdiskDurable: the walk, joined. -/
namespace Go.Proofs.Ytpffeafoangegaa.Disk
open Go Go.RowKit Go.Proofs.YtpffeafoangegaaW.PrintWords Go.Proofs.YtpffeafoangegaaW.PrintLast Go.Proofs.YtpffeafoangegaaW.PrintMore Go.Proofs.Ytpffeafoangegaa.PSimdiskOperations
theorem sK_list : sK.toList = [107, 101, 112, 116] := by kernel_rfl
theorem sK_ne {x : ByteArray} (h : x ≠ sK) : ¬ x.toList = [107, 101, 112, 116] := fun e => h ((toList_eq_iff _ _).1 (e.trans sK_list.symm))
theorem dur_start {w w1 w2 : World} {F : Nat → Prop} {d : Nat} {L : Lay} {S : PS} {l : List SOp} (hr : Rep w1 F d L S (Live S)) (hc : Chg w (fun _ => False) w1 F) (hb : Below w1.heap.size w1 w2) (hbw : Below w.heap.size w w2) :
    DurRel w S pNew l d w2.heap.size (.int .i64 0) (w2.alloc (.cells (svC none 0 none 0 none 0 none 0 pNew) tState)) := by
  have h1 := hb.size
  refine ⟨0, F, fun k => k < w.heap.size, none, 0, none, 0, none, 0, none, 0, Nat.zero_le _, rfl, heap_alloc_new w2 _, ⟨⟨L, (hr.below hb).alloc _⟩, ⟨none, 0, none, 0, none, 0, none, 0, rfl, (ref_new _).mono (fun _ hk _ => hk.elim)⟩, fun k hk => ?_, fun k hk hk' => ?_⟩, below_alloc hbw _, fun k hk => ?_, fun k hk => ?_, fun _ hk => hk⟩
  · have := hc.lt k hk; simp; omega
  · rcases hc.new k hk' with h | h
    · exact h
    · omega
  · have := hc.lt k hk
    rcases hc.new k hk with h | h
    · exact h.elim
    · omega
  · have := hbw.size; omega
set_option maxHeartbeats 8000000 in
set_option maxRecDepth 100000 in
theorem durable_walk (w : World) (A : Option Addr) (c : Nat) (l : List SOp) (h : Kd.C kOp w A l.length l) (hc : l.length ≤ c) (hw : ∀ x ∈ l, WfOp x) (A1 : Option Addr) (c1 : Nat) (b : List Int) (h1 : Kd.C kB w A1 b.length b) (hc1 : b.length ≤ c1) (hw1 : ∀ y ∈ b, 0 ≤ y ∧ y ≤ 255) (A2 : Option Addr) (c2 : Nat) (more : List Int) (h2 : Kd.C kB w A2 more.length more) (hc2 : more.length ≤ c2) (hw2 : ∀ y ∈ more, 0 ≤ y ∧ y ≤ 255) (n : Int) (_ : n ≤ 9223372036854775807) (A4 : Option Addr) (c4 : Nat) (cs : List Cf) (h4 : Kd.C kC w A4 cs.length cs) (hc4 : cs.length ≤ c4) :
    Calls Try.prog 5 #[.slice A l.length c, .slice A1 b.length c1, .slice A2 more.length c2, .int .i64 n, .slice A4 cs.length c4] w fun e w' => e = .returned (.bool true) ∧ Below w.heap.size w w' := by
  have HR := Lib.hid (Rd.ofC heap_op h hc)
  have HR1 := Lib.hid (Rd.ofC (Kd.heap_int _) h1 hc1)
  have HR2 := Lib.hid (Rd.ofC (Kd.heap_int _) h2 hc2)
  have HR4 := Lib.hid (Rd.ofC heap_cf h4 hc4)
  have HW := Lib.hid hw
  have HW1 := Lib.hid hw1
  have HW2 := Lib.hid hw2
  have hcap0 := h.2.1
  have hcap1 := h1.2.1
  have hcap2 := h2.2.1
  clear h h1 h2 h4 hc hc1 hc2 hc4 hw hw1 hw2
  by_cases hmain : lightB l = true ∧ b.length ≤ 100 ∧ more.length ≤ 100
  · obtain ⟨hl, hb100, hm100⟩ := hmain
    have HL := Lib.hid hl
    have h60 := (light_at hl).1
    have HB100 := Lib.hid hb100
    have HM100 := Lib.hid hm100
    have hd1 : decide ((100 : Int) < (b.length : Int)) = false := decide_eq_false (by omega)
    have hd2 : decide ((100 : Int) < (more.length : Int)) = false := decide_eq_false (by omega)
    clear hl hb100 hm100
    go_enter Try.func5, Try.ntmps5
    go_wp2_with (first
      | (go_at_call 8; refine (light_calls _ A c l HR.out.now HR.out.le).mono ?_; rw [HL.out]; rintro e w1 ⟨rfl, hb⟩; have HB1 := Lib.hid hb; clear hb)
      | (go_at_call 15; refine (New_calls _).mono ?_; rintro e w2 ⟨d, F0, L0, rfl, hr, hch⟩; have R0 := Lib.hid hr; have C0 := Lib.hid hch; clear hr hch)
      | (go_at_call 16; refine (du_create _ _ _ _ R0.out).mono ?_; rintro e w3 ⟨rfl, F1, L1, hr, hch⟩; have R1 := Lib.hid hr; have C1 := Lib.hid (C0.out.trans hch); clear hr hch R0)
      | (go_at_call 17; refine (du_append _ _ _ _ A1 c1 b HB100.out ((HR1.out.below HB1.out).chg C1.out (fun _ _ => id)).now R1.out).mono ?_; rintro e w4 ⟨rfl, F2, L2, hr, hch⟩; have R2 := Lib.hid hr; have C2 := Lib.hid (C1.out.trans hch); clear hr hch R1)
      | (go_at_call 18; refine (du_sync _ _ _ _ b HB100.out HW1.out R2.out).mono ?_; rintro e w5 ⟨rfl, F3, L3, hr, hch⟩; have R3 := Lib.hid hr; have C3 := Lib.hid (C2.out.trans hch); clear hr hch R2)
      | (go_at_call 14; refine (du_syncdir _ _ _ _ b HB100.out HW1.out R3.out).mono ?_; rintro e w6 ⟨rfl, F4, L4, hr, hch⟩; have R4 := Lib.hid hr; have C4 := Lib.hid (C3.out.trans hch); clear hr hch R3)
      | (go_at_call 17; refine (du_more _ _ _ _ b more A2 c2 HB100.out HW1.out HM100.out ((HR2.out.below HB1.out).chg C4.out (fun _ _ => id)).now R4.out).mono ?_; rintro e w7 ⟨rfl, F5, L5, hr, hch⟩; have R5 := Lib.hid hr; have C5 := Lib.hid (C4.out.trans hch); clear hr hch R4)
      | (go_at_call 19; refine (refNew_calls _).mono ?_; rintro e w8 ⟨rfl, hb⟩; have HB8 := Lib.hid hb; clear hb)
      | fail)
    have hbw8 : Below w1.heap.size w1 w8 := (C5.out.fr.toBelow (Nat.le_refl _) (fun _ hk => hk.elim)).trans (HB8.out.mono C5.out.fr.size)
    have HBW8 := Lib.hid hbw8
    have HST := Lib.hid (dur_start (l := l) R5.out C5.out HB8.out hbw8)
    have HSS := Lib.hid (s_du4 HB100.out HW1.out HM100.out HW2.out)
    obtain ⟨bx, hbx⟩ : ∃ bx, bx = w8.heap.size := ⟨_, rfl⟩
    have HBX := Lib.hid (show w1.heap.size ≤ bx by rw [hbx]; exact hbw8.size)
    rw [← hbx] at HST ⊢
    clear hbw8 hbx hd1 hd2
    go_loopw [64] (fun i wr => DurRel w1 (du4 b more) pNew l d bx i wr) (fun i _ => l.length - (intOf i).toNat)
    case atStart => exact HST.out
    case round =>
      obtain ⟨j, Fj, okj, a0, c0, a1, cc1, a2, cc2, a3, cc3, hj, rfl, hk6, hp, hbw, hF, hok, hold⟩ := hrel
      have K6 := Lib.hid hk6
      have HP := Lib.hid hp
      have HBR := Lib.hid hbw
      have HF := Lib.hid hF
      have HOK := Lib.hid hok
      have HOLD := Lib.hid hold
      clear hk6 hp hbw hF hok hold
      by_cases hlt : j < l.length
      · obtain ⟨ad, A3, c3', A5, c5', hA, q0, q1, q2, q3, q4, q5, r3, r5⟩ := op_at ((HR.out.below HB1.out).below HBR.out) j hlt
        subst hA
        have HSD := Lib.hid (duAt_sound HSS.out HL.out HW.out j hj)
        have HSD2 := Lib.hid (duAt_sound Sound.new HL.out HW.out j hj)
        have hx100 := (light_at HL.out).2 _ (List.getElem_mem hlt)
        have HSU := Lib.hid (duAt_succ (du4 b more) l j hlt)
        have HSU2 := Lib.hid (duAt_succ pNew l j hlt)
        obtain ⟨x, hx⟩ : ∃ x, x = l[j] := ⟨_, rfl⟩
        rw [← hx] at q0 q1 q2 q3 q4 q5 r3 r5 hx100 HSU HSU2
        obtain ⟨St, hSt⟩ : ∃ St, St = duAt (du4 b more) l j := ⟨_, rfl⟩
        obtain ⟨St2, hSt2⟩ : ∃ St2, St2 = duAt pNew l j := ⟨_, rfl⟩
        rw [← hSt] at HSD HSU HP
        rw [← hSt2] at HSD2 HSU2 HP K6
        have R3 := Lib.hid (r3.mono (ok' := okj) (fun k hk _ => HOLD.out k (Nat.lt_of_lt_of_le hk HB1.out.size)))
        have R5' := Lib.hid (r5.mono (ok' := okj) (fun k hk _ => HOLD.out k (Nat.lt_of_lt_of_le hk HB1.out.size)))
        have HX100 := Lib.hid hx100
        obtain ⟨s0, s1, s2, s3, s4, s5⟩ := six_cellsA K6.out
        clear hx hx100 r3 r5 hSt hSt2
        by_cases hdu : duOk x
        · have HSU' := Lib.hid (HSU.out.trans (duStep_yes hdu))
          have HSU2' := Lib.hid (HSU2.out.trans (duStep_yes hdu))
          obtain ⟨hdu1, hdu2, hdu3⟩ := hdu
          have p1 := sK_ne hdu1
          have p2 := sK_ne hdu2
          have e1 : (x.f1.toList == [107, 101, 112, 116]) = false := by simpa using p1
          have e2 : (x.f2.toList == [107, 101, 112, 116]) = false := by simpa using p2
          have e3 : (x.f0 == 7) = false := by simpa using hdu3
          clear hdu1 hdu2
          go_wp2_with (first | (go_at_call 20; refine (step_calls2 _ Fj okj d _ St St2 7000 x A3 c3' A5 c5' (HP.out.below (below_alloc (Below.refl _ _) _)) (HSD.out.mono (by omega)).good (HSD2.out.mono (by omega)).good (by decide) (R3.out.below (below_alloc (Below.refl _ _) _)) HX100.out (R5'.out.below (below_alloc (Below.refl _ _) _))).mono ?_; rintro e w5 ⟨v, F', bb, rfl, hp, hch, _⟩; obtain ⟨b0, d0, b1, d1, b2, d2, b3, d3, hv, _⟩ := hp.ref; subst hv; have HP5 := Lib.hid hp; have HC5 := Lib.hid hch; have K65 := Lib.hid (chg_blk hch (blk_allocN K6.out _) (fun e => (HF.out _ e).2 rfl)); clear hp hch s0 s1 s2 s3 s4 s5; obtain ⟨s0, s1, s2, s3, s4, s5⟩ := six_cells K65.out; obtain ⟨f0, f1, f2, f3, f4, f5⟩ := six_frozen K65.out) | fail)
          go_roundw
          case rel => exact dur_next hlt HSU'.out.symm HSU2'.out.symm HBX.out HBR.out (below_alloc (Below.refl _ _) _) K6.out HF.out HOK.out HOLD.out HP5.out HC5.out rfl
          case measure => simp [intOf]; omega
        · have HSU' := Lib.hid (HSU.out.trans (duStep_no hdu))
          have HSU2' := Lib.hid (HSU2.out.trans (duStep_no hdu))
          have hways : (x.f1.toList = [107, 101, 112, 116]) ∨ (¬ x.f1.toList = [107, 101, 112, 116] ∧ x.f2.toList = [107, 101, 112, 116]) ∨ (¬ x.f1.toList = [107, 101, 112, 116] ∧ ¬ x.f2.toList = [107, 101, 112, 116] ∧ x.f0 = 7) := by
            by_cases h1 : x.f1 = sK
            · left; rw [h1]; exact sK_list
            · by_cases h2 : x.f2 = sK
              · right; left; exact ⟨sK_ne h1, by rw [h2]; exact sK_list⟩
              · right; right; exact ⟨sK_ne h1, sK_ne h2, by by_cases h3 : x.f0 = 7; exact h3; exact absurd ⟨h1, h2, h3⟩ hdu⟩
          clear hdu
          rcases hways with p1 | ⟨p1, p2⟩ | ⟨p1, p2, p3⟩
          · have e1 : (x.f1.toList == [107, 101, 112, 116]) = true := by simpa using p1
            go_wp2_with fail
            go_roundw
            case rel => exact dur_skip hlt HSU'.out.symm HSU2'.out.symm HBR.out (below_alloc (Below.refl _ _) _) K6.out HF.out HOK.out HOLD.out HP.out
            case measure => simp [intOf]; omega
          · have e1 : (x.f1.toList == [107, 101, 112, 116]) = false := by simpa using p1
            have e2 : (x.f2.toList == [107, 101, 112, 116]) = true := by simpa using p2
            go_wp2_with fail
            go_roundw
            case rel => exact dur_skip hlt HSU'.out.symm HSU2'.out.symm HBR.out (below_alloc (Below.refl _ _) _) K6.out HF.out HOK.out HOLD.out HP.out
            case measure => simp [intOf]; omega
          · have e1 : (x.f1.toList == [107, 101, 112, 116]) = false := by simpa using p1
            have e2 : (x.f2.toList == [107, 101, 112, 116]) = false := by simpa using p2
            have e3 : (x.f0 == 7) = true := by simpa using p3
            go_wp2_with fail
            go_roundw
            case rel => exact dur_skip hlt HSU'.out.symm HSU2'.out.symm HBR.out (below_alloc (Below.refl _ _) _) K6.out HF.out HOK.out HOLD.out HP.out
            case measure => simp [intOf]; omega
      · obtain rfl : j = l.length := by omega
        have HSD := Lib.hid ((duAt_sound HSS.out HL.out HW.out l.length (Nat.le_refl _)).mono (B' := 7000) (by omega))
        obtain ⟨cc, hread⟩ := kept_read (duAt_keeps (keeps_start b more) HSS.out HL.out HW.out l.length (Nat.le_refl _)) n cs
        obtain ⟨g1, g2, g3⟩ := kept_left b more cc
        obtain ⟨St, hSt⟩ : ∃ St, St = duAt (du4 b more) l l.length := ⟨_, rfl⟩
        rw [← hSt] at HSD HP hread
        obtain ⟨out, hout⟩ : ∃ out, out = pLeft ⟨b ++ more, b.length⟩ cc := ⟨_, rfl⟩
        rw [← hout] at hread g1 g2 g3
        have HREAD := Lib.hid hread
        have G3 := Lib.hid g3
        have b100 := HB100.out
        have m100 := HM100.out
        clear hread g3 hSt hout
        go_upto_region 15 with (first
          | (go_at_call 12; obtain ⟨Lr, hr⟩ := HP.out.rep; refine (Crash_calls _ Fj d Lr St _ n A4 c4 cs ((HR4.out.below HB1.out).below HBR.out).now hr HSD.out.good (by decide)).mono ?_; rintro e w9 ⟨rfl, F9, L9, hr9, hc9⟩; have HR9 := Lib.hid hr9; have HB9 := Lib.hid (HBR.out.trans (chg_below hc9 (fun k hk => (HF.out k hk).1) HBR.out.size)); clear hr hr9 hc9)
          | (go_at_call 21; refine (Read3_calls _ F9 d L9 _ _ sK out 0 HREAD.out HR9.out HSD.out.crash.good (by decide)).mono ?_; rintro e w10 ⟨Ao, co, rfl, hv, hb⟩; have HV := Lib.hid hv; have HB10 := Lib.hid (HB9.out.trans (hb.mono HB9.out.size)); have gle := hv.le; clear hv hb)
          | fail)
        have hs1 : IntKind.i64.wrap ((b.length : Int) + (more.length : Int)) = (b.length : Int) + (more.length : Int) := IntWalk.i64_in _ (by omega)
        have hd1 : decide (b.length ≤ out.length) = true := decide_eq_true g1
        have hd2 : decide ((out.length : Int) ≤ (b.length : Int) + (more.length : Int)) = true := decide_eq_true (by omega)
        have hi1 : (0 : Int) ≤ (b.length : Int) := by omega
        have hi2 : (b.length : Int) ≤ (co : Int) := by omega
        have HV2 := Lib.hid (show Rd kB w10 (fun k => w9.heap.size ≤ k) Ao co b from ⟨by omega, by have := Kd.F_take (m := b.length) HV.out.f g1; rw [G3.out] at this; exact this⟩)
        have HB1' := Lib.hid ((HR1.out.below HB1.out).below HB10.out)
        go_region_held3 (fun w' => (convert 41 9 (.slice Ao b.length co)).run Try.prog w' = .ok (.string (strOfNums b)) w' ∧ (convert 41 9 (.slice A1 b.length c1)).run Try.prog w' = .ok (.string (strOfNums b)) w')
          (first | exact ⟨str_run (HV2.out.below HB11.out), str_run (HB1'.out.below HB11.out)⟩ | exact ⟨str_run (HV2.out.move (fun _ _ _ => rfl)), str_run (HB1'.out.move (fun _ _ _ => rfl))⟩)
          (first | (go_at_call 9; refine (awake_calls w10.drew).mono ?_; rintro e w11 ⟨rfl, hb⟩; have HB11 := Lib.hid (below_drew' hb); clear hb))
        all_goals
          go_wp2_with fail
          go_ret
          exact ⟨rfl, HB1.out.trans ((HB10.out.trans (HB11.out.mono HB10.out.size)).mono HB1.out.size)⟩
  · cases hl : lightB l with
    | false =>
      have HL := Lib.hid hl
      clear hl hmain
      go_enter Try.func5, Try.ntmps5
      go_wp2_with (first | (go_at_call 8; refine (light_calls _ A c l HR.out.now HR.out.le).mono ?_; rw [HL.out]; rintro e w2 ⟨rfl, hb⟩; have HB2 := Lib.hid hb; clear hb) | (go_at_call 9; refine (awake_calls _).mono ?_; rintro e w11 ⟨rfl, hb⟩; have HB11 := Lib.hid hb; clear hb) | fail)
      go_ret
      exact ⟨rfl, HB2.out.trans (HB11.out.mono HB2.out.size)⟩
    | true =>
      have HL := Lib.hid hl
      have hways : (decide ((100 : Int) < (b.length : Int)) = true) ∨ (decide ((100 : Int) < (b.length : Int)) = false ∧ decide ((100 : Int) < (more.length : Int)) = true) := by
        by_cases h1 : b.length ≤ 100
        · right
          exact ⟨decide_eq_false (by omega), decide_eq_true (by have : ¬ more.length ≤ 100 := fun h2 => hmain ⟨hl, h1, h2⟩; omega)⟩
        · left
          exact decide_eq_true (by omega)
      clear hl hmain
      rcases hways with hd1 | ⟨hd1, hd2⟩
      all_goals
        go_enter Try.func5, Try.ntmps5
        go_wp2_with (first | (go_at_call 8; refine (light_calls _ A c l HR.out.now HR.out.le).mono ?_; rw [HL.out]; rintro e w2 ⟨rfl, hb⟩; have HB2 := Lib.hid hb; clear hb) | (go_at_call 9; refine (awake_calls _).mono ?_; rintro e w11 ⟨rfl, hb⟩; have HB11 := Lib.hid hb; clear hb) | fail)
        go_ret
        exact ⟨rfl, HB2.out.trans (HB11.out.mono HB2.out.size)⟩
end Go.Proofs.Ytpffeafoangegaa.Disk

/- The law SimdiskDurable holds: for every input the call returns true, and each argument reads behind the call as it read before. No condition. -/
namespace Go.Proofs.Ytpffeafoangegaa.simdiskDurable
open Go.ChangeShapes Go.WideShapes Go.ChangeAt Go.RowKit
open Go.ChangeMaps (open_string shut_string)
open Go.Proofs.YtpffeafoangegaaW.PrintWords Go.Proofs.Ytpffeafoangegaa.Disk
set_option linter.unusedVariables false
theorem own : ownKnob Try.prog.godebug = none := by kernel_rfl
theorem laidOut : laidOutB Try.prog = true := by kernel_rfl
set_option maxRecDepth 100000 in
theorem lifted (os : Os) (started : os.Started) (H : Type) (enc : TypeId × Value → H) :
    ReturnsInHanded {} Try.checked os 5 .any (Rows.simdiskDurableSpec.pre6 enc Try.prog Try.f5 Rows.simdiskDurableRow.domain false) (Rows.simdiskDurableSpec.post enc Try.prog Try.f5 false true false false) := by
  refine returnsInHanded_of_change_sized (C := Try.checked) own started (by kernel_rfl) Try.func5
    (ChangeSpec.witness6 (enc := enc) (C := Try.checked) false ⟨#[], #[.slice none 0 0, .slice none 0 0, .slice none 0 0, .int .i64 0, .slice none 0 0], []⟩ 8 (by kernel_rfl) (by kernel_rfl) (by kernel_rfl) (by kernel_rfl)) ?_
  intro W base args ds gs before hval0 hW hcnd hsz0 _
  have hval : ∀ (j : Nat) t v, Try.f5.params[j]? = some t → args[j]? = some v → Value.okWide Try.prog W .any base t v := hval0
  have hW' := hW
  obtain ⟨p, q, hA0, hV, rfl, hfz, hnd⟩ := hW
  have hA : DataW.TrodAll enc Try.prog W 0 (fun _ => true) true Try.f5.params.toList args.toList ds p := hA0
  rw [Try.params5] at hA hval
  obtain ⟨v0, vs0, d0, ds0, p0, q0, hargs, rfl, rfl, h0, r0⟩ := trodAll_cons hA
  obtain ⟨v1, vs1, d1, ds1, p1, q1, rfl, rfl, rfl, h1, r1⟩ := trodAll_cons r0
  obtain ⟨v2, vs2, d2, ds2, p2, q2, rfl, rfl, rfl, h2, r2⟩ := trodAll_cons r1
  obtain ⟨v3, vs3, d3, ds3, p3, q3, rfl, rfl, rfl, h3, r3⟩ := trodAll_cons r2
  obtain ⟨v4, vs4, d4, ds4, p4, q4, rfl, rfl, rfl, h4, r4⟩ := trodAll_cons r3
  obtain ⟨rfl, rfl, rfl⟩ := trodAll_nil r4
  obtain rfl : args = #[v0, v1, v2, v3, v4] := by cases args; simp_all
  obtain ⟨rfl, rfl⟩ := trodVars_none hV
  obtain ⟨a0, len0, cap0, rfl⟩ := okWide_slice Try.underlying22 (hval 0 22 v0 rfl rfl)
  have lt0 : ∀ x ∈ p0, x.block < W.heap.size := by obtain ⟨m, hm⟩ := h0; exact DataW.trod_lt m _ _ _ hm
  obtain ⟨l0, rfl, hc0, hC0, hw0⟩ := ops_row h0
  obtain ⟨a1, len1, cap1, rfl⟩ := okWide_slice Try.underlying41 (hval 1 41 v1 rfl rfl)
  have lt1 : ∀ x ∈ p1, x.block < W.heap.size := by obtain ⟨m, hm⟩ := h1; exact DataW.trod_lt m _ _ _ hm
  obtain ⟨l1, rfl, hc1, hC1, hw1⟩ := bytes_row h1
  obtain ⟨a2, len2, cap2, rfl⟩ := okWide_slice Try.underlying41 (hval 2 41 v2 rfl rfl)
  have lt2 : ∀ x ∈ p2, x.block < W.heap.size := by obtain ⟨m, hm⟩ := h2; exact DataW.trod_lt m _ _ _ hm
  obtain ⟨l2, rfl, hc2, hC2, hw2⟩ := bytes_row h2
  obtain ⟨n3, rfl, rfl, rfl, w3⟩ := open_int Try.underlying3 (hval 3 3 v3 rfl rfl) h3
  obtain ⟨a4, len4, cap4, rfl⟩ := okWide_slice Try.underlying35 (hval 4 35 v4 rfl rfl)
  have lt4 : ∀ x ∈ p4, x.block < W.heap.size := by obtain ⟨m, hm⟩ := h4; exact DataW.trod_lt m _ _ _ hm
  obtain ⟨l4, rfl, hc4, hC4⟩ := cfs_row h4
  clear hA0 hval0 hsz0
  refine (durable_walk W a0 cap0 l0 hC0 hc0 hw0 a1 cap1 l1 hC1 hc1 hw1 a2 cap2 l2 hC2 hc2 hw2 n3 (bounds_i64 w3).2 a4 cap4 l4 hC4 hc4).mono fun e W' ⟨he, bel⟩ => ?_
  subst he
  exact ⟨_, rfl, _, _, _, [], _, [], hW', trodAll_mk1 (shut_bool Try.underlying4 _), (trodAll_cons_mk (Below.trod laidOut (by kernel_rfl) (of_decide_eq_true (by kernel_rfl)) h0 bel lt0) (trodAll_cons_mk (Below.trod laidOut (by kernel_rfl) (of_decide_eq_true (by kernel_rfl)) h1 bel lt1) (trodAll_cons_mk (Below.trod laidOut (by kernel_rfl) (of_decide_eq_true (by kernel_rfl)) h2 bel lt2) (trodAll_cons_mk (shut_int Try.underlying3 w3) (trodAll_cons_mk (Below.trod laidOut (by kernel_rfl) (of_decide_eq_true (by kernel_rfl)) h4 bel lt4) trodAll_mk0))))), rfl, bel.frame _, fun h => by cases h⟩
theorem over : Rows.simdiskDurableRow.holds Try.pinned (OpenSpec.ofChange Rows.simdiskDurableSpec) :=
  OpenClaim.holds_of_wide 5 Try.f5 rfl rfl rfl rfl rfl rfl rfl ⟨rfl, rfl, rfl, rfl, rfl⟩ rfl rfl rfl rfl rfl (by kernel_rfl) Try.func5 (by kernel_rfl)
    (of_decide_eq_true (by kernel_rfl)) (by unfold Func.isWrapper; first | (rw [if_pos (by decide +kernel)]; kernel_rfl) | (rw [if_neg (by decide +kernel)]; exact ⟨rfl, rfl⟩))
    (fun os started H enc _ => lifted os started H enc)
theorem proved : Rows.SimdiskDurableSaid := over
#print axioms proved
end Go.Proofs.Ytpffeafoangegaa.simdiskDurable
namespace Go.Proofs.Ytpffeafoangegaa
theorem simdiskDurable_holds : Rows.SimdiskDurableSaid := simdiskDurable.proved
end Go.Proofs.Ytpffeafoangegaa
