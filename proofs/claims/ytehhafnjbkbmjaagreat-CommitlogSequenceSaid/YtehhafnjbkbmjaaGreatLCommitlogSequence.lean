import Derived.Test.YtehhafnjbkbmjaaGreatY7
import Derived.Test.YtehhafnjbkbmjaaGreatQa
import Derived.Test.YtehhafnjbkbmjaaGreatY9
import Derived.Test.YtehhafnjbkbmjaaGreatRows
import Derived.Test.YtehhafnjbkbmjaaGreatY4
import Derived.WalkKit
import Derived.ProofKit
import Derived.OpenShut
import Derived.ShutString
import Derived.ChangeOld
import Derived.Below
import Derived.SizedLaws
import Derived.Carry
/- The commit log: how long the files can get, plain. -/
namespace Go.Proofs.YtehhafnjbkbmjaaGreat.Disk
open Go Go.RowKit Go.Proofs.YtehhafnjbkbmjaaGreatW.PrintWords Go.Proofs.YtehhafnjbkbmjaaGreatW.PrintLast Go.Proofs.YtehhafnjbkbmjaaGreatW.PrintMore Go.Proofs.YtehhafnjbkbmjaaGreat.PCommitlogSequence
/-- No file is longer than K. -/
def Big (S : PS) (K : Nat) : Prop := ∀ f ∈ S.files, f.f0.length ≤ K
theorem Big.mono {S : PS} {K K' : Nat} (h : Big S K) (hk : K ≤ K') : Big S K' := fun f hf => Nat.le_trans (h f hf) hk
theorem Big.files {S S' : PS} {K : Nat} (h : Big S K) (e : S'.files = S.files) : Big S' K := fun f hf => h f (e ▸ hf)
theorem Big.new : Big pNew 0 := fun f hf => by cases hf
theorem Big.at {S : PS} {K : Nat} (h : Big S K) (i : Int) : (fileAt S i).f0.length ≤ K := by
  unfold fileAt
  rw [List.getD_eq_getElem?_getD]
  cases e : S.files[i.toNat]? with
  | none => exact Nat.zero_le _
  | some f => exact h f (List.mem_of_getElem? e)
theorem Big.set {S : PS} {K : Nat} {i : Int} {f : Fil} (h : Big S K) (hf : f.f0.length ≤ K) : Big (pSet S i f) K := fun g hg => by
  rcases List.mem_or_eq_of_mem_set (show g ∈ S.files.set i.toNat f from hg) with h1 | h1
  · exact h g h1
  · exact h1 ▸ hf
theorem Big.done {S : PS} {K : Nat} (h : Big S K) : Big (pDone S) K := h
theorem Big.dir {S : PS} {K : Nat} {o : Opn} (h : Big S K) : Big (pDir S o) K := h
theorem Big.append {S : PS} {K m : Nat} {n : ByteArray} {b : List Int} (h : Big S K) (hb : b.length ≤ m) : Big (pAppend S n b).1 (K + m) := by
  unfold pAppend
  split
  · split
    · rename_i i hi
      refine Big.done ((h.mono (Nat.le_add_right K m)).set ?_)
      simp only [List.length_append]
      have := h.at i
      omega
    · exact h.mono (Nat.le_add_right _ _)
  · exact h.mono (Nat.le_add_right _ _)
theorem Big.sync {S : PS} {K : Nat} {n : ByteArray} (h : Big S K) : Big (pSync S n).1 K := by
  unfold pSync
  split
  · split
    · exact Big.done (h.set (h.at _))
    · exact h
  · exact h
theorem Big.create {S : PS} {K : Nat} {n : ByteArray} (h : Big S K) : Big (pCreate S n).1 K := by
  unfold pCreate
  split
  · split
    · exact h
    · refine Big.done (Big.dir (fun f hf => ?_))
      rcases List.mem_append.1 hf with h1 | h1
      · exact h f h1
      · have : f = ⟨[], 0⟩ := by simpa using h1
        rw [this]
        exact Nat.zero_le _
  · exact h
theorem Big.remove {S : PS} {K : Nat} {n : ByteArray} (h : Big S K) : Big (pRemove S n).1 K := by
  unfold pRemove
  repeat' split
  all_goals exact h
theorem Big.rename {S : PS} {K : Nat} {m n : ByteArray} (h : Big S K) : Big (pRename S m n).1 K := by
  unfold pRename
  repeat' split
  all_goals exact h
theorem Big.syncDir {S : PS} {K : Nat} (h : Big S K) : Big (pSyncDir S).1 K := by
  unfold pSyncDir
  split
  all_goals exact h
theorem Big.clear {S : PS} {K : Nat} {n : ByteArray} (h : Big S K) : Big (pClear S n).1 K := by
  unfold pClear
  split
  · exact h.remove
  · exact h
theorem pLook_insert (x : Ent) : ∀ l : List Ent, (∀ e ∈ l, e.f0 ≠ x.f0) → pLook (pInsert x l) x.f0 = some x.f1
  | [], _ => by unfold pInsert; rw [pLook_cons, if_pos rfl]
  | y :: r, h => by
    unfold pInsert
    split
    · rw [pLook_cons, if_pos rfl]
    · rw [pLook_cons, if_neg (h y List.mem_cons_self)]
      exact pLook_insert x r (fun e he => h e (List.mem_cons_of_mem _ he))
theorem pLook_with (l : List Ent) (n : ByteArray) (i : Int) : pLook (pWith l n i) n = some i := by
  unfold pWith
  exact pLook_insert ⟨n, i⟩ _ (fun e he => by
    unfold pWithout at he
    simpa using (List.mem_filter.1 he).2)
theorem create_look {S : PS} {t : ByteArray} (h : (pCreate S t).2 = 0) : pLook (pCreate S t).1.dir t = some (S.files.length : Int) ∧ (pCreate S t).1.files = S.files ++ [⟨[], 0⟩] := by
  unfold pCreate at h ⊢
  split at h
  · rename_i hc
    split at h
    · exact absurd h (by simp)
    · rename_i hl
      rw [if_pos hc, if_neg hl]
      refine ⟨?_, rfl⟩
      show pLook (pApply S.dir ⟨1, t, ⟨#[]⟩, S.files.length⟩) t = _
      unfold pApply
      rw [if_pos rfl]
      exact pLook_with _ _ _
  · rename_i hc
    exact absurd h hc
theorem Big.create_append {S : PS} {K : Nat} {t : ByteArray} {b : List Int} (h : Big S K) (hb : b.length ≤ K) (h0 : (pCreate S t).2 = 0) : Big (pAppend (pCreate S t).1 t b).1 K := by
  obtain ⟨h1, h2⟩ := create_look h0
  have hc : Big (pCreate S t).1 K := h.create
  unfold pAppend
  split
  · rw [h1]
    refine Big.done (hc.set ?_)
    have e : fileAt (pCreate S t).1 (S.files.length : Int) = ⟨[], 0⟩ := by
      unfold fileAt
      rw [h2, List.getD_eq_getElem?_getD]
      simp
    rw [e]
    simpa using hb
  · exact hc
theorem Big.replace {S : PS} {K : Nat} {t n : ByteArray} {b : List Int} (h : Big S K) (hb : b.length ≤ K) : Big (pReplace S t n b).1 K := by
  have step : ∀ j, 3 ≤ j → Big (runTo S t n b j).1 K → Big (runTo S t n b (j + 1)).1 K := fun j hj ih => by
    show Big (if _ then _ else _ : PS × Int).1 _
    split
    · match j, hj with
      | 3, _ => exact ih.sync
      | 4, _ => exact ih.rename
      | j + 5, _ => exact ih.syncDir
    · exact ih
  have r1 : Big (runTo S t n b 1).1 K := by
    show Big (if _ then _ else _ : PS × Int).1 _
    split
    · exact Big.clear h
    · exact h
  have r2 : Big (runTo S t n b 2).1 K := by
    show Big (if _ then _ else _ : PS × Int).1 _
    split
    · exact r1.create
    · exact r1
  have r3 : Big (runTo S t n b 3).1 K := by
    by_cases h2 : (runTo S t n b 2).2 = 0
    · rw [runTo_go h2]
      by_cases h1 : (runTo S t n b 1).2 = 0
      · rw [runTo_go h1] at h2 ⊢
        exact r1.create_append hb h2
      · rw [runTo_stop h1 1] at h2
        exact absurd h2 h1
    · rw [runTo_stop h2 1]
      exact r2
  exact step 5 (by omega) (step 4 (by omega) (step 3 (by omega) r3))
theorem Big.logAppend {S : PS} {K : Nat} {n : ByteArray} {x : LE} (h : Big S K) : Big (pLogAppend S n x).1 (K + 1100) := by
  unfold pLogAppend
  split
  · rename_i hv
    have h1 := h.append (n := n) (recF_length hv)
    split
    · exact h1.sync
    · exact h1
  · exact h.mono (by omega)
theorem Big.rewrite {S : PS} {K : Nat} {n : ByteArray} {xs : List LE} (h : Big S K) (hx : (recsF xs).length ≤ K) : Big (pRewrite S n xs).1 K := by
  unfold pRewrite
  split
  · exact h.replace hx
  · exact h
theorem Big.read {S : PS} {K : Nat} (h : Big S K) (n : ByteArray) : (pRead S n).1.length ≤ K := by
  unfold pRead
  split
  · split
    · exact h.at _
    · exact Nat.zero_le _
  · exact Nat.zero_le _
theorem read_bytes {S : PS} {B : Nat} (hg : Good S B) (n : ByteArray) : ∀ x ∈ (pRead S n).1, 0 ≤ x ∧ x ≤ 255 := by
  unfold pRead
  split
  · split
    · rename_i i hi
      exact hg.bytes _ (fileAt_mem (hg.range i (live_look hi)))
    · simp
  · simp
theorem Big.logOpen {S : PS} {B K : Nat} {n : ByteArray} (h : Big S K) (hg : Good S B) : Big (pOpen S n).1 K := by
  have hl : (recsF (scanF (pRead S n).1).1).length ≤ K := by
    rw [scanF_inv (read_bytes hg n), List.length_take]
    have := h.read n
    omega
  unfold pOpen
  split
  · split
    · split
      · exact h
      · split
        · exact h.rewrite hl
        · exact h.rewrite hl
    · exact h
  · exact h.rewrite (Nat.zero_le _)
theorem pLeft_leB (f : Fil) (c : Cf) : (pLeft f c).length ≤ f.f0.length := by
  unfold pLeft
  simp only
  split
  · rw [List.length_set, List.length_take]
    omega
  · rw [List.length_take]
    omega
theorem Big.crash {S : PS} {K : Nat} {n : Int} {cs : List Cf} (h : Big S K) : Big (pCrash S n cs) K := fun f hf => by
  have hf : f ∈ newFiles S (pCrashDir S n) cs := hf
  unfold newFiles at hf
  obtain ⟨p, _, rfl⟩ := List.mem_map.1 hf
  exact Nat.le_trans (pLeft_leB _ _) (h.at _)
end Go.Proofs.YtehhafnjbkbmjaaGreat.Disk

/- The law CommitlogSequence: what light says, and what is read of a row of operations. -/
namespace Go.Proofs.YtehhafnjbkbmjaaGreat.Disk
open Go Go.RowKit Go.Proofs.YtehhafnjbkbmjaaGreatW.PrintWords Go.Proofs.YtehhafnjbkbmjaaGreatW.PrintLast Go.Proofs.YtehhafnjbkbmjaaGreatW.PrintMore Go.Proofs.YtehhafnjbkbmjaaGreat.PCommitlogSequence
open Go.ChangeShapes Go.WideShapes Go.Deep
abbrev LOp := Go.Proofs.YtehhafnjbkbmjaaGreat.PCommitlogSequence.S49
abbrev kLOp : Kd LOp := k49
def lightN (y : LE) : Bool := decide (y.f5.size ≤ 100)
def lightO (x : LOp) : Bool := decide (x.f3.length ≤ 200) && (decide (x.f2.length ≤ 20) && (decide (x.f5.length ≤ 10) && (decide (x.f1.f5.size ≤ 100) && x.f2.all lightN)))
def lightL (l : List LOp) : Bool := l.all lightO && decide (l.length ≤ 30)
structure LightOp (x : LOp) : Prop where
  bs : x.f3.length ≤ 200
  es : x.f2.length ≤ 20
  cs : x.f5.length ≤ 10
  nm : x.f1.f5.size ≤ 100
structure WfLOp (x : LOp) : Prop where
  e : WfLE x.f1
  es : ∀ y ∈ x.f2, WfLE y
  bs : ∀ y ∈ x.f3, 0 ≤ y ∧ y ≤ 255
  n : x.f4 ≤ 9223372036854775807
theorem light24_at {l : List LOp} (h : lightL l = true) : l.length ≤ 30 ∧ ∀ x ∈ l, LightOp x := by
  unfold lightL at h
  simp only [Bool.and_eq_true, decide_eq_true_eq, List.all_eq_true] at h
  refine ⟨h.2, fun x hx => ?_⟩
  have := h.1 x hx
  unfold lightO at this
  simp only [Bool.and_eq_true, decide_eq_true_eq] at this
  exact ⟨this.1, this.2.1, this.2.2.1, this.2.2.2.1⟩
theorem inner_ex (l : List LOp) (i : Nat) (hi : i < l.length) (h20 : l[i].f2.length ≤ 20) (h63 : l.length ≤ 9223372036854775807) (r : Bool) (K : Nat) (hK : laminalaw24_light.l0 K l ((i + 1 : Nat) : Int) = some r) :
    ∀ (d c : Nat), l[i].f2.length - c = d → c ≤ l[i].f2.length → ∃ k, laminalaw24_light.l1 k l (i : Int) (c : Int) = some ((l[i].f2.drop c).all lightN && r) := by
  have e : rd_T49 l (i : Int) = l[i] := by simp [rd_T49, List.getD, hi]
  intro d
  induction d with
  | zero =>
    intro c hd hc
    obtain rfl : c = l[i].f2.length := by omega
    refine ⟨K + 1, ?_⟩
    simp only [laminalaw24_light.l1]
    rw [if_pos (by omega), if_pos (by omega), e, if_neg (by omega), show wrap64 ((i : Int) + 1) = ((i + 1 : Nat) : Int) by unfold wrap64; omega, hK, List.drop_length]
    simp
  | succ d ih =>
    intro c hd hc
    obtain ⟨k, hk⟩ := ih (c + 1) (by omega) (by omega)
    have hc' : c < l[i].f2.length := by omega
    refine ⟨k + 1, ?_⟩
    have e2 : rd_T46 l[i].f2 (c : Int) = l[i].f2[c] := by simp [rd_T46, List.getD, hc']
    simp only [laminalaw24_light.l1]
    rw [if_pos (by omega), if_pos (by omega), e, if_pos (by omega), if_pos (by omega), e2, show wrap64 ((c : Int) + 1) = ((c + 1 : Nat) : Int) by unfold wrap64; omega, hk, dropE l[i].f2 c hc', List.all_cons]
    unfold lightN
    by_cases hx : l[i].f2[c].f5.size ≤ 100
    · rw [if_neg (by omega)]
      simp [hx]
    · rw [if_pos (by omega)]
      simp [hx]
theorem outer_ex (l : List LOp) (h63 : l.length ≤ 9223372036854775807) : ∀ (d i : Nat), l.length - i = d → i ≤ l.length → ∃ k, laminalaw24_light.l0 k l (i : Int) = some ((l.drop i).all lightO && decide (l.length ≤ 30)) := by
  intro d
  induction d with
  | zero =>
    intro i hd hi
    obtain rfl : i = l.length := by omega
    refine ⟨1, ?_⟩
    simp only [laminalaw24_light.l0]
    rw [if_neg (by omega), List.drop_length]
    simp
    omega
  | succ d ih =>
    intro i hd hi
    have hi' : i < l.length := by omega
    obtain ⟨K, hK⟩ := ih (i + 1) (by omega) (by omega)
    have e : rd_T49 l (i : Int) = l[i] := by simp [rd_T49, List.getD, hi']
    rw [dropE l i hi', List.all_cons]
    by_cases h1 : l[i].f3.length ≤ 200
    case neg =>
      refine ⟨2, ?_⟩
      simp only [laminalaw24_light.l0, laminalaw24_light.j1]
      rw [if_pos (by omega), if_pos (by omega), e, if_pos (by omega)]
      simp [lightO, h1]
    by_cases h2 : l[i].f2.length ≤ 20
    case neg =>
      refine ⟨2, ?_⟩
      simp only [laminalaw24_light.l0, laminalaw24_light.j1]
      rw [if_pos (by omega), if_pos (by omega), e, if_neg (by omega), if_pos (by omega)]
      simp [lightO, h2]
    by_cases h3 : l[i].f5.length ≤ 10
    case neg =>
      refine ⟨2, ?_⟩
      simp only [laminalaw24_light.l0, laminalaw24_light.j1]
      rw [if_pos (by omega), if_pos (by omega), e, if_neg (by omega), if_neg (by omega), if_pos (by omega)]
      simp [lightO, h3]
    by_cases h4 : l[i].f1.f5.size ≤ 100
    case neg =>
      refine ⟨2, ?_⟩
      simp only [laminalaw24_light.l0, laminalaw24_light.j1]
      rw [if_pos (by omega), if_pos (by omega), e, if_neg (by omega), if_neg (by omega), if_neg (by omega), if_pos (by simp; omega)]
      simp [lightO, h4]
    obtain ⟨k, hk⟩ := inner_ex l i hi' h2 h63 _ K hK _ 0 rfl (Nat.zero_le _)
    refine ⟨k + 2, ?_⟩
    simp only [laminalaw24_light.l0, laminalaw24_light.j1]
    rw [if_pos (by omega), if_pos (by omega), e, if_neg (by omega), if_neg (by omega), if_neg (by omega), if_neg (by simp; omega)]
    rw [show (0 : Int) = ((0 : Nat) : Int) from rfl, hk]
    simp [lightO, h1, h2, h3, h4, Bool.and_assoc]
theorem light24_calls (w : World) (A : Option Addr) (c : Nat) (l : List LOp) (h : Kd.C kLOp w A l.length l) (hc : l.length ≤ c) :
    Calls Tryz.prog 11 #[.slice A l.length c] w fun e w' => e = .returned (.bool (lightL l)) ∧ Drawn0 w w' := by
  obtain ⟨k, hk⟩ := outer_ex l h.2.1 _ 0 rfl (Nat.zero_le _)
  exact laminalaw24_light.calls k A c l (lightL l) w h hc hk
theorem heap_cf : Kd.Heap kCf := Kd.heap_iso _ (Kd.heap_pair (Kd.heap_int _) Kd.heap_bool)
theorem heap_lop : Kd.Heap kLOp := Kd.heap_iso _ (Kd.heap_pair (Kd.heap_int _) (Kd.heap_pair heap_le (Kd.heap_pair (Kd.heap_slice _ heap_le) (Kd.heap_pair (Kd.heap_slice _ (Kd.heap_int _)) (Kd.heap_pair (Kd.heap_int _) (Kd.heap_slice _ heap_cf))))))
theorem op24_at {w : World} {ok : Nat → Prop} {A : Option Addr} {c : Nat} {l : List LOp} (h : Rd kLOp w ok A c l) (j : Nat) (hj : j < l.length) : ∃ ad A7 c7 A8 c8 A10 c10, A = some ad ∧
    (∀ (i : Nat) (u : Value), (opV l[j].f0 l[j].f1 A7 c7 l[j].f2 A8 c8 l[j].f3 l[j].f4 A10 c10 l[j].f5)[i]? = some u → w.cell? (ad.add (j * 11 + i)) = some u) ∧ Rd kLE w ok A7 c7 l[j].f2 ∧ Rd kB w ok A8 c8 l[j].f3 ∧ Rd kCf w ok A10 c10 l[j].f5 := by
  obtain ⟨_, _, hn⟩ := Kd.F_rows h.f
  obtain ⟨ad, hA, hc⟩ := hn (by omega)
  obtain ⟨cs, hs, hfk, hcell⟩ := hc j l[j] (List.getElem?_eq_getElem hj)
  obtain ⟨A7, c7, A8, c8, A10, c10, rfl, h7, f7, h8, f8, h10, f10⟩ := k49_openF hfk
  have hs6 : kLOp.sz = 11 := rfl
  rw [hs6] at hcell
  exact ⟨ad, A7, c7, A8, c8, A10, c10, hA, fun i u hu => hcell i u (by simpa [opV] using hu), ⟨h7, f7⟩, ⟨h8, f8⟩, ⟨h10, f10⟩⟩
instance : Inhabited Cf := ⟨⟨0, false⟩⟩
instance : Inhabited LOp := ⟨⟨0, zLE, [], [], 0, []⟩⟩
theorem opens_cf24 : Opens kCf 62 (fun x => (Lit.int .i64 x.f0).wf = true) := fun _ _ _ _ cs _ h => by
  obtain ⟨hl, n, hf⟩ := struct_cells Tryz.underlying62 (by kernel_rfl) (by
    intro i f hf
    have hi := (Array.getElem?_eq_some_iff.1 hf).1
    match i, hi with
    | 0, _ => cases hf; exact ⟨rfl, by kernel_rfl⟩
    | 1, _ => cases hf; exact ⟨rfl, by kernel_rfl⟩) h
  match cs, hl with
  | [u0, u1], _ =>
    obtain ⟨y0, h0⟩ := hf 0 _ u0 rfl rfl
    obtain ⟨y1, h1⟩ := hf 1 _ u1 rfl rfl
    obtain ⟨a0, k0, w0⟩ := opens_int Tryz.underlying3 _ _ _ _ _ _ h0
    obtain ⟨a1, k1, _⟩ := opens_bool Tryz.underlying4 _ _ _ _ _ _ h1
    cases k0
    cases k1
    exact ⟨⟨a0, a1⟩, k62_mk _ ⟨a0, a1⟩, w0⟩
set_option maxRecDepth 100000 in
theorem opens_op24 : Opens kLOp tOp24 WfLOp := fun H enc w fuel cs x h => by
  obtain ⟨xs, n, _, _, hl, hx, hf⟩ := DataW.trod_struct Tryz.underlying49 h
  have hl : cs.length = 11 := by rw [hl]; kernel_rfl
  match cs, hl with
  | [u0, u1, u2, u3, u4, u5, u6, u7, u8, u9, u10], _ =>
    have g : ∀ (i : Nat) (f : Field) (vs : List Value), (match Tryz.prog.underlying tOp24 with | some (.struct fs) => fs[i]? | _ => none) = some f → (([u0, u1, u2, u3, u4, u5, u6, u7, u8, u9, u10].drop f.offset).take (Tryz.prog.cellsOf f.type)) = vs → ∃ y, DataW.trod enc Tryz.prog w 0 (fun _ => true) true n f.type vs = some y := fun i f vs h1 h2 => by
      rw [Tryz.underlying49] at h1
      have h3 := hf i f h1
      rw [h2] at h3
      have hi := (Array.getElem?_eq_some_iff.1 h1).1
      exact ⟨xs[i]'(by omega), by rw [h3]; exact List.getElem?_eq_getElem _⟩
    rw [Tryz.underlying49] at g
    obtain ⟨y0, h0⟩ := g 0 _ [u0] rfl (by kernel_rfl)
    obtain ⟨y1, h1⟩ := g 1 _ [u1, u2, u3, u4, u5, u6] rfl (by kernel_rfl)
    obtain ⟨y2, h2⟩ := g 2 _ [u7] rfl (by kernel_rfl)
    obtain ⟨y3, h3⟩ := g 3 _ [u8] rfl (by kernel_rfl)
    obtain ⟨y4, h4⟩ := g 4 _ [u9] rfl (by kernel_rfl)
    obtain ⟨y5, h5⟩ := g 5 _ [u10] rfl (by kernel_rfl)
    obtain ⟨a0, k0, w0⟩ := opens_int Tryz.underlying3 _ _ _ _ _ _ h0
    obtain ⟨a1, k1, w1⟩ := opens_le _ _ _ _ _ _ h1
    obtain ⟨a2, A2, c2, k2, l2, C2, w2⟩ := opens_row (dd := kLE) Tryz.underlying47 (by kernel_rfl) opens_le h2
    obtain ⟨a3, A3, c3, k3, l3, C3, w3⟩ := opens_row (dd := Kd.int .u8) Tryz.underlying36 (by kernel_rfl) (opens_int Tryz.underlying5) h3
    obtain ⟨a4, k4, w4⟩ := opens_int Tryz.underlying3 _ _ _ _ _ _ h4
    obtain ⟨a5, A5, c5, k5, l5, C5, _⟩ := opens_row (dd := kCf) Tryz.underlying37 (by kernel_rfl) opens_cf24 h5
    cases k0
    have e1 := k46_open k1
    cases e1
    cases k2
    cases k3
    cases k4
    cases k5
    exact ⟨⟨a0, a1, a2, a3, a4, a5⟩, k49_mk _ ⟨a0, a1, a2, a3, a4, a5⟩ l2 C2 l3 C3 l5 C5, w1, w2, fun y hy => bounds_u8 (w3 y hy), (bounds_i64 w4).2⟩
theorem ops24_row {H : Type} {enc : TypeId × Value → H} {W : World} {a : Option Addr} {len cap : Nat} {d : DataW H} {ps : List MemPlace} (h : DataW.Trod enc Tryz.prog W 0 (fun _ => true) true 42 (.slice a len cap) d ps) : ∃ l : List LOp, len = l.length ∧ l.length ≤ cap ∧ Kd.C kLOp W a l.length l ∧ ∀ x ∈ l, WfLOp x := by
  obtain ⟨fuel, hf⟩ := h
  obtain ⟨l, A, c, he, hl, hC, hw⟩ := opens_row (dd := kLOp) Tryz.underlying42 (by kernel_rfl) opens_op24 hf
  simp [Value.cells] at he
  obtain ⟨rfl, rfl, rfl⟩ := he
  exact ⟨l, rfl, hl, hC, hw⟩
end Go.Proofs.YtehhafnjbkbmjaaGreat.Disk

/- The commit log: one step, whatever the operation. -/
namespace Go.Proofs.YtehhafnjbkbmjaaGreat.Disk
open Go Go.RowKit Go.Proofs.YtehhafnjbkbmjaaGreatW.PrintWords Go.Proofs.YtehhafnjbkbmjaaGreatW.PrintLast Go.Proofs.YtehhafnjbkbmjaaGreatW.PrintMore Go.Proofs.YtehhafnjbkbmjaaGreat.PCommitlogSequence
/-- What a step leaves. -/
def pStep24 (S : PS) (n : ByteArray) (x : LOp) : PS :=
  if x.f0 = 0 then (pLogAppend S n x.f1).1 else if x.f0 = 1 then (pOpen S n).1 else if x.f0 = 2 then (pRewrite S n x.f2).1
  else if x.f0 = 3 then pFail S x.f4 else if x.f0 = 4 then pCrash S x.f4 x.f5 else if x.f0 = 5 then (pAppend S n x.f3).1 else S
/-- A state that the first j steps can reach. -/
structure At24 (S : PS) (j : Nat) : Prop where
  snd : ∃ B, Sound S B ∧ B ≤ 450000000 * j
  big : ∃ K, Big S K ∧ K ≤ 22000 + 1100 * j ∧ 22000 ≤ K
theorem At24.new : At24 pNew 0 := ⟨⟨0, Sound.new, Nat.zero_le _⟩, ⟨22000, Big.new.mono (Nat.zero_le _), by omega, Nat.le_refl _⟩⟩
theorem At24.scan {S : PS} {j : Nat} (h : At24 S j) (hj : j ≤ 30) (n : ByteArray) : (pRead S n).1.length ≤ 65535 ∧ 1100 * (scanF (pRead S n).1).1.length ≤ 72100000 ∧ (pOpen S n).2.1.length ≤ 1000000 := by
  obtain ⟨K, hK, hK1, _⟩ := h.big
  have h1 := hK.read n
  have h2 := scanF_ok (pRead S n).1
  refine ⟨by omega, by omega, ?_⟩
  unfold pOpen
  split
  · split
    · split
      · simp only; omega
      · split
        · simp only; omega
        · simp
    · simp
  · simp
theorem recsF_le {xs : List LE} (h : xs.length ≤ 20) (hv : xs.all validB = true) : (recsF xs).length ≤ 22000 := by
  have hv : ∀ x ∈ xs, validB x = true := by simpa using hv
  have := recsF_length hv
  omega
theorem At24.step {S : PS} {j : Nat} {n : ByteArray} {x : LOp} (h : At24 S j) (hj : j < 30) (hl : LightOp x) (hw : WfLOp x) : At24 (pStep24 S n x) (j + 1) := by
  obtain ⟨s1, s2, s3⟩ := h.scan (by omega) n
  obtain ⟨B, hs, hB⟩ := h.snd
  obtain ⟨K, hK, hK1, hK2⟩ := h.big
  unfold pStep24
  split
  · exact ⟨⟨_, hs.logAppend, by omega⟩, ⟨_, hK.logAppend, by omega, by omega⟩⟩
  split
  · exact ⟨⟨_, hs.logOpen (m := 72100000) (by omega) s2, by omega⟩, ⟨_, hK.logOpen hs.good, by omega, by omega⟩⟩
  split
  · refine ⟨⟨_, hs.rewrite (m := 22000) (by omega) (by have := hl.es; omega), by omega⟩, ⟨K, ?_, by omega, by omega⟩⟩
    unfold pRewrite
    split
    · rename_i hv
      exact hK.replace (b := recsF x.f2) (by have := recsF_le hl.es hv; omega)
    · exact hK
  split
  · exact ⟨⟨_, hs.fail hw.n, by omega⟩, ⟨K, hK.files rfl, by omega, by omega⟩⟩
  split
  · exact ⟨⟨_, hs.crash, by omega⟩, ⟨K, hK.crash, by omega, by omega⟩⟩
  split
  · exact ⟨⟨_, hs.append_any hl.bs hw.bs, by omega⟩, ⟨_, hK.append (m := 200) hl.bs, by omega, by omega⟩⟩
  · exact ⟨⟨_, hs, by omega⟩, ⟨K, hK, by omega, by omega⟩⟩
theorem step24_calls (w : World) (F ok : Nat → Prop) (d : Nat) (v : Value) (S : PS) (j : Nat) (n : ByteArray) (x : LOp) (A7 : Option Addr) (c7 : Nat) (A8 : Option Addr) (c8 : Nat) (A10 : Option Addr) (c10 : Nat)
    (h : Pair w F ok d v S) (ha : At24 S j) (hj : j < 30) (hl : LightOp x) (hw : WfLOp x) (hn : n.size ≤ 100) (h7 : Rd kLE w ok A7 c7 x.f2) (h8 : Rd kB w ok A8 c8 x.f3) (h10 : Rd kCf w ok A10 c10 x.f5) :
    Calls Tryz.prog 13 #[.pointer (some ⟨d, 0, none⟩), v, .agg (opV x.f0 x.f1 A7 c7 x.f2 A8 c8 x.f3 x.f4 A10 c10 x.f5), .string n] w (Stepped w F ok d (pStep24 S n x)) := by
  obtain ⟨⟨L, hrep⟩, ⟨a0, c0, a1, c1, a2, c2, a3, c3, rfl, hf⟩, hlt, hap⟩ := h
  obtain ⟨s1, s2, s3⟩ := ha.scan (Nat.le_of_lt hj) n
  obtain ⟨B, hs, hB0⟩ := ha.snd
  have hB : B + 72100000 * 6 ≤ 549755813888 := by omega
  obtain ⟨k, y, es, bs, nn, cs⟩ := x
  by_cases h0 : k = 0
  · subst h0; exact step24_append w F ok d L S B 72100000 a0 c0 a1 c1 a2 c2 a3 c3 n y A7 c7 es A8 c8 bs nn A10 c10 cs hrep hf hs (by omega) hB hlt hap hw.e
  by_cases h1 : k = 1
  · subst h1; exact step24_open w F ok d L S B 72100000 a0 c0 a1 c1 a2 c2 a3 c3 n y A7 c7 es A8 c8 bs nn A10 c10 cs hrep hf hs (by omega) hB hlt hap (by omega) s1 s2 s3
  by_cases h2 : k = 2
  · subst h2; exact step24_rewrite w F ok d L S B 72100000 a0 c0 a1 c1 a2 c2 a3 c3 n y A7 c7 es A8 c8 bs nn A10 c10 cs hrep hf hs (by omega) hB hlt hap h7 hw.es (by have := hl.es; simp only at this; omega) (by have := hl.es; simp only at this; omega) (by omega)
  by_cases h3 : k = 3
  · subst h3; exact step24_fail w F ok d L S B a0 c0 a1 c1 a2 c2 a3 c3 n y A7 c7 es A8 c8 bs nn A10 c10 cs hrep hf hs hlt hap
  by_cases h4 : k = 4
  · subst h4; exact step24_crash w F ok d L S B a0 c0 a1 c1 a2 c2 a3 c3 n y A7 c7 es A8 c8 bs nn A10 c10 cs hrep hf hs hlt hap (by omega) h10
  by_cases h5 : k = 5
  · subst h5; exact step24_raw w F ok d L S B 72100000 a0 c0 a1 c1 a2 c2 a3 c3 n y A7 c7 es A8 c8 bs nn A10 c10 cs hrep hf hs (by omega) hB hlt hap h8 (by have := hl.bs; simp only at this; omega)
  have e : pStep24 S n ⟨k, y, es, bs, nn, cs⟩ = S := by simp [pStep24, h0, h1, h2, h3, h4, h5]
  rw [e]
  exact step24_else w F ok d L S a0 c0 a1 c1 a2 c2 a3 c3 n k y A7 c7 es A8 c8 bs nn A10 c10 cs hrep hf hlt hap ⟨h0, h1, h2, h3, h4, h5⟩
end Go.Proofs.YtehhafnjbkbmjaaGreat.Disk

/- The law CommitlogSequence: the walk. -/
namespace Go.Proofs.YtehhafnjbkbmjaaGreat.Disk
open Go Go.RowKit Go.Proofs.YtehhafnjbkbmjaaGreatW.PrintWords Go.Proofs.YtehhafnjbkbmjaaGreatW.PrintLast Go.Proofs.YtehhafnjbkbmjaaGreatW.PrintMore Go.Proofs.YtehhafnjbkbmjaaGreat.PCommitlogSequence
def st24 (n : ByteArray) (l : List LOp) (j : Nat) : PS := (l.take j).foldl (fun S x => pStep24 S n x) pNew
theorem st24_succ (n : ByteArray) (l : List LOp) (j : Nat) (hj : j < l.length) : st24 n l (j + 1) = pStep24 (st24 n l j) n l[j] := by
  unfold st24
  rw [List.take_succ_eq_append_getElem hj, List.foldl_append]
  rfl
theorem st24_at {n : ByteArray} {l : List LOp} (hl : lightL l = true) (hw : ∀ x ∈ l, WfLOp x) : ∀ j, j ≤ l.length → At24 (st24 n l j) j := by
  intro j
  induction j with
  | zero => intro _; exact At24.new
  | succ j ih =>
    intro hj
    have hj' : j < l.length := by omega
    have hm : l[j] ∈ l := List.getElem_mem hj'
    rw [st24_succ n l j hj']
    have h1 := light24_at hl
    exact (ih (by omega)).step (by omega) (h1.2 _ hm) (hw _ hm)
theorem drawn0_below' {w w' : World} (h : Drawn0 w w') : Below w.heap.size w w' := fr_below ((Fr.refl (fun _ => False) w).drawn h)
theorem Pair.move {w w' : World} {F ok : Nat → Prop} {d : Nat} {v : Value} {S : PS} (h : Pair w F ok d v S) (hs : w.heap.size ≤ w'.heap.size) (hm : ∀ k, F k ∨ ok k → k < w.heap.size → w'.heap[k]? = w.heap[k]?) : Pair w' F ok d v S := by
  obtain ⟨⟨L, hr⟩, ⟨a0, c0, a1, c1, a2, c2, a3, c3, rfl, hf⟩, hlt, hap⟩ := h
  exact ⟨⟨L, hr.move (fun k hk hlt => hm k (.inl hk) hlt)⟩, ⟨a0, c0, a1, c1, a2, c2, a3, c3, rfl, hf.move (fun k hk hlt => hm k (.inr hk) hlt)⟩, fun k hk => Nat.lt_of_lt_of_le (hlt k hk) hs, hap⟩
theorem Pair.below {w w' : World} {F ok : Nat → Prop} {d : Nat} {v : Value} {S : PS} (h : Pair w F ok d v S) (hb : Below w.heap.size w w') : Pair w' F ok d v S := h.move hb.size (fun k _ hk => hb.block k hk)
theorem Pair.mono {w : World} {F ok ok' : Nat → Prop} {d : Nat} {v : Value} {S : PS} (h : Pair w F ok d v S) (hok : ∀ k, ok k → k < w.heap.size → ok' k) (hap : ∀ k, ok' k → ¬ F k) : Pair w F ok' d v S := by
  obtain ⟨hr, ⟨a0, c0, a1, c1, a2, c2, a3, c3, rfl, hf⟩, hlt, _⟩ := h
  exact ⟨hr, ⟨a0, c0, a1, c1, a2, c2, a3, c3, rfl, hf.mono hok⟩, hlt, hap⟩
set_option maxHeartbeats 1000000 in
theorem refNew_calls (w : World) : Calls Tryz.prog 8 #[] w fun e w' => e = .returned (sv none 0 none 0 none 0 none 0 pNew) ∧ Below w.heap.size w w' := by
  go_enter Tryz.func8, Tryz.ntmps8
  go_wp2
  exact bodyPost_ret (results_cell_row rfl _ _ w.heap.size tState zeroC (0, 0) _ rfl (heap_alloc_new w _) Tryz.underlying31 rfl (by kernel_rfl)) rfl ⟨rfl, below_alloc (Below.refl _ _) _⟩
theorem ref_new (w : World) : Ref w (fun _ => False) none 0 none 0 none 0 none 0 pNew := ⟨Rd.nil _ _ _, Rd.nil _ _ _, Rd.nil _ _ _, Rd.nil _ _ _⟩
theorem pair_new {w w1 w2 : World} {F : Nat → Prop} {d : Nat} {L : Lay} (h : Rep w1 F d L pNew (Live pNew)) (hc : Chg w (fun _ => False) w1 F) (hb : Below w1.heap.size w1 w2) : Pair w2 F (fun _ => False) d (sv none 0 none 0 none 0 none 0 pNew) pNew :=
  ⟨⟨L, h.below hb⟩, ⟨none, 0, none, 0, none, 0, none, 0, rfl, ref_new _⟩, fun k hk => Nat.lt_of_lt_of_le (hc.lt k hk) hb.size, fun _ hk => hk.elim⟩
/-- The row's operation, read at the outset. -/
theorem op24_cells {w : World} {ok : Nat → Prop} {A : Option Addr} {c : Nat} {l : List LOp} (h : Rd kLOp w ok A c l) (j : Nat) (hj : j < l.length) {x : LOp} (hx : x = l[j]) : ∃ ad A7 c7 A8 c8 A10 c10, A = some ad ∧ (w.cell? (ad.add (j * 11)) = some (.int .i64 x.f0) ∧ w.cell? ⟨(ad.add (j * 11)).block, (ad.add (j * 11)).off + 1, none⟩ = some (.int .i64 x.f1.f0) ∧ w.cell? ⟨(ad.add (j * 11)).block, (ad.add (j * 11)).off + 2, none⟩ = some (.int .i64 x.f1.f1) ∧ w.cell? ⟨(ad.add (j * 11)).block, (ad.add (j * 11)).off + 3, none⟩ = some (.int .i64 x.f1.f2) ∧ w.cell? ⟨(ad.add (j * 11)).block, (ad.add (j * 11)).off + 4, none⟩ = some (.int .i64 x.f1.f3) ∧ w.cell? ⟨(ad.add (j * 11)).block, (ad.add (j * 11)).off + 5, none⟩ = some (.int .i64 x.f1.f4) ∧ w.cell? ⟨(ad.add (j * 11)).block, (ad.add (j * 11)).off + 6, none⟩ = some (.string x.f1.f5) ∧ w.cell? ⟨(ad.add (j * 11)).block, (ad.add (j * 11)).off + 7, none⟩ = some (.slice A7 x.f2.length c7) ∧ w.cell? ⟨(ad.add (j * 11)).block, (ad.add (j * 11)).off + 8, none⟩ = some (.slice A8 x.f3.length c8) ∧ w.cell? ⟨(ad.add (j * 11)).block, (ad.add (j * 11)).off + 9, none⟩ = some (.int .i64 x.f4) ∧ w.cell? ⟨(ad.add (j * 11)).block, (ad.add (j * 11)).off + 10, none⟩ = some (.slice A10 x.f5.length c10)) ∧ Rd kLE w ok A7 c7 x.f2 ∧ Rd kB w ok A8 c8 x.f3 ∧ Rd kCf w ok A10 c10 x.f5 := by
  obtain ⟨ad, A7, c7, A8, c8, A10, c10, hA, hc, h7, h8, h10⟩ := op24_at h j hj
  subst hx
  exact ⟨ad, A7, c7, A8, c8, A10, c10, hA, ⟨hc 0 _ rfl, by rw [← add_field _ _ 1 (by omega)]; exact hc 1 _ rfl, by rw [← add_field _ _ 2 (by omega)]; exact hc 2 _ rfl, by rw [← add_field _ _ 3 (by omega)]; exact hc 3 _ rfl, by rw [← add_field _ _ 4 (by omega)]; exact hc 4 _ rfl, by rw [← add_field _ _ 5 (by omega)]; exact hc 5 _ rfl, by rw [← add_field _ _ 6 (by omega)]; exact hc 6 _ rfl, by rw [← add_field _ _ 7 (by omega)]; exact hc 7 _ rfl, by rw [← add_field _ _ 8 (by omega)]; exact hc 8 _ rfl, by rw [← add_field _ _ 9 (by omega)]; exact hc 9 _ rfl, by rw [← add_field _ _ 10 (by omega)]; exact hc 10 _ rfl⟩, h7, h8, h10⟩
theorem held24 {w W : World} {b : Nat} {ad : Addr} {A7 A8 A10 a0 a1 a2 a3 : Option Addr} {c7 c8 c10 c0 c1 c2 c3 j : Nat} {x : LOp} {Sj : PS} (ho : w.cell? (ad.add (j * 11)) = some (.int .i64 x.f0) ∧ w.cell? ⟨(ad.add (j * 11)).block, (ad.add (j * 11)).off + 1, none⟩ = some (.int .i64 x.f1.f0) ∧ w.cell? ⟨(ad.add (j * 11)).block, (ad.add (j * 11)).off + 2, none⟩ = some (.int .i64 x.f1.f1) ∧ w.cell? ⟨(ad.add (j * 11)).block, (ad.add (j * 11)).off + 3, none⟩ = some (.int .i64 x.f1.f2) ∧ w.cell? ⟨(ad.add (j * 11)).block, (ad.add (j * 11)).off + 4, none⟩ = some (.int .i64 x.f1.f3) ∧ w.cell? ⟨(ad.add (j * 11)).block, (ad.add (j * 11)).off + 5, none⟩ = some (.int .i64 x.f1.f4) ∧ w.cell? ⟨(ad.add (j * 11)).block, (ad.add (j * 11)).off + 6, none⟩ = some (.string x.f1.f5) ∧ w.cell? ⟨(ad.add (j * 11)).block, (ad.add (j * 11)).off + 7, none⟩ = some (.slice A7 x.f2.length c7) ∧ w.cell? ⟨(ad.add (j * 11)).block, (ad.add (j * 11)).off + 8, none⟩ = some (.slice A8 x.f3.length c8) ∧ w.cell? ⟨(ad.add (j * 11)).block, (ad.add (j * 11)).off + 9, none⟩ = some (.int .i64 x.f4) ∧ w.cell? ⟨(ad.add (j * 11)).block, (ad.add (j * 11)).off + 10, none⟩ = some (.slice A10 x.f5.length c10)) (hb : Below w.heap.size w W) (hk : W.heap[b]? = some (.cells (svC a0 c0 a1 c1 a2 c2 a3 c3 Sj) tState (0, 0))) : (W.cell? ⟨b, 0, none⟩ = some (.slice a0 Sj.files.length c0) ∧ W.cell? ⟨b, 1, none⟩ = some (.slice a1 Sj.dir.length c1) ∧ W.cell? ⟨b, 2, none⟩ = some (.slice a2 Sj.dur.length c2) ∧ W.cell? ⟨b, 3, none⟩ = some (.slice a3 Sj.pend.length c3) ∧ W.cell? ⟨b, 4, none⟩ = some (.bool Sj.lim) ∧ W.cell? ⟨b, 5, none⟩ = some (.int .i64 Sj.left)) ∧ (W.cell? (ad.add (j * 11)) = some (.int .i64 x.f0) ∧ W.cell? ⟨(ad.add (j * 11)).block, (ad.add (j * 11)).off + 1, none⟩ = some (.int .i64 x.f1.f0) ∧ W.cell? ⟨(ad.add (j * 11)).block, (ad.add (j * 11)).off + 2, none⟩ = some (.int .i64 x.f1.f1) ∧ W.cell? ⟨(ad.add (j * 11)).block, (ad.add (j * 11)).off + 3, none⟩ = some (.int .i64 x.f1.f2) ∧ W.cell? ⟨(ad.add (j * 11)).block, (ad.add (j * 11)).off + 4, none⟩ = some (.int .i64 x.f1.f3) ∧ W.cell? ⟨(ad.add (j * 11)).block, (ad.add (j * 11)).off + 5, none⟩ = some (.int .i64 x.f1.f4) ∧ W.cell? ⟨(ad.add (j * 11)).block, (ad.add (j * 11)).off + 6, none⟩ = some (.string x.f1.f5) ∧ W.cell? ⟨(ad.add (j * 11)).block, (ad.add (j * 11)).off + 7, none⟩ = some (.slice A7 x.f2.length c7) ∧ W.cell? ⟨(ad.add (j * 11)).block, (ad.add (j * 11)).off + 8, none⟩ = some (.slice A8 x.f3.length c8) ∧ W.cell? ⟨(ad.add (j * 11)).block, (ad.add (j * 11)).off + 9, none⟩ = some (.int .i64 x.f4) ∧ W.cell? ⟨(ad.add (j * 11)).block, (ad.add (j * 11)).off + 10, none⟩ = some (.slice A10 x.f5.length c10)) :=
  have t : ∀ {a : Addr} {v : Value}, w.cell? a = some v → W.cell? a = some v := fun h => (hb.cell (World.block_lt_of_cell? w _ h)).trans h
  ⟨six_cells hk, t ho.1, t ho.2.1, t ho.2.2.1, t ho.2.2.2.1, t ho.2.2.2.2.1, t ho.2.2.2.2.2.1, t ho.2.2.2.2.2.2.1, t ho.2.2.2.2.2.2.2.1, t ho.2.2.2.2.2.2.2.2.1, t ho.2.2.2.2.2.2.2.2.2.1, t ho.2.2.2.2.2.2.2.2.2.2⟩
theorem held24_set {w W : World} {b T : Nat} {ad : Addr} {A7 A8 A10 a0 a1 a2 a3 : Option Addr} {c7 c8 c10 c0 c1 c2 c3 j : Nat} {x : LOp} {Sj : PS} (ho : w.cell? (ad.add (j * 11)) = some (.int .i64 x.f0) ∧ w.cell? ⟨(ad.add (j * 11)).block, (ad.add (j * 11)).off + 1, none⟩ = some (.int .i64 x.f1.f0) ∧ w.cell? ⟨(ad.add (j * 11)).block, (ad.add (j * 11)).off + 2, none⟩ = some (.int .i64 x.f1.f1) ∧ w.cell? ⟨(ad.add (j * 11)).block, (ad.add (j * 11)).off + 3, none⟩ = some (.int .i64 x.f1.f2) ∧ w.cell? ⟨(ad.add (j * 11)).block, (ad.add (j * 11)).off + 4, none⟩ = some (.int .i64 x.f1.f3) ∧ w.cell? ⟨(ad.add (j * 11)).block, (ad.add (j * 11)).off + 5, none⟩ = some (.int .i64 x.f1.f4) ∧ w.cell? ⟨(ad.add (j * 11)).block, (ad.add (j * 11)).off + 6, none⟩ = some (.string x.f1.f5) ∧ w.cell? ⟨(ad.add (j * 11)).block, (ad.add (j * 11)).off + 7, none⟩ = some (.slice A7 x.f2.length c7) ∧ w.cell? ⟨(ad.add (j * 11)).block, (ad.add (j * 11)).off + 8, none⟩ = some (.slice A8 x.f3.length c8) ∧ w.cell? ⟨(ad.add (j * 11)).block, (ad.add (j * 11)).off + 9, none⟩ = some (.int .i64 x.f4) ∧ w.cell? ⟨(ad.add (j * 11)).block, (ad.add (j * 11)).off + 10, none⟩ = some (.slice A10 x.f5.length c10)) (hb : Below w.heap.size w W) (hk : W.heap[b]? = some (.cells (svC a0 c0 a1 c1 a2 c2 a3 c3 Sj) tState (0, 0))) (hT : w.heap.size ≤ T) (hne : b ≠ T) (y0 y1 y2 y3 y4 y5 : Value) : (((((((W.setCell ⟨T, 0, none⟩ y0).setCell ⟨T, 1, none⟩ y1).setCell ⟨T, 2, none⟩ y2).setCell ⟨T, 3, none⟩ y3).setCell ⟨T, 4, none⟩ y4).setCell ⟨T, 5, none⟩ y5).cell? ⟨b, 0, none⟩ = some (.slice a0 Sj.files.length c0) ∧ ((((((W.setCell ⟨T, 0, none⟩ y0).setCell ⟨T, 1, none⟩ y1).setCell ⟨T, 2, none⟩ y2).setCell ⟨T, 3, none⟩ y3).setCell ⟨T, 4, none⟩ y4).setCell ⟨T, 5, none⟩ y5).cell? ⟨b, 1, none⟩ = some (.slice a1 Sj.dir.length c1) ∧ ((((((W.setCell ⟨T, 0, none⟩ y0).setCell ⟨T, 1, none⟩ y1).setCell ⟨T, 2, none⟩ y2).setCell ⟨T, 3, none⟩ y3).setCell ⟨T, 4, none⟩ y4).setCell ⟨T, 5, none⟩ y5).cell? ⟨b, 2, none⟩ = some (.slice a2 Sj.dur.length c2) ∧ ((((((W.setCell ⟨T, 0, none⟩ y0).setCell ⟨T, 1, none⟩ y1).setCell ⟨T, 2, none⟩ y2).setCell ⟨T, 3, none⟩ y3).setCell ⟨T, 4, none⟩ y4).setCell ⟨T, 5, none⟩ y5).cell? ⟨b, 3, none⟩ = some (.slice a3 Sj.pend.length c3) ∧ ((((((W.setCell ⟨T, 0, none⟩ y0).setCell ⟨T, 1, none⟩ y1).setCell ⟨T, 2, none⟩ y2).setCell ⟨T, 3, none⟩ y3).setCell ⟨T, 4, none⟩ y4).setCell ⟨T, 5, none⟩ y5).cell? ⟨b, 4, none⟩ = some (.bool Sj.lim) ∧ ((((((W.setCell ⟨T, 0, none⟩ y0).setCell ⟨T, 1, none⟩ y1).setCell ⟨T, 2, none⟩ y2).setCell ⟨T, 3, none⟩ y3).setCell ⟨T, 4, none⟩ y4).setCell ⟨T, 5, none⟩ y5).cell? ⟨b, 5, none⟩ = some (.int .i64 Sj.left)) ∧ (((((((W.setCell ⟨T, 0, none⟩ y0).setCell ⟨T, 1, none⟩ y1).setCell ⟨T, 2, none⟩ y2).setCell ⟨T, 3, none⟩ y3).setCell ⟨T, 4, none⟩ y4).setCell ⟨T, 5, none⟩ y5).cell? (ad.add (j * 11)) = some (.int .i64 x.f0) ∧ ((((((W.setCell ⟨T, 0, none⟩ y0).setCell ⟨T, 1, none⟩ y1).setCell ⟨T, 2, none⟩ y2).setCell ⟨T, 3, none⟩ y3).setCell ⟨T, 4, none⟩ y4).setCell ⟨T, 5, none⟩ y5).cell? ⟨(ad.add (j * 11)).block, (ad.add (j * 11)).off + 1, none⟩ = some (.int .i64 x.f1.f0) ∧ ((((((W.setCell ⟨T, 0, none⟩ y0).setCell ⟨T, 1, none⟩ y1).setCell ⟨T, 2, none⟩ y2).setCell ⟨T, 3, none⟩ y3).setCell ⟨T, 4, none⟩ y4).setCell ⟨T, 5, none⟩ y5).cell? ⟨(ad.add (j * 11)).block, (ad.add (j * 11)).off + 2, none⟩ = some (.int .i64 x.f1.f1) ∧ ((((((W.setCell ⟨T, 0, none⟩ y0).setCell ⟨T, 1, none⟩ y1).setCell ⟨T, 2, none⟩ y2).setCell ⟨T, 3, none⟩ y3).setCell ⟨T, 4, none⟩ y4).setCell ⟨T, 5, none⟩ y5).cell? ⟨(ad.add (j * 11)).block, (ad.add (j * 11)).off + 3, none⟩ = some (.int .i64 x.f1.f2) ∧ ((((((W.setCell ⟨T, 0, none⟩ y0).setCell ⟨T, 1, none⟩ y1).setCell ⟨T, 2, none⟩ y2).setCell ⟨T, 3, none⟩ y3).setCell ⟨T, 4, none⟩ y4).setCell ⟨T, 5, none⟩ y5).cell? ⟨(ad.add (j * 11)).block, (ad.add (j * 11)).off + 4, none⟩ = some (.int .i64 x.f1.f3) ∧ ((((((W.setCell ⟨T, 0, none⟩ y0).setCell ⟨T, 1, none⟩ y1).setCell ⟨T, 2, none⟩ y2).setCell ⟨T, 3, none⟩ y3).setCell ⟨T, 4, none⟩ y4).setCell ⟨T, 5, none⟩ y5).cell? ⟨(ad.add (j * 11)).block, (ad.add (j * 11)).off + 5, none⟩ = some (.int .i64 x.f1.f4) ∧ ((((((W.setCell ⟨T, 0, none⟩ y0).setCell ⟨T, 1, none⟩ y1).setCell ⟨T, 2, none⟩ y2).setCell ⟨T, 3, none⟩ y3).setCell ⟨T, 4, none⟩ y4).setCell ⟨T, 5, none⟩ y5).cell? ⟨(ad.add (j * 11)).block, (ad.add (j * 11)).off + 6, none⟩ = some (.string x.f1.f5) ∧ ((((((W.setCell ⟨T, 0, none⟩ y0).setCell ⟨T, 1, none⟩ y1).setCell ⟨T, 2, none⟩ y2).setCell ⟨T, 3, none⟩ y3).setCell ⟨T, 4, none⟩ y4).setCell ⟨T, 5, none⟩ y5).cell? ⟨(ad.add (j * 11)).block, (ad.add (j * 11)).off + 7, none⟩ = some (.slice A7 x.f2.length c7) ∧ ((((((W.setCell ⟨T, 0, none⟩ y0).setCell ⟨T, 1, none⟩ y1).setCell ⟨T, 2, none⟩ y2).setCell ⟨T, 3, none⟩ y3).setCell ⟨T, 4, none⟩ y4).setCell ⟨T, 5, none⟩ y5).cell? ⟨(ad.add (j * 11)).block, (ad.add (j * 11)).off + 8, none⟩ = some (.slice A8 x.f3.length c8) ∧ ((((((W.setCell ⟨T, 0, none⟩ y0).setCell ⟨T, 1, none⟩ y1).setCell ⟨T, 2, none⟩ y2).setCell ⟨T, 3, none⟩ y3).setCell ⟨T, 4, none⟩ y4).setCell ⟨T, 5, none⟩ y5).cell? ⟨(ad.add (j * 11)).block, (ad.add (j * 11)).off + 9, none⟩ = some (.int .i64 x.f4) ∧ ((((((W.setCell ⟨T, 0, none⟩ y0).setCell ⟨T, 1, none⟩ y1).setCell ⟨T, 2, none⟩ y2).setCell ⟨T, 3, none⟩ y3).setCell ⟨T, 4, none⟩ y4).setCell ⟨T, 5, none⟩ y5).cell? ⟨(ad.add (j * 11)).block, (ad.add (j * 11)).off + 10, none⟩ = some (.slice A10 x.f5.length c10)) :=
  held24 ho (below_six hb hT y0 y1 y2 y3 y4 y5) (set_six_other hk hne y0 y1 y2 y3 y4 y5)
/-- Behind the step: its state lies in a block of its own. -/
def MidT (w : World) (d b : Nat) (S' : PS) (a v : Value) (w' : World) : Prop :=
  ∃ (T : Nat) (F ok : Nat → Prop) (b0 : Option Addr) (d0 : Nat) (b1 : Option Addr) (d1 : Nat) (b2 : Option Addr) (d2 : Nat) (b3 : Option Addr) (d3 : Nat) (x0 x1 x2 x3 x4 x5 : Value), a = .pointer (some ⟨T, 0, none⟩) ∧ v = .bool true ∧ w'.heap[T]? = some (.cells (svC b0 d0 b1 d1 b2 d2 b3 d3 S') tState (0, 0)) ∧ w'.heap[b]? = some (.cells #[x0, x1, x2, x3, x4, x5] tState (0, 0)) ∧
    Pair w' F ok d (sv b0 d0 b1 d1 b2 d2 b3 d3 S') S' ∧ Below w.heap.size w w' ∧ (∀ k, F k → w.heap.size ≤ k ∧ k ≠ b) ∧ (∀ k, ok k → k ≠ b ∧ k < w'.heap.size) ∧ ∀ k, k < w.heap.size → ok k
theorem mid_of {w wr wx w5 w6 : World} {S' : PS} {d b T : Nat} {F ok F' : Nat → Prop} {b0 : Option Addr} {d0 : Nat} {b1 : Option Addr} {d1 : Nat} {b2 : Option Addr} {d2 : Nat} {b3 : Option Addr} {d3 : Nat} {x0 x1 x2 x3 x4 x5 : Value}
    (hw : w.heap.size ≤ b) (hbw : Below w.heap.size w wr) (hbx : Below wr.heap.size wr wx) (hk : wr.heap[b]? = some (.cells #[x0, x1, x2, x3, x4, x5] tState (0, 0)))
    (hF : ∀ k, F k → w.heap.size ≤ k ∧ k ≠ b) (hok : ∀ k, ok k → k ≠ b ∧ k < wr.heap.size) (hold : ∀ k, k < w.heap.size → ok k) (hp : Pair w5 F' (okN ok wx F') d (sv b0 d0 b1 d1 b2 d2 b3 d3 S') S') (hc : Chg wx F w5 F')
    (hTn : wr.heap.size ≤ T) (hTF : ¬ F' T) (hTo : T < wx.heap.size ∨ w5.heap.size ≤ T)
    (hT : w6.heap[T]? = some (.cells (svC b0 d0 b1 d1 b2 d2 b3 d3 S') tState (0, 0))) (hfar : ∀ k, k < w5.heap.size → k ≠ T → w6.heap[k]? = w5.heap[k]?) (h56 : Below w.heap.size w5 w6) :
    MidT w d b S' (.pointer (some ⟨T, 0, none⟩)) (.bool true) w6 := by
  have l6 := lt_blk hk
  have sx := hbx.size
  have s5 : wx.heap.size ≤ w5.heap.size := hc.fr.size
  have s6 := h56.size
  have sw := hbw.size
  have e5 : w5.heap[b]? = some (.cells #[x0, x1, x2, x3, x4, x5] tState (0, 0)) := (hc.fr.block b (by omega) (fun e => (hF _ e).2 rfl)).trans ((hbx.block b l6).trans hk)
  have newF : ∀ k, F' k → w.heap.size ≤ k ∧ k ≠ b := fun k hk => by
    rcases hc.new k hk with h1 | h1
    · exact hF k h1
    · omega
  have bx5 : Below w.heap.size wx w5 := hc.fr.toBelow (by omega) (fun k hk => (hF k hk).1)
  refine ⟨T, F', fun k => okN ok wx F' k ∧ k < w5.heap.size, b0, d0, b1, d1, b2, d2, b3, d3, x0, x1, x2, x3, x4, x5, rfl, rfl, hT, (hfar b (by omega) (by omega)).trans e5, ?_, ((hbw.trans (hbx.mono hbw.size)).trans bx5).trans h56, newF, fun k hk => ⟨?_, ?_⟩, fun k hk => ⟨.inl ⟨hold k hk, by omega⟩, by omega⟩⟩
  · refine (hp.mono (ok' := fun k => okN ok wx F' k ∧ k < w5.heap.size) (fun k h1 h2 => ⟨h1, h2⟩) (fun k hk => hp.apart k hk.1)).move s6 (fun k hk hlt => hfar k hlt ?_)
    rintro rfl
    rcases hk with hk | hk
    · exact hTF hk
    · rcases hTo with h1 | h1
      · rcases hk.1 with h2 | h2
        · have := (hok _ h2.1).2; omega
        · have := h2.1; omega
      · have := hk.2; omega
  · rcases hk.1 with h | h
    · exact (hok k h.1).1
    · have := h.1; omega
  · have := hk.2; omega
theorem seq_next {w w6 w7 w8 : World} {S' : PS} {d b : Nat} {F ok : Nat → Prop} {b0 : Option Addr} {d0 : Nat} {b1 : Option Addr} {d1 : Nat} {b2 : Option Addr} {d2 : Nat} {b3 : Option Addr} {d3 : Nat} {x0 x1 x2 x3 x4 x5 : Value}
    (hw : w.heap.size ≤ b) (hk : w6.heap[b]? = some (.cells #[x0, x1, x2, x3, x4, x5] tState (0, 0))) (hp : Pair w6 F ok d (sv b0 d0 b1 d1 b2 d2 b3 d3 S') S') (hb : Below w.heap.size w w6) (hF : ∀ k, F k → w.heap.size ≤ k ∧ k ≠ b) (hok : ∀ k, ok k → k ≠ b ∧ k < w6.heap.size) (hb7 : Below w6.heap.size w6 w7)
    (h8 : w8 = ((((((w7.setCell ⟨b, 0, none⟩ (.slice b0 S'.files.length d0)).setCell ⟨b, 1, none⟩ (.slice b1 S'.dir.length d1)).setCell ⟨b, 2, none⟩ (.slice b2 S'.dur.length d2)).setCell ⟨b, 3, none⟩ (.slice b3 S'.pend.length d3)).setCell ⟨b, 4, none⟩ (.bool S'.lim)).setCell ⟨b, 5, none⟩ (.int .i64 S'.left))) :
    w8.heap[b]? = some (.cells (svC b0 d0 b1 d1 b2 d2 b3 d3 S') tState (0, 0)) ∧ Pair w8 F ok d (sv b0 d0 b1 d1 b2 d2 b3 d3 S') S' ∧ Below w.heap.size w w8 ∧ ∀ k, ok k → k ≠ b ∧ k < w8.heap.size := by
  have l6 := lt_blk hk
  have s7 := hb7.size
  have e7 : w7.heap[b]? = some (.cells #[x0, x1, x2, x3, x4, x5] tState (0, 0)) := (hb7.block b l6).trans hk
  have far : ∀ k, k ≠ b → w8.heap[k]? = w7.heap[k]? := fun k hk => by rw [h8, other_six hk]
  have hsz : w8.heap.size = w7.heap.size := by rw [h8]; simp [World.setCell]
  have b78 : Below w.heap.size w7 w8 := by
    rw [h8]
    exact below_six (Below.refl _ _) hw _ _ _ _ _ _
  refine ⟨?_, ?_, (hb.trans (hb7.mono hb.size)).trans b78, fun k hk => ⟨(hok k hk).1, by have := (hok k hk).2; omega⟩⟩
  · rw [h8]
    exact set_six _ _ _ _ _ _ e7
  · exact (hp.below hb7).move (by omega) (fun k hk _ => far k (by rcases hk with hk | hk; exact (hF k hk).2; exact (hok k hk).1))
theorem refV_of {w : World} {ok : Nat → Prop} {b0 : Option Addr} {d0 : Nat} {b1 : Option Addr} {d1 : Nat} {b2 : Option Addr} {d2 : Nat} {b3 : Option Addr} {d3 : Nat} {S : PS} (h : RefV w ok (sv b0 d0 b1 d1 b2 d2 b3 d3 S) S) : Ref w ok b0 d0 b1 d1 b2 d2 b3 d3 S := by
  obtain ⟨a0, c0, a1, c1, a2, c2, a3, c3, hv, hr⟩ := h
  cases hv
  exact hr
/-- The loop of the law. -/
def SeqRel (w : World) (n : ByteArray) (l : List LOp) (d b : Nat) (i : Value) (wr : World) : Prop :=
  ∃ (j : Nat) (F ok : Nat → Prop) (a0 : Option Addr) (c0 : Nat) (a1 : Option Addr) (c1 : Nat) (a2 : Option Addr) (c2 : Nat) (a3 : Option Addr) (c3 : Nat), j ≤ l.length ∧ i = .int .i64 j ∧
    wr.heap[b]? = some (.cells (svC a0 c0 a1 c1 a2 c2 a3 c3 (st24 n l j)) tState (0, 0)) ∧
    Pair wr F ok d (sv a0 c0 a1 c1 a2 c2 a3 c3 (st24 n l j)) (st24 n l j) ∧ Below w.heap.size w wr ∧ (∀ k, F k → w.heap.size ≤ k ∧ k ≠ b) ∧ (∀ k, ok k → k ≠ b ∧ k < wr.heap.size) ∧ ∀ k, k < w.heap.size → ok k
theorem str_runs {w : World} {A : Option Addr} {c : Nat} {ok : Nat → Prop} {bs : List Int} (h : Rd kB w ok A c bs) (m : Nat) : (convert 36 9 (.slice A bs.length c)).run Tryz.prog (w.drewN m) = .ok (.string (strOfNums bs)) (w.drewN m) := str_run (h.move (w' := w.drewN m) (fun _ _ _ => rfl))
set_option maxHeartbeats 4000000 in
set_option maxRecDepth 100000 in
theorem logseq_walk (w : World) (A : Option Addr) (c : Nat) (l : List LOp) (h : Kd.C kLOp w A l.length l) (hc : l.length ≤ c) (hw : ∀ x ∈ l, WfLOp x) (n : ByteArray) :
    Calls Tryz.prog 4 #[.slice A l.length c, .string n] w fun e w' => e = .returned (.bool true) ∧ Below w.heap.size w w' := by
  have HR := Lib.hid (Rd.ofC heap_lop h hc)
  have HW := Lib.hid hw
  clear h hc hw
  cases hl : lightL l with
  | false =>
    have HL := Lib.hid hl
    clear hl
    go_enter Tryz.func4, Tryz.ntmps4
    go_wp2_with (first | (go_at_call 11; refine (light24_calls _ A c l HR.out.now HR.out.le).mono ?_; rw [HL.out]; rintro e w1 ⟨rfl, hd⟩; have HB1 := Lib.hid (drawn0_below' hd); clear hd) | (go_at_call 12; refine (lives24_calls _).mono ?_; rintro e w2 ⟨rfl, hb⟩; have HB2 := Lib.hid hb; clear hb) | fail)
    go_ret
    exact ⟨rfl, HB1.out.trans (HB2.out.mono HB1.out.size)⟩
  | true =>
    have HL := Lib.hid hl
    clear hl
    by_cases hn : n.size ≤ 100
    case neg =>
      have hnb : decide ((100 : Int) < (n.size : Int)) = true := by simp; omega
      go_enter Tryz.func4, Tryz.ntmps4
      go_wp2_with (first | (go_at_call 11; refine (light24_calls _ A c l HR.out.now HR.out.le).mono ?_; rw [HL.out]; rintro e w1 ⟨rfl, hd⟩; have HB1 := Lib.hid (drawn0_below' hd); clear hd) | (go_at_call 12; refine (lives24_calls _).mono ?_; rintro e w2 ⟨rfl, hb⟩; have HB2 := Lib.hid hb; clear hb) | fail)
      go_ret
      exact ⟨rfl, HB1.out.trans (HB2.out.mono HB1.out.size)⟩
    case pos =>
      have hnb : decide ((100 : Int) < (n.size : Int)) = false := by simp; omega
      go_enter Tryz.func4, Tryz.ntmps4
      go_wp2_with (first | (go_at_call 11; refine (light24_calls _ A c l HR.out.now HR.out.le).mono ?_; rw [HL.out]; rintro e w1 ⟨rfl, hd⟩; have HB1 := Lib.hid (drawn0_below' hd); clear hd) | (go_at_call 7; refine (New_calls _).mono ?_; rintro e w2 ⟨d, F, L, rfl, hr, hch⟩; have HREP2 := Lib.hid hr; have HCH2 := Lib.hid hch; clear hr hch) | (go_at_call 8; refine (refNew_calls _).mono ?_; rintro e w3 ⟨rfl, hb⟩; have HB3 := Lib.hid hb; clear hb) | fail)
      have hc2 := HCH2.out
      have hs2 : w1.heap.size ≤ w2.heap.size := hc2.fr.size
      have hs3 := HB3.out.size
      have hs1 := HB1.out.size
      have HBW := Lib.hid (show Below w.heap.size w w3 from (HB1.out.trans (hc2.fr.toBelow (B := w.heap.size) (by omega) (fun _ hk => hk.elim))).trans (HB3.out.mono (by omega)))
      have HP3 := Lib.hid (pair_new HREP2.out hc2 HB3.out)
      obtain ⟨b, hb⟩ : ∃ b, b = w3.heap.size := ⟨_, rfl⟩
      have hFk : ∀ k, F k → w.heap.size ≤ k ∧ k ≠ b := fun k hk => by
        have h2 := hc2.lt k hk
        rcases hc2.new k hk with h1 | h1
        · exact h1.elim
        · omega
      have HFK := Lib.hid hFk
      have HBB := Lib.hid (show w.heap.size ≤ b by omega)
      rw [← hb]
      have HE := Lib.hid hb
      clear hc2 hs2 hs3 hs1 hFk hb
      go_loopw [7] (fun i wr => SeqRel w n l d b i wr) (fun i _ => l.length - (intOf i).toNat)
      case atStart =>
        refine ⟨0, F, fun k => k < w.heap.size, none, 0, none, 0, none, 0, none, 0, Nat.zero_le _, rfl, by rw [HE.out]; exact heap_alloc_new w3 _, ?_, below_alloc HBW.out _, HFK.out, fun k hk => ⟨?_, ?_⟩, fun _ hk => hk⟩
        · exact (HP3.out.mono (ok' := fun k => k < w.heap.size) (fun _ hk => hk.elim) (fun k hk e => by have := (HFK.out k e).1; omega)).below (below_alloc (Below.refl _ _) _)
        · have := HBB.out; omega
        · have := HBW.out.size; simp; omega
      case round =>
        obtain ⟨j, Fj, okj, a0, c0, a1, c1, a2, c2, a3, c3, hj, rfl, hk, hp, hbw, hF, hok, hold⟩ := hrel
        have K := Lib.hid hk
        have HP := Lib.hid hp
        have HBR := Lib.hid hbw
        have HF := Lib.hid hF
        have HOK := Lib.hid hok
        have HOLD := Lib.hid hold
        clear hk hp hbw hF hok hold
        by_cases hlt : j < l.length
        · have HST := Lib.hid (st24_succ n l j hlt)
          have HAT := Lib.hid (st24_at (n := n) HL.out HW.out j (Nat.le_of_lt hlt))
          have HLO := Lib.hid ((light24_at HL.out).2 _ (List.getElem_mem hlt))
          have HWO := Lib.hid (HW.out _ (List.getElem_mem hlt))
          have hj30 : j < 30 := by have := (light24_at HL.out).1; omega
          obtain ⟨x, hx⟩ : ∃ x, x = l[j] := ⟨_, rfl⟩
          obtain ⟨ad, A7, c7, A8, c8, A10, c10, hA, hcells, h7, h8, h10⟩ := op24_cells HR.out j hlt hx
          subst hA
          rw [← hx] at HST HLO HWO
          have X7 := Lib.hid (h7.mono (ok' := okj) (fun k hk _ => HOLD.out k hk))
          have X8 := Lib.hid (h8.mono (ok' := okj) (fun k hk _ => HOLD.out k hk))
          have X10 := Lib.hid (h10.mono (ok' := okj) (fun k hk _ => HOLD.out k hk))
          have HO := Lib.hid hcells
          obtain ⟨Sj, hSj⟩ : ∃ Sj, Sj = st24 n l j := ⟨_, rfl⟩
          rw [← hSj] at HST HAT HP K
          obtain ⟨S', hS'⟩ : ∃ S', S' = pStep24 Sj n x := ⟨_, rfl⟩
          rw [← hS'] at HST
          have HS' := Lib.hid hS'
          have HAT' := Lib.hid (show At24 S' (j + 1) by rw [hS']; exact HAT.out.step hj30 HLO.out HWO.out)
          clear hx hcells h7 h8 h10 hSj hS'
          go_wp2_with fail
          go_cut [8, 9] from 33 to 43 (fun a v w' => MidT w d b S' a v w')
          case first =>
            have P0 := Lib.hid (held24 HO.out (W := wr.drew) (HBR.out.trans (((Below.refl _ wr).drew).mono HBR.out.size)) K.out)
            have P1 := Lib.hid (held24 HO.out (W := ((wr.alloc (.cells zeroC tState)).drew)) (HBR.out.trans (((Below.of_alloc' wr (.cells zeroC tState)).drew).mono HBR.out.size)) (blk_allocN K.out (.cells zeroC tState)))
            have XA7 := Lib.hid ((((X7.out.below HBR.out).mono (ok' := fun k => okj k ∧ k < wr.heap.size) (fun k h1 h2 => ⟨h1, h2⟩)).below (Below.of_alloc' wr (.cells zeroC tState))).move (w' := ((wr.alloc (.cells zeroC tState)).drew)) (fun _ _ _ => rfl))
            have XA8 := Lib.hid ((((X8.out.below HBR.out).mono (ok' := fun k => okj k ∧ k < wr.heap.size) (fun k h1 h2 => ⟨h1, h2⟩)).below (Below.of_alloc' wr (.cells zeroC tState))).move (w' := ((wr.alloc (.cells zeroC tState)).drew)) (fun _ _ _ => rfl))
            have XA10 := Lib.hid ((((X10.out.below HBR.out).mono (ok' := fun k => okj k ∧ k < wr.heap.size) (fun k h1 h2 => ⟨h1, h2⟩)).below (Below.of_alloc' wr (.cells zeroC tState))).move (w' := ((wr.alloc (.cells zeroC tState)).drew)) (fun _ _ _ => rfl))
            have CB := Lib.hid (step24_calls wr.drew Fj okj d _ Sj j n x A7 c7 A8 c8 A10 c10 (HP.out.below ((Below.refl _ wr).drew)) HAT.out hj30 HLO.out HWO.out hn ((X7.out.below HBR.out).move (w' := wr.drew) (fun _ _ _ => rfl)) ((X8.out.below HBR.out).move (w' := wr.drew) (fun _ _ _ => rfl)) ((X10.out.below HBR.out).move (w' := wr.drew) (fun _ _ _ => rfl)))
            have CA := Lib.hid (step24_calls ((wr.alloc (.cells zeroC tState)).drew) Fj (fun k => okj k ∧ k < wr.heap.size) d _ Sj j n x A7 c7 A8 c8 A10 c10 ((HP.out.mono (ok' := fun k => okj k ∧ k < wr.heap.size) (fun k h1 h2 => ⟨h1, h2⟩) (fun k hk => HP.out.apart k hk.1)).below ((Below.of_alloc' wr (.cells zeroC tState)).drew)) HAT.out hj30 HLO.out HWO.out hn XA7.out XA8.out XA10.out)
            rw [← HS'.out] at CA CB
            clear XA7 XA8 XA10 X7 X8 X10 HAT HLO HWO
            have P5 := Lib.hid True.intro
            have P6 := Lib.hid True.intro
            have P7 := Lib.hid True.intro
            go_region_held3 (fun w' => (w'.cell? ⟨b, 0, none⟩ = some (.slice a0 Sj.files.length c0) ∧ w'.cell? ⟨b, 1, none⟩ = some (.slice a1 Sj.dir.length c1) ∧ w'.cell? ⟨b, 2, none⟩ = some (.slice a2 Sj.dur.length c2) ∧ w'.cell? ⟨b, 3, none⟩ = some (.slice a3 Sj.pend.length c3) ∧ w'.cell? ⟨b, 4, none⟩ = some (.bool Sj.lim) ∧ w'.cell? ⟨b, 5, none⟩ = some (.int .i64 Sj.left)) ∧ (w'.cell? (ad.add (j * 11)) = some (.int .i64 x.f0) ∧ w'.cell? ⟨(ad.add (j * 11)).block, (ad.add (j * 11)).off + 1, none⟩ = some (.int .i64 x.f1.f0) ∧ w'.cell? ⟨(ad.add (j * 11)).block, (ad.add (j * 11)).off + 2, none⟩ = some (.int .i64 x.f1.f1) ∧ w'.cell? ⟨(ad.add (j * 11)).block, (ad.add (j * 11)).off + 3, none⟩ = some (.int .i64 x.f1.f2) ∧ w'.cell? ⟨(ad.add (j * 11)).block, (ad.add (j * 11)).off + 4, none⟩ = some (.int .i64 x.f1.f3) ∧ w'.cell? ⟨(ad.add (j * 11)).block, (ad.add (j * 11)).off + 5, none⟩ = some (.int .i64 x.f1.f4) ∧ w'.cell? ⟨(ad.add (j * 11)).block, (ad.add (j * 11)).off + 6, none⟩ = some (.string x.f1.f5) ∧ w'.cell? ⟨(ad.add (j * 11)).block, (ad.add (j * 11)).off + 7, none⟩ = some (.slice A7 x.f2.length c7) ∧ w'.cell? ⟨(ad.add (j * 11)).block, (ad.add (j * 11)).off + 8, none⟩ = some (.slice A8 x.f3.length c8) ∧ w'.cell? ⟨(ad.add (j * 11)).block, (ad.add (j * 11)).off + 9, none⟩ = some (.int .i64 x.f4) ∧ w'.cell? ⟨(ad.add (j * 11)).block, (ad.add (j * 11)).off + 10, none⟩ = some (.slice A10 x.f5.length c10)))
              (first | (with_reducible exact P0.out) | (with_reducible exact P1.out) | (with_reducible exact P5.out) | (with_reducible exact P6.out) | (with_reducible exact P7.out) | exact held24_set HO.out HB5.out K5.out (by have := HBR.out.size; simp; omega) (by have := lt_blk K.out; simp; omega) _ _ _ _ _ _)
              (first
                | (go_at_call 13; (with_reducible refine CB.out.mono ?_); have HBX := Lib.hid (HBR.out.trans (((Below.refl _ wr).drew).mono HBR.out.size)); have KX := Lib.hid (show wr.drew.heap[b]? = some (.cells (svC a0 c0 a1 c1 a2 c2 a3 c3 Sj) tState (0, 0)) from K.out); rintro e w5 ⟨v, F', rfl, hp, hch⟩; obtain ⟨b0, d0, b1, d1, b2, d2, b3, d3, hv, _⟩ := hp.ref; subst hv; have HP5 := Lib.hid hp; have HC5 := Lib.hid hch; have HB5 := Lib.hid (HBX.out.trans (hch.fr.toBelow (B := w.heap.size) (by have h := HBR.out.size; first | exact h | (simp; omega)) (fun k hk => (HF.out k hk).1))); have K5 := Lib.hid (chg_blk hch KX.out (fun e => (HF.out _ e).2 rfl)); have P5 := Lib.hid (held24 HO.out HB5.out K5.out); have HB6 := Lib.hid (HB5.out.trans ((Below.of_alloc' w5 (.cells zeroC tState)).mono HB5.out.size)); have K6 := Lib.hid (blk_allocN K5.out (.cells zeroC tState)); have P6 := Lib.hid (held24 HO.out HB6.out K6.out); have P7 := Lib.hid (held24 HO.out (HB5.out.trans ((Below.of_alloc' w5 (.cells #[.slice b0 S'.files.length d0, .slice b1 S'.dir.length d1, .slice b2 S'.dur.length d2, .slice b3 S'.pend.length d3, .bool S'.lim, .int .i64 S'.left] tState)).mono HB5.out.size)) (blk_allocN K5.out (.cells #[.slice b0 S'.files.length d0, .slice b1 S'.dir.length d1, .slice b2 S'.dur.length d2, .slice b3 S'.pend.length d3, .bool S'.lim, .int .i64 S'.left] tState))); clear P6; have P6 := Lib.hid (held24 HO.out HB6.out K6.out); obtain ⟨z0, z1, z2, z3, z4, z5⟩ := six_cells (heap_alloc_new w5 (.cells zeroC tState)); obtain ⟨g0, g1, g2, g3, g4, g5⟩ := six_frozen (heap_alloc_new w5 (.cells zeroC tState)); clear hp hch)
                | (go_at_call 13; (with_reducible refine CA.out.mono ?_); have HBX := Lib.hid (HBR.out.trans (((Below.of_alloc' wr (.cells zeroC tState)).drew).mono HBR.out.size)); have KX := Lib.hid (show (wr.alloc (.cells zeroC tState)).drew.heap[b]? = some (.cells (svC a0 c0 a1 c1 a2 c2 a3 c3 Sj) tState (0, 0)) from blk_allocN K.out (.cells zeroC tState)); rintro e w5 ⟨v, F', rfl, hp, hch⟩; obtain ⟨b0, d0, b1, d1, b2, d2, b3, d3, hv, _⟩ := hp.ref; subst hv; have HP5 := Lib.hid hp; have HC5 := Lib.hid hch; have HB5 := Lib.hid (HBX.out.trans (hch.fr.toBelow (B := w.heap.size) (by have h := HBR.out.size; first | exact h | (simp; omega)) (fun k hk => (HF.out k hk).1))); have K5 := Lib.hid (chg_blk hch KX.out (fun e => (HF.out _ e).2 rfl)); have P5 := Lib.hid (held24 HO.out HB5.out K5.out); have KT := Lib.hid (chg_blk hch (heap_alloc_new wr (.cells zeroC tState)) (fun e => Nat.lt_irrefl _ (HP.out.lt _ e))); obtain ⟨z0, z1, z2, z3, z4, z5⟩ := six_cells KT.out; obtain ⟨g0, g1, g2, g3, g4, g5⟩ := six_frozen KT.out; clear hp hch))
            · go_wp2_with fail
              go_meet
              exact mid_of (T := w5.heap.size) HBB.out HBR.out ((Below.refl _ wr).drew) K.out HF.out HOK.out HOLD.out HP5.out HC5.out HC5.out.fr.size (fun e => Nat.lt_irrefl _ (HC5.out.lt _ e)) (.inr (Nat.le_refl _)) (heap_alloc_new w5 _) (fun k hk _ => (Below.of_alloc' w5 _).block k hk) ((Below.of_alloc' w5 _).mono HB5.out.size)
            · go_wp2_with fail
              go_meet
              exact mid_of (T := wr.heap.size) HBB.out HBR.out ((Below.of_alloc' wr (.cells zeroC tState)).drew) K.out HF.out (fun k hk => HOK.out k hk.1) (fun k hk => ⟨HOLD.out k hk, Nat.lt_of_lt_of_le hk HBR.out.size⟩) HP5.out HC5.out (Nat.le_refl _) (fun e => by
                rcases HC5.out.new _ e with h | h
                · exact Nat.lt_irrefl _ (HP.out.lt _ h)
                · have h2 : (wr.alloc (.cells zeroC tState)).heap.size ≤ wr.heap.size := h
                  have h3 : (wr.alloc (.cells zeroC tState)).heap.size = wr.heap.size + 1 := by simp
                  omega) (.inl (show wr.heap.size < (wr.alloc (.cells zeroC tState)).heap.size by simp)) (set_six _ _ _ _ _ _ KT.out) (fun k _ hne => other_six hne _ _ _ _ _ _) (below_six (Below.refl _ _) HBR.out.size _ _ _ _ _ _)
          case rest =>
            obtain ⟨T, F6, ok6, b0, d0, b1, d1, b2, d2, b3, d3, y0, y1, y2, y3, y4, y5, rfl, rfl, hT, hkb, hp, hb6, hF, hok, hold⟩ := hcut
            have KT := Lib.hid hT
            have KB := Lib.hid hkb
            have HP6 := Lib.hid hp
            have HB6 := Lib.hid hb6
            have HF6 := Lib.hid hF
            have HOK6 := Lib.hid hok
            have HOLD6 := Lib.hid hold
            obtain ⟨q, hq⟩ : ∃ q, q = pRead S' n := ⟨_, rfl⟩
            obtain ⟨bs, rc⟩ := q
            have HQ := Lib.hid hq
            obtain ⟨B', hs', hB'⟩ := HAT'.out.snd
            have HG := Lib.hid hs'.good
            have hB5 : B' ≤ 549755813888 := by omega
            clear hT hkb hp hb6 hF hok hold hq hs' hB'
            obtain ⟨wq, hwq⟩ : ∃ wq, wq = wc := ⟨_, rfl⟩
            rw [← hwq] at KT KB HP6 HB6 HOK6 ⊢
            clear hwq
            go_wp2_with (first
              | (go_at_call 14; obtain ⟨L6, hrep⟩ := HP6.out.rep; refine (Read2_calls wq F6 d L6 S' B' n hrep HG.out hB5).mono ?_; rw [← HQ.out]; rintro e w7 ⟨A7', d7, rfl, hr, hb⟩; have HV7 := Lib.hid hr; have HB7 := Lib.hid (fr_below hb); have K7 := Lib.hid (blk_below KT.out (fr_below hb)); obtain ⟨s0, s1, s2, s3, s4, s5⟩ := six_cells K7.out; clear hr hb hrep)
              | (go_at_call 15; refine (refRead_calls w7 ok6 b0 d0 b1 d1 b2 d2 b3 d3 S' B' n ((refV_of HP6.out.ref).below HB7.out) HG.out hB5).mono ?_; rw [← HQ.out]; rintro e w8 ⟨A8', d8, rfl, hr, hb⟩; have HV8 := Lib.hid hr; have HU8 := Lib.hid (HV7.out.below hb); have HB8 := Lib.hid (HB7.out.trans (hb.mono HB7.out.size)); have K8 := Lib.hid (blk_below K7.out hb); have J8 := Lib.hid (blk_below KB.out (HB7.out.trans (hb.mono HB7.out.size))); obtain ⟨s0, s1, s2, s3, s4, s5⟩ := six_cells K8.out; obtain ⟨z0, z1, z2, z3, z4, z5⟩ := six_cells J8.out; obtain ⟨g0, g1, g2, g3, g4, g5⟩ := six_frozen J8.out; have hcv := str_run HU8.out; have hcw := str_run HV8.out; clear hr hb)
              | fail)
            go_roundw
            case rel =>
              obtain ⟨q1, q2, q3, q4⟩ := seq_next HBB.out KB.out HP6.out HB6.out HF6.out HOK6.out HB8.out rfl
              exact ⟨j + 1, F6, ok6, b0, d0, b1, d1, b2, d2, b3, d3, by omega, by go_num, by rw [HST.out]; exact q1, by rw [HST.out]; exact q2, q3, HF6.out, q4, HOLD6.out⟩
            case measure => simp [intOf]; omega
        · obtain rfl : j = l.length := by omega
          go_wp2_with (first | (go_at_call 12; refine (lives24_calls _).mono ?_; rintro e w9 ⟨rfl, hb⟩; have HB9 := Lib.hid hb; clear hb) | fail)
          go_ret
          exact ⟨rfl, HBR.out.trans (HB9.out.mono HBR.out.size)⟩
end Go.Proofs.YtehhafnjbkbmjaaGreat.Disk

/- The law CommitlogSequence holds: for every input the call returns true, and each argument reads behind the call as it read before. No condition. -/
namespace Go.Proofs.YtehhafnjbkbmjaaGreat.commitlogSequence
open Go.ChangeShapes Go.WideShapes Go.ChangeAt Go.RowKit
open Go.ChangeMaps (open_string shut_string)
open Go.Proofs.YtehhafnjbkbmjaaGreatW.PrintWords Go.Proofs.YtehhafnjbkbmjaaGreat.Disk
set_option linter.unusedVariables false
theorem own : ownKnob Tryz.prog.godebug = none := by kernel_rfl
theorem laidOut : laidOutB Tryz.prog = true := by kernel_rfl
set_option maxRecDepth 100000 in
theorem lifted (os : Os) (started : os.Started) (H : Type) (enc : TypeId × Value → H) :
    ReturnsInHanded {} Tryz.checked os 4 .any (Rows.commitlogSequenceSpec.pre6 enc Tryz.prog Tryz.f4 Rows.commitlogSequenceRow.domain false) (Rows.commitlogSequenceSpec.post enc Tryz.prog Tryz.f4 false true false false) := by
  refine returnsInHanded_of_change_sized (C := Tryz.checked) own started (by kernel_rfl) Tryz.func4
    (ChangeSpec.witness6 (enc := enc) (C := Tryz.checked) false ⟨#[], #[.slice none 0 0, .string ByteArray.empty], []⟩ 8 (by kernel_rfl) (by kernel_rfl) (by kernel_rfl) (by kernel_rfl)) ?_
  intro W base args ds gs before hval0 hW hcnd hsz0 _
  have hval : ∀ (j : Nat) t v, Tryz.f4.params[j]? = some t → args[j]? = some v → Value.okWide Tryz.prog W .any base t v := hval0
  have hW' := hW
  obtain ⟨p, q, hA0, hV, rfl, hfz, hnd⟩ := hW
  have hA : DataW.TrodAll enc Tryz.prog W 0 (fun _ => true) true Tryz.f4.params.toList args.toList ds p := hA0
  rw [Tryz.params4] at hA hval
  obtain ⟨v0, vs0, d0, ds0, p0, q0, hargs, rfl, rfl, h0, r0⟩ := trodAll_cons hA
  obtain ⟨v1, vs1, d1, ds1, p1, q1, rfl, rfl, rfl, h1, r1⟩ := trodAll_cons r0
  obtain ⟨rfl, rfl, rfl⟩ := trodAll_nil r1
  obtain rfl : args = #[v0, v1] := by cases args; simp_all
  obtain ⟨rfl, rfl⟩ := trodVars_none hV
  obtain ⟨a0, len0, cap0, rfl⟩ := okWide_slice Tryz.underlying42 (hval 0 42 v0 rfl rfl)
  have lt0 : ∀ x ∈ p0, x.block < W.heap.size := by obtain ⟨m, hm⟩ := h0; exact DataW.trod_lt m _ _ _ hm
  obtain ⟨l0, rfl, hc0, hC0, hw0⟩ := ops24_row h0
  obtain ⟨s1, rfl, rfl, rfl, w1⟩ := open_string Tryz.underlying9 (hval 1 9 v1 rfl rfl) h1
  clear hA0 hval0 hsz0
  refine (logseq_walk W a0 cap0 l0 hC0 hc0 hw0 s1).mono fun e W' ⟨he, bel⟩ => ?_
  subst he
  exact ⟨_, rfl, _, _, _, [], _, [], hW', trodAll_mk1 (shut_bool Tryz.underlying4 _), (trodAll_cons_mk (Below.trod laidOut (by kernel_rfl) (of_decide_eq_true (by kernel_rfl)) h0 bel lt0) (trodAll_cons_mk (shut_string Tryz.underlying9 w1) trodAll_mk0)), rfl, bel.frame _, fun h => by cases h⟩
theorem over : Rows.commitlogSequenceRow.holds Tryz.pinned (OpenSpec.ofChange Rows.commitlogSequenceSpec) :=
  OpenClaim.holds_of_wide 4 Tryz.f4 rfl rfl rfl rfl rfl rfl rfl ⟨rfl, rfl, rfl, rfl, rfl⟩ rfl rfl rfl rfl rfl (by kernel_rfl) Tryz.func4 (by kernel_rfl)
    (of_decide_eq_true (by kernel_rfl)) (by unfold Func.isWrapper; first | (rw [if_pos (by decide +kernel)]; kernel_rfl) | (rw [if_neg (by decide +kernel)]; exact ⟨rfl, rfl⟩))
    (fun os started H enc _ => lifted os started H enc)
theorem proved : Rows.CommitlogSequenceSaid := over
#print axioms proved
end Go.Proofs.YtehhafnjbkbmjaaGreat.commitlogSequence
namespace Go.Proofs.YtehhafnjbkbmjaaGreat
theorem commitlogSequence_holds : Rows.CommitlogSequenceSaid := commitlogSequence.proved
end Go.Proofs.YtehhafnjbkbmjaaGreat
