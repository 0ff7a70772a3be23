/- Object names, Exists, the steps of Put, Put. -/
import Derived.Test.YtehhafnjbkbmjaaM3
import Derived.Deep.RegionHeld3
import Derived.OpenShut
/- objstore: has. -/
namespace Go.Proofs.Ytehhafnjbkbmjaa.Disk
open Go Go.RowKit Go.Proofs.YtehhafnjbkbmjaaW.PrintWords Go.Proofs.YtehhafnjbkbmjaaW.PrintLast Go.Proofs.YtehhafnjbkbmjaaW.PrintMore Go.Proofs.Ytehhafnjbkbmjaa.PObjstoreAtomic
/-- Whether a file of that name is in the current directory. -/
def pHas (S : PS) (n : ByteArray) : Bool := (S.dir.map (·.f0)).any fun y => decide (y = n)
theorem contains_calls (w : World) (base : Nat) (v : Value) (zs : List ByteArray) (x : ByteArray) (h : w.ownsRow base 9 1 v zs.length (pw_strs zs)) (hl : zs.length ≤ 1099511627776) :
    Calls Try.prog 80 #[v, .string x] w fun e w' => e = .returned (.bool (zs.any fun y => decide (y = x))) ∧ w' = w := by
  have hlen := h.1
  rcases h.2 with ⟨h1, h2⟩ | ⟨g, cap, cur, h1, _⟩
  · have e : zs = [] := List.eq_nil_of_length_eq_zero h2
    subst h1
    subst e
    simpa using Try.slices_Contains_string_empty none 0 x w
  · subst h1
    have h3 := Try.slices_Contains_string g 0 zs.length cap zs x w (Nat.le_refl _) (by omega) (fun j hj => by
      have := h.cells (g := g) rfl j (.string (zs.getD j ByteArray.empty)) (by simp [pw_strs, List.getD, hj])
      rw [Addr.add_lit] at this
      exact this)
    rw [List.take_length] at h3
    have e : Lib.containsS zs x = zs.any fun y => decide (y = x) := by
      rw [Bool.eq_iff_iff, Lib.containsS_iff]
      simp
    rw [e] at h3
    exact h3
theorem has_calls (w : World) (F : Nat → Prop) (d : Nat) (L : Lay) (S : PS) (B : Nat) (n : ByteArray) (h : Rep w F d L S (Live S)) (hg : Good S B) (hB : B ≤ 549755813888) :
    Calls Try.prog 39 #[.pointer (some ⟨d, 0, none⟩), .string n] w fun e w' => e = .returned (.bool (pHas S n)) ∧ Fr (fun _ => False) w w' := by
  have H := Lib.hid h
  have HG := Lib.hid hg
  have hlen : (S.dir.map (·.f0)).length ≤ 1099511627776 := by simp; have := hg.nDir; omega
  clear h hg
  go_enter Try.func39, Try.ntmps39
  go_wp2_with (first
    | (go_at_call 21; refine (List_calls w F d L S B H.out HG.out hB).mono ?_; rintro e w1 ⟨v, rfl, ho, hf⟩; have HO := Lib.hid ho; have HF := Lib.hid hf; clear ho hf)
    | (go_at_call 80; refine (contains_calls _ w.heap.size v (S.dir.map (·.f0)) n (by have h := HO.out; rwa [show S.dir.length = (S.dir.map (·.f0)).length by simp] at h) hlen).mono ?_; rintro e w2 ⟨rfl, rfl⟩)
    | fail)
  go_ret
  exact ⟨by unfold pHas; rw [List.any_map]; rfl, HF.out⟩
end Go.Proofs.Ytehhafnjbkbmjaa.Disk

/- objstore: object names. -/
namespace Go.Proofs.Ytehhafnjbkbmjaa.Disk
open Go Go.RowKit Go.Proofs.YtehhafnjbkbmjaaW.PrintWords Go.Proofs.YtehhafnjbkbmjaaW.PrintLast Go.Proofs.YtehhafnjbkbmjaaW.PrintMore Go.Proofs.Ytehhafnjbkbmjaa.PObjstoreAtomic
def okC (c : UInt8) : Bool := decide (c.toNat = 45 ∨ (48 ≤ c.toNat ∧ c.toNat ≤ 57) ∨ (97 ≤ c.toNat ∧ c.toNat ≤ 122))
def sTmp : ByteArray := ⟨#[116, 109, 112, 45]⟩
/-- Whether a name begins with 'tmp-'. -/
def isTmp (s : ByteArray) : Bool := decide (4 ≤ s.size) && ((s.extract 0 4).toList == sTmp.toList)
def okObj (s : ByteArray) : Bool := decide (1 ≤ s.size ∧ s.size ≤ 60) && (!isTmp s && s.data.toList.all okC)
theorem obj_round (k : Nat) (s : ByteArray) (i : Nat) (h : i < s.size) (h60 : s.size ≤ 60) : objstore_object.l0 (k + 1) s s.size i = if okC s[i] then objstore_object.l0 k s s.size ((i + 1 : Nat) : Int) else some false := by
  have e : wrap64 ((i : Int) + 1) = ((i + 1 : Nat) : Int) := by unfold wrap64; omega
  simp only [objstore_object.l0, bt_at s i h, e]
  unfold okC
  rw [if_pos (show (i : Int) < s.size by omega), if_pos (show (0 : Int) ≤ i by omega), if_pos (show (i : Int) < s.size by omega)]
  by_cases hb : s[i].toNat = 45 ∨ (48 ≤ s[i].toNat ∧ s[i].toNat ≤ 57) ∨ (97 ≤ s[i].toNat ∧ s[i].toNat ≤ 122)
  · simp only [hb, decide_true, if_true]
    repeat' split
    all_goals first | rfl | (exfalso; omega)
  · simp only [hb, decide_false]
    repeat' split
    all_goals first | rfl | (exfalso; omega) | contradiction
theorem obj_l0 (s : ByteArray) (h60 : s.size ≤ 60) : ∀ (d k i : Nat), s.size - i = d → i ≤ s.size → d < k → objstore_object.l0 k s s.size i = some ((s.data.toList.drop i).all okC) := by
  intro d
  induction d with
  | zero =>
    intro k i hd hi hk
    obtain ⟨k, rfl⟩ : ∃ m, k = m + 1 := ⟨k - 1, by omega⟩
    obtain rfl : i = s.size := by omega
    simp only [objstore_object.l0]
    rw [if_neg (by omega), List.drop_of_length_le (by rw [data_length]; omega)]
    rfl
  | succ d ih =>
    intro k i hd hi hk
    obtain ⟨k, rfl⟩ : ∃ m, k = m + 1 := ⟨k - 1, by omega⟩
    have hlt : i < s.size := by omega
    rw [obj_round k s i hlt h60, drop_at s i hlt, List.all_cons]
    cases hb : okC s[i]
    · simp
    · simp only [if_true, Bool.true_and]
      exact ih k (i + 1) (by omega) (by omega) (by omega)
theorem prefix_f (s : ByteArray) : strings_HasPrefix.f s sTmp = some (isTmp s) := by
  have e4 : (sTmp.size : Int) = 4 := rfl
  unfold strings_HasPrefix.f stringslite_HasPrefix.f isTmp
  rw [e4]
  by_cases h : 4 ≤ s.size
  · rw [if_pos (by omega), if_pos (by omega), if_pos (by omega)]
    simp [h]
  · rw [if_neg (by omega)]
    simp [h]
theorem obj_f (s : ByteArray) (k : Nat) (hk : 62 < k) : objstore_object.f k s = some (okObj s) := by
  obtain ⟨k, rfl⟩ : ∃ m, k = m + 1 := ⟨k - 1, by omega⟩
  unfold objstore_object.f okObj
  by_cases h1 : 1 ≤ s.size
  · rw [if_neg (by omega)]
    by_cases h60 : s.size ≤ 60
    · rw [if_neg (by omega)]
      rw [show (⟨#[116, 109, 112, 45]⟩ : ByteArray) = sTmp from rfl, prefix_f]
      simp only [Option.bind_some, objstore_object.j0]
      cases ht : isTmp s
      · rw [if_neg (by simp), show (0 : Int) = ((0 : Nat) : Int) from rfl, obj_l0 s h60 s.size k 0 (by omega) (by omega) (by omega)]
        simp [h1, h60]
      · simp
    · rw [if_pos (by omega)]
      simp [objstore_object.j0, h60]
  · rw [if_pos (by omega)]
    simp [objstore_object.j0, h1]
theorem object_calls (w : World) (n : ByteArray) : Calls Try.prog 36 #[.string n] w fun e w' => e = .returned (.bool (okObj n)) ∧ Drawn0 w w' := objstore_object.calls 63 n _ w (obj_f n 63 (by omega))
end Go.Proofs.Ytehhafnjbkbmjaa.Disk

/- objstore: Exists. -/
namespace Go.Proofs.Ytehhafnjbkbmjaa.Disk
open Go Go.RowKit Go.Proofs.YtehhafnjbkbmjaaW.PrintWords Go.Proofs.YtehhafnjbkbmjaaW.PrintLast Go.Proofs.YtehhafnjbkbmjaaW.PrintMore Go.Proofs.Ytehhafnjbkbmjaa.PObjstoreAtomic
def pExists (S : PS) (n : ByteArray) : Bool := okObj n && pHas S n
theorem Exists_nil (w : World) (n : ByteArray) : Calls Try.prog 17 #[.pointer none, .string n] w fun e w' => e = .returned (.bool false) ∧ w = w' := by
  go_enter Try.func17, Try.ntmps17
  go_wp2_with fail
  go_ret
  exact ⟨rfl, rfl⟩
theorem Exists_calls (w : World) (F : Nat → Prop) (d : Nat) (L : Lay) (S : PS) (B : Nat) (n : ByteArray) (h : Rep w F d L S (Live S)) (hg : Good S B) (hB : B ≤ 549755813888) :
    Calls Try.prog 17 #[.pointer (some ⟨d, 0, none⟩), .string n] w fun e w' => e = .returned (.bool (pExists S n)) ∧ Fr (fun _ => False) w w' := by
  have H := Lib.hid h
  have HG := Lib.hid hg
  clear h hg
  cases ho : okObj n
  · have HO := Lib.hid ho
    clear ho
    go_enter Try.func17, Try.ntmps17
    go_wp2_with (first | (go_at_call 36; refine (object_calls w n).mono ?_; rw [HO.out]; rintro e w1 ⟨rfl, hd⟩; have HD := Lib.hid hd; clear hd) | fail)
    go_ret
    exact ⟨by unfold pExists; rw [HO.out]; rfl, (Fr.refl _ w).drawn HD.out⟩
  · have HO := Lib.hid ho
    clear ho
    go_enter Try.func17, Try.ntmps17
    go_wp2_with (first | (go_at_call 36; refine (object_calls w n).mono ?_; rw [HO.out]; rintro e w1 ⟨rfl, hd⟩; have HD := Lib.hid hd; clear hd) | (go_at_call 39; refine (has_calls _ F d L S B n (H.out.drawn HD.out) HG.out hB).mono ?_; rintro e w2 ⟨rfl, hf⟩; have HF := Lib.hid hf; clear hf) | fail)
    go_ret
    exact ⟨by unfold pExists; rw [HO.out]; rfl, ((Fr.refl _ w).drawn HD.out).trans HF.out (fun _ => .inl)⟩
end Go.Proofs.Ytehhafnjbkbmjaa.Disk

/- objstore: the steps of Put, each a closure. -/
namespace Go.Proofs.Ytehhafnjbkbmjaa.Disk
open Go Go.RowKit Go.Proofs.YtehhafnjbkbmjaaW.PrintWords Go.Proofs.YtehhafnjbkbmjaaW.PrintLast Go.Proofs.YtehhafnjbkbmjaaW.PrintMore Go.Proofs.Ytehhafnjbkbmjaa.PObjstoreAtomic
/-- A file of that name, if there is one, is removed. -/
def pClear (S : PS) (t : ByteArray) : PS × Int := if pHas S t then pRemove S t else (S, 0)
theorem fr_below {w w' : World} (h : Fr (fun _ => False) w w') : Below w.heap.size w w' := h.toBelow (Nat.le_refl _) (fun _ hk => hk.elim)
theorem cell_below {w w' : World} {a : Addr} {x : Value} (hb : Below w.heap.size w w') (h : w.cell? a = some x) : w'.cell? a = some x := (hb.cell (World.block_lt_of_cell? w _ h)).trans h
section
variable (w : World) (F : Nat → Prop) (d : Nat) (L : Lay) (S : PS) (B : Nat) (b0 b1 b2 : Nat) (t n : ByteArray)
theorem step1_calls (h : Rep w F d L S (Live S)) (hg : Good S B) (hB : B ≤ 549755813888) (h0 : w.cell? ⟨b0, 0, none⟩ = some (.pointer (some ⟨d, 0, none⟩))) (h1 : w.cell? ⟨b1, 0, none⟩ = some (.string t)) :
    Calls Try.prog 38 #[.pointer (some ⟨b0, 0, none⟩), .pointer (some ⟨b1, 0, none⟩)] w fun e w' => e = .returned (.int .i64 (pClear S t).2) ∧ After w F d (pClear S t).1 w' := by
  have H := Lib.hid h
  have HG := Lib.hid hg
  clear h hg
  cases hh : pHas S t
  · have HH := Lib.hid hh
    clear hh
    go_enter Try.func38, Try.ntmps38
    go_wp2_with (first | (go_at_call 39; refine (has_calls _ F d L S B t H.out HG.out hB).mono ?_; rw [HH.out]; rintro e w2 ⟨rfl, hf⟩; have HF := Lib.hid hf; clear hf) | fail)
    go_ret
    unfold pClear
    rw [HH.out]
    exact ⟨rfl, After.same (H.out.fr HF.out (fun _ _ e => e)) HF.out⟩
  · have HH := Lib.hid hh
    clear hh
    go_enter Try.func38, Try.ntmps38
    go_wp2_with (first | (go_at_call 39; refine (has_calls _ F d L S B t H.out HG.out hB).mono ?_; rw [HH.out]; rintro e w2 ⟨rfl, hf⟩; have HF := Lib.hid hf; have q0 := cell_below (fr_below hf) h0; have q1 := cell_below (fr_below hf) h1; clear hf) | (go_at_call 40; refine (Remove_calls _ F d L S B t (H.out.fr HF.out (fun _ _ e => e)) HG.out hB).mono ?_; rintro e w3 ⟨rfl, ha⟩; have HA := Lib.hid ha; clear ha) | fail)
    go_ret
    unfold pClear
    rw [HH.out]
    exact ⟨rfl, HA.out.behind (HF.out.mono (fun _ hk => hk.elim)) (fun _ hk => .inl hk)⟩
theorem step2_calls (h : Rep w F d L S (Live S)) (hg : Good S B) (hB : B ≤ 549755813888) (h0 : w.cell? ⟨b0, 0, none⟩ = some (.pointer (some ⟨d, 0, none⟩))) (h1 : w.cell? ⟨b1, 0, none⟩ = some (.string t)) :
    Calls Try.prog 41 #[.pointer (some ⟨b0, 0, none⟩), .pointer (some ⟨b1, 0, none⟩)] w fun e w' => e = .returned (.int .i64 (pCreate S t).2) ∧ After w F d (pCreate S t).1 w' := by
  have H := Lib.hid h
  have HG := Lib.hid hg
  clear h hg
  go_enter Try.func41, Try.ntmps41
  go_wp2_with (first | (go_at_call 23; refine (Create_calls _ F d L S B t H.out HG.out hB).mono ?_; rintro e w3 ⟨rfl, ha⟩; have HA := Lib.hid ha; clear ha) | fail)
  go_ret
  exact ⟨rfl, HA.out⟩
theorem step4_calls (h : Rep w F d L S (Live S)) (hg : Good S B) (hB : B ≤ 549755813888) (h0 : w.cell? ⟨b0, 0, none⟩ = some (.pointer (some ⟨d, 0, none⟩))) (h1 : w.cell? ⟨b1, 0, none⟩ = some (.string t)) :
    Calls Try.prog 44 #[.pointer (some ⟨b0, 0, none⟩), .pointer (some ⟨b1, 0, none⟩)] w fun e w' => e = .returned (.int .i64 (pSync S t).2) ∧ After w F d (pSync S t).1 w' := by
  have H := Lib.hid h
  have HG := Lib.hid hg
  clear h hg
  go_enter Try.func44, Try.ntmps44
  go_wp2_with (first | (go_at_call 45; refine (Sync_calls _ F d L S B t H.out HG.out hB).mono ?_; rintro e w3 ⟨rfl, ha⟩; have HA := Lib.hid ha; clear ha) | fail)
  go_ret
  exact ⟨rfl, HA.out⟩
theorem step5_calls (h : Rep w F d L S (Live S)) (hg : Good S B) (hB : B ≤ 549755813888) (h0 : w.cell? ⟨b0, 0, none⟩ = some (.pointer (some ⟨d, 0, none⟩))) (h1 : w.cell? ⟨b1, 0, none⟩ = some (.string t)) (h2 : w.cell? ⟨b2, 0, none⟩ = some (.string n)) :
    Calls Try.prog 46 #[.pointer (some ⟨b0, 0, none⟩), .pointer (some ⟨b1, 0, none⟩), .pointer (some ⟨b2, 0, none⟩)] w fun e w' => e = .returned (.int .i64 (pRename S t n).2) ∧ After w F d (pRename S t n).1 w' := by
  have H := Lib.hid h
  have HG := Lib.hid hg
  clear h hg
  go_enter Try.func46, Try.ntmps46
  go_wp2_with (first | (go_at_call 47; refine (Rename_calls _ F d L S B t n H.out HG.out hB).mono ?_; rintro e w3 ⟨rfl, ha⟩; have HA := Lib.hid ha; clear ha) | fail)
  go_ret
  exact ⟨rfl, HA.out⟩
end
end Go.Proofs.Ytehhafnjbkbmjaa.Disk

/- objstore: the step of Put that writes. -/
namespace Go.Proofs.Ytehhafnjbkbmjaa.Disk
open Go Go.RowKit Go.Proofs.YtehhafnjbkbmjaaW.PrintWords Go.Proofs.YtehhafnjbkbmjaaW.PrintLast Go.Proofs.YtehhafnjbkbmjaaW.PrintMore Go.Proofs.Ytehhafnjbkbmjaa.PObjstoreAtomic
theorem cell_after {w w' : World} {F : Nat → Prop} {d : Nat} {S : PS} {b : Nat} {x : Value} (h : After w F d S w') (hb : ¬ F b) (hc : w.cell? ⟨b, 0, none⟩ = some x) : w'.cell? ⟨b, 0, none⟩ = some x := by
  obtain ⟨_, _, _, h2⟩ := h
  exact (World.cell?_of_block (h2.fr.block b (World.block_lt_of_cell? w ⟨b, 0, none⟩ hc) hb)).trans hc
set_option maxHeartbeats 2000000 in
theorem step3_calls (w : World) (F : Nat → Prop) (d : Nat) (L : Lay) (S : PS) (B : Nat) (b0 b1 b2 : Nat) (t : ByteArray) (A : Option Addr) (c : Nat) (l : List Int) (h : Rep w F d L S (Live S)) (hg : Good S B) (hB : B ≤ 549755813888) (n0 : ¬ F b0) (n1 : ¬ F b1) (n2 : ¬ F b2)
    (h0 : w.cell? ⟨b0, 0, none⟩ = some (.pointer (some ⟨d, 0, none⟩))) (h1 : w.cell? ⟨b1, 0, none⟩ = some (.string t)) (h2 : w.cell? ⟨b2, 0, none⟩ = some (.slice A l.length c)) (hC : Kd.C kB w A l.length l) (hl : l.length ≤ 549755813888) (hw : ∀ x ∈ l, 0 ≤ x ∧ x ≤ 255) :
    Calls Try.prog 42 #[.pointer (some ⟨b0, 0, none⟩), .pointer (some ⟨b1, 0, none⟩), .pointer (some ⟨b2, 0, none⟩)] w fun e w' => e = .returned (.int .i64 (pAppend S t (sealF l)).2) ∧ After w F d (pAppend S t (sealF l)).1 w' := by
  have H := Lib.hid h
  have HG := Lib.hid hg
  have HC := Lib.hid hC
  have HW := Lib.hid hw
  have HQ := Lib.hid (And.intro h0 (And.intro h1 h2))
  clear h hg hC hw
  go_enter Try.func42, Try.ntmps42
  go_upto_region 1 with (fail)
  go_region_held3 (fun w' => w'.cell? ⟨b0, 0, none⟩ = some (.pointer (some ⟨d, 0, none⟩)) ∧ w'.cell? ⟨b1, 0, none⟩ = some (.string t) ∧ w'.cell? ⟨b2, 0, none⟩ = some (.slice A l.length c))
    (first | exact HQ.out | exact Q2.out | exact ⟨cell_after HA.out n0 Q2.out.1, cell_after HA.out n1 Q2.out.2.1, cell_after HA.out n2 Q2.out.2.2⟩)
    (first
      | (go_at_call 43; refine (Seal_calls w.drew A c l (Kd.C_below HC.out (fr_below ((Fr.refl (fun _ => False) w).drew))) hl HW.out).mono ?_; rintro e w2 ⟨v, rfl, ho, hb⟩; have hb' : Below w.heap.size w w2 := ⟨hb.os, hb.tape, hb.output, hb.size, hb.block⟩; obtain ⟨A2, c2, rfl, hC2⟩ := own_bytes ho; have HC2 := Lib.hid hC2; have HB2 := Lib.hid hb'; have Q2 := Lib.hid (show w2.cell? ⟨b0, 0, none⟩ = some (.pointer (some ⟨d, 0, none⟩)) ∧ w2.cell? ⟨b1, 0, none⟩ = some (.string t) ∧ w2.cell? ⟨b2, 0, none⟩ = some (.slice A l.length c) from ⟨cell_below hb' h0, cell_below hb' h1, cell_below hb' h2⟩); clear ho hb hb' hC2)
      | (go_at_call 24; refine (Append_calls w2 F d L S B t A2 (sealF l) c2 HC2.out (by rw [sealF_length]; omega) (H.out.below HB2.out) HG.out hB).mono ?_; rintro e w3 ⟨rfl, ha⟩; have HA := Lib.hid ha; clear ha))
  go_wp2_with fail
  go_ret
  exact ⟨rfl, HA.out.behind (Below.toFr HB2.out F) (fun _ hk => .inl hk)⟩
end Go.Proofs.Ytehhafnjbkbmjaa.Disk

/- The plain states: what every operation keeps. -/
namespace Go.Proofs.Ytehhafnjbkbmjaa.Disk
open Go Go.RowKit Go.Proofs.YtehhafnjbkbmjaaW.PrintWords Go.Proofs.YtehhafnjbkbmjaaW.PrintLast Go.Proofs.YtehhafnjbkbmjaaW.PrintMore Go.Proofs.Ytehhafnjbkbmjaa.PObjstoreAtomic

def OpName (o : Opn) : Prop := (o.f0 = 1 → okName o.f1 = true) ∧ (o.f0 = 2 → okName o.f2 = true)
/-- Good, with what a crash needs. -/
structure Sound (S : PS) (B : Nat) : Prop where
  good : Good S B
  dp : S.dur.length + S.pend.length ≤ B
  opN : ∀ o ∈ S.pend, OpName o
theorem Good.mono {S : PS} {B B' : Nat} (h : Good S B) (hB : B ≤ B') : Good S B' :=
  { h with
    nFiles := Nat.le_trans h.nFiles hB
    nDir := Nat.le_trans h.nDir hB
    nDur := Nat.le_trans h.nDur hB
    nPend := Nat.le_trans h.nPend hB
    nBytes := fun f hf => Nat.le_trans (h.nBytes f hf) hB }
theorem Sound.mono {S : PS} {B B' : Nat} (h : Sound S B) (hB : B ≤ B') : Sound S B' := ⟨h.good.mono hB, Nat.le_trans h.dp hB, h.opN⟩
theorem Good.done {S : PS} {B : Nat} (h : Good S B) (h0 : S.lim = true → 0 < S.left) : Good (pDone S) B :=
  { nFiles := h.nFiles
    nDir := h.nDir
    nDur := h.nDur
    nPend := h.nPend
    left := fun hl => by
      have hl' : S.lim = true := hl
      have h1 := h.left hl'
      have h2 := h0 hl'
      have e : (pDone S).left = S.left - 1 := by simp [pDone, doneLeft, hl']
      rw [e]
      omega
    range := h.range
    nBytes := h.nBytes
    dur := h.dur
    bytes := h.bytes
    nameD := h.nameD
    nameU := h.nameU
    ops := h.ops }
theorem Sound.done {S : PS} {B : Nat} (h : Sound S B) (h0 : S.lim = true → 0 < S.left) : Sound (pDone S) B := ⟨h.good.done h0, h.dp, h.opN⟩
theorem pApply_names {l : List Ent} {o : Opn} (hl : ∀ e ∈ l, okName e.f0 = true) (ho : OpName o) : ∀ e ∈ pApply l o, okName e.f0 = true := by
  intro e he
  unfold pApply at he
  split at he
  · rcases mem_pWith he with rfl | h
    · exact ho.1 ‹_›
    · exact hl e h
  · split at he
    · split at he
      · rcases mem_pWith he with rfl | h
        · exact ho.2 ‹_›
        · exact hl e (List.mem_filter.1 h).1
      · exact hl e he
    · exact hl e (List.mem_filter.1 he).1
theorem live_dir {S : PS} {o : Opn} {i : Int} (h : Live (pDir S o) i) : Live S i ∨ (o.f0 = 1 ∧ i = o.f3) := live_pDir (S := S) (o := o) h
theorem Sound.dir {S : PS} {B : Nat} {o : Opn} (h : Sound S B) (ho : OpnOk o) (hn : OpName o) (hr : o.f0 = 1 → 0 ≤ o.f3 ∧ o.f3 < S.files.length) : Sound (pDir S o) (B + 1) where
  good :=
    { nFiles := Nat.le_succ_of_le h.good.nFiles
      nDir := by have := pApply_length S.dir o; have := h.good.nDir; show (pApply S.dir o).length ≤ B + 1; omega
      nDur := Nat.le_succ_of_le h.good.nDur
      nPend := by have := h.good.nPend; show (S.pend ++ [o]).length ≤ B + 1; rw [List.length_append, List.length_singleton]; omega
      left := h.good.left
      range := fun i hi => by
        rcases live_dir hi with h1 | ⟨h1, rfl⟩
        · exact h.good.range i h1
        · exact hr h1
      nBytes := fun f hf => Nat.le_succ_of_le (h.good.nBytes f hf)
      dur := h.good.dur
      bytes := h.good.bytes
      nameD := pApply_names h.good.nameD hn
      nameU := h.good.nameU
      ops := fun p hp => by
        rcases List.mem_append.1 hp with hp | hp
        · exact h.good.ops p hp
        · rw [List.mem_singleton.1 hp]
          exact ho }
  dp := by have := h.dp; show S.dur.length + (S.pend ++ [o]).length ≤ B + 1; rw [List.length_append, List.length_singleton]; omega
  opN := fun p hp => by
    rcases List.mem_append.1 hp with hp | hp
    · exact h.opN p hp
    · rw [List.mem_singleton.1 hp]
      exact hn
theorem Sound.file {S : PS} {B : Nat} (h : Sound S B) : Sound { S with files := S.files ++ [⟨[], 0⟩] } (B + 1) where
  good :=
    { nFiles := by have := h.good.nFiles; show (S.files ++ [_]).length ≤ B + 1; rw [List.length_append, List.length_singleton]; omega
      nDir := Nat.le_succ_of_le h.good.nDir
      nDur := Nat.le_succ_of_le h.good.nDur
      nPend := Nat.le_succ_of_le h.good.nPend
      left := h.good.left
      range := fun i hi => by
        have h1 := h.good.range i hi
        refine ⟨h1.1, ?_⟩
        show i < ((S.files ++ [_]).length : Nat)
        rw [List.length_append, List.length_singleton]
        omega
      nBytes := fun f hf => by
        rcases List.mem_append.1 hf with hf | hf
        · exact Nat.le_succ_of_le (h.good.nBytes f hf)
        · rw [List.mem_singleton.1 hf]
          simp
      dur := fun f hf => by
        rcases List.mem_append.1 hf with hf | hf
        · exact h.good.dur f hf
        · rw [List.mem_singleton.1 hf]
          simp
      bytes := fun f hf => by
        rcases List.mem_append.1 hf with hf | hf
        · exact h.good.bytes f hf
        · rw [List.mem_singleton.1 hf]
          intro x hx
          cases hx
      nameD := h.good.nameD
      nameU := h.good.nameU
      ops := h.good.ops }
  dp := Nat.le_succ_of_le h.dp
  opN := h.opN
theorem Sound.set {S : PS} {B n : Nat} {i : Int} {f : Fil} (h : Sound S B) (h1 : f.f0.length ≤ B + n) (h2 : 0 ≤ f.f1 ∧ f.f1 ≤ f.f0.length) (h3 : ∀ x ∈ f.f0, 0 ≤ x ∧ x ≤ 255) : Sound (pSet S i f) (B + n) where
  good :=
    { nFiles := by have := h.good.nFiles; show (S.files.set _ _).length ≤ B + n; rw [List.length_set]; omega
      nDir := Nat.le_add_right_of_le h.good.nDir
      nDur := Nat.le_add_right_of_le h.good.nDur
      nPend := Nat.le_add_right_of_le h.good.nPend
      left := h.good.left
      range := fun i hi => by
        have h1 := h.good.range i hi
        refine ⟨h1.1, ?_⟩
        show i < ((S.files.set _ _).length : Nat)
        rw [List.length_set]
        omega
      nBytes := fun g hg => by
        rcases List.mem_or_eq_of_mem_set hg with hg | rfl
        · exact Nat.le_add_right_of_le (h.good.nBytes g hg)
        · exact h1
      dur := fun g hg => by
        rcases List.mem_or_eq_of_mem_set hg with hg | rfl
        · exact h.good.dur g hg
        · exact h2
      bytes := fun g hg => by
        rcases List.mem_or_eq_of_mem_set hg with hg | rfl
        · exact h.good.bytes g hg
        · exact h3
      nameD := h.good.nameD
      nameU := h.good.nameU
      ops := h.good.ops }
  dp := Nat.le_add_right_of_le h.dp
  opN := h.opN
theorem opn_ok {k i : Int} {m n : ByteArray} (hk : k = 1 ∨ k = 2 ∨ k = 3) (hm : m.size ≤ 64) (hn : n.size ≤ 64) : OpnOk ⟨k, m, n, i⟩ := ⟨hk, hm, hn⟩
theorem size_nil : (⟨#[]⟩ : ByteArray).size ≤ 64 := by decide
theorem Sound.create {S : PS} {B : Nat} {n : ByteArray} (h : Sound S B) : Sound (pCreate S n).1 (B + 100) := by
  unfold pCreate
  split
  · rename_i hc
    obtain ⟨h0, hn⟩ := pCheck_zero hc
    have hn' := hn n (by simp)
    split
    · exact h.mono (by omega)
    · refine Sound.mono (B := B + 1 + 1) (Sound.done (Sound.dir h.file (opn_ok (.inl rfl) (okName_size hn') size_nil) ⟨fun _ => hn', fun e => ?_⟩ (fun _ => ?_)) h0) (by omega)
      · exact absurd (show (1 : Int) = 2 from e) (by decide)
      · exact ⟨by simp, by simp; omega⟩
  · exact h.mono (by omega)
theorem Sound.remove {S : PS} {B : Nat} {n : ByteArray} (h : Sound S B) : Sound (pRemove S n).1 (B + 100) := by
  unfold pRemove
  split
  · rename_i hc
    obtain ⟨h0, hn⟩ := pCheck_zero hc
    have hn' := hn n (by simp)
    split
    · refine Sound.mono (B := B + 1) (Sound.done (Sound.dir h (opn_ok (.inr (.inr rfl)) (okName_size hn') size_nil) ⟨fun e => ?_, fun e => ?_⟩ (fun e => ?_)) h0) (by omega)
      · exact absurd (show (3 : Int) = 1 from e) (by decide)
      · exact absurd (show (3 : Int) = 2 from e) (by decide)
      · exact absurd (show (3 : Int) = 1 from e) (by decide)
    · exact h.mono (by omega)
  · exact h.mono (by omega)
theorem Sound.rename {S : PS} {B : Nat} {m n : ByteArray} (h : Sound S B) : Sound (pRename S m n).1 (B + 100) := by
  unfold pRename
  split
  · rename_i hc
    obtain ⟨h0, hn⟩ := pCheck_zero hc
    have hm' := hn m (by simp)
    have hn' := hn n (by simp)
    split
    · split
      · exact (h.done h0).mono (by omega)
      · refine Sound.mono (B := B + 1) (Sound.done (Sound.dir h (opn_ok (.inr (.inl rfl)) (okName_size hm') (okName_size hn')) ⟨fun e => ?_, fun _ => hn'⟩ (fun e => ?_)) h0) (by omega)
        · exact absurd (show (2 : Int) = 1 from e) (by decide)
        · exact absurd (show (2 : Int) = 1 from e) (by decide)
    · exact h.mono (by omega)
  · exact h.mono (by omega)
theorem Sound.append {S : PS} {B : Nat} {n : ByteArray} {b : List Int} (h : Sound S B) (hb : b.length ≤ 100) (hw : ∀ x ∈ b, 0 ≤ x ∧ x ≤ 255) : Sound (pAppend S n b).1 (B + 100) := by
  unfold pAppend
  split
  · rename_i hc
    obtain ⟨h0, _⟩ := pCheck_zero hc
    split
    · rename_i i hi
      have hm := fileAt_mem (h.good.range i (live_look hi))
      have h1 := h.good.dur _ hm
      refine Sound.done (h.set (n := 100) ?_ ⟨h1.1, ?_⟩ ?_) h0
      · have := h.good.nBytes _ hm
        simp only [List.length_append]
        omega
      · simp only [List.length_append]
        omega
      · intro x hx
        rcases List.mem_append.1 hx with hx | hx
        · exact h.good.bytes _ hm x hx
        · exact hw x hx
    · exact h.mono (by omega)
  · exact h.mono (by omega)
theorem Sound.sync {S : PS} {B : Nat} {n : ByteArray} (h : Sound S B) : Sound (pSync S n).1 (B + 100) := by
  unfold pSync
  split
  · rename_i hc
    obtain ⟨h0, _⟩ := pCheck_zero hc
    split
    · rename_i i hi
      have hm := fileAt_mem (h.good.range i (live_look hi))
      refine Sound.done (h.set (n := 100) ?_ ⟨by simp, by simp⟩ (fun x hx => h.good.bytes _ hm x hx)) h0
      have := h.good.nBytes _ hm
      simp only
      omega
    · exact h.mono (by omega)
  · exact h.mono (by omega)
theorem Sound.synced {S : PS} {B : Nat} (h : Sound S B) : Sound (pSynced S) B where
  good :=
    { h.good with
      nDur := h.good.nDir
      nPend := by simp [pSynced]
      range := fun i hi => h.good.range i (live_synced hi)
      nameU := h.good.nameD
      ops := fun o ho => by simp [pSynced] at ho }
  dp := by have := h.good.nDir; simp [pSynced]; omega
  opN := fun o ho => by simp [pSynced] at ho
theorem Sound.syncDir {S : PS} {B : Nat} (h : Sound S B) : Sound (pSyncDir S).1 (B + 100) := by
  unfold pSyncDir
  split
  · rename_i hc
    exact (h.synced.done (pCheck_zero hc).1).mono (by omega)
  · exact h.mono (by omega)
theorem Sound.fail {S : PS} {B : Nat} {n : Int} (h : Sound S B) (hn : n ≤ 9223372036854775807) : Sound (pFail S n) (B + 100) := by
  refine Sound.mono (B := B) ⟨?_, h.dp, h.opN⟩ (by omega)
  exact
    { h.good with
      left := fun hl => by
        simp only [pFail]
        split <;> omega
      range := h.good.range }
theorem names_at (S : PS) (hu : ∀ e ∈ S.dur, okName e.f0 = true) (hp : ∀ o ∈ S.pend, OpName o) : ∀ (k : Nat) (e : Ent), e ∈ dirAt S k → okName e.f0 = true := by
  intro k
  induction k with
  | zero => intro e he; exact hu e (by simpa [dirAt] using he)
  | succ k ih =>
    intro e he
    by_cases hk : k < S.pend.length
    · rw [dirAt_succ S k hk] at he
      exact pApply_names ih (hp _ (List.getElem_mem hk)) e he
    · have : dirAt S (k + 1) = dirAt S k := by
        unfold dirAt
        rw [List.take_of_length_le (by omega), List.take_of_length_le (by omega)]
      rw [this] at he
      exact ih e he
theorem crashDir_length (S : PS) (n : Int) : (pCrashDir S n).length ≤ S.dur.length + S.pend.length := by
  have h1 : pCrashDir S n = dirAt S n.toNat := rfl
  rw [h1]
  by_cases h : n.toNat ≤ S.pend.length
  · have := dirAt_length S n.toNat; omega
  · have e : dirAt S n.toNat = dirAt S S.pend.length := by unfold dirAt; rw [List.take_of_length_le (by omega), List.take_of_length_le (Nat.le_refl _)]
    rw [e]
    exact dirAt_length S _
theorem pLeft_le (f : Fil) (c : Cf) : (pLeft f c).length ≤ f.f0.length := by
  unfold pLeft
  split <;> simp only [List.length_set, List.length_take] <;> omega
theorem bits_u8 (x : Int) : 0 ≤ Go.bits .xor .u8 x 255 ∧ Go.bits .xor .u8 x 255 ≤ 255 := by
  have h := wf_bits .xor .u8 x 255
  exact bounds_u8 h
theorem pLeft_bytes {f : Fil} {c : Cf} (h : ∀ x ∈ f.f0, 0 ≤ x ∧ x ≤ 255) : ∀ x ∈ pLeft f c, 0 ≤ x ∧ x ≤ 255 := by
  intro x hx
  unfold pLeft at hx
  split at hx
  · rcases List.mem_or_eq_of_mem_set hx with hx | rfl
    · exact h x (List.mem_of_mem_take hx)
    · exact bits_u8 _
  · exact h x (List.mem_of_mem_take hx)
theorem newFiles_mem {S : PS} {l : List Ent} {cs : List Cf} {f : Fil} (h : f ∈ newFiles S l cs) : ∃ e ∈ l, ∃ c, f = ⟨pLeft (fileAt S e.f1) c, (pLeft (fileAt S e.f1) c).length⟩ := by
  unfold newFiles at h
  obtain ⟨⟨e, j⟩, hx, rfl⟩ := List.mem_map.1 h
  have hx1 := List.mem_zipIdx hx
  exact ⟨e, by rw [hx1.2.2]; exact List.getElem_mem _, _, rfl⟩
theorem Sound.crash {S : PS} {B : Nat} {n : Int} {cs : List Cf} (h : Sound S B) : Sound (pCrash S n cs) B where
  good :=
    { nFiles := by have := crashDir_length S n; have := h.dp; show (newFiles _ _ _).length ≤ B; rw [newFiles_length]; omega
      nDir := by have := crashDir_length S n; have := h.dp; show (newDir _ _).length ≤ B; rw [newDir_length _ _ (Nat.le_refl _)]; omega
      nDur := by have := crashDir_length S n; have := h.dp; show (newDir _ _).length ≤ B; rw [newDir_length _ _ (Nat.le_refl _)]; omega
      nPend := by simp [pCrash]
      left := fun e => by cases e
      range := fun i hi => by
        obtain ⟨j, hj, rfl⟩ := live_crash hi
        refine ⟨by omega, ?_⟩
        show (j : Int) < ((newFiles _ _ _).length : Nat)
        rw [newFiles_length]
        omega
      nBytes := fun f hf => by
        obtain ⟨e, he, c, rfl⟩ := newFiles_mem hf
        have h1 := dirAt_live S n.toNat e he
        have h2 := h.good.nBytes _ (fileAt_mem (h.good.range _ h1))
        have h3 := pLeft_le (fileAt S e.f1) c
        simp only
        omega
      dur := fun f hf => by
        obtain ⟨e, he, c, rfl⟩ := newFiles_mem hf
        simp
      bytes := fun f hf => by
        obtain ⟨e, he, c, rfl⟩ := newFiles_mem hf
        exact pLeft_bytes (h.good.bytes _ (fileAt_mem (h.good.range _ (dirAt_live S n.toNat e he))))
      nameD := fun e he => by
        obtain ⟨j, _, _, _, hj, h2⟩ := newDir_mem he
        rw [h2]
        exact names_at S h.good.nameU h.opN n.toNat _ (List.getElem_mem hj)
      nameU := fun e he => by
        obtain ⟨j, _, _, _, hj, h2⟩ := newDir_mem he
        rw [h2]
        exact names_at S h.good.nameU h.opN n.toNat _ (List.getElem_mem hj)
      ops := fun o ho => by simp [pCrash] at ho }
  dp := by
    have := crashDir_length S n
    have := h.dp
    show (newDir _ _).length + ([] : List Opn).length ≤ B
    rw [newDir_length _ _ (Nat.le_refl _)]
    simp
    omega
  opN := fun o ho => by simp [pCrash] at ho
theorem Sound.new : Sound pNew 0 where
  good :=
    { nFiles := by decide
      nDir := by decide
      nDur := by decide
      nPend := by decide
      left := fun e => by cases e
      range := fun i hi => by rcases hi with ⟨e, he, _⟩ | ⟨e, he, _⟩ | ⟨e, he, _⟩ <;> simp [pNew] at he
      nBytes := fun f hf => by simp [pNew] at hf
      dur := fun f hf => by simp [pNew] at hf
      bytes := fun f hf => by simp [pNew] at hf
      nameD := fun f hf => by simp [pNew] at hf
      nameU := fun f hf => by simp [pNew] at hf
      ops := fun f hf => by simp [pNew] at hf }
  dp := by decide
  opN := fun f hf => by simp [pNew] at hf
end Go.Proofs.Ytehhafnjbkbmjaa.Disk

/- Rows that are read. -/
namespace Go.Proofs.Ytehhafnjbkbmjaa.Disk
open Go Go.RowKit Go.Proofs.YtehhafnjbkbmjaaW.PrintWords Go.Proofs.YtehhafnjbkbmjaaW.PrintLast Go.Proofs.YtehhafnjbkbmjaaW.PrintMore Go.Proofs.Ytehhafnjbkbmjaa.PObjstoreAtomic
/-- A row that is read, wherever it lies; ok: in which blocks. -/
structure Rd {α : Type} (d : Kd α) (w : World) (ok : Nat → Prop) (A : Option Addr) (c : Nat) (xs : List α) : Prop where
  le : xs.length ≤ c
  f : Kd.F d w ok A xs.length xs
section
variable {α : Type} {d : Kd α} {w w' : World} {ok ok' : Nat → Prop} {A : Option Addr} {c : Nat} {xs : List α}
theorem Rd.now (h : Rd d w ok A c xs) : Kd.C d w A xs.length xs := Kd.F_now h.f
theorem Rd.mono (h : Rd d w ok A c xs) (hok : ∀ k, ok k → k < w.heap.size → ok' k) : Rd d w ok' A c xs := ⟨h.le, Kd.F_mono (Kd.F_bound h.f) (fun k hk => hok k hk.1 hk.2)⟩
theorem Rd.below (h : Rd d w ok A c xs) (hb : Below w.heap.size w w') : Rd d w' ok A c xs := ⟨h.le, Kd.F_below h.f hb⟩
theorem Rd.move (h : Rd d w ok A c xs) (hm : ∀ k, ok k → k < w.heap.size → w'.heap[k]? = w.heap[k]?) : Rd d w' ok A c xs := ⟨h.le, Kd.F_step h.f hm⟩
theorem Rd.nil (d : Kd α) (w : World) (ok : Nat → Prop) : Rd d w ok none 0 [] := ⟨Nat.le_refl _, Kd.F_nil d w ok⟩
end
theorem Rd.ofR {α : Type} {d : Kd α} {w : World} {e base : Nat} {ok : Nat → Prop} {v : Value} {xs : List α} (h : d.R e w base ok v xs) : ∃ A c, v = .slice A xs.length c ∧ Rd d w (fun k => base ≤ k ∧ k < w.heap.size) A c xs := by
  obtain ⟨A, c, e1, hl, hF⟩ := Kd.R_V (base' := base) (Kd.R_mono (Kd.R_bound h) (ok' := fun k => base ≤ k ∧ k < w.heap.size) (fun k hk => ⟨hk.2.1, hk.2.2.1⟩))
  exact ⟨A, c, e1, hl, hF⟩
theorem Rd.ofN {α : Type} {d : Kd α} {w : World} {e base : Nat} {ok : Nat → Prop} {v : Value} {xs : List α} (h : Kd.N d e w base ok v xs) : ∃ A c, v = .slice A xs.length c ∧ Rd d w (fun k => ok k ∧ k < w.heap.size) A c xs := by
  obtain ⟨A, c, e1, hl, hF⟩ := Kd.N_V (base' := base) (Kd.N_bound h)
  exact ⟨A, c, e1, hl, hF⟩

end Go.Proofs.Ytehhafnjbkbmjaa.Disk

/- objstore: run over the six steps of Put. -/
namespace Go.Proofs.Ytehhafnjbkbmjaa.Disk
open Go Go.RowKit Go.Proofs.YtehhafnjbkbmjaaW.PrintWords Go.Proofs.YtehhafnjbkbmjaaW.PrintLast Go.Proofs.YtehhafnjbkbmjaaW.PrintMore Go.Proofs.Ytehhafnjbkbmjaa.PObjstoreAtomic
theorem Sound.append_any {S : PS} {B m : Nat} {n : ByteArray} {b : List Int} (h : Sound S B) (hb : b.length ≤ m) (hw : ∀ x ∈ b, 0 ≤ x ∧ x ≤ 255) : Sound (pAppend S n b).1 (B + m) := by
  unfold pAppend
  split
  · rename_i hc
    obtain ⟨h0, _⟩ := pCheck_zero hc
    split
    · rename_i i hi
      have hm := fileAt_mem (h.good.range i (live_look hi))
      have h1 := h.good.dur _ hm
      refine Sound.done (h.set (n := m) ?_ ⟨h1.1, ?_⟩ ?_) h0
      · have := h.good.nBytes _ hm
        simp only [List.length_append]
        omega
      · simp only [List.length_append]
        omega
      · intro x hx
        rcases List.mem_append.1 hx with hx | hx
        · exact h.good.bytes _ hm x hx
        · exact hw x hx
    · exact h.mono (by omega)
  · exact h.mono (by omega)
/-- Step j of the writing of file n by way of file t. -/
def stepF (t n : ByteArray) (bs : List Int) : Nat → PS → PS × Int
  | 0, S => pClear S t
  | 1, S => pCreate S t
  | 2, S => pAppend S t bs
  | 3, S => pSync S t
  | 4, S => pRename S t n
  | _, S => pSyncDir S
/-- The first j steps, as far as none fails. -/
def runTo (S : PS) (t n : ByteArray) (bs : List Int) : Nat → PS × Int
  | 0 => (S, 0)
  | j + 1 => if (runTo S t n bs j).2 = 0 then stepF t n bs j (runTo S t n bs j).1 else runTo S t n bs j
def pReplace (S : PS) (t n : ByteArray) (bs : List Int) : PS × Int := runTo S t n bs 6
theorem runTo_go {S : PS} {t n : ByteArray} {bs : List Int} {j : Nat} (h : (runTo S t n bs j).2 = 0) : runTo S t n bs (j + 1) = stepF t n bs j (runTo S t n bs j).1 := by
  show (if _ then _ else _) = _
  rw [if_pos h]
theorem runTo_stop {S : PS} {t n : ByteArray} {bs : List Int} {j : Nat} (h : (runTo S t n bs j).2 ≠ 0) : ∀ m, runTo S t n bs (j + m) = runTo S t n bs j
  | 0 => rfl
  | m + 1 => by
    have ih := runTo_stop h m
    show (if (runTo S t n bs (j + m)).2 = 0 then _ else runTo S t n bs (j + m)) = _
    rw [ih, if_neg h]
theorem Sound.stepF {S : PS} {B m : Nat} {t n : ByteArray} {bs : List Int} (h : Sound S B) (hm : 100 ≤ m) (hb : bs.length ≤ m) (hw : ∀ x ∈ bs, 0 ≤ x ∧ x ≤ 255) (j : Nat) : Sound (stepF t n bs j S).1 (B + m) := by
  unfold Disk.stepF
  split
  · unfold pClear
    split
    · exact h.remove.mono (by omega)
    · exact h.mono (by omega)
  · exact h.create.mono (by omega)
  · exact h.append_any hb hw
  · exact h.sync.mono (by omega)
  · exact h.rename.mono (by omega)
  · exact h.syncDir.mono (by omega)
theorem Sound.runTo {S : PS} {B m : Nat} {t n : ByteArray} {bs : List Int} (h : Sound S B) (hm : 100 ≤ m) (hb : bs.length ≤ m) (hw : ∀ x ∈ bs, 0 ≤ x ∧ x ≤ 255) : ∀ j, Sound (runTo S t n bs j).1 (B + m * j)
  | 0 => h
  | j + 1 => by
    have ih := Sound.runTo (t := t) (n := n) h hm hb hw j
    have e : B + m * (j + 1) = B + m * j + m := by rw [Nat.mul_add]; omega
    rw [e]
    show Sound (if _ then _ else _ : PS × Int).1 _
    split
    · exact ih.stepF hm hb hw j
    · exact ih.mono (by omega)
/-- What the closures hold on to. -/
structure Env (w : World) (F : Nat → Prop) (d b0 b1 b2 b3 : Nat) (t n : ByteArray) (A : Option Addr) (c : Nat) (l : List Int) : Prop where
  q0 : w.cell? ⟨b0, 0, none⟩ = some (.pointer (some ⟨d, 0, none⟩))
  q1 : w.cell? ⟨b1, 0, none⟩ = some (.string t)
  q2 : w.cell? ⟨b2, 0, none⟩ = some (.slice A l.length c)
  q3 : w.cell? ⟨b3, 0, none⟩ = some (.string n)
  row : Rd kB w (fun k => ¬ F k) A c l
  n0 : ¬ F b0
  n1 : ¬ F b1
  n2 : ¬ F b2
  n3 : ¬ F b3
theorem Env.chg {w w' : World} {F F' : Nat → Prop} {d b0 b1 b2 b3 : Nat} {t n : ByteArray} {A : Option Addr} {c : Nat} {l : List Int} (h : Env w F d b0 b1 b2 b3 t n A c l) (hc : Chg w F w' F') : Env w' F' d b0 b1 b2 b3 t n A c l := by
  have keep := fun {b : Nat} {x : Value} (hb : ¬ F b) (hq : w.cell? ⟨b, 0, none⟩ = some x) => (World.cell?_of_block (hc.fr.block b (World.block_lt_of_cell? w ⟨b, 0, none⟩ hq) hb)).trans hq
  have out : ∀ {b : Nat} {x : Value}, ¬ F b → w.cell? ⟨b, 0, none⟩ = some x → ¬ F' b := fun {b x} hb hq e => by
    rcases hc.new b e with h1 | h1
    · exact hb h1
    · have h2 := World.block_lt_of_cell? w ⟨b, 0, none⟩ hq
      simp only at h2
      omega
  exact ⟨keep h.n0 h.q0, keep h.n1 h.q1, keep h.n2 h.q2, keep h.n3 h.q3, (h.row.mono (ok' := fun k => ¬ F k ∧ k < w.heap.size) (fun k h1 h2 => ⟨h1, h2⟩)).move (fun k hk hlt => hc.fr.block k hlt hk.1) |>.mono (fun k hk _ e => by
    rcases hc.new k e with h1 | h1
    · exact hk.1 h1
    · have := hk.2; omega), out h.n0 h.q0, out h.n1 h.q1, out h.n2 h.q2, out h.n3 h.q3⟩
end Go.Proofs.Ytehhafnjbkbmjaa.Disk

/- objstore: run over the six steps of Put: the walk. -/
namespace Go.Proofs.Ytehhafnjbkbmjaa.Disk
open Go Go.RowKit Go.Proofs.YtehhafnjbkbmjaaW.PrintWords Go.Proofs.YtehhafnjbkbmjaaW.PrintLast Go.Proofs.YtehhafnjbkbmjaaW.PrintMore Go.Proofs.Ytehhafnjbkbmjaa.PObjstoreAtomic
/-- The six closures, in a row. -/
structure Fns (w : World) (F : Nat → Prop) (d b0 b1 b2 b3 g : Nat) : Prop where
  g0 : w.cell? ⟨g, 0, none⟩ = some (Value.func (Fn.func 38) #[] #[.pointer (some ⟨b0, 0, none⟩), .pointer (some ⟨b1, 0, none⟩)])
  g1 : w.cell? ⟨g, 1, none⟩ = some (Value.func (Fn.func 41) #[] #[.pointer (some ⟨b0, 0, none⟩), .pointer (some ⟨b1, 0, none⟩)])
  g2 : w.cell? ⟨g, 2, none⟩ = some (Value.func (Fn.func 42) #[] #[.pointer (some ⟨b0, 0, none⟩), .pointer (some ⟨b1, 0, none⟩), .pointer (some ⟨b2, 0, none⟩)])
  g3 : w.cell? ⟨g, 3, none⟩ = some (Value.func (Fn.func 44) #[] #[.pointer (some ⟨b0, 0, none⟩), .pointer (some ⟨b1, 0, none⟩)])
  g4 : w.cell? ⟨g, 4, none⟩ = some (Value.func (Fn.func 46) #[] #[.pointer (some ⟨b0, 0, none⟩), .pointer (some ⟨b1, 0, none⟩), .pointer (some ⟨b3, 0, none⟩)])
  g5 : w.cell? ⟨g, 5, none⟩ = some (Value.func (Fn.func 48) #[.pointer (some ⟨d, 0, none⟩)] #[])
  ng : ¬ F g
theorem Fns.chg {w w' : World} {F F' : Nat → Prop} {d b0 b1 b2 b3 g : Nat} (h : Fns w F d b0 b1 b2 b3 g) (hc : Chg w F w' F') : Fns w' F' d b0 b1 b2 b3 g := by
  have lt : g < w.heap.size := World.block_lt_of_cell? w ⟨g, 0, none⟩ h.g0
  have keep : ∀ {j : Nat} {x : Value}, w.cell? ⟨g, j, none⟩ = some x → w'.cell? ⟨g, j, none⟩ = some x := fun {j x} hq => (World.cell?_of_block (hc.fr.block g lt h.ng)).trans hq
  refine ⟨keep h.g0, keep h.g1, keep h.g2, keep h.g3, keep h.g4, keep h.g5, fun e => ?_⟩
  rcases hc.new g e with h1 | h1
  · exact h.ng h1
  · omega
def RunRel (w : World) (F : Nat → Prop) (d b0 b1 b2 b3 g : Nat) (S : PS) (t n : ByteArray) (A : Option Addr) (c : Nat) (l bs : List Int) (i : Value) (wx : World) : Prop :=
  ∃ (j : Nat) (F' : Nat → Prop) (L' : Lay), j ≤ 6 ∧ i = .int .i64 j ∧ (runTo S t n bs j).2 = 0 ∧ Rep wx F' d L' (runTo S t n bs j).1 (Live (runTo S t n bs j).1) ∧ Chg w F wx F' ∧ Env wx F' d b0 b1 b2 b3 t n A c l ∧ Fns wx F' d b0 b1 b2 b3 g
theorem run_next0 {w w3 wx : World} {F F' : Nat → Prop} {d b0 b1 b2 b3 g j : Nat} {S : PS} {t n : ByteArray} {A : Option Addr} {c : Nat} {l bs : List Int} (hj : j < 6) (hc : Chg w F wx F') (he : Env wx F' d b0 b1 b2 b3 t n A c l) (hf : Fns wx F' d b0 b1 b2 b3 g) (ha : After wx F' d (runTo S t n bs (j + 1)).1 w3) (h1 : (runTo S t n bs (j + 1)).2 = 0) :
    RunRel w F d b0 b1 b2 b3 g S t n A c l bs (.int .i64 ((j + 1 : Nat) : Int)) w3 := by
  obtain ⟨F3, L3, hr, hc3⟩ := ha
  exact ⟨j + 1, F3, L3, by omega, rfl, h1, hr, hc.trans hc3, he.chg hc3, hf.chg hc3⟩
theorem run_stop {w w3 wx : World} {F F' : Nat → Prop} {d j : Nat} {S : PS} {t n : ByteArray} {bs : List Int} (hj : j < 6) (hc : Chg w F wx F') (ha : After wx F' d (runTo S t n bs (j + 1)).1 w3) (h1 : (runTo S t n bs (j + 1)).2 ≠ 0) : runTo S t n bs (j + 1) = pReplace S t n bs ∧ After w F d (pReplace S t n bs).1 w3 := by
  have e : runTo S t n bs (j + 1) = pReplace S t n bs := by
    have := runTo_stop h1 (6 - (j + 1))
    rw [show j + 1 + (6 - (j + 1)) = 6 by omega] at this
    exact this.symm
  obtain ⟨F3, L3, hr, hc3⟩ := ha
  rw [← e]
  exact ⟨rfl, F3, L3, hr, hc.trans hc3⟩
theorem run_next {w w3 wx : World} {F F' : Nat → Prop} {d b0 b1 b2 b3 g j : Nat} {S : PS} {t n : ByteArray} {A : Option Addr} {c : Nat} {l bs : List Int} {r : PS × Int} {cd : Int} (hj : j < 6) (hc : Chg w F wx F') (he : Env wx F' d b0 b1 b2 b3 t n A c l) (hf : Fns wx F' d b0 b1 b2 b3 g) (hr : r = runTo S t n bs (j + 1)) (hcd : cd = r.2) (ha : After wx F' d r.1 w3) (h1 : (cd != 0) = false) :
    RunRel w F d b0 b1 b2 b3 g S t n A c l bs (.int .i64 ((j + 1 : Nat) : Int)) w3 := by
  subst hr
  subst hcd
  exact run_next0 hj hc he hf ha (by simpa using h1)
theorem run_end {w w3 wx : World} {F F' : Nat → Prop} {d j : Nat} {S : PS} {t n : ByteArray} {bs : List Int} {r : PS × Int} {cd : Int} (hj : j < 6) (hc : Chg w F wx F') (hr : r = runTo S t n bs (j + 1)) (hcd : cd = r.2) (ha : After wx F' d r.1 w3) (h1 : (cd != 0) = true) :
    Ending.returned (.int .i64 cd) = .returned (.int .i64 (pReplace S t n bs).2) ∧ After w F d (pReplace S t n bs).1 w3 := by
  subst hr
  subst hcd
  obtain ⟨e, h⟩ := run_stop hj hc ha (by simpa using h1)
  rw [e] 
  exact ⟨rfl, h⟩
set_option maxHeartbeats 8000000 in
set_option maxRecDepth 100000 in
theorem run6_calls (w : World) (F : Nat → Prop) (d b0 b1 b2 b3 g : Nat) (L : Lay) (S : PS) (B m : Nat) (t n : ByteArray) (A : Option Addr) (c : Nat) (l : List Int) (cap : Nat) (h : Rep w F d L S (Live S)) (hF : ∀ k, F k → k < w.heap.size) (hs : Sound S B) (hm : 100 ≤ m) (hbm : l.length + 4 ≤ m) (hB : B + m * 6 ≤ 549755813888) (hw : ∀ x ∈ l, 0 ≤ x ∧ x ≤ 255) (he : Env w F d b0 b1 b2 b3 t n A c l) (hf : Fns w F d b0 b1 b2 b3 g) :
    Calls Try.prog 37 #[.slice (some ⟨g, 0, none⟩) 6 cap] w fun e w' => e = .returned (.int .i64 (pReplace S t n (sealF l)).2) ∧ After w F d (pReplace S t n (sealF l)).1 w' := by
  have H := Lib.hid h
  have HF := Lib.hid hF
  have HS := Lib.hid hs
  have HW := Lib.hid hw
  have HE := Lib.hid he
  have HN := Lib.hid hf
  clear h hF hs hw he hf
  go_enter Try.func37, Try.ntmps37
  go_wp2
  go_loopw [8] (fun i wx => RunRel w F d b0 b1 b2 b3 g S t n A c l (sealF l) i wx) (fun i _ => 6 - (intOf i).toNat)
  case atStart => exact ⟨0, F, L, by omega, rfl, rfl, H.out, ⟨Fr.refl _ _, fun k hk => .inl hk, HF.out⟩, HE.out, HN.out⟩
  case round =>
    obtain ⟨j, F', L', hj, rfl, h0, hr, hc, he, hf⟩ := hrel
    have HR := Lib.hid hr
    have HC := Lib.hid hc
    have HE' := Lib.hid he
    have HN' := Lib.hid hf
    have HZ := Lib.hid h0
    have HSJ := Lib.hid (HS.out.runTo (t := t) (n := n) (bs := sealF l) hm (by rw [sealF_length]; exact hbm) (sealF_ok HW.out) j)
    have hbj : B + m * j ≤ 549755813888 := Nat.le_trans (Nat.add_le_add_left (Nat.mul_le_mul_left m hj) B) hB
    have HGO := Lib.hid (runTo_go h0)
    clear hr hc he hf h0
    by_cases hlt : j < 6
    · obtain ⟨Sj, hSj⟩ : ∃ Sj, Sj = (runTo S t n (sealF l) j).1 := ⟨_, rfl⟩
      rw [← hSj] at HR HSJ HGO
      clear hSj
      obtain ⟨r, hr⟩ : ∃ r, r = runTo S t n (sealF l) (j + 1) := ⟨_, rfl⟩
      have HRR := Lib.hid hr
      rw [← hr] at HGO
      clear hr
      obtain rfl | rfl | rfl | rfl | rfl | rfl : j = 0 ∨ j = 1 ∨ j = 2 ∨ j = 3 ∨ j = 4 ∨ j = 5 := by omega
      · have q0 := HN'.out.g0
        have HGO' := Lib.hid (show r = pClear Sj t from HGO.out)
        go_wp2_with (first | (go_at_call 38; refine (step1_calls _ F' d L' Sj _ b0 b1 t HR.out HSJ.out.good hbj HE'.out.q0 HE'.out.q1).mono ?_; rw [← HGO'.out]; rintro e w3 ⟨rfl, ha⟩; have HA := Lib.hid ha; clear ha; obtain ⟨cd, hcd⟩ : ∃ cd, cd = r.2 := ⟨_, rfl⟩; rw [← hcd]; have HCD := Lib.hid hcd; clear hcd) | fail)
        · go_ret
          exact run_end hlt HC.out HRR.out HCD.out HA.out (by assumption)
        · exact ⟨run_next hlt HC.out HE'.out HN'.out HRR.out HCD.out HA.out (by assumption), by simp [intOf]⟩
      · have q0 := HN'.out.g1
        have HGO' := Lib.hid (show r = pCreate Sj t from HGO.out)
        go_wp2_with (first | (go_at_call 41; refine (step2_calls _ F' d L' Sj _ b0 b1 t HR.out HSJ.out.good hbj HE'.out.q0 HE'.out.q1).mono ?_; rw [← HGO'.out]; rintro e w3 ⟨rfl, ha⟩; have HA := Lib.hid ha; clear ha; obtain ⟨cd, hcd⟩ : ∃ cd, cd = r.2 := ⟨_, rfl⟩; rw [← hcd]; have HCD := Lib.hid hcd; clear hcd) | fail)
        · go_ret
          exact run_end hlt HC.out HRR.out HCD.out HA.out (by assumption)
        · exact ⟨run_next hlt HC.out HE'.out HN'.out HRR.out HCD.out HA.out (by assumption), by simp [intOf]⟩
      · have q0 := HN'.out.g2
        have HGO' := Lib.hid (show r = pAppend Sj t (sealF l) from HGO.out)
        go_wp2_with (first | (go_at_call 42; refine (step3_calls _ F' d L' Sj _ b0 b1 b2 t A c l HR.out HSJ.out.good hbj HE'.out.n0 HE'.out.n1 HE'.out.n2 HE'.out.q0 HE'.out.q1 HE'.out.q2 HE'.out.row.now (by omega) HW.out).mono ?_; rw [← HGO'.out]; rintro e w3 ⟨rfl, ha⟩; have HA := Lib.hid ha; clear ha; obtain ⟨cd, hcd⟩ : ∃ cd, cd = r.2 := ⟨_, rfl⟩; rw [← hcd]; have HCD := Lib.hid hcd; clear hcd) | fail)
        · go_ret
          exact run_end hlt HC.out HRR.out HCD.out HA.out (by assumption)
        · exact ⟨run_next hlt HC.out HE'.out HN'.out HRR.out HCD.out HA.out (by assumption), by simp [intOf]⟩
      · have q0 := HN'.out.g3
        have HGO' := Lib.hid (show r = pSync Sj t from HGO.out)
        go_wp2_with (first | (go_at_call 44; refine (step4_calls _ F' d L' Sj _ b0 b1 t HR.out HSJ.out.good hbj HE'.out.q0 HE'.out.q1).mono ?_; rw [← HGO'.out]; rintro e w3 ⟨rfl, ha⟩; have HA := Lib.hid ha; clear ha; obtain ⟨cd, hcd⟩ : ∃ cd, cd = r.2 := ⟨_, rfl⟩; rw [← hcd]; have HCD := Lib.hid hcd; clear hcd) | fail)
        · go_ret
          exact run_end hlt HC.out HRR.out HCD.out HA.out (by assumption)
        · exact ⟨run_next hlt HC.out HE'.out HN'.out HRR.out HCD.out HA.out (by assumption), by simp [intOf]⟩
      · have q0 := HN'.out.g4
        have HGO' := Lib.hid (show r = pRename Sj t n from HGO.out)
        go_wp2_with (first | (go_at_call 46; refine (step5_calls _ F' d L' Sj _ b0 b1 b3 t n HR.out HSJ.out.good hbj HE'.out.q0 HE'.out.q1 HE'.out.q3).mono ?_; rw [← HGO'.out]; rintro e w3 ⟨rfl, ha⟩; have HA := Lib.hid ha; clear ha; obtain ⟨cd, hcd⟩ : ∃ cd, cd = r.2 := ⟨_, rfl⟩; rw [← hcd]; have HCD := Lib.hid hcd; clear hcd) | fail)
        · go_ret
          exact run_end hlt HC.out HRR.out HCD.out HA.out (by assumption)
        · exact ⟨run_next hlt HC.out HE'.out HN'.out HRR.out HCD.out HA.out (by assumption), by simp [intOf]⟩
      · have q0 := HN'.out.g5
        have HGO' := Lib.hid (show r = pSyncDir Sj from HGO.out)
        go_wp2_with (first | (go_at_call 48; refine (SyncDir_calls _ F' d L' Sj _ HR.out HSJ.out.good hbj).mono ?_; rw [← HGO'.out]; rintro e w3 ⟨rfl, ha⟩; have HA := Lib.hid ha; clear ha; obtain ⟨cd, hcd⟩ : ∃ cd, cd = r.2 := ⟨_, rfl⟩; rw [← hcd]; have HCD := Lib.hid hcd; clear hcd) | fail)
        · go_ret
          exact run_end hlt HC.out HRR.out HCD.out HA.out (by assumption)
        · exact ⟨run_next hlt HC.out HE'.out HN'.out HRR.out HCD.out HA.out (by assumption), by simp [intOf]⟩
    · obtain rfl : j = 6 := by omega
      go_wp2_with fail
      go_ret
      have e : (pReplace S t n (sealF l)).2 = 0 := HZ.out
      rw [e]
      exact ⟨rfl, F', L', HR.out, HC.out⟩
end Go.Proofs.Ytehhafnjbkbmjaa.Disk

/- objstore: Put. -/
namespace Go.Proofs.Ytehhafnjbkbmjaa.Disk
open Go Go.RowKit Go.Proofs.YtehhafnjbkbmjaaW.PrintWords Go.Proofs.YtehhafnjbkbmjaaW.PrintLast Go.Proofs.YtehhafnjbkbmjaaW.PrintMore Go.Proofs.Ytehhafnjbkbmjaa.PObjstoreAtomic
/-- The name of the file that an object is written to first. -/
def tmpOf (n : ByteArray) : ByteArray := sTmp ++ n
def pPut (S : PS) (n : ByteArray) (l : List Int) : PS × Int :=
  if okObj n = false then (S, 1) else if pHas S n then (S, 9) else pReplace S (tmpOf n) n (sealF l)
theorem Put_nil (w : World) (n : ByteArray) (A : Option Addr) (k c : Nat) : Calls Try.prog 13 #[.pointer none, .string n, .slice A k c] w fun e w' => e = .returned (.int .i64 1) ∧ Below w.heap.size w w' := by
  go_enter Try.func13, Try.ntmps13
  go_wp2_with fail
  go_ret
  exact ⟨rfl, (((Below.refl _ _).alloc (Nat.le_refl _) _).alloc (by simp) _).alloc (by simp; omega) _⟩
theorem cell_new {w : World} {x : Value} {t k : Nat} (hk : k = w.heap.size) : (w.alloc (.cells #[x] t)).cell? ⟨k, 0, none⟩ = some x := by
  subst hk
  exact cell_blk (heap_alloc_new w (.cells #[x] t)) 0
theorem boxes {w w1 : World} {x y z : Value} {tx ty tz : Nat} (hd : Drawn0 (((w.alloc (.cells #[x] tx)).alloc (.cells #[y] ty)).alloc (.cells #[z] tz)) w1) :
    w1.cell? ⟨w.heap.size, 0, none⟩ = some x ∧ w1.cell? ⟨w.heap.size + 1, 0, none⟩ = some y ∧ w1.cell? ⟨w.heap.size + 1 + 1, 0, none⟩ = some z :=
  ⟨(drawn_cell hd _).trans (cell_alloc (cell_alloc (cell_new rfl) _) _), (drawn_cell hd _).trans (cell_alloc (cell_new (by simp)) _), (drawn_cell hd _).trans (cell_new (by simp))⟩
theorem okObj_size {n : ByteArray} (h : okObj n = true) : n.size ≤ 60 := by
  unfold okObj at h
  simp only [Bool.and_eq_true, decide_eq_true_eq] at h
  omega
def sixFns (d b0 b1 b2 b3 : Nat) : Array Value := #[Value.func (Fn.func 38) #[] #[.pointer (some ⟨b0, 0, none⟩), .pointer (some ⟨b1, 0, none⟩)], Value.func (Fn.func 41) #[] #[.pointer (some ⟨b0, 0, none⟩), .pointer (some ⟨b1, 0, none⟩)], Value.func (Fn.func 42) #[] #[.pointer (some ⟨b0, 0, none⟩), .pointer (some ⟨b1, 0, none⟩), .pointer (some ⟨b2, 0, none⟩)], Value.func (Fn.func 44) #[] #[.pointer (some ⟨b0, 0, none⟩), .pointer (some ⟨b1, 0, none⟩)], Value.func (Fn.func 46) #[] #[.pointer (some ⟨b0, 0, none⟩), .pointer (some ⟨b1, 0, none⟩), .pointer (some ⟨b3, 0, none⟩)], Value.func (Fn.func 48) #[.pointer (some ⟨d, 0, none⟩)] #[]]
theorem put_env {w w2 W : World} {F : Nat → Prop} {d : Nat} {n t : ByteArray} {A : Option Addr} {c : Nat} {l : List Int} {ts tf : Nat} (hF : ∀ k, F k → k < w.heap.size) (hr : Rd kB w (fun k => ¬ F k) A c l) (hfr : Fr (fun _ => False) w w2)
    (r0 : w2.cell? ⟨w.heap.size, 0, none⟩ = some (.pointer (some ⟨d, 0, none⟩))) (r1 : w2.cell? ⟨w.heap.size + 1, 0, none⟩ = some (.string n)) (r2 : w2.cell? ⟨w.heap.size + 1 + 1, 0, none⟩ = some (.slice A l.length c))
    (hW : W = (w2.alloc (.cells #[.string t] ts)).alloc (.cells (sixFns d w.heap.size w2.heap.size (w.heap.size + 1 + 1) (w.heap.size + 1)) tf)) :
    Env W F d w.heap.size w2.heap.size (w.heap.size + 1 + 1) (w.heap.size + 1) t n A c l ∧ Fns W F d w.heap.size w2.heap.size (w.heap.size + 1 + 1) (w.heap.size + 1) (w2.heap.size + 1) ∧ Fr (fun _ => False) w W := by
  subst hW
  have hs : w.heap.size + 1 + 1 < w2.heap.size := World.block_lt_of_cell? w2 ⟨w.heap.size + 1 + 1, 0, none⟩ r2
  have hfr' := (hfr.alloc (.cells #[.string t] ts)).alloc (.cells (sixFns d w.heap.size w2.heap.size (w.heap.size + 1 + 1) (w.heap.size + 1)) tf)
  have six : ∀ j, ((w2.alloc (.cells #[.string t] ts)).alloc (.cells (sixFns d w.heap.size w2.heap.size (w.heap.size + 1 + 1) (w.heap.size + 1)) tf)).cell? ⟨w2.heap.size + 1, j, none⟩ = (sixFns d w.heap.size w2.heap.size (w.heap.size + 1 + 1) (w.heap.size + 1))[j]? := fun j => by
    have h := heap_alloc_new (w2.alloc (.cells #[.string t] ts)) (.cells (sixFns d w.heap.size w2.heap.size (w.heap.size + 1 + 1) (w.heap.size + 1)) tf)
    rw [show (w2.alloc (.cells #[.string t] ts)).heap.size = w2.heap.size + 1 by simp] at h
    exact cell_blk h j
  have nf : ∀ k, w.heap.size ≤ k → ¬ F k := fun k hk hf => by have := hF k hf; omega
  exact ⟨⟨cell_alloc (cell_alloc r0 _) _, cell_alloc (cell_new rfl) _, cell_alloc (cell_alloc r2 _) _, cell_alloc (cell_alloc r1 _) _, hr.below (fr_below hfr'), nf _ (by omega), nf _ (by omega), nf _ (by omega), nf _ (by omega)⟩,
    ⟨six 0, six 1, six 2, six 3, six 4, six 5, nf _ (by omega)⟩, hfr'⟩
theorem rep_boxes {w w1 : World} {F : Nat → Prop} {d : Nat} {L : Lay} {S : PS} {x y z : Obj} (h : Rep w F d L S (Live S)) (hd : Drawn0 (((w.alloc x).alloc y).alloc z) w1) : Rep w1 F d L S (Live S) := (((h.alloc x).alloc y).alloc z).drawn hd
set_option maxHeartbeats 4000000 in
theorem Put_calls (w : World) (F : Nat → Prop) (d : Nat) (L : Lay) (S : PS) (B m : Nat) (n : ByteArray) (A : Option Addr) (c : Nat) (l : List Int) (h : Rep w F d L S (Live S)) (hF : ∀ k, F k → k < w.heap.size) (hs : Sound S B) (hm : 100 ≤ m) (hbm : l.length + 4 ≤ m) (hB : B + m * 6 ≤ 549755813888) (hw : ∀ x ∈ l, 0 ≤ x ∧ x ≤ 255) (hr : Rd kB w (fun k => ¬ F k) A c l) :
    Calls Try.prog 13 #[.pointer (some ⟨d, 0, none⟩), .string n, .slice A l.length c] w fun e w' => e = .returned (.int .i64 (pPut S n l).2) ∧ After w F d (pPut S n l).1 w' := by
  have H := Lib.hid h
  have HF := Lib.hid hF
  have HS := Lib.hid hs
  have HW := Lib.hid hw
  have HR := Lib.hid hr
  clear h hF hs hw hr
  cases ho : okObj n
  · have HO := Lib.hid ho
    have HP := Lib.hid (show pPut S n l = (S, 1) by unfold pPut; rw [ho]; rfl)
    clear ho
    go_enter Try.func13, Try.ntmps13
    go_wp2_with (first | (go_at_call 36; refine (object_calls _ n).mono ?_; rw [HO.out]; rintro e w1 ⟨rfl, hd⟩; have HD := Lib.hid hd; clear hd) | fail)
    go_ret
    rw [HP.out]
    have hfr := ((((Fr.refl (fun _ => False) w).alloc (.cells #[.pointer (some ⟨d, 0, none⟩)] 25)).alloc (.cells #[.string n] 9)).alloc (.cells #[.slice A l.length c] 22)).drawn HD.out
    exact ⟨rfl, After.same (H.out.fr hfr (fun _ _ e => e)) hfr⟩
  · have HO := Lib.hid ho
    have hn60 := okObj_size ho
    clear ho
    have HE := Lib.hid (show pExists S n = pHas S n by unfold pExists; rw [HO.out]; rfl)
    cases hh : pHas S n
    · have HH := Lib.hid hh
      clear hh
      go_enter Try.func13, Try.ntmps13
      go_wp2_with (first
        | (go_at_call 36; refine (object_calls _ n).mono ?_; rw [HO.out]; rintro e w1 ⟨rfl, hd⟩; have HD := Lib.hid hd; obtain ⟨q0, q1, q2⟩ := boxes hd; clear hd)
        | (go_at_call 17; refine (Exists_calls _ F d L S B n (rep_boxes H.out HD.out) HS.out.good (by omega)).mono ?_; rw [HE.out, HH.out]; rintro e w2 ⟨rfl, hf⟩; have HF2 := Lib.hid hf; have r0 := cell_below (fr_below hf) q0; have r1 := cell_below (fr_below hf) q1; have r2 := cell_below (fr_below hf) q2; have s0 := fun o => cell_alloc r0 o; have HE2 := Lib.hid (put_env (t := tmpOf n) (ts := 9) (tf := 76) HF.out HR.out (((((Fr.refl _ w).alloc _).alloc _).alloc _).drawn HD.out |>.trans hf (fun _ => .inl)) r0 r1 r2 rfl); clear q0 q1 q2 hf r2)
        | (go_at_call 37; refine (run6_calls _ F d w.heap.size w2.heap.size (w.heap.size + 1 + 1) (w.heap.size + 1) (w2.heap.size + 1) L S B m (tmpOf n) n A c l 6 (H.out.fr HE2.out.2.2 (fun _ _ e => e)) (fun k hk => Nat.lt_of_lt_of_le (HF.out k hk) HE2.out.2.2.size) HS.out hm hbm hB HW.out HE2.out.1 HE2.out.2.1).mono ?_; rintro e w3 ⟨rfl, ha⟩; have HA := Lib.hid ha; clear ha)
        | fail)
      go_ret
      have hp : pPut S n l = pReplace S (tmpOf n) n (sealF l) := by unfold pPut; rw [HO.out, HH.out]; rfl
      rw [hp]
      exact ⟨rfl, HA.out.behind (HE2.out.2.2.mono (fun _ hk => hk.elim)) (fun _ => .inl)⟩
    · have HH := Lib.hid hh
      clear hh
      go_enter Try.func13, Try.ntmps13
      go_wp2_with (first
        | (go_at_call 36; refine (object_calls _ n).mono ?_; rw [HO.out]; rintro e w1 ⟨rfl, hd⟩; have HD := Lib.hid hd; obtain ⟨q0, q1, q2⟩ := boxes hd; clear hd)
        | (go_at_call 17; refine (Exists_calls _ F d L S B n (rep_boxes H.out HD.out) HS.out.good (by omega)).mono ?_; rw [HE.out, HH.out]; rintro e w2 ⟨rfl, hf⟩; have HF2 := Lib.hid (((((Fr.refl (fun _ => False) w).alloc _).alloc _).alloc _).drawn HD.out |>.trans hf (fun _ => .inl)); clear q0 q1 q2 hf)
        | fail)
      go_ret
      have hp : pPut S n l = (S, 9) := by unfold pPut; rw [HO.out, HH.out]; rfl
      rw [hp]
      exact ⟨rfl, After.same (H.out.fr HF2.out (fun _ _ e => e)) HF2.out⟩
end Go.Proofs.Ytehhafnjbkbmjaa.Disk
