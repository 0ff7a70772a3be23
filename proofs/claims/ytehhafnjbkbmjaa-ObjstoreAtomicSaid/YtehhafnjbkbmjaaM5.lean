/- Get, List, Delete, RemoveTemporary, lives; what is read out of arguments. -/
import Derived.Test.YtehhafnjbkbmjaaM4
import Derived.Test.YtehhafnjbkbmjaaShelf2
import Derived.Lib.SlBytesConst
import Derived.Deep.Slices
import Derived.OpenShut
import Derived.ChangeOld
import Derived.SizedLaws
/- objstore: Get. -/
namespace Go.Proofs.Ytehhafnjbkbmjaa.Disk
open Go Go.RowKit Go.Proofs.YtehhafnjbkbmjaaW.PrintWords Go.Proofs.YtehhafnjbkbmjaaW.PrintLast Go.Proofs.YtehhafnjbkbmjaaW.PrintMore Go.Proofs.Ytehhafnjbkbmjaa.PObjstoreAtomic
def pGet (S : PS) (n : ByteArray) : List Int × Int :=
  if pExists S n = false then ([], 15) else if (pRead S n).2 ≠ 0 then ([], (pRead S n).2) else if (openF (pRead S n).1).2 ≠ 0 then ([], 19) else ((openF (pRead S n).1).1, 0)
theorem pRead_ok {S : PS} {B : Nat} (hg : Good S B) (n : ByteArray) : (pRead S n).1.length ≤ B ∧ ∀ x ∈ (pRead S n).1, 0 ≤ x ∧ x ≤ 255 := by
  unfold pRead
  split
  · split
    · rename_i i hi
      have hm := fileAt_mem (hg.range i (live_look hi))
      exact ⟨hg.nBytes _ hm, hg.bytes _ hm⟩
    · exact ⟨Nat.zero_le _, fun x hx => by simp at hx⟩
  · exact ⟨Nat.zero_le _, fun x hx => by simp at hx⟩
theorem Get_nil (w : World) (n : ByteArray) : Calls Try.prog 16 #[.pointer none, .string n] w fun e w' => e = .returned (.tuple #[.slice none 0 0, .int .i64 1]) ∧ w = w' := by
  go_enter Try.func16, Try.ntmps16
  go_wp2_with fail
  go_ret2
  exact ⟨rfl, rfl⟩
set_option maxHeartbeats 4000000 in
theorem Get_calls (w : World) (F : Nat → Prop) (d : Nat) (L : Lay) (S : PS) (B : Nat) (n : ByteArray) (h : Rep w F d L S (Live S)) (hg : Good S B) (hB : B ≤ 549755813888) :
    Calls Try.prog 16 #[.pointer (some ⟨d, 0, none⟩), .string n] w fun e w' => ∃ v, e = .returned (.tuple #[v, .int .i64 (pGet S n).2]) ∧ w'.ownsRow w.heap.size 5 1 v (pGet S n).1.length (nums .u8 (pGet S n).1) ∧ Fr (fun _ => False) w w' := by
  have hrl := (pRead_ok hg n).1
  have HRW := Lib.hid (pRead_ok hg n).2
  have H := Lib.hid h
  have HG := Lib.hid hg
  clear h hg
  cases hx : pExists S n
  · have HX := Lib.hid hx
    have HP := Lib.hid (show pGet S n = ([], 15) by unfold pGet; rw [hx]; rfl)
    clear hx
    go_enter Try.func16, Try.ntmps16
    go_wp2_with (first | (go_at_call 17; refine (Exists_calls _ F d L S B n H.out HG.out hB).mono ?_; rw [HX.out]; rintro e w1 ⟨rfl, hf⟩; have HF := Lib.hid hf; clear hf) | fail)
    go_ret2
    rw [HP.out]
    exact ⟨_, rfl, World.ownsRow_nil _ _ _ _, HF.out⟩
  · have HX := Lib.hid hx
    obtain ⟨r, hr⟩ : ∃ r, r = pRead S n := ⟨_, rfl⟩
    obtain ⟨rl, rc⟩ := r
    rw [← hr] at hrl HRW
    have HR := Lib.hid hr
    by_cases hc : rc = 0
    · subst hc
      obtain ⟨o, ho⟩ : ∃ o, o = openF rl := ⟨_, rfl⟩
      obtain ⟨ol, oc⟩ := o
      have HO := Lib.hid ho
      by_cases hoc : oc = 0
      · subst hoc
        have HP := Lib.hid (show pGet S n = (ol, 0) by unfold pGet; rw [hx, ← hr]; simp only [← ho]; rfl)
        clear hx hr ho
        go_enter Try.func16, Try.ntmps16
        go_wp2_with (first
          | (go_at_call 17; refine (Exists_calls _ F d L S B n H.out HG.out hB).mono ?_; rw [HX.out]; rintro e w1 ⟨rfl, hf⟩; have HF := Lib.hid hf; clear hf)
          | (go_at_call 53; refine (Read_calls _ F d L S B n (H.out.fr HF.out (fun _ _ e => e)) HG.out hB).mono ?_; rw [← HR.out]; rintro e w2 ⟨v, rfl, hown, hf2⟩; obtain ⟨A2, c2, rfl, hC2⟩ := own_bytes hown; have hcap := own_cap hown; have HC2 := Lib.hid hC2; have HF2 := Lib.hid (HF.out.trans hf2 (fun _ hk => .inl hk)); clear hown hC2 hf2)
          | (go_at_call 54; refine (Open_calls _ A2 c2 rl HC2.out hcap (Nat.le_trans hrl (by omega)) HRW.out).mono ?_; rw [← HO.out]; rintro e w3 ⟨v3, rfl, hown3, hb3⟩; have HO3 := Lib.hid (own_weaken hown3 HF2.out.size); have HF3 := Lib.hid (HF2.out.below hb3); clear hown3 hb3)
          | fail)
        go_ret2
        rw [HP.out]
        exact ⟨_, rfl, HO3.out, HF3.out⟩
      · have HP := Lib.hid (show pGet S n = ([], 19) by unfold pGet; rw [hx, ← hr]; simp only [← ho]; rw [if_pos hoc]; rfl)
        have hne : (oc != 0) = true := by simpa using hoc
        clear hx hr ho hoc
        go_enter Try.func16, Try.ntmps16
        go_wp2_with (first
          | (go_at_call 17; refine (Exists_calls _ F d L S B n H.out HG.out hB).mono ?_; rw [HX.out]; rintro e w1 ⟨rfl, hf⟩; have HF := Lib.hid hf; clear hf)
          | (go_at_call 53; refine (Read_calls _ F d L S B n (H.out.fr HF.out (fun _ _ e => e)) HG.out hB).mono ?_; rw [← HR.out]; rintro e w2 ⟨v, rfl, hown, hf2⟩; obtain ⟨A2, c2, rfl, hC2⟩ := own_bytes hown; have hcap := own_cap hown; have HC2 := Lib.hid hC2; have HF2 := Lib.hid (HF.out.trans hf2 (fun _ hk => .inl hk)); clear hown hC2 hf2)
          | (go_at_call 54; refine (Open_calls _ A2 c2 rl HC2.out hcap (Nat.le_trans hrl (by omega)) HRW.out).mono ?_; rw [← HO.out]; rintro e w3 ⟨v3, rfl, hown3, hb3⟩; have HF3 := Lib.hid (HF2.out.below hb3); clear hown3 hb3)
          | fail)
        go_ret2
        rw [HP.out]
        exact ⟨_, rfl, World.ownsRow_nil _ _ _ _, HF3.out⟩
    · have HP := Lib.hid (show pGet S n = ([], rc) by unfold pGet; rw [hx, ← hr]; simp only; rw [if_pos hc]; rfl)
      have hne : (rc != 0) = true := by simpa using hc
      clear hx hr hc
      go_enter Try.func16, Try.ntmps16
      go_wp2_with (first
        | (go_at_call 17; refine (Exists_calls _ F d L S B n H.out HG.out hB).mono ?_; rw [HX.out]; rintro e w1 ⟨rfl, hf⟩; have HF := Lib.hid hf; clear hf)
        | (go_at_call 53; refine (Read_calls _ F d L S B n (H.out.fr HF.out (fun _ _ e => e)) HG.out hB).mono ?_; rw [← HR.out]; rintro e w2 ⟨v, rfl, hown, hf2⟩; have HF2 := Lib.hid (HF.out.trans hf2 (fun _ hk => .inl hk)); clear hown hf2)
        | fail)
      go_ret2
      rw [HP.out]
      exact ⟨_, rfl, World.ownsRow_nil _ _ _ _, HF2.out⟩
end Go.Proofs.Ytehhafnjbkbmjaa.Disk

/- objstore: the rows of names that List and RemoveTemporary make. -/
namespace Go.Proofs.Ytehhafnjbkbmjaa.Disk
open Go Go.RowKit Go.Proofs.YtehhafnjbkbmjaaW.PrintWords Go.Proofs.YtehhafnjbkbmjaaW.PrintLast Go.Proofs.YtehhafnjbkbmjaaW.PrintMore Go.Proofs.Ytehhafnjbkbmjaa.PObjstoreAtomic
theorem drawn_ex {w w' : World} (h : Drawn0 w w') : ∃ q, w' = w.drewN q := by
  obtain ⟨n, rfl⟩ := h.out
  exact ⟨n, rfl⟩
theorem notObj_calls (w : World) (n : ByteArray) : Calls Try.prog 57 #[.string n] w fun e w' => e = .returned (.bool (!okObj n)) ∧ ∃ q, w' = w.drewN q := by
  go_enter Try.func57, Try.ntmps57
  go_wp2_with (first | (go_at_call 36; refine (object_calls _ n).mono ?_; rintro e w1 ⟨rfl, hd⟩; have HD := Lib.hid hd; clear hd) | fail)
  go_ret
  exact ⟨rfl, drawn_ex HD.out⟩
theorem notTmp_calls (w : World) (n : ByteArray) : Calls Try.prog 59 #[.string n] w fun e w' => e = .returned (.bool (!isTmp n)) ∧ ∃ q, w' = w.drewN q := by
  go_enter Try.func59, Try.ntmps59
  go_wp2_with (first | (go_at_call 60; refine (strings_HasPrefix.calls n sTmp _ w (prefix_f n)).mono ?_; rintro e w1 ⟨rfl, hd⟩; have HD := Lib.hid hd; clear hd) | fail)
  go_ret
  exact ⟨rfl, drawn_ex HD.out⟩
theorem putRow_block {α : Type} [Inhabited α] (enc : α → Value) (w : World) (q g : Nat) (d : Array α) {cur : Array Value} {t : Nat} {fz : Nat × Nat} (hb : w.heap[g]? = some (.cells cur t fz)) :
    (Sort.putRow enc (Sort.ahead w q) g 0 d).heap[g]? = some (.cells (Sort.putCells enc 0 d cur) t fz) := by
  have h : (Sort.ahead w q).heap[g]? = some (.cells cur t fz) := hb
  simp only [Sort.putRow, Sort.mapBlock, Array.getElem?_modify, if_true, h, Option.map_some]
  rfl
theorem putRow_below {α : Type} [Inhabited α] (enc : α → Value) (w : World) (q g : Nat) (d : Array α) {B : Nat} (hB : B ≤ g) : Below B w (Sort.putRow enc (Sort.ahead w q) g 0 d) :=
  ⟨rfl, rfl, rfl, by rw [Sort.size_putRow]; exact Nat.le_refl _, fun k hk => by
    have e : g ≠ k := by omega
    simp only [Sort.putRow, Sort.mapBlock, Array.getElem?_modify, if_neg e]
    rfl⟩
theorem putCells_take (ks : List ByteArray) (m : Nat) (cur : Array Value) (hc : ks.length + m ≤ cur.size) : (Sort.putCells Value.string 0 (ks ++ List.replicate m ByteArray.empty).toArray cur).toList.take ks.length = pw_strs ks := by
  apply List.ext_getElem?
  intro j
  rw [List.getElem?_take]
  by_cases hj : j < ks.length
  · rw [if_pos hj]
    have h1 : j < cur.size := by omega
    simp [Sort.putCells, pw_strs, h1, hj, List.getElem?_append_left, getElem!_def]
    omega
  · rw [if_neg hj, eq_comm, List.getElem?_eq_none_iff]
    simp only [pw_strs, List.length_map]
    omega
theorem keep_own {w : World} {base g cap q m : Nat} {cur : Array Value} {ks : List ByteArray} (hb : w.heap[g]? = some (.cells cur 9 (0, 0))) (hg : base ≤ g) (hc : ks.length + m ≤ cap) (hcm : cap ≤ maxLen) (hs : cur.size = cap * 1) :
    (Sort.putRow Value.string (Sort.ahead w q) g 0 (ks ++ List.replicate m ByteArray.empty).toArray).ownsRow base 9 1 (.slice (some ⟨g, 0, none⟩) ks.length cap) ks.length (pw_strs ks) :=
  ⟨by simp [pw_strs], .inr ⟨g, cap, _, rfl, hg, putRow_block _ _ _ _ _ hb, by omega, hcm, by simp [Sort.putCells, hs], by rw [Nat.mul_one]; exact putCells_take ks m cur (by omega)⟩⟩
theorem pw_at (zs : List ByteArray) (j : Nat) (hj : j < zs.length) : (pw_strs zs)[j]? = some (.string (zs.toArray[j]!)) := by
  simp [pw_strs, hj]
/-- slices.DeleteFunc on a row of names of our own: those that p keeps. -/
theorem keep_calls (w : World) (base : Nat) (v : Value) (zs : List ByteArray) (p : ByteArray → Bool) (pg : Nat) (eg : ∀ args w, (callFunc pg args).run Try.prog w = .ok (.enter pg args) w)
    (hp : ∀ (W : World) (x : ByteArray), Calls Try.prog pg #[.string x] W fun e w' => e = .returned (.bool (!p x)) ∧ ∃ q, w' = W.drewN q) (h : w.ownsRow base 9 1 v zs.length (pw_strs zs)) :
    Calls Try.prog 55 #[v, .func (.func pg) #[] #[]] w fun e w' => ∃ v', e = .returned v' ∧ w'.ownsRow base 9 1 v' (zs.filter p).length (pw_strs (zs.filter p)) ∧ Below base w w' := by
  rcases h.2 with ⟨h1, h2⟩ | ⟨g, cap, cur, h1, hg, hb, hn, hcm, hs, ht⟩
  · obtain rfl : zs = [] := List.eq_nil_of_length_eq_zero h2
    subst h1
    go_enter Try.func55, Try.ntmps55
    go_wp2_with (first | (go_at_call 83; refine (Try.slices_IndexFunc_empty (α := Unit) _ _ _ _).mono ?_; rintro e w1 ⟨rfl, rfl⟩) | fail)
    go_ret
    exact ⟨_, rfl, World.ownsRow_nil _ _ _ _, Below.refl _ _⟩
  · subst h1
    have hH : Sort.Holds Value.string w g 0 zs.toArray := fun j hj => by
      have hj' : j < zs.length := by simpa using hj
      rw [Nat.zero_add]
      refine ⟨?_, frozen_blk hb j⟩
      rw [cell_blk hb j]
      have e := pw_at zs j hj'
      rw [← ht, List.getElem?_take, if_pos (by omega)] at e
      simpa using e
    have hcon := Try.slices_DeleteFunc Value.string (fun _ => rfl) (fun x => !p x) pg #[] eg ByteArray.empty (fun _ => by kernel_rfl) g 0 cap zs.toArray w (fun W x _ => hp W x) (fun n os dk x _ => hp _ x) hH (by unfold maxLen at hcm; simp; omega) (by simpa using hn)
    have e2 : (zs.toArray.toList.filter fun x => !!p x) = zs.filter p := by simp
    rw [e2, List.size_toArray] at hcon
    refine hcon.mono ?_
    rintro e w' ⟨rfl, q, rfl⟩
    have hle : (zs.filter p).length ≤ zs.length := List.length_filter_le _ _
    exact ⟨_, rfl, keep_own hb hg (by omega) hcm hs, putRow_below _ _ _ _ _ hg⟩
end Go.Proofs.Ytehhafnjbkbmjaa.Disk

/- objstore: List. -/
namespace Go.Proofs.Ytehhafnjbkbmjaa.Disk
open Go Go.RowKit Go.Proofs.YtehhafnjbkbmjaaW.PrintWords Go.Proofs.YtehhafnjbkbmjaaW.PrintLast Go.Proofs.YtehhafnjbkbmjaaW.PrintMore Go.Proofs.Ytehhafnjbkbmjaa.PObjstoreAtomic
/-- slices.Clone of a row of names. -/
theorem cloneS_calls (w : World) (base : Nat) (v : Value) (zs : List ByteArray) (h : w.ownsRow base 9 1 v zs.length (pw_strs zs)) (hl : zs.length ≤ 1099511627776) :
    Calls Try.prog 56 #[v] w fun e w' => ∃ v', e = .returned v' ∧ w'.ownsRow w.heap.size 9 1 v' zs.length (pw_strs zs) ∧ Below w.heap.size w w' := by
  rcases h.2 with ⟨h1, h2⟩ | ⟨g, cap, cur, h1, _⟩
  · obtain rfl : zs = [] := List.eq_nil_of_length_eq_zero h2
    subst h1
    refine (Try.slices_Clone_string_nil 0 0 w).mono ?_
    rintro e w' ⟨rfl, rfl⟩
    exact ⟨_, rfl, World.ownsRow_nil _ _ _ _, Below.refl _ _⟩
  · subst h1
    refine (Try.slices_Clone_string g 0 zs.length cap zs w (Nat.le_refl _) (by omega) (fun j hj => by
      have := h.cells (g := g) rfl j (.string (zs.getD j ByteArray.empty)) (by simp [pw_strs, List.getD, hj])
      rw [Addr.add_lit] at this
      exact this)).mono ?_
    rintro e w' ⟨v', rfl, ho, _, hb⟩
    rw [List.take_length] at ho
    exact ⟨_, rfl, ho, hb⟩
def pDirNames (S : PS) : List ByteArray := S.dir.map (·.f0)
def pObjs (S : PS) : List ByteArray := (pDirNames S).filter okObj
def pTmps (S : PS) : List ByteArray := (pDirNames S).filter isTmp
theorem fr_base {w w' : World} {base : Nat} (h : Below base w w') (_hs : base ≤ w.heap.size) : Fr (fun k => base ≤ k) w w' := ⟨h.os, h.tape, h.output, h.size, fun k _ hk => h.block k (by omega)⟩
theorem List_nil (w : World) : Calls Try.prog 18 #[.pointer none] w fun e w' => e = .returned (.slice none 0 0) ∧ w = w' := by
  go_enter Try.func18, Try.ntmps18
  go_wp2_with fail
  go_ret
  exact ⟨rfl, rfl⟩
theorem dirNames_length {S : PS} {B : Nat} (hg : Good S B) (hB : B ≤ 549755813888) : (pDirNames S).length ≤ 1099511627776 := by
  unfold pDirNames
  rw [List.length_map]
  have := hg.nDir
  omega
theorem names_own {w : World} {base : Nat} {v : Value} {S : PS} (h : w.ownsRow base 9 1 v S.dir.length (pw_strs (S.dir.map (·.f0)))) : w.ownsRow base 9 1 v (pDirNames S).length (pw_strs (pDirNames S)) := by
  unfold pDirNames
  rw [List.length_map]
  exact h
theorem objList_calls (w : World) (F : Nat → Prop) (d : Nat) (L : Lay) (S : PS) (B : Nat) (h : Rep w F d L S (Live S)) (hg : Good S B) (hB : B ≤ 549755813888) :
    Calls Try.prog 18 #[.pointer (some ⟨d, 0, none⟩)] w fun e w' => ∃ v, e = .returned v ∧ w'.ownsRow w.heap.size 9 1 v (pObjs S).length (pw_strs (pObjs S)) ∧ Fr (fun _ => False) w w' := by
  have H := Lib.hid h
  have HG := Lib.hid hg
  have HL := Lib.hid (dirNames_length hg hB)
  clear h hg
  have eg := Lib.hid (show ∀ args w, (callFunc 57 args).run Try.prog w = .ok (.enter 57 args) w from enters_of Try.func57 (by kernel_rfl) rfl)
  go_enter Try.func18, Try.ntmps18
  go_wp2_with (first
    | (go_at_call 21; refine (List_calls _ F d L S B H.out HG.out hB).mono ?_; rintro e w1 ⟨v1, rfl, ho1, hf1⟩; have HO1 := Lib.hid (names_own ho1); have HF1 := Lib.hid hf1; clear ho1 hf1)
    | (go_at_call 56; refine (cloneS_calls _ _ v1 (pDirNames S) HO1.out HL.out).mono ?_; rintro e w2 ⟨v2, rfl, ho2, hb2⟩; have HO2 := Lib.hid (own_weaken ho2 HF1.out.size); have HF2 := Lib.hid (HF1.out.below hb2); clear ho2 hb2)
    | (go_at_call 55; refine (keep_calls _ w.heap.size v2 (pDirNames S) okObj 57 eg.out notObj_calls HO2.out).mono ?_; rintro e w3 ⟨v3, rfl, ho3, hb3⟩; have HO3 := Lib.hid ho3; have HF3 := Lib.hid (HF2.out.trans (fr_base hb3 HF2.out.size) (fun _ => .inr)); clear ho3 hb3)
    | fail)
  go_ret
  exact ⟨_, rfl, HO3.out, HF3.out⟩
end Go.Proofs.Ytehhafnjbkbmjaa.Disk

/- objstore: remove, RemoveTemporary. -/
namespace Go.Proofs.Ytehhafnjbkbmjaa.Disk
open Go Go.RowKit Go.Proofs.YtehhafnjbkbmjaaW.PrintWords Go.Proofs.YtehhafnjbkbmjaaW.PrintLast Go.Proofs.YtehhafnjbkbmjaaW.PrintMore Go.Proofs.Ytehhafnjbkbmjaa.PObjstoreAtomic
theorem Rd.chg {α : Type} {dk : Kd α} {w w' : World} {F F' : Nat → Prop} {A : Option Addr} {c : Nat} {xs : List α} (h : Rd dk w (fun k => ¬ F k) A c xs) (hc : Chg w F w' F') : Rd dk w' (fun k => ¬ F' k) A c xs :=
  ((h.mono (ok' := fun k => ¬ F k ∧ k < w.heap.size) (fun k h1 h2 => ⟨h1, h2⟩)).move (fun k hk hlt => hc.fr.block k hlt hk.1)).mono (fun k hk _ e => by
    rcases hc.new k e with h1 | h1
    · exact hk.1 h1
    · have := hk.2; omega)
/-- The first j names are removed, as far as none fails. -/
def rmTo (S : PS) (zs : List ByteArray) : Nat → PS × Int
  | 0 => (S, 0)
  | j + 1 => if (rmTo S zs j).2 = 0 then pRemove (rmTo S zs j).1 (zs.getD j ByteArray.empty) else rmTo S zs j
def pRemoveAll (S : PS) (zs : List ByteArray) : PS × Int :=
  if zs = [] then (S, 0) else if (rmTo S zs zs.length).2 = 0 then pSyncDir (rmTo S zs zs.length).1 else rmTo S zs zs.length
theorem rmTo_go {S : PS} {zs : List ByteArray} {j : Nat} (h : (rmTo S zs j).2 = 0) : rmTo S zs (j + 1) = pRemove (rmTo S zs j).1 (zs.getD j ByteArray.empty) := by
  show (if _ then _ else _) = _
  rw [if_pos h]
theorem rmTo_stop {S : PS} {zs : List ByteArray} {j : Nat} (h : (rmTo S zs j).2 ≠ 0) : ∀ m, rmTo S zs (j + m) = rmTo S zs j
  | 0 => rfl
  | m + 1 => by
    have ih := rmTo_stop h m
    show (if (rmTo S zs (j + m)).2 = 0 then _ else rmTo S zs (j + m)) = _
    rw [ih, if_neg h]
theorem Sound.rmTo {S : PS} {B : Nat} {zs : List ByteArray} (h : Sound S B) : ∀ j, Sound (rmTo S zs j).1 (B + 100 * j)
  | 0 => h
  | j + 1 => by
    have ih := Sound.rmTo (zs := zs) h j
    rw [show B + 100 * (j + 1) = B + 100 * j + 100 by omega]
    show Sound (if _ then _ else _ : PS × Int).1 _
    split
    · exact ih.remove
    · exact ih.mono (by omega)
def RmRel (w : World) (F : Nat → Prop) (d : Nat) (S : PS) (zs : List ByteArray) (A : Option Addr) (c : Nat) (i : Value) (wx : World) : Prop :=
  ∃ (j : Nat) (F' : Nat → Prop) (L' : Lay), j ≤ zs.length ∧ i = .int .i64 j ∧ (rmTo S zs j).2 = 0 ∧ Rep wx F' d L' (rmTo S zs j).1 (Live (rmTo S zs j).1) ∧ Chg w F wx F' ∧ Rd Kd.string wx (fun k => ¬ F' k) A c zs
theorem rm_next {w w3 wx : World} {F F' : Nat → Prop} {d j : Nat} {S Sj : PS} {zs : List ByteArray} {A : Option Addr} {c : Nat} {r : PS × Int} {x : ByteArray} {cd : Int} (hj : j < zs.length) (hc : Chg w F wx F') (hrow : Rd Kd.string wx (fun k => ¬ F' k) A c zs) (h0 : (rmTo S zs j).2 = 0) (hS : Sj = (rmTo S zs j).1) (hx : x = zs.getD j ByteArray.empty) (hr : r = pRemove Sj x) (hcd : cd = r.2) (ha : After wx F' d r.1 w3) (h1 : (cd != 0) = false) :
    RmRel w F d S zs A c (.int .i64 ((j : Int) + 1)) w3 := by
  subst hr
  subst hcd
  subst hx
  subst hS
  have e := rmTo_go h0
  obtain ⟨F3, L3, hr, hc3⟩ := ha
  rw [← e] at hr h1
  exact ⟨j + 1, F3, L3, by omega, by go_num, by simpa using h1, hr, hc.trans hc3, hrow.chg hc3⟩
theorem rm_end {w w3 wx : World} {F F' : Nat → Prop} {d j : Nat} {S Sj : PS} {zs : List ByteArray} {r : PS × Int} {x : ByteArray} {cd : Int} (hj : j < zs.length) (hc : Chg w F wx F') (h0 : (rmTo S zs j).2 = 0) (hS : Sj = (rmTo S zs j).1) (hx : x = zs.getD j ByteArray.empty) (hr : r = pRemove Sj x) (hcd : cd = r.2) (ha : After wx F' d r.1 w3) (h1 : (cd != 0) = true) :
    Ending.returned (.int .i64 cd) = .returned (.int .i64 (pRemoveAll S zs).2) ∧ After w F d (pRemoveAll S zs).1 w3 := by
  subst hr
  subst hcd
  subst hx
  subst hS
  have e := rmTo_go h0
  rw [← e] at ha h1 ⊢
  have h2 : (rmTo S zs (j + 1)).2 ≠ 0 := by simpa using h1
  have e2 := rmTo_stop h2 (zs.length - (j + 1))
  rw [show j + 1 + (zs.length - (j + 1)) = zs.length by omega] at e2
  have e3 : pRemoveAll S zs = rmTo S zs (j + 1) := by
    unfold pRemoveAll
    rw [if_neg (by intro e; rw [e] at hj; simp at hj), e2, if_neg h2]
  rw [e3]
  obtain ⟨F3, L3, hr, hc3⟩ := ha
  exact ⟨rfl, F3, L3, hr, hc.trans hc3⟩
set_option maxHeartbeats 4000000 in
theorem remove_calls (w : World) (F : Nat → Prop) (d : Nat) (L : Lay) (S : PS) (B : Nat) (A : Option Addr) (c : Nat) (zs : List ByteArray) (h : Rep w F d L S (Live S)) (hF : ∀ k, F k → k < w.heap.size) (hs : Sound S B) (hB : B + 100 * zs.length ≤ 549755813888) (hr : Rd Kd.string w (fun k => ¬ F k) A c zs) :
    Calls Try.prog 58 #[.pointer (some ⟨d, 0, none⟩), .slice A zs.length c] w fun e w' => e = .returned (.int .i64 (pRemoveAll S zs).2) ∧ After w F d (pRemoveAll S zs).1 w' := by
  have H := Lib.hid h
  have HF := Lib.hid hF
  have HS := Lib.hid hs
  have HR := Lib.hid hr
  clear h hF hs hr
  by_cases hz : zs = []
  · subst hz
    go_enter Try.func58, Try.ntmps58
    go_wp2_with fail
    go_ret
    exact ⟨rfl, After.same H.out (Fr.refl _ _)⟩
  · have hlen : 0 < zs.length := List.length_pos_iff.2 hz
    have hlb : ((zs.length : Int) == 0) = false := by rw [beq_eq_false_iff_ne]; omega
    have HZ := Lib.hid hz
    clear hz
    go_enter Try.func58, Try.ntmps58
    go_wp2
    go_loopw [13] (fun i wx => RmRel w F d S zs A c i wx) (fun i _ => zs.length - (intOf i).toNat)
    case atStart => exact ⟨0, F, L, by omega, rfl, rfl, H.out, ⟨Fr.refl _ _, fun k hk => .inl hk, HF.out⟩, HR.out⟩
    case round =>
      obtain ⟨j, F', L', hj, rfl, h0, hr, hc, hrow⟩ := hrel
      have H0 := Lib.hid h0
      have HSJ := Lib.hid (HS.out.rmTo (zs := zs) j)
      obtain ⟨Sj, hSj⟩ : ∃ Sj, Sj = (rmTo S zs j).1 := ⟨_, rfl⟩
      rw [← hSj] at hr HSJ
      have HSQ := Lib.hid hSj
      have HRJ := Lib.hid hr
      have HC := Lib.hid hc
      have HROW := Lib.hid hrow
      clear h0 hr hc hSj
      by_cases hlt : j < zs.length
      · have hbj : B + 100 * j ≤ 549755813888 := by omega
        obtain ⟨ad, hA, hcell⟩ := str_at hrow.now j hlt
        clear hrow
        subst hA
        obtain ⟨x, hx⟩ : ∃ x, x = zs.getD j ByteArray.empty := ⟨_, rfl⟩
        rw [← hx] at hcell
        have HX := Lib.hid hx
        obtain ⟨r, hr⟩ : ∃ r, r = pRemove Sj x := ⟨_, rfl⟩
        have HRR := Lib.hid hr
        clear hx hr
        go_wp2_with (first | (go_at_call 40; refine (Remove_calls _ F' d L' Sj _ x HRJ.out HSJ.out.good hbj).mono ?_; rw [← HRR.out]; rintro e w3 ⟨rfl, ha⟩; have HA := Lib.hid ha; clear ha; obtain ⟨cd, hcd⟩ : ∃ cd, cd = r.2 := ⟨_, rfl⟩; rw [← hcd]; have HCD := Lib.hid hcd; clear hcd) | fail)
        · go_ret
          exact rm_end hlt HC.out H0.out HSQ.out HX.out HRR.out HCD.out HA.out (by assumption)
        · go_roundw
          case rel => exact rm_next hlt HC.out HROW.out H0.out HSQ.out HX.out HRR.out HCD.out HA.out (by assumption)
          case measure => simp [intOf]; omega
      · obtain rfl : j = zs.length := by omega
        clear hrow
        have hbj : B + 100 * zs.length ≤ 549755813888 := hB
        have HP := Lib.hid (show pRemoveAll S zs = pSyncDir Sj by unfold pRemoveAll; rw [if_neg HZ.out, if_pos H0.out, HSQ.out])
        go_wp2_with (first | (go_at_call 48; refine (SyncDir_calls _ F' d L' Sj _ HRJ.out HSJ.out.good hbj).mono ?_; rintro e w3 ⟨rfl, ha⟩; have HA := Lib.hid ha; clear ha) | fail)
        go_ret
        rw [HP.out]
        obtain ⟨F3, L3, hr, hc3⟩ := HA.out
        exact ⟨rfl, F3, L3, hr, HC.out.trans hc3⟩
end Go.Proofs.Ytehhafnjbkbmjaa.Disk

/- objstore: RemoveTemporary, Delete. -/
namespace Go.Proofs.Ytehhafnjbkbmjaa.Disk
open Go Go.RowKit Go.Proofs.YtehhafnjbkbmjaaW.PrintWords Go.Proofs.YtehhafnjbkbmjaaW.PrintLast Go.Proofs.YtehhafnjbkbmjaaW.PrintMore Go.Proofs.Ytehhafnjbkbmjaa.PObjstoreAtomic
abbrev kS : Kd ByteArray := Kd.string
theorem Rd.ofOwnS {w : World} {base : Nat} {v : Value} {xs : List ByteArray} (h : w.ownsRow base 9 1 v xs.length (pw_strs xs)) : ∃ A c, v = .slice A xs.length c ∧ Rd kS w (fun k => base ≤ k) A c xs := by
  obtain ⟨A, c, e, hl, hr⟩ := own_reads_of_le (enc := Value.string) (d := ByteArray.empty) h
  subst e
  refine ⟨A, c, rfl, ⟨hl, fun W' hW => ?_⟩⟩
  have h' := own_move (w1 := W') h (fun k hk => hW k (h.lt k hk).1 (h.lt k hk).2)
  obtain ⟨A', c', e', _, hr'⟩ := own_reads_of_le (enc := Value.string) (d := ByteArray.empty) h'
  injection e' with e1
  subst e1
  exact Kd.C_of_reads (enc := Value.string) (d := ByteArray.empty) (h1 := fun _ => rfl) hr'
theorem Rd.ofOwn {w : World} {base : Nat} {A : Option Addr} {n c : Nat} {xs : List Int} (h : w.ownsRow base 5 1 (.slice A n c) xs.length (nums .u8 xs)) : Rd kB w (fun k => base ≤ k) A c xs := by
  have hn : n = xs.length ∧ n ≤ c := by
    rcases h.2 with ⟨h1, h2⟩ | ⟨g, cap, cur, h1, _, _, h2, _⟩
    · simp only [Value.slice.injEq] at h1
      exact ⟨by omega, by omega⟩
    · simp only [Value.slice.injEq] at h1
      exact ⟨h1.2.1, by omega⟩
  have hn1 := hn.1
  subst hn1
  exact ⟨hn.2, fun W' hW => C_of_reads (own_reads' (own_move h (fun k hk => hW k (h.lt k hk).1 (h.lt k hk).2)))⟩
theorem Rd.ofC {α : Type} {dd : Kd α} (hd : Kd.Heap dd) {w : World} {A : Option Addr} {c : Nat} {xs : List α} (h : dd.C w A xs.length xs) (hc : xs.length ≤ c) : Rd dd w (fun k => k < w.heap.size) A c xs := ⟨hc, fun _ hW => hd.C (fun k hk => hW k hk hk) h⟩
theorem RemoveTemporary_nil (w : World) : Calls Try.prog 19 #[.pointer none] w fun e w' => e = .returned (.int .i64 1) ∧ w = w' := by
  go_enter Try.func19, Try.ntmps19
  go_wp2_with fail
  go_ret
  exact ⟨rfl, rfl⟩
theorem tmps_length (S : PS) : (pTmps S).length ≤ S.dir.length := by
  unfold pTmps pDirNames
  exact Nat.le_trans (List.length_filter_le _ _) (by simp)
set_option maxHeartbeats 1000000 in
theorem RemoveTemporary_calls (w : World) (F : Nat → Prop) (d : Nat) (L : Lay) (S : PS) (B : Nat) (h : Rep w F d L S (Live S)) (hF : ∀ k, F k → k < w.heap.size) (hs : Sound S B) (hB : B + 100 * B ≤ 549755813888) :
    Calls Try.prog 19 #[.pointer (some ⟨d, 0, none⟩)] w fun e w' => e = .returned (.int .i64 (pRemoveAll S (pTmps S)).2) ∧ After w F d (pRemoveAll S (pTmps S)).1 w' := by
  have H := Lib.hid h
  have HF := Lib.hid hF
  have HS := Lib.hid hs
  have hB0 : B ≤ 549755813888 := by omega
  have HL := Lib.hid (dirNames_length hs.good hB0)
  have HLT := Lib.hid (show B + 100 * (pTmps S).length ≤ 549755813888 by have := tmps_length S; have := hs.good.nDir; omega)
  clear h hF hs
  have eg := Lib.hid (show ∀ args w, (callFunc 59 args).run Try.prog w = .ok (.enter 59 args) w from enters_of Try.func59 (by kernel_rfl) rfl)
  go_enter Try.func19, Try.ntmps19
  go_wp2_with (first
    | (go_at_call 21; refine (List_calls _ F d L S B H.out HS.out.good hB0).mono ?_; rintro e w1 ⟨v1, rfl, ho1, hf1⟩; have HO1 := Lib.hid (names_own ho1); have HF1 := Lib.hid hf1; clear ho1 hf1)
    | (go_at_call 56; refine (cloneS_calls _ _ v1 (pDirNames S) HO1.out HL.out).mono ?_; rintro e w2 ⟨v2, rfl, ho2, hb2⟩; have HO2 := Lib.hid (own_weaken ho2 HF1.out.size); have HF2 := Lib.hid (HF1.out.below hb2); clear ho2 hb2)
    | (go_at_call 55; refine (keep_calls _ w.heap.size v2 (pDirNames S) isTmp 59 eg.out notTmp_calls HO2.out).mono ?_; rintro e w3 ⟨v3, rfl, ho3, hb3⟩; obtain ⟨A3, c3, rfl, hr3⟩ := Rd.ofOwnS ho3; have HR3 := Lib.hid hr3; have HF3 := Lib.hid (show Fr (fun _ => False) w w3 from HF2.out.trans (fr_base hb3 HF2.out.size) (fun _ => .inr)); clear ho3 hb3 hr3)
    | (go_at_call 58; refine (remove_calls _ F d L S B A3 c3 (pTmps S) (H.out.fr HF3.out (fun _ _ e => e)) (fun k hk => Nat.lt_of_lt_of_le (HF.out k hk) HF3.out.size) HS.out HLT.out (HR3.out.mono (fun k hk _ e => by have := HF.out k e; omega))).mono ?_; rintro e w4 ⟨rfl, ha⟩; have HA := Lib.hid ha; clear ha)
    | fail)
  go_ret
  exact ⟨rfl, HA.out.behind (HF3.out.mono (fun _ hk => hk.elim)) (fun _ => .inl)⟩
/-- The objects among the first j names are deleted, as far as nothing fails; and whether there was one. -/
def delTo (S : PS) (zs : List ByteArray) : Nat → (PS × Int) × Bool
  | 0 => ((S, 0), false)
  | j + 1 => if (delTo S zs j).1.2 = 0 then (if pExists (delTo S zs j).1.1 (zs.getD j ByteArray.empty) then (pRemove (delTo S zs j).1.1 (zs.getD j ByteArray.empty), true) else delTo S zs j) else delTo S zs j
def pDelete (S : PS) (zs : List ByteArray) : PS × Int :=
  if (delTo S zs zs.length).1.2 = 0 then (if (delTo S zs zs.length).2 then pSyncDir (delTo S zs zs.length).1.1 else (delTo S zs zs.length).1) else (delTo S zs zs.length).1
theorem delTo_go {S : PS} {zs : List ByteArray} {j : Nat} (h : (delTo S zs j).1.2 = 0) (hx : pExists (delTo S zs j).1.1 (zs.getD j ByteArray.empty) = true) : delTo S zs (j + 1) = (pRemove (delTo S zs j).1.1 (zs.getD j ByteArray.empty), true) := by
  show (if _ then (if _ then _ else _) else _) = _
  rw [if_pos h, if_pos hx]
theorem delTo_pass {S : PS} {zs : List ByteArray} {j : Nat} (h : (delTo S zs j).1.2 = 0) (hx : pExists (delTo S zs j).1.1 (zs.getD j ByteArray.empty) = false) : delTo S zs (j + 1) = delTo S zs j := by
  show (if _ then (if _ then _ else _) else _) = _
  rw [if_pos h, if_neg (by rw [hx]; exact Bool.false_ne_true)]
theorem delTo_stop {S : PS} {zs : List ByteArray} {j : Nat} (h : (delTo S zs j).1.2 ≠ 0) : ∀ m, delTo S zs (j + m) = delTo S zs j
  | 0 => rfl
  | m + 1 => by
    have ih := delTo_stop h m
    show (if (delTo S zs (j + m)).1.2 = 0 then (if _ then _ else _) else delTo S zs (j + m)) = _
    rw [ih, if_neg h]
theorem Sound.delTo {S : PS} {B : Nat} {zs : List ByteArray} (h : Sound S B) : ∀ j, Sound (delTo S zs j).1.1 (B + 100 * j)
  | 0 => h
  | j + 1 => by
    have ih := Sound.delTo (zs := zs) h j
    rw [show B + 100 * (j + 1) = B + 100 * j + 100 by omega]
    show Sound (if _ then (if _ then _ else _) else _ : (PS × Int) × Bool).1.1 _
    split
    · split
      · exact ih.remove
      · exact ih.mono (by omega)
    · exact ih.mono (by omega)
def DelRel (w : World) (F : Nat → Prop) (d : Nat) (S : PS) (zs : List ByteArray) (A : Option Addr) (c : Nat) (r i : Value) (wx : World) : Prop :=
  ∃ (j : Nat) (F' : Nat → Prop) (L' : Lay), j ≤ zs.length ∧ i = .int .i64 j ∧ r = .bool (delTo S zs j).2 ∧ (delTo S zs j).1.2 = 0 ∧ Rep wx F' d L' (delTo S zs j).1.1 (Live (delTo S zs j).1.1) ∧ Chg w F wx F' ∧ Rd Kd.string wx (fun k => ¬ F' k) A c zs
theorem del_next {w w3 wx : World} {F F' : Nat → Prop} {d j : Nat} {S Sj : PS} {zs : List ByteArray} {A : Option Addr} {c : Nat} {r : PS × Int} {x : ByteArray} {cd : Int} (hj : j < zs.length) (hc : Chg w F wx F') (hrow : Rd Kd.string wx (fun k => ¬ F' k) A c zs) (h0 : (delTo S zs j).1.2 = 0) (hS : Sj = (delTo S zs j).1.1) (hx : x = zs.getD j ByteArray.empty) (hex : pExists Sj x = true) (hr : r = pRemove Sj x) (hcd : cd = r.2) (ha : After wx F' d r.1 w3) (h1 : (cd != 0) = false) :
    DelRel w F d S zs A c (.bool true) (.int .i64 ((j : Int) + 1)) w3 := by
  subst hr
  subst hcd
  subst hx
  subst hS
  have e := delTo_go h0 hex
  obtain ⟨F3, L3, hr, hc3⟩ := ha
  exact ⟨j + 1, F3, L3, by omega, by go_num, by rw [e], by rw [e]; simpa using h1, by rw [e]; exact hr, hc.trans hc3, hrow.chg hc3⟩
theorem del_pass {w w2 wx : World} {F F' : Nat → Prop} {d j : Nat} {L' : Lay} {S Sj : PS} {zs : List ByteArray} {A : Option Addr} {c : Nat} {x : ByteArray} {b : Bool} (hj : j < zs.length) (hrep : Rep wx F' d L' Sj (Live Sj)) (hc : Chg w F wx F') (hrow : Rd Kd.string wx (fun k => ¬ F' k) A c zs) (h0 : (delTo S zs j).1.2 = 0) (hb : b = (delTo S zs j).2) (hS : Sj = (delTo S zs j).1.1) (hx : x = zs.getD j ByteArray.empty) (hex : pExists Sj x = false) (hf : Fr (fun _ => False) wx w2) :
    DelRel w F d S zs A c (.bool b) (.int .i64 ((j : Int) + 1)) w2 := by
  subst hx
  subst hS
  subst hb
  have e := delTo_pass h0 hex
  obtain ⟨F3, L3, hr, hc3⟩ := After.same (F := F') (hrep.fr hf (fun _ _ e => e)) hf
  exact ⟨j + 1, F3, L3, by omega, by go_num, by rw [e], by rw [e]; exact h0, by rw [e]; exact hr, hc.trans hc3, hrow.chg hc3⟩
theorem del_end {w w3 wx : World} {F F' : Nat → Prop} {d j : Nat} {S Sj : PS} {zs : List ByteArray} {r : PS × Int} {x : ByteArray} {cd : Int} (hj : j < zs.length) (hc : Chg w F wx F') (h0 : (delTo S zs j).1.2 = 0) (hS : Sj = (delTo S zs j).1.1) (hx : x = zs.getD j ByteArray.empty) (hex : pExists Sj x = true) (hr : r = pRemove Sj x) (hcd : cd = r.2) (ha : After wx F' d r.1 w3) (h1 : (cd != 0) = true) :
    Ending.returned (.int .i64 cd) = .returned (.int .i64 (pDelete S zs).2) ∧ After w F d (pDelete S zs).1 w3 := by
  subst hr
  subst hcd
  subst hx
  subst hS
  have e := delTo_go h0 hex
  have h2 : (delTo S zs (j + 1)).1.2 ≠ 0 := by rw [e]; simpa using h1
  have e2 := delTo_stop h2 (zs.length - (j + 1))
  rw [show j + 1 + (zs.length - (j + 1)) = zs.length by omega] at e2
  have e3 : pDelete S zs = (delTo S zs (j + 1)).1 := by
    unfold pDelete
    rw [e2, if_neg h2]
  rw [e3, e]
  obtain ⟨F3, L3, hr, hc3⟩ := ha
  exact ⟨rfl, F3, L3, hr, hc.trans hc3⟩
theorem Delete_nil (w : World) (v : Value) : Calls Try.prog 22 #[.pointer none, v] w fun e w' => e = .returned (.int .i64 1) ∧ w = w' := by
  go_enter Try.func22, Try.ntmps22
  go_wp2_with fail
  go_ret
  exact ⟨rfl, rfl⟩
set_option maxHeartbeats 4000000 in
theorem Delete_calls (w : World) (F : Nat → Prop) (d : Nat) (L : Lay) (S : PS) (B : Nat) (A : Option Addr) (c : Nat) (zs : List ByteArray) (h : Rep w F d L S (Live S)) (hF : ∀ k, F k → k < w.heap.size) (hs : Sound S B) (hB : B + 100 * zs.length ≤ 549755813888) (hr : Rd Kd.string w (fun k => ¬ F k) A c zs) :
    Calls Try.prog 22 #[.pointer (some ⟨d, 0, none⟩), .slice A zs.length c] w fun e w' => e = .returned (.int .i64 (pDelete S zs).2) ∧ After w F d (pDelete S zs).1 w' := by
  have H := Lib.hid h
  have HF := Lib.hid hF
  have HS := Lib.hid hs
  have HR := Lib.hid hr
  clear h hF hs hr
  go_enter Try.func22, Try.ntmps22
  go_wp2
  go_loopw [5, 13] (fun r i wx => DelRel w F d S zs A c r i wx) (fun _ i _ => zs.length - (intOf i).toNat)
  case atStart => exact ⟨0, F, L, by omega, rfl, rfl, rfl, H.out, ⟨Fr.refl _ _, fun k hk => .inl hk, HF.out⟩, HR.out⟩
  case round =>
    obtain ⟨j, F', L', hj, rfl, rfl, h0, hr, hc, hrow⟩ := hrel
    have H0 := Lib.hid h0
    have HSJ := Lib.hid (HS.out.delTo (zs := zs) j)
    obtain ⟨Sj, hSj⟩ : ∃ Sj, Sj = (delTo S zs j).1.1 := ⟨_, rfl⟩
    obtain ⟨bj, hbj⟩ : ∃ bj, bj = (delTo S zs j).2 := ⟨_, rfl⟩
    rw [← hSj] at hr HSJ
    rw [← hbj]
    have HSQ := Lib.hid hSj
    have HBQ := Lib.hid hbj
    have HRJ := Lib.hid hr
    have HC := Lib.hid hc
    have HROW := Lib.hid hrow
    clear h0 hr hc hSj hbj
    by_cases hlt : j < zs.length
    · have hbj : B + 100 * j ≤ 549755813888 := by omega
      obtain ⟨ad, hA, hcell⟩ := str_at hrow.now j hlt
      clear hrow
      subst hA
      obtain ⟨x, hx⟩ : ∃ x, x = zs.getD j ByteArray.empty := ⟨_, rfl⟩
      rw [← hx] at hcell
      have HX := Lib.hid hx
      clear hx
      cases hex : pExists Sj x
      · have HE := Lib.hid hex
        clear hex
        go_wp2_with (first | (go_at_call 17; refine (Exists_calls _ F' d L' Sj _ x HRJ.out HSJ.out.good hbj).mono ?_; rw [HE.out]; rintro e w2 ⟨rfl, hf⟩; have HF2 := Lib.hid hf; clear hf) | fail)
        go_roundw
        case rel => exact del_pass hlt HRJ.out HC.out HROW.out H0.out HBQ.out HSQ.out HX.out HE.out HF2.out
        case measure => simp [intOf]; omega
      · have HE := Lib.hid hex
        clear hex
        obtain ⟨r, hr⟩ : ∃ r, r = pRemove Sj x := ⟨_, rfl⟩
        have HRR := Lib.hid hr
        clear hr
        go_wp2_with (first | (go_at_call 17; refine (Exists_calls _ F' d L' Sj _ x HRJ.out HSJ.out.good hbj).mono ?_; rw [HE.out]; rintro e w2 ⟨rfl, hf⟩; have HF2 := Lib.hid hf; clear hf) | (go_at_call 40; refine (Remove_calls _ F' d L' Sj _ x (HRJ.out.fr HF2.out (fun _ _ e => e)) HSJ.out.good hbj).mono ?_; rw [← HRR.out]; rintro e w3 ⟨rfl, ha⟩; have HA := Lib.hid (ha.behind (HF2.out.mono (fun _ hk => hk.elim)) (fun _ => .inl)); clear ha; obtain ⟨cd, hcd⟩ : ∃ cd, cd = r.2 := ⟨_, rfl⟩; rw [← hcd]; have HCD := Lib.hid hcd; clear hcd) | fail)
        · go_ret
          exact del_end hlt HC.out H0.out HSQ.out HX.out HE.out HRR.out HCD.out HA.out (by assumption)
        · go_roundw
          case rel => exact del_next hlt HC.out HROW.out H0.out HSQ.out HX.out HE.out HRR.out HCD.out HA.out (by assumption)
          case measure => simp [intOf]; omega
    · obtain rfl : j = zs.length := by omega
      clear hrow
      have hbj : B + 100 * zs.length ≤ 549755813888 := hB
      cases bj
      · have HP := Lib.hid (show pDelete S zs = (Sj, 0) by unfold pDelete; rw [if_pos H0.out, ← HBQ.out, if_neg Bool.false_ne_true, HSQ.out, ← H0.out])
        go_wp2_with fail
        go_ret
        rw [HP.out]
        exact ⟨rfl, F', L', HRJ.out, HC.out⟩
      · have HP := Lib.hid (show pDelete S zs = pSyncDir Sj by unfold pDelete; rw [if_pos H0.out, ← HBQ.out, if_pos rfl, HSQ.out])
        go_wp2_with (first | (go_at_call 48; refine (SyncDir_calls _ F' d L' Sj _ HRJ.out HSJ.out.good hbj).mono ?_; rintro e w3 ⟨rfl, ha⟩; have HA := Lib.hid ha; clear ha) | fail)
        go_ret
        rw [HP.out]
        obtain ⟨F3, L3, hr, hc3⟩ := HA.out
        exact ⟨rfl, F3, L3, hr, HC.out.trans hc3⟩
end Go.Proofs.Ytehhafnjbkbmjaa.Disk

/- objstore: lives, the chapter's examples. -/
namespace Go.Proofs.Ytehhafnjbkbmjaa.Disk
open Go Go.RowKit Go.Proofs.YtehhafnjbkbmjaaW.PrintWords Go.Proofs.YtehhafnjbkbmjaaW.PrintLast Go.Proofs.YtehhafnjbkbmjaaW.PrintMore Go.Proofs.Ytehhafnjbkbmjaa.PObjstoreAtomic
theorem C_blk {α : Type} {enc : α → Value} {h1 : ∀ x, (enc x).oneCell' = true} {w : World} {b t : Nat} {fz : Nat × Nat} {xs : List α} (h : w.heap[b]? = some (.cells (xs.map enc).toArray t fz)) (hl : xs.length ≤ 9223372036854775807) : Kd.C (Kd.scalar enc h1) w (some ⟨b, 0, none⟩) xs.length xs :=
  ⟨rfl, hl, fun _ => ⟨_, rfl, fun j p hj => ⟨[enc p], rfl, rfl, fun i u hu => by
    have hi0 : i = 0 := by
      have := (List.getElem?_eq_some_iff.1 hu).1
      simpa using this
    subst hi0
    simp at hu
    subst hu
    rw [show (Kd.scalar enc h1).sz = 1 from rfl, Addr.add_lit]
    have h2 := cell_blk h j
    have e2 : (xs.map enc).toArray[j]? = some (enc p) := by simp [hj]
    simp only [Nat.zero_add, Nat.mul_one, Nat.add_zero]
    rw [h2, e2]⟩⟩⟩
theorem Chg.up {a b : World} {F G : Nat → Prop} (h : Chg a F b G) (o : Obj) : Chg a F (b.alloc o) G := ⟨h.fr.alloc o, h.new, fun k hk => by have := h.lt k hk; simp; omega⟩
theorem Chg.fr2 {a b c : World} {F G : Nat → Prop} (h : Chg a F b G) (hf : Fr (fun _ => False) b c) : Chg a F c G := ⟨h.fr.trans hf (fun _ (e : False) => e.elim), h.new, fun k hk => Nat.lt_of_lt_of_le (h.lt k hk) hf.size⟩
theorem Rd.blk {w : World} {b t : Nat} {fz : Nat × Nat} {xs : List Int} {ok : Nat → Prop} (h : w.heap[b]? = some (.cells (nums .u8 xs).toArray t fz)) (hl : xs.length ≤ 9223372036854775807) (hok : ok b) : Rd kB w ok (some ⟨b, 0, none⟩) xs.length xs :=
  ⟨Nat.le_refl _, fun _ hW => C_blk (enc := Value.int .u8) (h1 := fun _ => rfl) ((hW b hok (lt_blk h)).trans h) hl⟩
theorem Rd.blkS {w : World} {b t : Nat} {fz : Nat × Nat} {xs : List ByteArray} {ok : Nat → Prop} (h : w.heap[b]? = some (.cells (pw_strs xs).toArray t fz)) (hl : xs.length ≤ 9223372036854775807) (hok : ok b) : Rd kS w ok (some ⟨b, 0, none⟩) xs.length xs :=
  ⟨Nat.le_refl _, fun _ hW => C_blk (enc := Value.string) (h1 := fun _ => rfl) ((hW b hok (lt_blk h)).trans h) hl⟩
theorem Rd.none0 {w : World} {ok : Nat → Prop} : Rd kB w ok none ([] : List Int).length [] := Rd.nil kB w ok
theorem Sound.put {S : PS} {B m : Nat} {n : ByteArray} {l : List Int} (h : Sound S B) (hm : 100 ≤ m) (hl : l.length + 4 ≤ m) (hw : ∀ x ∈ l, 0 ≤ x ∧ x ≤ 255) : Sound (pPut S n l).1 (B + m * 6) := by
  unfold pPut
  split
  · exact h.mono (by omega)
  · split
    · exact h.mono (by omega)
    · exact h.runTo hm (by rw [sealF_length]; exact hl) (sealF_ok hw) 6
theorem Sound.removeAll {S : PS} {B : Nat} {zs : List ByteArray} (h : Sound S B) : Sound (pRemoveAll S zs).1 (B + 100 * zs.length + 100) := by
  unfold pRemoveAll
  split
  · exact h.mono (by omega)
  · split
    · exact (h.rmTo _).syncDir
    · exact (h.rmTo _).mono (by omega)
theorem Sound.delete {S : PS} {B : Nat} {zs : List ByteArray} (h : Sound S B) : Sound (pDelete S zs).1 (B + 100 * zs.length + 100) := by
  unfold pDelete
  split
  · split
    · exact (h.delTo _).syncDir
    · exact (h.delTo _).mono (by omega)
  · exact (h.delTo _).mono (by omega)
abbrev sM1 : ByteArray := ⟨#[109, 45, 49]⟩
abbrev sM2 : ByteArray := ⟨#[109, 45, 50]⟩
abbrev sM3 : ByteArray := ⟨#[109, 45, 51]⟩
abbrev sUM : ByteArray := ⟨#[77]⟩
def lv1 : PS := (pPut pNew sM1 [120]).1
def lv2 : PS := pFail lv1 2
def lv3 : PS := (pPut lv2 sM2 [121]).1
def lv4 : PS := pCrash lv3 9 [⟨0, false⟩, ⟨9, false⟩]
def lv5 : PS := (pRemoveAll lv4 (pTmps lv4)).1
def lv6 : PS := (pDelete lv5 [sM1, sM3]).1
theorem s_lv1 : Sound lv1 600 := Sound.new.put (m := 100) (by decide) (by decide) (by decide)
theorem s_lv2 : Sound lv2 700 := s_lv1.fail (by decide)
theorem s_lv3 : Sound lv3 1300 := s_lv2.put (m := 100) (by decide) (by decide) (by decide)
theorem s_lv4 : Sound lv4 1300 := s_lv3.crash
theorem l_lv4 : pTmps lv4 = [tmpOf sM2] := by kernel_rfl
theorem s_lv5 : Sound lv5 1500 := by have := s_lv4.removeAll (zs := pTmps lv4); rw [l_lv4] at this; unfold lv5; rw [l_lv4]; exact this
theorem s_lv6 : Sound lv6 1800 := s_lv5.delete (zs := [sM1, sM3])
theorem v_lv1 : (pPut pNew sM1 [120]).2 = 0 := by kernel_rfl
theorem v_lv1b : pPut lv1 sM1 [] = (lv1, 9) := by kernel_rfl
theorem v_lv1c : pGet lv1 sM1 = ([120], 0) := by kernel_rfl
theorem v_lv1d : pGet lv1 sM2 = ([], 15) := by kernel_rfl
theorem v_lv1e : pObjs lv1 = [sM1] := by kernel_rfl
theorem v_lv1f : pPut lv1 sUM [] = (lv1, 1) := by kernel_rfl
theorem v_lv3 : (pPut lv2 sM2 [121]).2 = 16 := by kernel_rfl
theorem v_lv5 : (pRemoveAll lv4 (pTmps lv4)).2 = 0 := by kernel_rfl
theorem v_lv5b : pExists lv5 sM1 = true := by kernel_rfl
theorem v_lv6 : (pDelete lv5 [sM1, sM3]).2 = 0 := by kernel_rfl
theorem v_lv6b : lv6.dir = [] := by kernel_rfl
end Go.Proofs.Ytehhafnjbkbmjaa.Disk

/- objstore: lives, the walk. -/
namespace Go.Proofs.Ytehhafnjbkbmjaa.Disk
open Go Go.RowKit Go.Proofs.YtehhafnjbkbmjaaW.PrintWords Go.Proofs.YtehhafnjbkbmjaaW.PrintLast Go.Proofs.YtehhafnjbkbmjaaW.PrintMore Go.Proofs.Ytehhafnjbkbmjaa.PObjstoreAtomic
theorem C_cf2 {w : World} {b t : Nat} {fz : Nat × Nat} (h : w.heap[b]? = some (.cells #[.int .i64 0, .bool false, .int .i64 9, .bool false] t fz)) : Kd.C kCf w (some ⟨b, 0, none⟩) ([⟨0, false⟩, ⟨9, false⟩] : List Cf).length [⟨0, false⟩, ⟨9, false⟩] :=
  ⟨rfl, by decide, fun _ => ⟨_, rfl, fun j p hj => by
    have hj0 : j = 0 ∨ j = 1 := by
      have := (List.getElem?_eq_some_iff.1 hj).1
      simp at this
      omega
    rcases hj0 with rfl | rfl
    · simp at hj
      subst hj
      refine ⟨[.int .i64 0, .bool false], rfl, kCf_mk w ⟨0, false⟩, fun i u hu => ?_⟩
      rw [Addr.add_lit]
      have hi : i = 0 ∨ i = 1 := by
        have := (List.getElem?_eq_some_iff.1 hu).1
        simp at this
        omega
      rcases hi with rfl | rfl
      · exact (cell_blk h _).trans hu
      · exact (cell_blk h _).trans hu
    · simp at hj
      subst hj
      refine ⟨[.int .i64 9, .bool false], rfl, kCf_mk w ⟨9, false⟩, fun i u hu => ?_⟩
      rw [Addr.add_lit]
      have hi : i = 0 ∨ i = 1 := by
        have := (List.getElem?_eq_some_iff.1 hu).1
        simp at this
        omega
      rcases hi with rfl | rfl
      · exact (cell_blk h _).trans hu
      · exact (cell_blk h _).trans hu⟩⟩
theorem lp1 (fz : Nat × Nat) (w : World) (F : Nat → Prop) (d : Nat) (L : Lay) (h : Rep w F d L pNew (Live pNew)) (hF : ∀ k, F k → k < w.heap.size) :
    Calls Try.prog 13 #[.pointer (some ⟨d, 0, none⟩), .string sM1, .slice (some ⟨w.heap.size, 0, none⟩) 1 1] (w.alloc (.cells #[.int .u8 120] 5 fz)) fun e w' => e = .returned (.int .i64 0) ∧ After (w.alloc (.cells #[.int .u8 120] 5 fz)) F d lv1 w' := by
  have := Put_calls (w.alloc (.cells #[.int .u8 120] 5 fz)) F d L pNew 0 100 sM1 (some ⟨w.heap.size, 0, none⟩) 1 [120] (h.alloc _) (fun k hk => by have := hF k hk; simp; omega) Sound.new (by decide) (by decide) (by decide) (by decide) (Rd.blk (xs := [120]) (heap_alloc_new w _) (by decide) (fun e => by have := hF _ e; omega))
  rw [v_lv1] at this
  exact this
theorem lp2 (w : World) (F : Nat → Prop) (d : Nat) (L : Lay) (h : Rep w F d L lv1 (Live lv1)) (hF : ∀ k, F k → k < w.heap.size) :
    Calls Try.prog 13 #[.pointer (some ⟨d, 0, none⟩), .string sM1, .slice none 0 0] w fun e w' => e = .returned (.int .i64 9) ∧ After w F d lv1 w' := by
  have := Put_calls w F d L lv1 600 100 sM1 none 0 [] h hF s_lv1 (by decide) (by decide) (by decide) (by decide) (Rd.nil kB w _)
  rw [v_lv1b] at this
  exact this
theorem lp3 (w : World) (F : Nat → Prop) (d : Nat) (L : Lay) (h : Rep w F d L lv1 (Live lv1)) (hF : ∀ k, F k → k < w.heap.size) :
    Calls Try.prog 13 #[.pointer (some ⟨d, 0, none⟩), .string sUM, .slice none 0 0] w fun e w' => e = .returned (.int .i64 1) ∧ After w F d lv1 w' := by
  have := Put_calls w F d L lv1 600 100 sUM none 0 [] h hF s_lv1 (by decide) (by decide) (by decide) (by decide) (Rd.nil kB w _)
  rw [v_lv1f] at this
  exact this
theorem lp4 (fz : Nat × Nat) (w : World) (F : Nat → Prop) (d : Nat) (L : Lay) (h : Rep w F d L lv2 (Live lv2)) (hF : ∀ k, F k → k < w.heap.size) :
    Calls Try.prog 13 #[.pointer (some ⟨d, 0, none⟩), .string sM2, .slice (some ⟨w.heap.size, 0, none⟩) 1 1] (w.alloc (.cells #[.int .u8 121] 5 fz)) fun e w' => e = .returned (.int .i64 16) ∧ After (w.alloc (.cells #[.int .u8 121] 5 fz)) F d lv3 w' := by
  have := Put_calls (w.alloc (.cells #[.int .u8 121] 5 fz)) F d L lv2 700 100 sM2 (some ⟨w.heap.size, 0, none⟩) 1 [121] (h.alloc _) (fun k hk => by have := hF k hk; simp; omega) s_lv2 (by decide) (by decide) (by decide) (by decide) (Rd.blk (xs := [121]) (heap_alloc_new w _) (by decide) (fun e => by have := hF _ e; omega))
  rw [v_lv3] at this
  exact this
theorem lg1 (w : World) (F : Nat → Prop) (d : Nat) (L : Lay) (h : Rep w F d L lv1 (Live lv1)) : Calls Try.prog 16 #[.pointer (some ⟨d, 0, none⟩), .string sM1] w fun e w' => ∃ A c, e = .returned (.tuple #[.slice A 1 c, .int .i64 0]) ∧ Rd kB w' (fun k => w.heap.size ≤ k) A c [120] ∧ Fr (fun _ => False) w w' :=
  (Get_calls w F d L lv1 600 sM1 h s_lv1.good (by decide)).mono fun e w' hq => by
    rw [v_lv1c] at hq
    obtain ⟨v, q1, q2, q3⟩ := hq
    obtain ⟨A, c, e, _⟩ := own_bytes (l := [120]) q2
    subst e
    exact ⟨A, c, q1, Rd.ofOwn q2, q3⟩
theorem lg2 (w : World) (F : Nat → Prop) (d : Nat) (L : Lay) (h : Rep w F d L lv1 (Live lv1)) : Calls Try.prog 16 #[.pointer (some ⟨d, 0, none⟩), .string sM2] w fun e w' => ∃ v, e = .returned (.tuple #[v, .int .i64 15]) ∧ Fr (fun _ => False) w w' :=
  (Get_calls w F d L lv1 600 sM2 h s_lv1.good (by decide)).mono fun e w' hq => by
    rw [v_lv1d] at hq
    obtain ⟨v, q1, q2, q3⟩ := hq
    exact ⟨v, q1, q3⟩
theorem ll1 (w : World) (F : Nat → Prop) (d : Nat) (L : Lay) (h : Rep w F d L lv1 (Live lv1)) : Calls Try.prog 18 #[.pointer (some ⟨d, 0, none⟩)] w fun e w' => ∃ A c, e = .returned (.slice A 1 c) ∧ Rd kS w' (fun k => w.heap.size ≤ k) A c [sM1] ∧ Fr (fun _ => False) w w' :=
  (objList_calls w F d L lv1 600 h s_lv1.good (by decide)).mono fun e w' hq => by
    rw [v_lv1e] at hq
    obtain ⟨v, q1, q2, q3⟩ := hq
    obtain ⟨A, c, e, hr⟩ := Rd.ofOwnS (xs := [sM1]) q2
    subst e
    exact ⟨A, c, q1, hr, q3⟩
theorem lc4 (w : World) (F : Nat → Prop) (d : Nat) (L : Lay) (h : Rep w F d L lv3 (Live lv3)) : Calls Try.prog 15 #[.pointer (some ⟨d, 0, none⟩), .int .i64 9, .slice (some ⟨w.heap.size, 0, none⟩) 2 2] (w.alloc (.cells #[.int .i64 0, .bool false, .int .i64 9, .bool false] 68)) fun e w' => e = .returned (.tuple #[]) ∧ After (w.alloc (.cells #[.int .i64 0, .bool false, .int .i64 9, .bool false] 68)) F d lv4 w' :=
  Crash_calls (w.alloc (.cells #[.int .i64 0, .bool false, .int .i64 9, .bool false] 68)) F d L lv3 1300 9 (some ⟨w.heap.size, 0, none⟩) 2 [⟨0, false⟩, ⟨9, false⟩] (C_cf2 (heap_alloc_new w _)) (h.alloc _) s_lv3.good (by decide)
theorem lr5 (w : World) (F : Nat → Prop) (d : Nat) (L : Lay) (h : Rep w F d L lv4 (Live lv4)) (hF : ∀ k, F k → k < w.heap.size) : Calls Try.prog 19 #[.pointer (some ⟨d, 0, none⟩)] w fun e w' => e = .returned (.int .i64 0) ∧ After w F d lv5 w' := by
  have := RemoveTemporary_calls w F d L lv4 1300 h hF s_lv4 (by decide)
  rw [v_lv5] at this
  exact this
theorem lx5 (w : World) (F : Nat → Prop) (d : Nat) (L : Lay) (h : Rep w F d L lv5 (Live lv5)) : Calls Try.prog 17 #[.pointer (some ⟨d, 0, none⟩), .string sM1] w fun e w' => e = .returned (.bool true) ∧ Fr (fun _ => False) w w' := by
  have := Exists_calls w F d L lv5 1500 sM1 h s_lv5.good (by decide)
  rw [v_lv5b] at this
  exact this
theorem ld6 (fz : Nat × Nat) (w : World) (F : Nat → Prop) (d : Nat) (L : Lay) (h : Rep w F d L lv5 (Live lv5)) (hF : ∀ k, F k → k < w.heap.size) : Calls Try.prog 22 #[.pointer (some ⟨d, 0, none⟩), .slice (some ⟨w.heap.size, 0, none⟩) 2 2] (w.alloc (.cells #[.string sM1, .string sM3] 9 fz)) fun e w' => e = .returned (.int .i64 0) ∧ After (w.alloc (.cells #[.string sM1, .string sM3] 9 fz)) F d lv6 w' := by
  have := Delete_calls (w.alloc (.cells #[.string sM1, .string sM3] 9 fz)) F d L lv5 1500 (some ⟨w.heap.size, 0, none⟩) 2 [sM1, sM3] (h.alloc _) (fun k hk => by have := hF k hk; simp; omega) s_lv5 (by decide) (Rd.blkS (xs := [sM1, sM3]) (heap_alloc_new w _) (by decide) (fun e => by have := hF _ e; omega))
  rw [v_lv6] at this
  exact this
theorem ll6 (w : World) (F : Nat → Prop) (d : Nat) (L : Lay) (h : Rep w F d L lv6 (Live lv6)) : Calls Try.prog 21 #[.pointer (some ⟨d, 0, none⟩)] w fun e w' => ∃ A c, e = .returned (.slice A 0 c) ∧ Fr (fun _ => False) w w' :=
  (List_calls w F d L lv6 1800 h s_lv6.good (by decide)).mono fun e w' hq => by
    obtain ⟨v, q1, q2, q3⟩ := hq
    rw [v_lv6b] at q2
    rcases q2.2 with ⟨h1, h2⟩ | ⟨g, cap, cur, h1, _⟩
    · subst h1
      exact ⟨none, 0, q1, q3⟩
    · subst h1
      exact ⟨_, _, q1, q3⟩
theorem str_run {w : World} {A : Option Addr} {c : Nat} {ok : Nat → Prop} {bs : List Int} (h : Rd kB w ok A c bs) : (convert 22 9 (.slice A bs.length c)).run Try.prog w = .ok (.string (strOfNums bs)) w :=
  Kd.C_string Try.underlying22 Try.underlying5 Try.underlying9 h.now
theorem lv_str {w : World} {A : Option Addr} {c : Nat} {ok : Nat → Prop} (h : Rd kB w ok A c [120]) : (convert 22 9 (.slice A 1 c)).run Try.prog w = .ok (.string ⟨#[120]⟩) w := by
  have := str_run h
  rw [show strOfNums [120] = ⟨#[120]⟩ by kernel_rfl] at this
  exact this
theorem chg_up {a w' : World} {o : Obj} {F F' : Nat → Prop} (h : Chg (a.alloc o) F w' F') : Chg a F w' F' :=
  ⟨((Fr.refl F a).alloc o).trans h.fr (fun _ => .inl), fun k hk => by
    rcases h.new k hk with h1 | h1
    · exact .inl h1
    · simp at h1
      exact .inr (by omega), h.lt⟩
set_option maxHeartbeats 8000000 in
set_option maxRecDepth 100000 in
theorem lives_calls (w : World) : Calls Try.prog 11 #[] w fun e w' => e = .returned (.bool true) ∧ Below w.heap.size w w' := by
  have kc := fun (w : World) (C : Array Value) (n c : Nat) => Lib.run_convert_bytes_const (P := Try.prog) w 22 5 C n c Try.underlying22 Try.underlying5
  go_enter Try.func11, Try.ntmps11
  go_wp2_with (first
    | (go_at_call 17; have hz := B14.out; clear hz; refine (Exists_nil _ _).mono ?_; rintro e w15 ⟨rfl, rfl⟩)
    | (go_at_call 13; have hz := C13.out; clear hz; refine (Put_nil _ _ _ _ _).mono ?_; rintro e w14 ⟨rfl, hb⟩; have B14 := Lib.hid (C13.out.fr.below hb); clear hb C13)
    | (go_at_call 21; refine (ll6 _ _ _ _ R12.out).mono ?_; rintro e w13 ⟨A13, c13, rfl, hf⟩; have C13 := Lib.hid (C12.out.fr2 hf); clear hf R12)
    | (go_at_call 22; refine (ld6 _ _ _ _ _ R11.out C11.out.lt).mono ?_; rintro e w12 ⟨rfl, F12, L12, hr, hc⟩; have hc := chg_up hc; have R12 := Lib.hid hr; have C12 := Lib.hid (C11.out.trans hc); have V12 := V11.out.chg hc; have N12 := N11.out.chg hc; have hcv := lv_str V12; obtain ⟨gN, rfl, hN0⟩ := str_at N12.now 0 (by decide); have hN := (show _ = some (Value.string sM1) from hN0); rw [Addr.add_zero'] at hN; clear hN0; clear hr hc R11 V11 N11 V12 N12)
    | (go_at_call 17; have hz := R10.out; clear hz; refine (lx5 _ _ _ _ R10.out).mono ?_; rintro e w11 ⟨rfl, hf⟩; have R11 := Lib.hid (R10.out.fr hf (fun _ _ => id)); have C11 := Lib.hid (C10.out.fr2 hf); have V11 := Lib.hid (V10.out.below (fr_below hf)); have N11 := Lib.hid (N10.out.below (fr_below hf)); clear hf R10 V10 N10)
    | (go_at_call 19; refine (lr5 _ _ _ _ R9.out C9.out.lt).mono ?_; rintro e w10 ⟨rfl, F10, L10, hr, hc⟩; have R10 := Lib.hid hr; have C10 := Lib.hid (C9.out.trans hc); have V10 := Lib.hid (V9.out.chg hc); have N10 := Lib.hid (N9.out.chg hc); clear hr hc R9 V9 N9)
    | (go_at_call 15; refine (lc4 _ _ _ _ R8.out).mono ?_; rintro e w9 ⟨rfl, F9, L9, hr, hc⟩; have hc := chg_up hc; have R9 := Lib.hid hr; have C9 := Lib.hid (C8.out.trans hc); have V9 := Lib.hid (V8.out.chg hc); have N9 := Lib.hid (N8.out.chg hc); clear hr hc R8 V8 N8)
    | (go_at_call 13; have hz := R7.out; clear hz; refine (lp4 _ _ _ _ _ R7.out C7.out.lt).mono ?_; rintro e w8 ⟨rfl, F8, L8, hr, hc⟩; have hc := chg_up hc; have R8 := Lib.hid hr; have C8 := Lib.hid (C7.out.trans hc); have V8 := Lib.hid (V7.out.chg hc); have N8 := Lib.hid (N7.out.chg hc); clear hr hc R7 V7 N7)
    | (go_at_call 14; refine (FailAfter_calls _ _ _ _ lv1 2 R6.out).mono ?_; rintro e w7 ⟨rfl, F7, L7, hr, hc⟩; have R7 := Lib.hid (show Rep w7 F7 d L7 lv2 (Live lv2) from hr); have C7 := Lib.hid (C6.out.trans hc); have V7 := Lib.hid (V6.out.chg hc); have N7 := Lib.hid (N6.out.chg hc); clear hr hc R6 V6 N6)
    | (go_at_call 13; have hz := R5.out; clear hz; refine (lp3 _ _ _ _ R5.out C5.out.lt).mono ?_; rintro e w6 ⟨rfl, F6, L6, hr, hc⟩; have R6 := Lib.hid hr; have C6 := Lib.hid (C5.out.trans hc); have V6 := Lib.hid (V5.out.chg hc); have N6 := Lib.hid (N5.out.chg hc); clear hr hc R5 V5 N5)
    | (go_at_call 18; refine (ll1 _ _ _ _ R4.out).mono ?_; rintro e w5 ⟨A5, c5, rfl, hv, hf⟩; have R5 := Lib.hid (R4.out.fr hf (fun _ _ => id)); have C5 := Lib.hid (C4.out.fr2 hf); have V5 := Lib.hid (V4.out.below (fr_below hf)); have N5 := Lib.hid (hv.mono (ok' := fun k => ¬ F2 k) (fun k hk _ e => by have := C4.out.lt k e; omega)); clear hv hf R4 V4)
    | (go_at_call 16; have hz := R3.out; clear hz; refine (lg2 _ _ _ _ R3.out).mono ?_; rintro e w4 ⟨v4, rfl, hf⟩; have R4 := Lib.hid (R3.out.fr hf (fun _ _ => id)); have C4 := Lib.hid (C3.out.fr2 hf); have V4 := Lib.hid (V3.out.below (fr_below hf)); clear hf R3 V3)
    | (go_at_call 16; have hz := R2.out; clear hz; refine (lg1 _ _ _ _ R2.out).mono ?_; rintro e w3 ⟨A3, c3, rfl, hv, hf⟩; have R3 := Lib.hid (R2.out.fr hf (fun _ _ => id)); have C3 := Lib.hid (C2.out.fr2 hf); have V3 := Lib.hid (hv.mono (ok' := fun k => ¬ F2 k) (fun k hk _ e => by have := C2.out.lt k e; omega)); clear hv hf R2)
    | (go_at_call 13; have hz := R1.out; clear hz; refine (lp2 _ _ _ _ R1.out C1.out.lt).mono ?_; rintro e w2 ⟨rfl, F2, L2, hr, hc⟩; have R2 := Lib.hid hr; have C2 := Lib.hid (C1.out.trans hc); clear hr hc R1)
    | (go_at_call 13; have hz := R0.out; clear hz; refine (lp1 _ _ _ _ _ R0.out C0.out.lt).mono ?_; rintro e w1 ⟨rfl, F1, L1, hr, hc⟩; have R1 := Lib.hid hr; have C1 := Lib.hid ((C0.out.up _).trans hc); clear hr hc R0)
    | (go_at_call 12; refine (New_calls _).mono ?_; rintro e w0 ⟨d, F0, L0, rfl, hr, hc⟩; have R0 := Lib.hid hr; have C0 := Lib.hid hc; clear hr hc)
    | fail)
  go_ret
  exact ⟨rfl, B14.out.toBelow (Nat.le_refl _) (fun _ hk => hk.elim)⟩
end Go.Proofs.Ytehhafnjbkbmjaa.Disk

/- What is read out of the arguments of a law: any row of the kinds at hand. -/
namespace Go.Proofs.Ytehhafnjbkbmjaa.Disk
open Go Go.RowKit Go.Proofs.YtehhafnjbkbmjaaW.PrintWords Go.Proofs.YtehhafnjbkbmjaaW.PrintLast Go.Proofs.YtehhafnjbkbmjaaW.PrintMore Go.Proofs.Ytehhafnjbkbmjaa.PObjstoreAtomic
open Go.ChangeShapes Go.WideShapes Go.Deep
/-- Whatever of type t can be read as data is read by the kind dd. -/
def Opens {α : Type} (dd : Kd α) (t : Nat) (Wf : α → Prop) : Prop := ∀ (H : Type) (enc : TypeId × Value → H) (w : World) (fuel : Nat) (cs : List Value) (x : DataW H × List MemPlace), DataW.trod enc Try.prog w 0 (fun _ => true) true fuel t cs = some x → ∃ a, dd.K w a cs ∧ Wf a
theorem opens_int {t : Nat} {k : IntKind} (ht : Try.prog.underlying t = some (.int k)) : Opens (Kd.int k) t (fun n => (Lit.int k n).wf = true) := fun _ _ _ _ _ _ h => by
  obtain ⟨n, rfl, _, hw⟩ := DataW.trod_int ht h
  exact ⟨n, rfl, hw⟩
theorem opens_bool {t : Nat} (ht : Try.prog.underlying t = some .bool) : Opens Kd.bool t (fun _ => True) := fun _ _ _ _ _ _ h => by
  obtain ⟨n, rfl, _⟩ := DataW.trod_bool ht h
  exact ⟨n, rfl, trivial⟩
theorem opens_string {t : Nat} (ht : Try.prog.underlying t = some .string) : Opens Kd.string t (fun s => s.size ≤ maxLen) := fun _ _ _ _ _ _ h => by
  obtain ⟨n, rfl, _, hw⟩ := DataW.trod_string ht h
  exact ⟨n, rfl, hw⟩
theorem opens_row {α : Type} [Inhabited α] {dd : Kd α} {t e : Nat} {Wf : α → Prop} (ht : Try.prog.underlying t = some (.slice e)) (hc : Try.prog.cellsOf e = dd.sz) (he : Opens dd e Wf) {H : Type} {enc : TypeId × Value → H} {w : World} {fuel : Nat} {cs : List Value} {x : DataW H × List MemPlace}
    (h : DataW.trod enc Try.prog w 0 (fun _ => true) true fuel t cs = some x) : ∃ (l : List α) (A : Option Addr) (c : Nat), cs = [.slice A l.length c] ∧ l.length ≤ c ∧ dd.C w A l.length l ∧ ∀ y ∈ l, Wf y := by
  rcases open_slice ht h with ⟨rfl, _⟩ | ⟨a, len, cap, m, n, D, Pl, rfl, _, hl, hm, hmm, _, hx⟩
  · exact ⟨[], none, 0, rfl, Nat.le_refl _, Kd.C_nil _ _, fun y hy => by cases hy⟩
  · have hm' : m = cap := by rw [hmm]; rfl
    obtain ⟨f, hf⟩ := choose_lt (n := len) (p := fun i (y : α) => ∃ cs', w.cells? 0 (a.add (i * Try.prog.cellsOf e)) (Try.prog.cellsOf e) = some cs' ∧ dd.K w y cs' ∧ Wf y) (fun i hi => by
      obtain ⟨cs', h1, h2⟩ := hx i (by omega)
      obtain ⟨y, h3, h4⟩ := he H enc w n cs' _ h2
      exact ⟨y, cs', h1, h3, h4⟩)
    have hlen : ((List.range len).map f).length = len := by simp
    refine ⟨(List.range len).map f, some a, cap, by rw [hlen], by rw [hlen]; exact hl, ⟨rfl, by rw [hlen]; unfold maxLen at hm; omega, fun _ => ⟨a, rfl, fun j p hj => ?_⟩⟩, fun y hy => ?_⟩
    · obtain ⟨hjl, hjp⟩ := List.getElem?_eq_some_iff.1 hj
      rw [hlen] at hjl
      have hp : f j = p := by simpa using hjp
      obtain ⟨cs', h1, h2, _⟩ := hf j hjl
      obtain ⟨_, hs, hcell⟩ := World.cells?_some h1
      rw [hc] at hs
      refine ⟨cs', hs, hp ▸ h2, fun i u hu => ?_⟩
      have hi : i < dd.sz := by rw [← hs]; exact (List.getElem?_eq_some_iff.1 hu).1
      have := hcell i (by rw [hc]; exact hi)
      rw [Deep.add_add, hc] at this
      rw [this, hu]
    · obtain ⟨j, hj, rfl⟩ := List.mem_map.1 hy
      obtain ⟨cs', _, _, h3⟩ := hf j (List.mem_range.1 hj)
      exact h3
theorem opens_slice {α : Type} [Inhabited α] {dd : Kd α} {t e : Nat} {Wf : α → Prop} (q : Nat) (ht : Try.prog.underlying t = some (.slice e)) (hc : Try.prog.cellsOf e = dd.sz) (he : Opens dd e Wf) : Opens (Kd.slice q dd) t (fun l => ∀ y ∈ l, Wf y) := fun _ _ _ _ _ _ h => by
  obtain ⟨l, A, c, h1, h2, h3, h4⟩ := opens_row ht hc he h
  exact ⟨l, ⟨A, c, h1, h2, h3⟩, h4⟩
/-- A struct all of whose fields are one cell each. -/
theorem struct_cells {H : Type} {enc : TypeId × Value → H} {w : World} {fuel t : Nat} {cs : List Value} {x : DataW H × List MemPlace} {fs : Array Field} (ht : Try.prog.underlying t = some (.struct fs)) (hsz : Try.prog.cellsOf t = fs.size) (hone : ∀ (i : Nat) (f : Field), fs[i]? = some f → f.offset = i ∧ Try.prog.cellsOf f.type = 1)
    (h : DataW.trod enc Try.prog w 0 (fun _ => true) true fuel t cs = some x) : cs.length = fs.size ∧ ∃ n, ∀ (i : Nat) (f : Field) (u : Value), fs[i]? = some f → cs[i]? = some u → ∃ y, DataW.trod enc Try.prog w 0 (fun _ => true) true n f.type [u] = some y := by
  obtain ⟨xs, n, _, _, hl, hx, hf⟩ := DataW.trod_struct ht h
  refine ⟨by rw [hl, hsz], n, fun i f u hfi hu => ?_⟩
  have h1 := hf i f hfi
  obtain ⟨h2, h3⟩ := hone i f hfi
  rw [h2, h3] at h1
  have hi : i < cs.length := (List.getElem?_eq_some_iff.1 hu).1
  have e : (cs.drop i).take 1 = [u] := by
    rw [List.drop_eq_getElem_cons hi]
    simp [(List.getElem?_eq_some_iff.1 hu).2]
  rw [e] at h1
  have hfs : i < fs.size := (Array.getElem?_eq_some_iff.1 hfi).1
  exact ⟨xs[i]'(by omega), by rw [h1]; exact List.getElem?_eq_getElem _⟩
instance : Inhabited Cf := ⟨⟨0, false⟩⟩
theorem opens_cf : Opens kCf 68 (fun x => (Lit.int .i64 x.f0).wf = true) := fun _ _ _ _ cs _ h => by
  obtain ⟨hl, n, hf⟩ := struct_cells Try.underlying68 (by kernel_rfl) (by
    intro i f hf
    have hi := (Array.getElem?_eq_some_iff.1 hf).1
    match i, hi with
    | 0, _ => cases hf; exact ⟨rfl, by kernel_rfl⟩
    | 1, _ => cases hf; exact ⟨rfl, by kernel_rfl⟩) h
  match cs, hl with
  | [u0, u1], _ =>
    obtain ⟨y0, h0⟩ := hf 0 _ u0 rfl rfl
    obtain ⟨y1, h1⟩ := hf 1 _ u1 rfl rfl
    obtain ⟨a0, k0, w0⟩ := opens_int Try.underlying3 _ _ _ _ _ _ h0
    obtain ⟨a1, k1, _⟩ := opens_bool Try.underlying4 _ _ _ _ _ _ h1
    cases k0
    cases k1
    exact ⟨⟨a0, a1⟩, kCf_mk _ ⟨a0, a1⟩, w0⟩
theorem cfs_row {H : Type} {enc : TypeId × Value → H} {W : World} {a : Option Addr} {len cap : Nat} {d : DataW H} {ps : List MemPlace} (h : DataW.Trod enc Try.prog W 0 (fun _ => true) true 23 (.slice a len cap) d ps) : ∃ l : List Cf, len = l.length ∧ l.length ≤ cap ∧ Kd.C kCf W a l.length l := by
  obtain ⟨fuel, hf⟩ := h
  obtain ⟨l, A, c, he, hl, hC, _⟩ := opens_row (dd := kCf) Try.underlying23 (by kernel_rfl) opens_cf hf
  simp [Value.cells] at he
  obtain ⟨rfl, rfl, rfl⟩ := he
  exact ⟨l, rfl, hl, hC⟩
theorem bytes_row {H : Type} {enc : TypeId × Value → H} {W : World} {a : Option Addr} {len cap : Nat} {d : DataW H} {ps : List MemPlace} (h : DataW.Trod enc Try.prog W 0 (fun _ => true) true 22 (.slice a len cap) d ps) : ∃ l : List Int, len = l.length ∧ l.length ≤ cap ∧ Kd.C kB W a l.length l ∧ ∀ y ∈ l, 0 ≤ y ∧ y ≤ 255 := by
  obtain ⟨fuel, hf⟩ := h
  obtain ⟨l, A, c, he, hl, hC, hw⟩ := opens_row (dd := kB) Try.underlying22 (by kernel_rfl) (opens_int Try.underlying5) hf
  simp [Value.cells] at he
  obtain ⟨rfl, rfl, rfl⟩ := he
  exact ⟨l, rfl, hl, hC, fun y hy => bounds_u8 (hw y hy)⟩
abbrev kBB : Kd (List Int) := Kd.slice 5 kB
theorem brows_row {H : Type} {enc : TypeId × Value → H} {W : World} {a : Option Addr} {len cap : Nat} {d : DataW H} {ps : List MemPlace} (h : DataW.Trod enc Try.prog W 0 (fun _ => true) true 40 (.slice a len cap) d ps) : ∃ l : List (List Int), len = l.length ∧ l.length ≤ cap ∧ Kd.C kBB W a l.length l ∧ ∀ x ∈ l, ∀ y ∈ x, 0 ≤ y ∧ y ≤ 255 := by
  obtain ⟨fuel, hf⟩ := h
  obtain ⟨l, A, c, he, hl, hC, hw⟩ := opens_row (dd := kBB) Try.underlying40 (by kernel_rfl) (opens_slice 5 Try.underlying22 (by kernel_rfl) (opens_int Try.underlying5)) hf
  simp [Value.cells] at he
  obtain ⟨rfl, rfl, rfl⟩ := he
  exact ⟨l, rfl, hl, hC, fun x hx y hy => bounds_u8 (hw x hx y hy)⟩
end Go.Proofs.Ytehhafnjbkbmjaa.Disk
