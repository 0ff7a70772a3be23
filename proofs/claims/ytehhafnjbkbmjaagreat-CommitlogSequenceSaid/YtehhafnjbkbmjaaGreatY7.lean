/- Rewrite, Append, Open, lives. -/
import Derived.Test.YtehhafnjbkbmjaaGreatY6
import Derived.Deep.RegionHeld3
import Derived.Lib.SlBytesConst
import Derived.Test.YtehhafnjbkbmjaaGreatY4
/- commitlog: the steps of Rewrite, each a closure. -/
namespace Go.Proofs.YtehhafnjbkbmjaaGreat.Disk
open Go Go.RowKit Go.Proofs.YtehhafnjbkbmjaaGreatW.PrintWords Go.Proofs.YtehhafnjbkbmjaaGreatW.PrintLast Go.Proofs.YtehhafnjbkbmjaaGreatW.PrintMore Go.Proofs.YtehhafnjbkbmjaaGreat.PCommitlogSequence
section
variable (w : World) (F : Nat → Prop) (d : Nat) (L : Lay) (S : PS) (B : Nat) (b0 b1 b2 : Nat) (t n : ByteArray)
theorem lstep1_calls (h : Rep w F d L S (Live S)) (hg : Good S B) (hB : B ≤ 549755813888) (h0 : w.cell? ⟨b0, 0, none⟩ = some (.pointer (some ⟨d, 0, none⟩))) (h1 : w.cell? ⟨b1, 0, none⟩ = some (.string t)) :
    Calls Tryz.prog 102 #[.pointer (some ⟨b0, 0, none⟩), .pointer (some ⟨b1, 0, none⟩)] w fun e w' => e = .returned (.int .i64 (pCreate S t).2) ∧ After w F d (pCreate S t).1 w' := by
  have H := Lib.hid h
  have HG := Lib.hid hg
  clear h hg
  go_enter Tryz.func102, Tryz.ntmps102
  go_wp2_with (first | (go_at_call 31; refine (Create_calls _ F d L S B t H.out HG.out hB).mono ?_; rintro e w3 ⟨rfl, ha⟩; have HA := Lib.hid ha; clear ha) | fail)
  go_ret
  exact ⟨rfl, HA.out⟩
theorem lstep3_calls (h : Rep w F d L S (Live S)) (hg : Good S B) (hB : B ≤ 549755813888) (h0 : w.cell? ⟨b0, 0, none⟩ = some (.pointer (some ⟨d, 0, none⟩))) (h1 : w.cell? ⟨b1, 0, none⟩ = some (.string t)) :
    Calls Tryz.prog 104 #[.pointer (some ⟨b0, 0, none⟩), .pointer (some ⟨b1, 0, none⟩)] w fun e w' => e = .returned (.int .i64 (pSync S t).2) ∧ After w F d (pSync S t).1 w' := by
  have H := Lib.hid h
  have HG := Lib.hid hg
  clear h hg
  go_enter Tryz.func104, Tryz.ntmps104
  go_wp2_with (first | (go_at_call 63; refine (Sync_calls _ F d L S B t H.out HG.out hB).mono ?_; rintro e w3 ⟨rfl, ha⟩; have HA := Lib.hid ha; clear ha) | fail)
  go_ret
  exact ⟨rfl, HA.out⟩
theorem lstep4_calls (h : Rep w F d L S (Live S)) (hg : Good S B) (hB : B ≤ 549755813888) (h0 : w.cell? ⟨b0, 0, none⟩ = some (.pointer (some ⟨d, 0, none⟩))) (h1 : w.cell? ⟨b1, 0, none⟩ = some (.string t)) (h2 : w.cell? ⟨b2, 0, none⟩ = some (.string n)) :
    Calls Tryz.prog 105 #[.pointer (some ⟨b0, 0, none⟩), .pointer (some ⟨b1, 0, none⟩), .pointer (some ⟨b2, 0, none⟩)] w fun e w' => e = .returned (.int .i64 (pRename S t n).2) ∧ After w F d (pRename S t n).1 w' := by
  have H := Lib.hid h
  have HG := Lib.hid hg
  clear h hg
  go_enter Tryz.func105, Tryz.ntmps105
  go_wp2_with (first | (go_at_call 65; refine (Rename_calls _ F d L S B t n H.out HG.out hB).mono ?_; rintro e w3 ⟨rfl, ha⟩; have HA := Lib.hid ha; clear ha) | fail)
  go_ret
  exact ⟨rfl, HA.out⟩
theorem lstep2_calls (A : Option Addr) (c : Nat) (l : List Int) (h : Rep w F d L S (Live S)) (hg : Good S B) (hB : B ≤ 549755813888)
    (h0 : w.cell? ⟨b0, 0, none⟩ = some (.pointer (some ⟨d, 0, none⟩))) (h1 : w.cell? ⟨b1, 0, none⟩ = some (.string t)) (h2 : w.cell? ⟨b2, 0, none⟩ = some (.slice A l.length c)) (hC : Kd.C kB w A l.length l) (hl : l.length ≤ 549755813888) :
    Calls Tryz.prog 103 #[.pointer (some ⟨b0, 0, none⟩), .pointer (some ⟨b1, 0, none⟩), .pointer (some ⟨b2, 0, none⟩)] w fun e w' => e = .returned (.int .i64 (pAppend S t l).2) ∧ After w F d (pAppend S t l).1 w' := by
  have H := Lib.hid h
  have HG := Lib.hid hg
  have HC := Lib.hid hC
  clear h hg hC
  go_enter Tryz.func103, Tryz.ntmps103
  go_wp2_with (first | (go_at_call 33; refine (Append_calls _ F d L S B t A l c HC.out (by omega) H.out HG.out hB).mono ?_; rintro e w3 ⟨rfl, ha⟩; have HA := Lib.hid ha; clear ha) | fail)
  go_ret
  exact ⟨rfl, HA.out⟩
end
end Go.Proofs.YtehhafnjbkbmjaaGreat.Disk

/- commitlog: what Rewrite, Append and Open do to a disk, plain; the steps of Rewrite in a row. -/
namespace Go.Proofs.YtehhafnjbkbmjaaGreat.Disk
open Go Go.RowKit Go.Proofs.YtehhafnjbkbmjaaGreatW.PrintWords Go.Proofs.YtehhafnjbkbmjaaGreatW.PrintLast Go.Proofs.YtehhafnjbkbmjaaGreatW.PrintMore Go.Proofs.YtehhafnjbkbmjaaGreat.PCommitlogSequence
def recsF (xs : List LE) : List Int := xs.flatMap recF
def pRewrite (S : PS) (n : ByteArray) (xs : List LE) : PS × Int := if xs.all validB then pReplace S (tmpOf n) n (recsF xs) else (S, 1)
def pLogAppend (S : PS) (n : ByteArray) (x : LE) : PS × Int :=
  if validB x then (if (pAppend S n (recF x)).2 = 0 then pSync (pAppend S n (recF x)).1 n else pAppend S n (recF x)) else (S, 1)
def pOpen (S : PS) (n : ByteArray) : PS × List LE × Int :=
  if pHas S n then
    (if (pRead S n).2 = 0 then
      (if (scanF (pRead S n).1).2 = (pRead S n).1.length then (S, (scanF (pRead S n).1).1, 0)
       else if (pRewrite S n (scanF (pRead S n).1).1).2 = 0 then ((pRewrite S n (scanF (pRead S n).1).1).1, (scanF (pRead S n).1).1, 0) else ((pRewrite S n (scanF (pRead S n).1).1).1, [], (pRewrite S n (scanF (pRead S n).1).1).2))
     else (S, [], (pRead S n).2))
  else ((pRewrite S n []).1, [], (pRewrite S n []).2)
/-- The five closures, in a row. -/
structure FnsL (w : World) (F : Nat → Prop) (d b0 b1 b2 b3 g : Nat) : Prop where
  g0 : w.cell? ⟨g, 0, none⟩ = some (Value.func (Fn.func 102) #[] #[.pointer (some ⟨b0, 0, none⟩), .pointer (some ⟨b1, 0, none⟩)])
  g1 : w.cell? ⟨g, 1, none⟩ = some (Value.func (Fn.func 103) #[] #[.pointer (some ⟨b0, 0, none⟩), .pointer (some ⟨b1, 0, none⟩), .pointer (some ⟨b2, 0, none⟩)])
  g2 : w.cell? ⟨g, 2, none⟩ = some (Value.func (Fn.func 104) #[] #[.pointer (some ⟨b0, 0, none⟩), .pointer (some ⟨b1, 0, none⟩)])
  g3 : w.cell? ⟨g, 3, none⟩ = some (Value.func (Fn.func 105) #[] #[.pointer (some ⟨b0, 0, none⟩), .pointer (some ⟨b1, 0, none⟩), .pointer (some ⟨b3, 0, none⟩)])
  g4 : w.cell? ⟨g, 4, none⟩ = some (Value.func (Fn.func 66) #[.pointer (some ⟨d, 0, none⟩)] #[])
  ng : ¬ F g
theorem FnsL.chg {w w' : World} {F F' : Nat → Prop} {d b0 b1 b2 b3 g : Nat} (h : FnsL w F d b0 b1 b2 b3 g) (hc : Chg w F w' F') : FnsL w' F' d b0 b1 b2 b3 g := by
  have lt : g < w.heap.size := World.block_lt_of_cell? w ⟨g, 0, none⟩ h.g0
  have keep : ∀ {j : Nat} {x : Value}, w.cell? ⟨g, j, none⟩ = some x → w'.cell? ⟨g, j, none⟩ = some x := fun {j x} hq => (World.cell?_of_block (hc.fr.block g lt h.ng)).trans hq
  refine ⟨keep h.g0, keep h.g1, keep h.g2, keep h.g3, keep h.g4, fun e => ?_⟩
  rcases hc.new g e with h1 | h1
  · exact h.ng h1
  · omega
def RunRelL (w : World) (F : Nat → Prop) (d b0 b1 b2 b3 g : Nat) (S : PS) (t n : ByteArray) (A : Option Addr) (c : Nat) (l : List Int) (i : Value) (wx : World) : Prop :=
  ∃ (j : Nat) (F' : Nat → Prop) (L' : Lay), j ≤ 5 ∧ i = .int .i64 j ∧ (runTo S t n l (j + 1)).2 = 0 ∧ Rep wx F' d L' (runTo S t n l (j + 1)).1 (Live (runTo S t n l (j + 1)).1) ∧ Chg w F wx F' ∧ Env wx F' d b0 b1 b2 b3 t n A c l ∧ FnsL wx F' d b0 b1 b2 b3 g
theorem run_nextL {w w3 wx : World} {F F' : Nat → Prop} {d b0 b1 b2 b3 g j : Nat} {S : PS} {t n : ByteArray} {A : Option Addr} {c : Nat} {l : List Int} {r : PS × Int} {cd : Int} (hj : j < 5) (hc : Chg w F wx F') (he : Env wx F' d b0 b1 b2 b3 t n A c l) (hf : FnsL wx F' d b0 b1 b2 b3 g) (hr : r = runTo S t n l (j + 1 + 1)) (hcd : cd = r.2) (ha : After wx F' d r.1 w3) (h1 : (cd != 0) = false) :
    RunRelL w F d b0 b1 b2 b3 g S t n A c l (.int .i64 ((j + 1 : Nat) : Int)) w3 := by
  subst hr
  subst hcd
  obtain ⟨F3, L3, hr, hc3⟩ := ha
  exact ⟨j + 1, F3, L3, by omega, rfl, by simpa using h1, hr, hc.trans hc3, he.chg hc3, hf.chg hc3⟩
end Go.Proofs.YtehhafnjbkbmjaaGreat.Disk

/- commitlog: Rewrite, the walk. -/
namespace Go.Proofs.YtehhafnjbkbmjaaGreat.Disk
open Go Go.RowKit Go.Proofs.YtehhafnjbkbmjaaGreatW.PrintWords Go.Proofs.YtehhafnjbkbmjaaGreatW.PrintLast Go.Proofs.YtehhafnjbkbmjaaGreatW.PrintMore Go.Proofs.YtehhafnjbkbmjaaGreat.PCommitlogSequence
theorem recF_length {x : LE} (hv : validB x = true) : (recF x).length ≤ 1100 := by
  have h1 := bodyF_length (x := x) (by have := validB_size hv; omega)
  have h2 := encV_length (bodyF x).length
  have h3 : ∀ n, (le4 n).length = 4 := fun _ => rfl
  unfold recF
  simp only [List.length_append, h3]
  omega
theorem recsF_length : ∀ {xs : List LE}, (∀ x ∈ xs, validB x = true) → (recsF xs).length ≤ 1100 * xs.length
  | [], _ => Nat.le_refl _
  | x :: xs, h => by
    have h1 := recF_length (h x List.mem_cons_self)
    have h2 := recsF_length (xs := xs) (fun y hy => h y (List.mem_cons_of_mem _ hy))
    unfold recsF at h2 ⊢
    simp only [List.flatMap_cons, List.length_append, List.length_cons]
    omega
theorem recF_bytes (x : LE) : ∀ y ∈ recF x, 0 ≤ y ∧ y ≤ 255 := by
  intro y hy
  unfold recF at hy
  rcases List.mem_append.1 hy with hy | hy
  · exact encV_bytes _ y hy
  · rcases List.mem_append.1 hy with hy | hy
    · exact bodyF_bytes x y hy
    · exact le4_ok _ y hy
theorem recsF_bytes (xs : List LE) : ∀ y ∈ recsF xs, 0 ≤ y ∧ y ≤ 255 := by
  intro y hy
  obtain ⟨x, _, hy⟩ := List.mem_flatMap.1 hy
  exact recF_bytes x y hy
theorem recsF_snoc (xs : List LE) (x : LE) : recsF (xs ++ [x]) = recsF xs ++ recF x := by simp [recsF]
theorem rd_le {xs : List LE} {j : Nat} (h : j < xs.length) : rd_T46 xs (j : Int) = xs[j] := by simp [rd_T46, List.getD, h]
theorem chg_alloc {wb wc : World} {F F1 : Nat → Prop} (h : Chg wb F wc F1) (o : Obj) : Chg wc F1 (wc.alloc o) F1 := Chg.up ⟨Fr.refl _ _, fun _ hk => .inl hk, h.lt⟩ o
def fiveFns (d b0 b1 b2 b3 : Nat) : Array Value := #[Value.func (Fn.func 102) #[] #[.pointer (some ⟨b0, 0, none⟩), .pointer (some ⟨b1, 0, none⟩)], Value.func (Fn.func 103) #[] #[.pointer (some ⟨b0, 0, none⟩), .pointer (some ⟨b1, 0, none⟩), .pointer (some ⟨b2, 0, none⟩)], Value.func (Fn.func 104) #[] #[.pointer (some ⟨b0, 0, none⟩), .pointer (some ⟨b1, 0, none⟩)], Value.func (Fn.func 105) #[] #[.pointer (some ⟨b0, 0, none⟩), .pointer (some ⟨b1, 0, none⟩), .pointer (some ⟨b3, 0, none⟩)], Value.func (Fn.func 66) #[.pointer (some ⟨d, 0, none⟩)] #[]]
theorem fnsL_new {wb wc : World} {F F1 : Nat → Prop} {d b0 b1 b2 b3 tf : Nat} (hc : Chg wb F wc F1) : FnsL (wc.alloc (.cells (fiveFns d b0 b1 b2 b3) tf)) F1 d b0 b1 b2 b3 wc.heap.size := by
  have five : ∀ j, (wc.alloc (.cells (fiveFns d b0 b1 b2 b3) tf)).cell? ⟨wc.heap.size, j, none⟩ = (fiveFns d b0 b1 b2 b3)[j]? := fun j => cell_blk (heap_alloc_new wc _) j
  exact ⟨five 0, five 1, five 2, five 3, five 4, fun e => by have := hc.lt _ e; omega⟩
def AllRel (w2 : World) (g : Nat) (xs : List LE) (i : Value) (wx : World) : Prop :=
  ∃ (j : Nat) (v : Value), j ≤ xs.length ∧ i = .int .i64 j ∧ (∀ x ∈ xs.take j, validB x = true) ∧ wx.heap[g]? = some (.cells #[v] 36 (0, 0)) ∧ Kd.R kB 5 wx w2.heap.size (fun k => k ≠ g) v (recsF (xs.take j)) ∧ Below w2.heap.size w2 wx
set_option maxHeartbeats 8000000 in
set_option maxRecDepth 100000 in
theorem Rewrite_calls (w : World) (F : Nat → Prop) (d : Nat) (L : Lay) (S : PS) (B m : Nat) (n : ByteArray) (A : Option Addr) (c : Nat) (xs : List LE) (h : Rep w F d L S (Live S)) (hF : ∀ k, F k → k < w.heap.size) (hs : Sound S B) (hm : 100 ≤ m) (hbm : 1100 * xs.length ≤ m) (hB : B + m * 6 ≤ 549755813888)
    (hC : Kd.C kLE w A xs.length xs) (hwf : ∀ x ∈ xs, WfLE x) (hlx : xs.length ≤ 65536) (hn : n.size ≤ 1000000) :
    Calls Tryz.prog 46 #[.pointer (some ⟨d, 0, none⟩), .string n, .slice A xs.length c] w fun e w' => e = .returned (.int .i64 (pRewrite S n xs).2) ∧ After w F d (pRewrite S n xs).1 w' := by
  have H := Lib.hid h
  have HF := Lib.hid hF
  have HS := Lib.hid hs
  have HC := Lib.hid hC
  have HWF := Lib.hid hwf
  have hlx' : decide ((65536 : Int) < (xs.length : Int)) = false := by simp; omega
  obtain ⟨w2, hw2⟩ : ∃ w2, w2 = (w.alloc (.cells #[.pointer (some ⟨d, 0, none⟩)] 25)).alloc (.cells #[.string n] 9) := ⟨_, rfl⟩
  have HW2 := Lib.hid hw2
  have hsz2 : w2.heap.size = w.heap.size + 1 + 1 := by rw [hw2]; simp
  have hb2 : Below w.heap.size w w2 := by rw [hw2]; exact (Below.of_alloc' w _).trans ((Below.of_alloc' _ _).mono (by simp))
  have r0 : w2.cell? ⟨w.heap.size, 0, none⟩ = some (.pointer (some ⟨d, 0, none⟩)) := by rw [hw2]; exact cell_alloc (cell_new rfl) _
  have r1 : w2.cell? ⟨w.heap.size + 1, 0, none⟩ = some (.string n) := by rw [hw2]; exact cell_new (by simp)
  have HB2 := Lib.hid hb2
  have HR0 := Lib.hid r0
  have HR1 := Lib.hid r1
  have HSZ := Lib.hid hsz2
  clear h hF hs hC hwf hw2 hb2 r0 r1 hsz2
  go_enter Tryz.func46, Tryz.ntmps46
  go_wp2_with fail
  rw [← HW2.out]
  go_loopw [24] (fun i wx => AllRel w2 (w.heap.size + 1 + 1) xs i wx) (fun i _ => xs.length - (intOf i).toNat)
  case atStart => exact ⟨0, .slice none 0 0, Nat.zero_le _, rfl, (by simp), by rw [← HSZ.out]; exact heap_alloc_new w2 _, Kd.R_nil _ _ _ _ _, Below.of_alloc' w2 _⟩
  case round =>
    obtain ⟨j, v, hj, rfl, hval, hg, hr, hb⟩ := hrel
    have HV := Lib.hid hval
    have HG := Lib.hid hg
    have HR := Lib.hid hr
    have HB := Lib.hid hb
    have HCX := Lib.hid (Kd.C_below HC.out (HB2.out.trans (hb.mono HB2.out.size)))
    clear hval hg hr hb
    by_cases hlt : j < xs.length
    · have hltI : (j : Int) < (xs.length : Int) := by omega
      have h0I : (0 : Int) ≤ (j : Int) := by omega
      obtain ⟨ad, hA, q0, q1, q2, q3, q4, q5⟩ := at_T46 HCX.out (j : Int) h0I hltI
      subst hA
      rw [Int.toNat_natCast] at q0 q1 q2 q3 q4 q5
      obtain ⟨x, hx⟩ : ∃ x, x = rd_T46 xs (j : Int) := ⟨_, rfl⟩
      rw [← hx] at q0 q1 q2 q3 q4 q5
      rw [rd_le hlt] at hx
      have HX := Lib.hid hx
      have HXW := Lib.hid (show WfLE x by rw [hx]; exact HWF.out _ (List.getElem_mem hlt))
      have HTK := Lib.hid (show xs.take (j + 1) = xs.take j ++ [x] by rw [hx, List.take_add_one, List.getElem?_eq_getElem hlt]; rfl)
      clear hx
      cases hvx : validB x
      · have HNV := Lib.hid (show pRewrite S n xs = (S, 1) by
          have e : xs.all validB = false := by
            rw [List.all_eq_false]
            exact ⟨x, by rw [HX.out]; exact List.getElem_mem hlt, by rw [hvx]; exact Bool.false_ne_true⟩
          unfold pRewrite
          rw [e]
          rfl)
        have HEN := Lib.hid (enc_no hvx)
        clear hvx
        go_wp2_with (first
          | (go_at_call 39; refine (Enc_calls _ x HXW.out).mono ?_; rw [HEN.out]; rintro e w3 ⟨A1, c1, rfl, hrd, hb3⟩; have HB3 := Lib.hid ((HB2.out.trans (HB.out.mono HB2.out.size)).trans (((Below.of_alloc' wr _).trans (hb3.mono (by simp))).mono (Nat.le_trans HB2.out.size HB.out.size))); clear hrd hb3)
          | fail)
        go_ret
        rw [HNV.out]
        exact ⟨rfl, After.same (H.out.below HB3.out) (Below.toFr HB3.out _)⟩
      · have HEN := Lib.hid (enc_yes hvx)
        have HVX := Lib.hid hvx
        have HRL := Lib.hid (recF_length hvx)
        have HRS := Lib.hid (recsF_length HV.out)
        have hjl : (xs.take j).length = j := by simp; omega
        clear hvx
        obtain ⟨z0, z1⟩ : wr.cell? ⟨w.heap.size + 1 + 1, 0, none⟩ = some v ∧ wr.frozen? ⟨w.heap.size + 1 + 1, 0, none⟩ = false := ⟨cell_blk HG.out 0, frozen_blk HG.out 0⟩
        have hgl := lt_blk HG.out
        go_wp2_with (first
          | (go_at_call 39; refine (Enc_calls _ x HXW.out).mono ?_; rw [HEN.out]; rintro e w3 ⟨A1, c1, rfl, hrd, hb3⟩; have HRD := Lib.hid hrd; have hb3' := (Below.of_alloc' wr _).trans (hb3.mono (by simp)); have HB3 := Lib.hid hb3'; have HG3 := Lib.hid ((hb3'.block _ (lt_blk HG.out)).trans HG.out); have y0 := cell_blk HG3.out 0; have y1 := frozen_blk HG3.out 0; have HR3 := Lib.hid (Kd.R_below HR.out hb3'); simp at y0; clear hrd hb3 hb3')
          | ((with_reducible refine gate_builtin (b := .append) (xs := #[.tmp 36, .tmp 37]) rfl ?_); (at_builtin; refine Kd.R_append_row (Value.int .u8) (0 : Int) (w0 := w2) w2.heap.size rfl (.tmp 36) (.tmp 37) 36 5 (.int .u8 0) 1 rfl Tryz.underlying36 infoB rfl (by decide) v (recsF (xs.take j)) (recF x) A1 (recF x).length c1 (fun k => k ≠ w.heap.size + 1 + 1) rfl rfl (fun k hk => by have := HB3.out.size; omega) HR3.out HRD.out.now (HB.out.trans (HB3.out.mono HB.out.size)) (Nat.le_trans HB.out.size HB3.out.size) (by have := HRL.out; have := HRS.out; omega) ?_; intro v1 w4 hr4 hb4 hg4 hat4; obtain ⟨A4, c4, rfl⟩ := Kd.R_slice hr4; have HR4 := Lib.hid hr4; have HB4 := Lib.hid hb4; have hh := (hg4.block (w.heap.size + 1 + 1) (lt_blk HG3.out) (Kd.R_away HR3.out (fun _ h => h))).trans HG3.out; have HG4 := Lib.hid hh; have x0 := cell_blk hh 0; have x1 := frozen_blk hh 0; simp at x0; clear hr4 hb4 hg4 hat4 hh))
          | fail)
        go_roundw
        case rel =>
          refine ⟨j + 1, _, by omega, by simp, ?_, blk_set HG4.out 0 _, ?_, HB4.out.setCell (by rw [HSZ.out]; exact Nat.le_refl _) _⟩
          · intro y hy
            rw [HTK.out] at hy
            rcases List.mem_append.1 hy with hy | hy
            · exact HV.out y hy
            · simp at hy
              rw [hy]
              exact HVX.out
          · rw [HTK.out, recsF_snoc]
            have hfar := Kd.R_far HR4.out (p := ⟨w.heap.size + 1 + 1, 0, none⟩) (fun k hk => hk) (.slice A4 ((recsF (xs.take j)).length + (recF x).length) c4)
            rw [List.length_append] at hfar
            exact hfar
        case measure => simp [intOf]; omega
    · obtain rfl : j = xs.length := by omega
      obtain ⟨l, hl⟩ : ∃ l, l = recsF xs := ⟨_, rfl⟩
      have hva := HV.out
      rw [List.take_length] at hva
      have hlen := recsF_length hva
      rw [← hl] at hlen
      have HWL := Lib.hid (show ∀ y ∈ l, 0 ≤ y ∧ y ≤ 255 by rw [hl]; exact recsF_bytes xs)
      obtain ⟨t, ht⟩ : ∃ t, t = tmpOf n := ⟨_, rfl⟩
      have HT := Lib.hid (show t = (⟨#[116, 109, 112, 45]⟩ : ByteArray) ++ n by rw [ht]; rfl)
      have HP := Lib.hid (show pRewrite S n xs = pReplace S t n l by
        unfold pRewrite
        rw [if_pos (by rw [List.all_eq_true]; exact hva), ht, hl])
      have hr := HR.out
      rw [List.take_length, ← hl] at hr
      clear hl ht HV HR hva HC HCX
      obtain ⟨Al, cl, rfl⟩ := Kd.R_slice hr
      obtain ⟨Al', cl', e1, hrd⟩ := Rd.ofR hr
      obtain ⟨rfl, -, rfl⟩ : Al = Al' ∧ l.length = l.length ∧ cl = cl' := by simpa using e1
      have c0 := cell_below HB.out HR0.out
      have c1 := cell_below HB.out HR1.out
      have c2 : wr.cell? ⟨w.heap.size + 1 + 1, 0, none⟩ = some (.slice Al l.length cl) := cell_blk HG.out 0
      have hltr : w.heap.size + 1 + 1 < wr.heap.size := lt_blk HG.out
      obtain ⟨kf, hkf⟩ : ∃ kf, kf = wr.heap.size := ⟨_, rfl⟩
      have HKF := Lib.hid hkf
      obtain ⟨wb, hwb⟩ : ∃ wb, wb = wr.alloc (.cells #[.string t] 9) := ⟨_, rfl⟩
      have HWB := Lib.hid hwb
      have HFR := Lib.hid (show Fr (fun _ => False) w wb by
        rw [hwb]
        exact (Below.toFr (HB2.out.trans (HB.out.mono HB2.out.size)) (fun _ => False)).alloc _)
      have HE := Lib.hid (show Env wb F d w.heap.size kf (w.heap.size + 1 + 1) (w.heap.size + 1) t n Al cl l by
        have nf : ∀ k, w.heap.size ≤ k → ¬ F k := fun k hk hf => by have := HF.out k hf; omega
        rw [hwb, hkf]
        exact ⟨cell_alloc c0 _, cell_new rfl, cell_alloc c2 _, cell_alloc c1 _, (hrd.mono (fun k hk _ => nf k (Nat.le_trans HB2.out.size hk.1))).below (Below.of_alloc' wr _), nf _ (by omega), nf _ (by omega), nf _ (by omega), nf _ (by omega)⟩)
      have HRB := Lib.hid (H.out.fr HFR.out (fun _ _ e => e))
      have HLT := Lib.hid (fun k (hk : F k) => Nat.lt_of_lt_of_le (HF.out k hk) HFR.out.size)
      clear hwb hr e1 hrd hkf c0 c2
      have b0 := HE.out.q0
      have b1 := HE.out.q1
      have HQ := Lib.hid (And.intro b0 b1)
      clear b0 b1
      go_upto_region 15 with (fail)
      rw [← HT.out, ← HWB.out, ← HKF.out]
      have HQ' := Lib.hid (show wb.drew.cell? ⟨w.heap.size, 0, none⟩ = some (.pointer (some ⟨d, 0, none⟩)) ∧ wb.drew.cell? ⟨kf, 0, none⟩ = some (.string t) from HQ.out)
      cases hh : pHas S t
      · have HANY := Lib.hid (show ((S.dir.map (·.f0)).any fun y => decide (y = t)) = false by rw [← hh]; unfold pHas; rw [List.any_map])
        have HZC := Lib.hid (show (runTo S t n l 1).2 = 0 by show (pClear S t).2 = 0; unfold pClear; rw [hh]; rfl)
        have hrun1 : (runTo S t n l 1).1 = S := by show (pClear S t).1 = S; unfold pClear; rw [hh]; rfl
        have HRUN := Lib.hid hrun1
        clear hh hrun1
        go_region_held3 (fun w' => w'.cell? ⟨w.heap.size, 0, none⟩ = some (.pointer (some ⟨d, 0, none⟩)) ∧ w'.cell? ⟨kf, 0, none⟩ = some (.string t))
          (first | exact HQ'.out | exact Q3.out)
          (first
            | (go_at_call 24; refine (List_calls wb.drew F d L S B (HRB.out.move (fun _ _ _ => rfl)) HS.out.good (by omega)).mono ?_; rintro e w3 ⟨v3, rfl, ho, hf⟩; have HO := Lib.hid ho; have hf3 : Fr (fun _ => False) wb w3 := ((Fr.refl (fun _ => False) wb).drewN 1).trans hf (fun _ => .inl); have HF3 := Lib.hid hf3; have Q3 := Lib.hid (show w3.cell? ⟨w.heap.size, 0, none⟩ = some (.pointer (some ⟨d, 0, none⟩)) ∧ w3.cell? ⟨kf, 0, none⟩ = some (.string t) from ⟨cell_below (fr_below hf3) HQ.out.1, cell_below (fr_below hf3) HQ.out.2⟩); clear ho hf hf3)
            | (go_at_call 101; refine (contains_calls _ _ v3 (S.dir.map (·.f0)) t (by have h := HO.out; rwa [show S.dir.length = (S.dir.map (·.f0)).length by simp] at h) (by simp; have := HS.out.good.nDir; omega)).mono ?_; rw [HANY.out]; rintro e w4 ⟨rfl, rfl⟩))
        obtain ⟨F1, hF1⟩ : ∃ F1, F1 = F := ⟨_, rfl⟩
        obtain ⟨L1, hL1⟩ : ∃ L1, L1 = L := ⟨_, rfl⟩
        have HRC := Lib.hid (show Rep w4 F1 d L1 (runTo S t n l 1).1 (Live (runTo S t n l 1).1) by rw [HRUN.out, hF1, hL1]; exact HRB.out.fr HF3.out (fun _ _ e => e))
        have HCC := Lib.hid (show Chg wb F w4 F1 by rw [hF1]; exact Chg.fr2 ⟨Fr.refl _ _, fun k hk => .inl hk, HLT.out⟩ HF3.out)
        clear hF1 hL1
        have p0 := Q3.out.1
        have p1 := Q3.out.2
        go_wp2_with fail
        go_loopw [60] (fun i wx => RunRelL wb F d w.heap.size kf (w.heap.size + 1 + 1) (w.heap.size + 1) w4.heap.size S t n Al cl l i wx) (fun i _ => 5 - (intOf i).toNat)
        case atStart => exact ⟨0, F1, L1, by omega, rfl, HZC.out, HRC.out.alloc _, HCC.out.up _, (HE.out.chg HCC.out).chg (chg_alloc HCC.out _), fnsL_new HCC.out⟩
        case round =>
          obtain ⟨j, F', L', hj, rfl, h0, hr, hcg, he, hf⟩ := hrel
          have HR := Lib.hid hr
          have HC := Lib.hid hcg
          have HE' := Lib.hid he
          have HN' := Lib.hid hf
          have HZ := Lib.hid h0
          have HSJ := Lib.hid (HS.out.runTo (t := t) (n := n) (bs := l) hm (by omega) HWL.out (j + 1))
          have hbj : B + m * (j + 1) ≤ 549755813888 := Nat.le_trans (Nat.add_le_add_left (Nat.mul_le_mul_left m (by omega)) B) hB
          have HGO := Lib.hid (runTo_go h0)
          clear hr hcg he hf h0
          by_cases hlt : j < 5
          · obtain ⟨Sj, hSj⟩ : ∃ Sj, Sj = (runTo S t n l (j + 1)).1 := ⟨_, rfl⟩
            rw [← hSj] at HR HSJ HGO
            clear hSj
            obtain ⟨r, hr⟩ : ∃ r, r = runTo S t n l (j + 1 + 1) := ⟨_, rfl⟩
            have HRR := Lib.hid hr
            rw [← hr] at HGO
            clear hr
            obtain rfl | rfl | rfl | rfl | rfl : j = 0 ∨ j = 1 ∨ j = 2 ∨ j = 3 ∨ j = 4 := by omega
            · have q0 := HN'.out.g0
              have HGO' := Lib.hid (show r = pCreate Sj t from HGO.out)
              go_wp2_with (first | (go_at_call 102; refine (lstep1_calls _ F' d L' Sj _ w.heap.size kf t HR.out HSJ.out.good hbj HE'.out.q0 HE'.out.q1).mono ?_; rw [← HGO'.out]; rintro e w5 ⟨rfl, ha⟩; have HA := Lib.hid ha; clear ha; obtain ⟨cd, hcd⟩ : ∃ cd, cd = r.2 := ⟨_, rfl⟩; rw [← hcd]; have HCD := Lib.hid hcd; clear hcd) | fail)
              · go_ret
                rw [HP.out]
                have hre := run_end (Nat.succ_lt_succ hlt) HC.out HRR.out HCD.out HA.out (by assumption)
                exact ⟨hre.1, hre.2.behind (HFR.out.mono (fun _ hk => hk.elim)) (fun _ => .inl)⟩
              · exact ⟨run_nextL hlt HC.out HE'.out HN'.out HRR.out HCD.out HA.out (by assumption), by simp [intOf]⟩
            · have q0 := HN'.out.g1
              have HGO' := Lib.hid (show r = pAppend Sj t l from HGO.out)
              go_wp2_with (first | (go_at_call 103; refine (lstep2_calls _ F' d L' Sj _ w.heap.size kf (w.heap.size + 1 + 1) t Al cl l HR.out HSJ.out.good hbj HE'.out.q0 HE'.out.q1 HE'.out.q2 HE'.out.row.now (by omega)).mono ?_; rw [← HGO'.out]; rintro e w5 ⟨rfl, ha⟩; have HA := Lib.hid ha; clear ha; obtain ⟨cd, hcd⟩ : ∃ cd, cd = r.2 := ⟨_, rfl⟩; rw [← hcd]; have HCD := Lib.hid hcd; clear hcd) | fail)
              · go_ret
                rw [HP.out]
                have hre := run_end (Nat.succ_lt_succ hlt) HC.out HRR.out HCD.out HA.out (by assumption)
                exact ⟨hre.1, hre.2.behind (HFR.out.mono (fun _ hk => hk.elim)) (fun _ => .inl)⟩
              · exact ⟨run_nextL hlt HC.out HE'.out HN'.out HRR.out HCD.out HA.out (by assumption), by simp [intOf]⟩
            · have q0 := HN'.out.g2
              have HGO' := Lib.hid (show r = pSync Sj t from HGO.out)
              go_wp2_with (first | (go_at_call 104; refine (lstep3_calls _ F' d L' Sj _ w.heap.size kf t HR.out HSJ.out.good hbj HE'.out.q0 HE'.out.q1).mono ?_; rw [← HGO'.out]; rintro e w5 ⟨rfl, ha⟩; have HA := Lib.hid ha; clear ha; obtain ⟨cd, hcd⟩ : ∃ cd, cd = r.2 := ⟨_, rfl⟩; rw [← hcd]; have HCD := Lib.hid hcd; clear hcd) | fail)
              · go_ret
                rw [HP.out]
                have hre := run_end (Nat.succ_lt_succ hlt) HC.out HRR.out HCD.out HA.out (by assumption)
                exact ⟨hre.1, hre.2.behind (HFR.out.mono (fun _ hk => hk.elim)) (fun _ => .inl)⟩
              · exact ⟨run_nextL hlt HC.out HE'.out HN'.out HRR.out HCD.out HA.out (by assumption), by simp [intOf]⟩
            · have q0 := HN'.out.g3
              have HGO' := Lib.hid (show r = pRename Sj t n from HGO.out)
              go_wp2_with (first | (go_at_call 105; refine (lstep4_calls _ F' d L' Sj _ w.heap.size kf (w.heap.size + 1) t n HR.out HSJ.out.good hbj HE'.out.q0 HE'.out.q1 HE'.out.q3).mono ?_; rw [← HGO'.out]; rintro e w5 ⟨rfl, ha⟩; have HA := Lib.hid ha; clear ha; obtain ⟨cd, hcd⟩ : ∃ cd, cd = r.2 := ⟨_, rfl⟩; rw [← hcd]; have HCD := Lib.hid hcd; clear hcd) | fail)
              · go_ret
                rw [HP.out]
                have hre := run_end (Nat.succ_lt_succ hlt) HC.out HRR.out HCD.out HA.out (by assumption)
                exact ⟨hre.1, hre.2.behind (HFR.out.mono (fun _ hk => hk.elim)) (fun _ => .inl)⟩
              · exact ⟨run_nextL hlt HC.out HE'.out HN'.out HRR.out HCD.out HA.out (by assumption), by simp [intOf]⟩
            · have q0 := HN'.out.g4
              have HGO' := Lib.hid (show r = pSyncDir Sj from HGO.out)
              go_wp2_with (first | (go_at_call 66; refine (SyncDir_calls _ F' d L' Sj _ HR.out HSJ.out.good hbj).mono ?_; rw [← HGO'.out]; rintro e w5 ⟨rfl, ha⟩; have HA := Lib.hid ha; clear ha; obtain ⟨cd, hcd⟩ : ∃ cd, cd = r.2 := ⟨_, rfl⟩; rw [← hcd]; have HCD := Lib.hid hcd; clear hcd) | fail)
              · go_ret
                rw [HP.out]
                have hre := run_end (Nat.succ_lt_succ hlt) HC.out HRR.out HCD.out HA.out (by assumption)
                exact ⟨hre.1, hre.2.behind (HFR.out.mono (fun _ hk => hk.elim)) (fun _ => .inl)⟩
              · exact ⟨run_nextL hlt HC.out HE'.out HN'.out HRR.out HCD.out HA.out (by assumption), by simp [intOf]⟩
          · obtain rfl : j = 5 := by omega
            go_wp2_with fail
            go_ret
            rw [HP.out]
            have e : (pReplace S t n l).2 = 0 := HZ.out
            rw [e]
            exact ⟨rfl, After.behind ⟨F', L', HR.out, HC.out⟩ (HFR.out.mono (fun _ hk => hk.elim)) (fun _ => .inl)⟩
      · have HANY := Lib.hid (show ((S.dir.map (·.f0)).any fun y => decide (y = t)) = true by rw [← hh]; unfold pHas; rw [List.any_map])
        obtain ⟨r, hr⟩ : ∃ r, r = runTo S t n l (0 + 1) := ⟨_, rfl⟩
        have HGO1 := Lib.hid (show r = pRemove S t by rw [hr]; show pClear S t = _; unfold pClear; rw [hh]; rfl)
        have HRR1 := Lib.hid hr
        clear hh hr
        go_region_held3 (fun w' => w'.cell? ⟨w.heap.size, 0, none⟩ = some (.pointer (some ⟨d, 0, none⟩)) ∧ w'.cell? ⟨kf, 0, none⟩ = some (.string t))
          (first | exact HQ'.out | exact Q3.out)
          (first
            | (go_at_call 24; refine (List_calls wb.drew F d L S B (HRB.out.move (fun _ _ _ => rfl)) HS.out.good (by omega)).mono ?_; rintro e w3 ⟨v3, rfl, ho, hf⟩; have HO := Lib.hid ho; have hf3 : Fr (fun _ => False) wb w3 := ((Fr.refl (fun _ => False) wb).drewN 1).trans hf (fun _ => .inl); have HF3 := Lib.hid hf3; have Q3 := Lib.hid (show w3.cell? ⟨w.heap.size, 0, none⟩ = some (.pointer (some ⟨d, 0, none⟩)) ∧ w3.cell? ⟨kf, 0, none⟩ = some (.string t) from ⟨cell_below (fr_below hf3) HQ.out.1, cell_below (fr_below hf3) HQ.out.2⟩); clear ho hf hf3)
            | (go_at_call 101; refine (contains_calls _ _ v3 (S.dir.map (·.f0)) t (by have h := HO.out; rwa [show S.dir.length = (S.dir.map (·.f0)).length by simp] at h) (by simp; have := HS.out.good.nDir; omega)).mono ?_; rw [HANY.out]; rintro e w4 ⟨rfl, rfl⟩))
        have HR4 := Lib.hid (HRB.out.fr HF3.out (fun _ _ e => e))
        have HC4 := Lib.hid (show Chg wb F w4 F from Chg.fr2 ⟨Fr.refl _ _, fun k hk => .inl hk, HLT.out⟩ HF3.out)
        have p0 := Q3.out.1
        have p1 := Q3.out.2
        go_wp2_with (first | (go_at_call 58; refine (Remove_calls _ F d L S B t HR4.out HS.out.good (by omega)).mono ?_; rw [← HGO1.out]; rintro e w5 ⟨rfl, ha⟩; have HA := Lib.hid ha; have y0 := cell_after ha HE.out.n0 p0; obtain ⟨cd, hcd⟩ : ∃ cd, cd = r.2 := ⟨_, rfl⟩; rw [← hcd]; have HCD := Lib.hid hcd; clear hcd ha) | fail)
        · go_ret
          rw [HP.out]
          have hre := run_end (by omega) HC4.out HRR1.out HCD.out HA.out (by assumption)
          exact ⟨hre.1, hre.2.behind (HFR.out.mono (fun _ hk => hk.elim)) (fun _ => .inl)⟩
        · have hcz : (cd != 0) = false := by assumption
          obtain rfl : cd = 0 := by simpa using hcz
          have HZC := Lib.hid (show (runTo S t n l 1).2 = 0 by have := HRR1.out; rw [show runTo S t n l 1 = r from this.symm, ← HCD.out])
          obtain ⟨F1, L1, hr1, hc1⟩ := HA.out
          have HRC := Lib.hid (show Rep w5 F1 d L1 (runTo S t n l 1).1 (Live (runTo S t n l 1).1) by rw [show runTo S t n l 1 = r from HRR1.out.symm]; exact hr1)
          have HCC := Lib.hid (HC4.out.trans hc1)
          clear hr1 hc1 HRR1 HCD HGO1 hcz
          go_loopw [60] (fun i wx => RunRelL wb F d w.heap.size kf (w.heap.size + 1 + 1) (w.heap.size + 1) w5.heap.size S t n Al cl l i wx) (fun i _ => 5 - (intOf i).toNat)
          case atStart => exact ⟨0, F1, L1, by omega, rfl, HZC.out, HRC.out.alloc _, HCC.out.up _, (HE.out.chg HCC.out).chg (chg_alloc HCC.out _), fnsL_new HCC.out⟩
          case round =>
            obtain ⟨j, F', L', hj, rfl, h0, hr, hcg, he, hf⟩ := hrel
            have HR := Lib.hid hr
            have HC := Lib.hid hcg
            have HE' := Lib.hid he
            have HN' := Lib.hid hf
            have HZ := Lib.hid h0
            have HSJ := Lib.hid (HS.out.runTo (t := t) (n := n) (bs := l) hm (by omega) HWL.out (j + 1))
            have hbj : B + m * (j + 1) ≤ 549755813888 := Nat.le_trans (Nat.add_le_add_left (Nat.mul_le_mul_left m (by omega)) B) hB
            have HGO := Lib.hid (runTo_go h0)
            clear hr hcg he hf h0
            by_cases hlt : j < 5
            · obtain ⟨Sj, hSj⟩ : ∃ Sj, Sj = (runTo S t n l (j + 1)).1 := ⟨_, rfl⟩
              rw [← hSj] at HR HSJ HGO
              clear hSj
              obtain ⟨r, hr⟩ : ∃ r, r = runTo S t n l (j + 1 + 1) := ⟨_, rfl⟩
              have HRR := Lib.hid hr
              rw [← hr] at HGO
              clear hr
              obtain rfl | rfl | rfl | rfl | rfl : j = 0 ∨ j = 1 ∨ j = 2 ∨ j = 3 ∨ j = 4 := by omega
              · have q0 := HN'.out.g0
                have HGO' := Lib.hid (show r = pCreate Sj t from HGO.out)
                go_wp2_with (first | (go_at_call 102; refine (lstep1_calls _ F' d L' Sj _ w.heap.size kf t HR.out HSJ.out.good hbj HE'.out.q0 HE'.out.q1).mono ?_; rw [← HGO'.out]; rintro e w6 ⟨rfl, ha⟩; have HA := Lib.hid ha; clear ha; obtain ⟨cd, hcd⟩ : ∃ cd, cd = r.2 := ⟨_, rfl⟩; rw [← hcd]; have HCD := Lib.hid hcd; clear hcd) | fail)
                · go_ret
                  rw [HP.out]
                  have hre := run_end (Nat.succ_lt_succ hlt) HC.out HRR.out HCD.out HA.out (by assumption)
                  exact ⟨hre.1, hre.2.behind (HFR.out.mono (fun _ hk => hk.elim)) (fun _ => .inl)⟩
                · go_roundw
                  case rel => exact ⟨_, _, _, _, _, _, _, _, _, _, _, _, _, run_nextL hlt HC.out HE'.out HN'.out HRR.out HCD.out HA.out (by assumption), rfl⟩
                  case measure => simp [intOf]
              · have q0 := HN'.out.g1
                have HGO' := Lib.hid (show r = pAppend Sj t l from HGO.out)
                go_wp2_with (first | (go_at_call 103; refine (lstep2_calls _ F' d L' Sj _ w.heap.size kf (w.heap.size + 1 + 1) t Al cl l HR.out HSJ.out.good hbj HE'.out.q0 HE'.out.q1 HE'.out.q2 HE'.out.row.now (by omega)).mono ?_; rw [← HGO'.out]; rintro e w6 ⟨rfl, ha⟩; have HA := Lib.hid ha; clear ha; obtain ⟨cd, hcd⟩ : ∃ cd, cd = r.2 := ⟨_, rfl⟩; rw [← hcd]; have HCD := Lib.hid hcd; clear hcd) | fail)
                · go_ret
                  rw [HP.out]
                  have hre := run_end (Nat.succ_lt_succ hlt) HC.out HRR.out HCD.out HA.out (by assumption)
                  exact ⟨hre.1, hre.2.behind (HFR.out.mono (fun _ hk => hk.elim)) (fun _ => .inl)⟩
                · go_roundw
                  case rel => exact ⟨_, _, _, _, _, _, _, _, _, _, _, _, _, run_nextL hlt HC.out HE'.out HN'.out HRR.out HCD.out HA.out (by assumption), rfl⟩
                  case measure => simp [intOf]
              · have q0 := HN'.out.g2
                have HGO' := Lib.hid (show r = pSync Sj t from HGO.out)
                go_wp2_with (first | (go_at_call 104; refine (lstep3_calls _ F' d L' Sj _ w.heap.size kf t HR.out HSJ.out.good hbj HE'.out.q0 HE'.out.q1).mono ?_; rw [← HGO'.out]; rintro e w6 ⟨rfl, ha⟩; have HA := Lib.hid ha; clear ha; obtain ⟨cd, hcd⟩ : ∃ cd, cd = r.2 := ⟨_, rfl⟩; rw [← hcd]; have HCD := Lib.hid hcd; clear hcd) | fail)
                · go_ret
                  rw [HP.out]
                  have hre := run_end (Nat.succ_lt_succ hlt) HC.out HRR.out HCD.out HA.out (by assumption)
                  exact ⟨hre.1, hre.2.behind (HFR.out.mono (fun _ hk => hk.elim)) (fun _ => .inl)⟩
                · go_roundw
                  case rel => exact ⟨_, _, _, _, _, _, _, _, _, _, _, _, _, run_nextL hlt HC.out HE'.out HN'.out HRR.out HCD.out HA.out (by assumption), rfl⟩
                  case measure => simp [intOf]
              · have q0 := HN'.out.g3
                have HGO' := Lib.hid (show r = pRename Sj t n from HGO.out)
                go_wp2_with (first | (go_at_call 105; refine (lstep4_calls _ F' d L' Sj _ w.heap.size kf (w.heap.size + 1) t n HR.out HSJ.out.good hbj HE'.out.q0 HE'.out.q1 HE'.out.q3).mono ?_; rw [← HGO'.out]; rintro e w6 ⟨rfl, ha⟩; have HA := Lib.hid ha; clear ha; obtain ⟨cd, hcd⟩ : ∃ cd, cd = r.2 := ⟨_, rfl⟩; rw [← hcd]; have HCD := Lib.hid hcd; clear hcd) | fail)
                · go_ret
                  rw [HP.out]
                  have hre := run_end (Nat.succ_lt_succ hlt) HC.out HRR.out HCD.out HA.out (by assumption)
                  exact ⟨hre.1, hre.2.behind (HFR.out.mono (fun _ hk => hk.elim)) (fun _ => .inl)⟩
                · go_roundw
                  case rel => exact ⟨_, _, _, _, _, _, _, _, _, _, _, _, _, run_nextL hlt HC.out HE'.out HN'.out HRR.out HCD.out HA.out (by assumption), rfl⟩
                  case measure => simp [intOf]
              · have q0 := HN'.out.g4
                have HGO' := Lib.hid (show r = pSyncDir Sj from HGO.out)
                go_wp2_with (first | (go_at_call 66; refine (SyncDir_calls _ F' d L' Sj _ HR.out HSJ.out.good hbj).mono ?_; rw [← HGO'.out]; rintro e w6 ⟨rfl, ha⟩; have HA := Lib.hid ha; clear ha; obtain ⟨cd, hcd⟩ : ∃ cd, cd = r.2 := ⟨_, rfl⟩; rw [← hcd]; have HCD := Lib.hid hcd; clear hcd) | fail)
                · go_ret
                  rw [HP.out]
                  have hre := run_end (Nat.succ_lt_succ hlt) HC.out HRR.out HCD.out HA.out (by assumption)
                  exact ⟨hre.1, hre.2.behind (HFR.out.mono (fun _ hk => hk.elim)) (fun _ => .inl)⟩
                · go_roundw
                  case rel => exact ⟨_, _, _, _, _, _, _, _, _, _, _, _, _, run_nextL hlt HC.out HE'.out HN'.out HRR.out HCD.out HA.out (by assumption), rfl⟩
                  case measure => simp [intOf]
            · obtain rfl : j = 5 := by omega
              go_wp2_with fail
              go_ret
              rw [HP.out]
              have e : (pReplace S t n l).2 = 0 := HZ.out
              rw [e]
              exact ⟨rfl, After.behind ⟨F', L', HR.out, HC.out⟩ (HFR.out.mono (fun _ hk => hk.elim)) (fun _ => .inl)⟩
end Go.Proofs.YtehhafnjbkbmjaaGreat.Disk

/- commitlog: Append and Open. -/
namespace Go.Proofs.YtehhafnjbkbmjaaGreat.Disk
open Go Go.RowKit Go.Proofs.YtehhafnjbkbmjaaGreatW.PrintWords Go.Proofs.YtehhafnjbkbmjaaGreatW.PrintLast Go.Proofs.YtehhafnjbkbmjaaGreatW.PrintMore Go.Proofs.YtehhafnjbkbmjaaGreat.PCommitlogSequence
abbrev leV (x : LE) : Array Value := #[.int .i64 x.f0, .int .i64 x.f1, .int .i64 x.f2, .int .i64 x.f3, .int .i64 x.f4, .string x.f5]
theorem Append_nil (w : World) (n : ByteArray) (x : LE) : Calls Tryz.prog 44 #[.pointer none, .string n, .agg (leV x)] w fun e w' => e = .returned (.int .i64 1) ∧ Below w.heap.size w w' := by
  go_enter Tryz.func44, Tryz.ntmps44
  go_wp2_with fail
  go_ret
  exact ⟨rfl, Below.of_alloc' w _⟩
theorem LogOpen_nil (w : World) (n : ByteArray) : Calls Tryz.prog 43 #[.pointer none, .string n] w fun e w' => e = .returned (.tuple #[.slice none 0 0, .int .i64 1]) ∧ w = w' := by
  go_enter Tryz.func43, Tryz.ntmps43
  go_wp2_with fail
  go_ret2
  exact ⟨rfl, rfl⟩
theorem Rewrite_nil (w : World) (n : ByteArray) (v : Value) : Calls Tryz.prog 46 #[.pointer none, .string n, v] w fun e w' => e = .returned (.int .i64 1) ∧ Below w.heap.size w w' := by
  go_enter Tryz.func46, Tryz.ntmps46
  go_wp2_with fail
  go_ret
  exact ⟨rfl, (Below.of_alloc' w _).trans ((Below.of_alloc' _ _).mono (by simp))⟩
set_option maxHeartbeats 2000000 in
theorem LogAppend_calls (w : World) (F : Nat → Prop) (d : Nat) (L : Lay) (S : PS) (B : Nat) (n : ByteArray) (x : LE) (h : Rep w F d L S (Live S)) (hF : ∀ k, F k → k < w.heap.size) (hs : Sound S B) (hB : B + 1200 ≤ 549755813888) (hw : WfLE x) :
    Calls Tryz.prog 44 #[.pointer (some ⟨d, 0, none⟩), .string n, .agg (leV x)] w fun e w' => e = .returned (.int .i64 (pLogAppend S n x).2) ∧ After w F d (pLogAppend S n x).1 w' := by
  have H := Lib.hid h
  have HF := Lib.hid hF
  have HS := Lib.hid hs
  have HW := Lib.hid hw
  clear h hF hs hw
  cases hvx : validB x
  · have HP := Lib.hid (show pLogAppend S n x = (S, 1) by unfold pLogAppend; rw [hvx]; rfl)
    have HEN := Lib.hid (enc_no hvx)
    clear hvx
    go_enter Tryz.func44, Tryz.ntmps44
    go_wp2_with (first
      | (go_at_call 39; refine (Enc_calls _ x HW.out).mono ?_; rw [HEN.out]; rintro e w3 ⟨A1, c1, rfl, hrd, hb3⟩; have HB3 := Lib.hid ((Below.of_alloc' w _).trans (hb3.mono (by simp))); clear hrd hb3)
      | fail)
    go_ret
    rw [HP.out]
    exact ⟨rfl, After.same (H.out.below HB3.out) (Below.toFr HB3.out _)⟩
  · have HEN := Lib.hid (enc_yes hvx)
    have HRL := Lib.hid (recF_length hvx)
    obtain ⟨r, hr⟩ : ∃ r, r = pAppend S n (recF x) := ⟨_, rfl⟩
    have HP := Lib.hid (show pLogAppend S n x = if r.2 = 0 then pSync r.1 n else r by unfold pLogAppend; rw [hvx, ← hr]; rfl)
    have HRR := Lib.hid hr
    have HS1 := Lib.hid (show Sound r.1 (B + 1100) by rw [hr]; exact HS.out.append_any HRL.out (recF_bytes x))
    clear hvx hr
    go_enter Tryz.func44, Tryz.ntmps44
    go_wp2_with (first
      | (go_at_call 39; refine (Enc_calls _ x HW.out).mono ?_; rw [HEN.out]; rintro e w3 ⟨A1, c1, rfl, hrd, hb3⟩; have HRD := Lib.hid hrd; have HB3 := Lib.hid ((Below.of_alloc' w _).trans (hb3.mono (by simp))); clear hrd hb3)
      | (go_at_call 33; refine (Append_calls _ F d L S B n A1 (recF x) c1 HRD.out.now (Nat.le_trans HRL.out (by decide)) (H.out.below HB3.out) HS.out.good (by omega)).mono ?_; rw [← HRR.out]; rintro e w4 ⟨rfl, F4, L4, hr4, hc4⟩; have HR4 := Lib.hid hr4; have HC4 := Lib.hid hc4; obtain ⟨cd, hcd⟩ : ∃ cd, cd = r.2 := ⟨_, rfl⟩; rw [← hcd]; have HCD := Lib.hid hcd; clear hcd hr4 hc4)
      | (go_at_call 63; refine (Sync_calls _ F4 d L4 r.1 (B + 1100) n HR4.out HS1.out.good (by omega)).mono ?_; rintro e w5 ⟨rfl, F5, L5, hr5, hc5⟩; have HR5 := Lib.hid hr5; have HC5 := Lib.hid hc5; clear hr5 hc5)
      | fail)
    · have hne : (cd != 0) = true := by assumption
      have HNE := Lib.hid (show r.2 ≠ 0 by rw [← HCD.out]; simpa using hne)
      clear hne
      go_ret
      rw [HP.out, if_neg HNE.out, HCD.out]
      exact ⟨rfl, After.behind ⟨F4, L4, HR4.out, HC4.out⟩ (Below.toFr HB3.out _) (fun _ => .inl)⟩
    · have hne : (cd != 0) = false := by assumption
      have HNE := Lib.hid (show r.2 = 0 by rw [← HCD.out]; simpa using hne)
      clear hne
      go_ret
      rw [HP.out, if_pos HNE.out]
      exact ⟨rfl, After.behind ⟨F5, L5, HR5.out, HC4.out.trans HC5.out⟩ (Below.toFr HB3.out _) (fun _ => .inl)⟩
end Go.Proofs.YtehhafnjbkbmjaaGreat.Disk

/- commitlog: Open. -/
namespace Go.Proofs.YtehhafnjbkbmjaaGreat.Disk
open Go Go.RowKit Go.Proofs.YtehhafnjbkbmjaaGreatW.PrintWords Go.Proofs.YtehhafnjbkbmjaaGreatW.PrintLast Go.Proofs.YtehhafnjbkbmjaaGreatW.PrintMore Go.Proofs.YtehhafnjbkbmjaaGreat.PCommitlogSequence
theorem entE_valid {l : List Int} (h : (entE l).2 = 0) : validB (entE l).1 = true := by
  unfold entE at h ⊢
  split at h
  · rename_i h1
    exact absurd h h1
  · rename_i h1
    rw [if_neg h1]
    split at h
    · simp at h
    · rename_i h2
      rw [if_neg h2]
      split at h
      · simp at h
      · rename_i h3
        rw [if_neg h3]
        split at h
        · rename_i h4
          rw [if_pos h4]
          exact h4
        · simp at h
theorem decE_entry {b : List Int} {off : Int} (h : (decE b off).2.2 = 0) :
    (decV b off).2.2 = 0 ∧ (decV b off).1 ≤ 256 ∧ ((decV b off).1 : Int) + 4 ≤ (b.length : Int) - (decV b off).2.1 ∧ crcF ((b.drop (decV b off).2.1.toNat).take (decV b off).1) = valN b ((decV b off).2.1.toNat + (decV b off).1) 4 ∧ (entE ((b.drop (decV b off).2.1.toNat).take (decV b off).1)).2 = 0 ∧ decE b off = ((entE ((b.drop (decV b off).2.1.toNat).take (decV b off).1)).1, (decV b off).2.1 + (decV b off).1 + 4, 0) := by
  unfold decE at h ⊢
  split at h
  · rename_i h1
    exact absurd h h1
  · rename_i h1
    rw [if_neg h1]
    split at h
    · simp at h
    · rename_i h2
      rw [if_neg h2]
      split at h
      · simp at h
      · rename_i h3
        rw [if_neg h3]
        split at h
        · simp at h
        · rename_i h4
          rw [if_neg h4]
          split at h
          · rename_i h5
            exact absurd h h5
          · rename_i h5
            rw [if_neg h5]
            exact ⟨by omega, by omega, by omega, by omega, by omega, rfl⟩
theorem decE_valid {b : List Int} {off : Int} (h : (decE b off).2.2 = 0) : validB (decE b off).1 = true ∧ WfLE (decE b off).1 := by
  obtain ⟨_, _, _, _, h5, h6⟩ := decE_entry h
  rw [h6]
  exact ⟨entE_valid h5, entE_wf _⟩
theorem scanGo_ok (b : List Int) : ∀ (k : Nat) (a : Int) (out : List LE), 0 ≤ a → a ≤ b.length → (out.length : Int) ≤ a → (∀ x ∈ out, validB x = true ∧ WfLE x) →
    (∀ x ∈ (scanGo b k a out).1, validB x = true ∧ WfLE x) ∧ ((scanGo b k a out).1.length : Int) ≤ (scanGo b k a out).2 ∧ (scanGo b k a out).2 ≤ b.length
  | 0, a, out, h0, h1, h2, h3 => ⟨h3, h2, h1⟩
  | k + 1, a, out, h0, h1, h2, h3 => by
    unfold scanGo
    split
    · split
      · exact ⟨h3, h2, h1⟩
      · rename_i h4
        have h4' : (decE b a).2.2 = 0 := by omega
        have h5 := decE_ok h4'
        refine scanGo_ok b k _ _ (by omega) h5.2.2 (by simp; omega) (fun x hx => ?_)
        rcases List.mem_append.1 hx with hx | hx
        · exact h3 x hx
        · simp at hx
          subst hx
          exact decE_valid h4'
    · exact ⟨h3, h2, h1⟩
theorem scanF_ok (b : List Int) : (∀ x ∈ (scanF b).1, validB x = true ∧ WfLE x) ∧ ((scanF b).1.length : Int) ≤ (scanF b).2 ∧ (scanF b).2 ≤ b.length := scanGo_ok b _ 0 [] (by omega) (by omega) (by simp) (by simp)
def OpenEnd (w : World) (F : Nat → Prop) (d : Nat) (p : PS × List LE × Int) (e : Ending) (w' : World) : Prop :=
  ∃ (A : Option Addr) (c : Nat) (F' : Nat → Prop) (L' : Lay), e = .returned (.tuple #[.slice A p.2.1.length c, .int .i64 p.2.2]) ∧ Rep w' F' d L' p.1 (Live p.1) ∧ Chg w F w' F' ∧ Rd kLE w' (fun k => ¬ F' k) A c p.2.1
set_option maxHeartbeats 4000000 in
theorem LogOpen_calls (w : World) (F : Nat → Prop) (d : Nat) (L : Lay) (S : PS) (B m : Nat) (n : ByteArray) (h : Rep w F d L S (Live S)) (hF : ∀ k, F k → k < w.heap.size) (hs : Sound S B) (hm : 100 ≤ m) (hB : B + m * 6 ≤ 549755813888) (hn : n.size ≤ 1000000) (hl : (pRead S n).1.length ≤ 65535) (hbm : 1100 * (scanF (pRead S n).1).1.length ≤ m) :
    Calls Tryz.prog 43 #[.pointer (some ⟨d, 0, none⟩), .string n] w (OpenEnd w F d (pOpen S n)) := by
  have H := Lib.hid h
  have HF := Lib.hid hF
  have HS := Lib.hid hs
  clear h hF hs
  cases hh : pHas S n
  · have HANY := Lib.hid (show ((S.dir.map (·.f0)).any fun y => decide (y = n)) = false by rw [← hh]; unfold pHas; rw [List.any_map])
    obtain ⟨r, hr⟩ : ∃ r, r = pRewrite S n [] := ⟨_, rfl⟩
    have HRR := Lib.hid hr
    have HP := Lib.hid (show pOpen S n = (r.1, [], r.2) by unfold pOpen; rw [hh, ← hr]; rfl)
    clear hh hr
    go_enter Tryz.func43, Tryz.ntmps43
    go_wp2_with (first
      | (go_at_call 24; refine (List_calls w F d L S B H.out HS.out.good (by omega)).mono ?_; rintro e w3 ⟨v3, rfl, ho, hf⟩; have HO := Lib.hid ho; have HF3 := Lib.hid hf; clear ho hf)
      | (go_at_call 101; refine (contains_calls _ _ v3 (S.dir.map (·.f0)) n (by have h := HO.out; rwa [show S.dir.length = (S.dir.map (·.f0)).length by simp] at h) (by simp; have := HS.out.good.nDir; omega)).mono ?_; rw [HANY.out]; rintro e w4 ⟨rfl, rfl⟩)
      | (go_at_call 46; refine (Rewrite_calls w4 F d L S B m n none 0 [] (H.out.fr HF3.out (fun _ _ e => e)) (fun k hk => Nat.lt_of_lt_of_le (HF.out k hk) HF3.out.size) HS.out hm (by simp) hB (Kd.C_nil _ _) (by simp) (by simp) hn).mono ?_; rw [← HRR.out]; rintro e w5 ⟨rfl, F5, L5, hr5, hc5⟩; have HR5 := Lib.hid hr5; have HC5 := Lib.hid hc5; clear hr5 hc5)
      | fail)
    go_ret2
    rw [HP.out]
    refine ⟨none, 0, F5, L5, rfl, HR5.out, ?_, Rd.nil _ _ _⟩
    exact ⟨(HF3.out.mono (fun _ hk => hk.elim)).trans HC5.out.fr (fun _ => .inl), fun k hk => (HC5.out.new k hk).imp id (fun h => Nat.le_trans HF3.out.size h), HC5.out.lt⟩
  · have HANY := Lib.hid (show ((S.dir.map (·.f0)).any fun y => decide (y = n)) = true by rw [← hh]; unfold pHas; rw [List.any_map])
    have HRW := Lib.hid (pRead_ok HS.out.good n).2
    obtain ⟨q, hq⟩ : ∃ q, q = pRead S n := ⟨_, rfl⟩
    obtain ⟨bl, rc⟩ := q
    have HQ := Lib.hid hq
    rw [← hq] at hl hbm HRW
    replace hl : bl.length ≤ 65535 := hl
    replace hbm : 1100 * (scanF bl).1.length ≤ m := hbm
    by_cases hc : rc = 0
    · subst hc
      have HSO := Lib.hid (scanF_ok bl)
      obtain ⟨s, hs⟩ : ∃ s, s = scanF bl := ⟨_, rfl⟩
      obtain ⟨out, at'⟩ := s
      have HSC := Lib.hid hs
      rw [← hs] at hbm HSO
      replace hbm : 1100 * out.length ≤ m := hbm
      by_cases ha : at' = bl.length
      · have HP := Lib.hid (show pOpen S n = (S, out, 0) by unfold pOpen; rw [hh, ← hq]; simp only [← hs]; simp [ha])
        clear hh hq hs
        subst ha
        go_enter Tryz.func43, Tryz.ntmps43
        go_wp2_with (first
          | (go_at_call 24; refine (List_calls w F d L S B H.out HS.out.good (by omega)).mono ?_; rintro e w3 ⟨v3, rfl, ho, hf⟩; have HO := Lib.hid ho; have HF3 := Lib.hid hf; clear ho hf)
          | (go_at_call 101; refine (contains_calls _ _ v3 (S.dir.map (·.f0)) n (by have h := HO.out; rwa [show S.dir.length = (S.dir.map (·.f0)).length by simp] at h) (by simp; have := HS.out.good.nDir; omega)).mono ?_; rw [HANY.out]; rintro e w4 ⟨rfl, rfl⟩)
          | (go_at_call 14; refine (Read_calls _ F d L S B n (H.out.fr HF3.out (fun _ _ e => e)) HS.out.good (by omega)).mono ?_; rw [← HQ.out]; rintro e w5 ⟨v, rfl, hown, hf2⟩; obtain ⟨A2, c2, rfl, hC2⟩ := own_bytes hown; have hcap := own_cap hown; have HC2 := Lib.hid hC2; have HF5 := Lib.hid (HF3.out.trans hf2 (fun _ hk => .inl hk)); clear hown hC2 hf2)
          | (go_at_call 42; refine (Scan_calls _ A2 c2 bl HC2.out hcap hl HRW.out).mono ?_; rw [← HSC.out]; rintro e w6 ⟨A6, c6, rfl, hr6, hb6⟩; have HR6 := Lib.hid hr6; have HF6 := Lib.hid (HF5.out.below hb6); clear hr6 hb6)
          | fail)
        go_ret2
        rw [HP.out]
        exact ⟨A6, c6, F, L, rfl, H.out.fr HF6.out (fun _ _ e => e), Chg.fr2 ⟨Fr.refl _ _, fun k hk => .inl hk, HF.out⟩ HF6.out, HR6.out.mono (fun k hk _ hf => by have := HF.out k hf; have := HF5.out.size; omega)⟩
      · obtain ⟨r, hr⟩ : ∃ r, r = pRewrite S n out := ⟨_, rfl⟩
        have HRR := Lib.hid hr
        have HP := Lib.hid (show pOpen S n = if r.2 = 0 then (r.1, out, 0) else (r.1, [], r.2) by unfold pOpen; rw [hh, ← hq]; simp only [← hs]; simp [ha, hr])
        have hat : decide (at' = (bl.length : Int)) = false := by simpa using ha
        have hno : (out.length : Int) ≤ 65535 := by have h1 : (out.length : Int) ≤ at' ∧ at' ≤ bl.length := HSO.out.2; omega
        have hcn : decide ((out.length : Int) = 65536) = false := by simp; omega
        clear hh hq hs hr
        go_enter Tryz.func43, Tryz.ntmps43
        go_wp2_with (first
          | (go_at_call 24; refine (List_calls w F d L S B H.out HS.out.good (by omega)).mono ?_; rintro e w3 ⟨v3, rfl, ho, hf⟩; have HO := Lib.hid ho; have HF3 := Lib.hid hf; clear ho hf)
          | (go_at_call 101; refine (contains_calls _ _ v3 (S.dir.map (·.f0)) n (by have h := HO.out; rwa [show S.dir.length = (S.dir.map (·.f0)).length by simp] at h) (by simp; have := HS.out.good.nDir; omega)).mono ?_; rw [HANY.out]; rintro e w4 ⟨rfl, rfl⟩)
          | (go_at_call 14; refine (Read_calls _ F d L S B n (H.out.fr HF3.out (fun _ _ e => e)) HS.out.good (by omega)).mono ?_; rw [← HQ.out]; rintro e w5 ⟨v, rfl, hown, hf2⟩; obtain ⟨A2, c2, rfl, hC2⟩ := own_bytes hown; have hcap := own_cap hown; have HC2 := Lib.hid hC2; have HF5 := Lib.hid (HF3.out.trans hf2 (fun _ hk => .inl hk)); clear hown hC2 hf2)
          | (go_at_call 42; refine (Scan_calls _ A2 c2 bl HC2.out hcap hl HRW.out).mono ?_; rw [← HSC.out]; rintro e w6 ⟨A6, c6, rfl, hr6, hb6⟩; have HR6 := Lib.hid hr6; have HF6 := Lib.hid (HF5.out.below hb6); clear hr6 hb6)
          | (go_at_call 46; refine (Rewrite_calls w6 F d L S B m n A6 c6 out (H.out.fr HF6.out (fun _ _ e => e)) (fun k hk => Nat.lt_of_lt_of_le (HF.out k hk) HF6.out.size) HS.out hm hbm hB HR6.out.now (fun x hx => (HSO.out.1 x hx).2) (by omega) hn).mono ?_; rw [← HRR.out]; rintro e w7 ⟨rfl, F7, L7, hr7, hc7⟩; have HR7 := Lib.hid hr7; have HC7 := Lib.hid hc7; obtain ⟨cd, hcd⟩ : ∃ cd, cd = r.2 := ⟨_, rfl⟩; rw [← hcd]; have HCD := Lib.hid hcd; clear hcd hr7 hc7)
          | fail)
        · have hne : (cd != 0) = true := by assumption
          have HNE := Lib.hid (show r.2 ≠ 0 by rw [← HCD.out]; simpa using hne)
          clear hne
          go_ret2
          rw [HP.out, if_neg HNE.out, HCD.out]
          refine ⟨none, 0, F7, L7, rfl, HR7.out, ?_, Rd.nil _ _ _⟩
          exact ⟨(HF6.out.mono (fun _ hk => hk.elim)).trans HC7.out.fr (fun _ => .inl), fun k hk => (HC7.out.new k hk).imp id (fun h => Nat.le_trans HF6.out.size h), HC7.out.lt⟩
        · have hne : (cd != 0) = false := by assumption
          have HNE := Lib.hid (show r.2 = 0 by rw [← HCD.out]; simpa using hne)
          clear hne
          go_ret2
          rw [HP.out, if_pos HNE.out]
          refine ⟨A6, c6, F7, L7, rfl, HR7.out, ?_, (HR6.out.mono (ok' := fun k => ¬ F k) (fun k hk _ hf => by have := HF.out k hf; have := HF5.out.size; omega)).chg HC7.out⟩
          exact ⟨(HF6.out.mono (fun _ hk => hk.elim)).trans HC7.out.fr (fun _ => .inl), fun k hk => (HC7.out.new k hk).imp id (fun h => Nat.le_trans HF6.out.size h), HC7.out.lt⟩
    · have HP := Lib.hid (show pOpen S n = (S, [], rc) by unfold pOpen; rw [hh, ← hq]; simp [hc])
      have hne : (rc != 0) = true := by simpa using hc
      clear hh hq hc
      go_enter Tryz.func43, Tryz.ntmps43
      go_wp2_with (first
        | (go_at_call 24; refine (List_calls w F d L S B H.out HS.out.good (by omega)).mono ?_; rintro e w3 ⟨v3, rfl, ho, hf⟩; have HO := Lib.hid ho; have HF3 := Lib.hid hf; clear ho hf)
        | (go_at_call 101; refine (contains_calls _ _ v3 (S.dir.map (·.f0)) n (by have h := HO.out; rwa [show S.dir.length = (S.dir.map (·.f0)).length by simp] at h) (by simp; have := HS.out.good.nDir; omega)).mono ?_; rw [HANY.out]; rintro e w4 ⟨rfl, rfl⟩)
        | (go_at_call 14; refine (Read_calls _ F d L S B n (H.out.fr HF3.out (fun _ _ e => e)) HS.out.good (by omega)).mono ?_; rw [← HQ.out]; rintro e w5 ⟨v, rfl, hown, hf2⟩; have HF5 := Lib.hid (HF3.out.trans hf2 (fun _ hk => .inl hk)); clear hown hf2)
        | fail)
      go_ret2
      rw [HP.out]
      exact ⟨none, 0, F, L, rfl, H.out.fr HF5.out (fun _ _ e => e), Chg.fr2 ⟨Fr.refl _ _, fun k hk => .inl hk, HF.out⟩ HF5.out, Rd.nil _ _ _⟩
end Go.Proofs.YtehhafnjbkbmjaaGreat.Disk

/- commitlog: lives, the chapter's examples, plain. -/
namespace Go.Proofs.YtehhafnjbkbmjaaGreat.Disk
open Go Go.RowKit Go.Proofs.YtehhafnjbkbmjaaGreatW.PrintWords Go.Proofs.YtehhafnjbkbmjaaGreatW.PrintLast Go.Proofs.YtehhafnjbkbmjaaGreatW.PrintMore Go.Proofs.YtehhafnjbkbmjaaGreat.PCommitlogSequence
abbrev tagLE : LE := ⟨3, 5, 0, 0, 0, ⟨#[97]⟩⟩
abbrev badLE : LE := ⟨6, 0, 0, 0, 0, ⟨#[97]⟩⟩
abbrev sLog : ByteArray := ⟨#[108, 111, 103]⟩
theorem tag_calls (w : World) : Calls Tryz.prog 40 #[] w fun e w' => e = .returned (.agg (leV tagLE)) ∧ Below w.heap.size w w' := Go.Proofs.YtehhafnjbkbmjaaGreat.PCommitlogSequence.laminalaw24_tag.calls 3 5 0 0 0 ⟨#[97]⟩ w rfl
theorem R_lit (w : World) (xs : List Int) (hm : xs.length ≤ 9223372036854775807) {ok : Nat → Prop} (hok : ok w.heap.size) {base : Nat} (hb : base ≤ w.heap.size) : Kd.R kB 5 (w.alloc (.cells (nums .u8 xs).toArray 5)) base ok (.slice (some ⟨w.heap.size, 0, none⟩) xs.length xs.length) xs :=
  Kd.R_of_own (own_lit w base 5 .u8 xs hb hm) (fun k hk => by
    have : w.heap.size = k := by simpa [Value.ownBlock] using hk
    subst this
    exact hok)
theorem Sound.logAppend {S : PS} {B : Nat} {n : ByteArray} {x : LE} (h : Sound S B) : Sound (pLogAppend S n x).1 (B + 1200) := by
  unfold pLogAppend
  split
  · rename_i hv
    have h1 := h.append_any (n := n) (recF_length hv) (recF_bytes x)
    split
    · exact h1.sync
    · exact h1.mono (by omega)
  · exact h.mono (by omega)
theorem Sound.rewrite {S : PS} {B m : Nat} {n : ByteArray} {xs : List LE} (h : Sound S B) (hm : 100 ≤ m) (hx : 1100 * xs.length ≤ m) : Sound (pRewrite S n xs).1 (B + m * 6) := by
  unfold pRewrite
  split
  · rename_i hv
    have hv : ∀ x ∈ xs, validB x = true := by simpa using hv
    exact h.runTo hm (Nat.le_trans (recsF_length hv) hx) (recsF_bytes xs) 6
  · exact h.mono (by omega)
theorem Sound.logOpen {S : PS} {B m : Nat} {n : ByteArray} (h : Sound S B) (hm : 100 ≤ m) (hx : 1100 * (scanF (pRead S n).1).1.length ≤ m) : Sound (pOpen S n).1 (B + m * 6) := by
  unfold pOpen
  split
  · split
    · split
      · exact h.mono (by omega)
      · split
        · exact h.rewrite hm hx
        · exact h.rewrite hm hx
    · exact h.mono (by omega)
  · exact h.rewrite hm (by simp)
def lo1 : PS := (pOpen pNew sLog).1
def lo2 : PS := (pLogAppend lo1 sLog tagLE).1
def lo3 : PS := pCrash lo2 0 []
abbrev recT : List Int := [7, 3, 5, 0, 0, 0, 1, 97, 77, 203, 241, 222]
theorem v_recT : recF tagLE = recT := by kernel_rfl
theorem v_dec : decE recT 0 = (tagLE, 12, 0) := by kernel_rfl
theorem v_bad : validB badLE = false := by kernel_rfl
theorem v_tag : validB tagLE = true := by kernel_rfl
theorem v_scan : scanF (recT ++ [7, 3]) = ([tagLE], 12) := by kernel_rfl
theorem v_lo1 : pOpen pNew sLog = (lo1, [], 0) := by kernel_rfl
theorem v_lo2 : pLogAppend lo1 sLog tagLE = (lo2, 0) := by kernel_rfl
theorem v_lo3 : pOpen lo3 sLog = (lo3, [tagLE], 0) := by kernel_rfl
theorem v_lo3r : (pRead lo3 sLog).1 = recT := by kernel_rfl
theorem v_recS : scanF recT = ([tagLE], 12) := by kernel_rfl
theorem s_lo1 : Sound lo1 600 := Sound.new.logOpen (m := 100) (by decide) (by rw [show scanF (pRead pNew sLog).1 = ([], 0) by kernel_rfl]; decide)
theorem s_lo2 : Sound lo2 1800 := s_lo1.logAppend
theorem s_lo3 : Sound lo3 1800 := s_lo2.crash
theorem wf_tag : WfLE tagLE := ⟨by decide, by decide, by decide, by decide⟩
theorem wf_bad : WfLE badLE := ⟨by decide, by decide, by decide, by decide⟩
theorem eq_l0 (xs : List LE) (hx : xs.length ≤ 1000000) : ∀ (d k i : Nat), xs.length - i = d → i ≤ xs.length → 2 * d + 2 ≤ k → laminaref24_Equal.l0 k xs xs i = some true
  | 0, k, i, hd, hi, hk => by
    obtain ⟨k, rfl⟩ : ∃ m, k = m + 2 := ⟨k - 2, by omega⟩
    simp only [laminaref24_Equal.l0, laminaref24_Equal.j1]
    rw [if_neg (by omega), if_neg Bool.false_ne_true]
  | d + 1, k, i, hd, hi, hk => by
    obtain ⟨k, rfl⟩ : ∃ m, k = m + 2 := ⟨k - 2, by omega⟩
    have e : wrap64 ((i : Int) + 1) = ((i + 1 : Nat) : Int) := by unfold wrap64; omega
    simp only [laminaref24_Equal.l0, laminaref24_Equal.j1, beq_self_eq_true, Bool.not_true, Bool.or_false, e]
    rw [if_pos (by omega), if_pos (by simp; omega), if_pos (by omega), if_pos (by omega), if_pos (by omega), if_neg Bool.false_ne_true]
    exact eq_l0 xs hx d k (i + 1) (by omega) (by omega) (by omega)
theorem eq_f (xs : List LE) (hx : xs.length ≤ 1000000) : laminaref24_Equal.f (2 * xs.length + 2) xs xs = some true := by
  unfold laminaref24_Equal.f
  rw [if_pos rfl]
  exact eq_l0 xs hx xs.length _ 0 (by omega) (by omega) (by omega)
end Go.Proofs.YtehhafnjbkbmjaaGreat.Disk

/- commitlog: lives, the walk. -/
namespace Go.Proofs.YtehhafnjbkbmjaaGreat.Disk
open Go Go.RowKit Go.Proofs.YtehhafnjbkbmjaaGreatW.PrintWords Go.Proofs.YtehhafnjbkbmjaaGreatW.PrintLast Go.Proofs.YtehhafnjbkbmjaaGreatW.PrintMore Go.Proofs.YtehhafnjbkbmjaaGreat.PCommitlogSequence
theorem C_le1 {w : World} {b : Nat} {x : LE} (h : w.heap[b]? = some (.cells (leC x) tLE (0, 0))) : Kd.C kLE w (some ⟨b, 0, none⟩) ([x] : List LE).length [x] :=
  ⟨rfl, by simp, fun _ => ⟨_, rfl, fun j p hj => by
    obtain rfl : j = 0 := by
      have := (List.getElem?_eq_some_iff.1 hj).1
      simp at this
      omega
    simp at hj
    subst hj
    refine ⟨(leC x).toList, rfl, k46_mk w x, fun i u hu => ?_⟩
    rw [Addr.add_lit]
    have hi : i < 6 := (List.getElem?_eq_some_iff.1 hu).1
    obtain rfl | rfl | rfl | rfl | rfl | rfl : i = 0 ∨ i = 1 ∨ i = 2 ∨ i = 3 ∨ i = 4 ∨ i = 5 := by omega
    all_goals exact (cell_blk h _).trans hu⟩⟩
theorem rEq_calls (w : World) (A0 : Option Addr) (c0 : Nat) (A1 : Option Addr) (c1 : Nat) (xs : List LE) (h0 : Kd.C kLE w A0 xs.length xs) (hc0 : xs.length ≤ c0) (h1 : Kd.C kLE w A1 xs.length xs) (hc1 : xs.length ≤ c1) (hx : xs.length ≤ 1000000) :
    Calls Tryz.prog 45 #[.slice A0 xs.length c0, .slice A1 xs.length c1] w fun e w' => e = .returned (.bool true) ∧ Below w.heap.size w w' :=
  (laminaref24_Equal.calls _ A0 c0 xs A1 c1 xs true w h0 hc0 h1 hc1 (eq_f xs hx)).mono fun _ _ hq => ⟨hq.1, hq.2.below⟩
theorem Chg.ofBelow {w w' : World} (h : Below w.heap.size w w') : Chg w (fun _ => False) w' (fun _ => False) := ⟨Below.toFr h _, fun _ hk => hk.elim, fun _ hk => hk.elim⟩
section
variable (w : World) (F : Nat → Prop) (d : Nat) (L : Lay)
theorem lopen1 (h : Rep w F d L pNew (Live pNew)) (hF : ∀ k, F k → k < w.heap.size) : Calls Tryz.prog 43 #[.pointer (some ⟨d, 0, none⟩), .string sLog] w fun e w' => ∃ A c, e = .returned (.tuple #[.slice A 0 c, .int .i64 0]) ∧ After w F d lo1 w' :=
  (LogOpen_calls w F d L pNew 0 100 sLog h hF Sound.new (by decide) (by decide) (by decide) (by decide) (by rw [show scanF (pRead pNew sLog).1 = ([], 0) by kernel_rfl]; decide)).mono fun e w' hq => by
    rw [v_lo1] at hq
    obtain ⟨A, c, F', L', h1, h2, h3, -⟩ := hq
    exact ⟨A, c, h1, F', L', h2, h3⟩
theorem lapp2 (h : Rep w F d L lo1 (Live lo1)) (hF : ∀ k, F k → k < w.heap.size) : Calls Tryz.prog 44 #[.pointer (some ⟨d, 0, none⟩), .string sLog, .agg (leV tagLE)] w fun e w' => e = .returned (.int .i64 0) ∧ After w F d lo2 w' := by
  have := LogAppend_calls w F d L lo1 600 sLog tagLE h hF s_lo1 (by decide) wf_tag
  rw [v_lo2] at this
  exact this
theorem lcr3 (h : Rep w F d L lo2 (Live lo2)) : Calls Tryz.prog 20 #[.pointer (some ⟨d, 0, none⟩), .int .i64 0, .slice none 0 0] w fun e w' => e = .returned (.tuple #[]) ∧ After w F d lo3 w' :=
  Crash_calls w F d L lo2 1800 0 none 0 [] (Kd.C_nil _ _) h s_lo2.good (by decide)
theorem lopen3 (h : Rep w F d L lo3 (Live lo3)) (hF : ∀ k, F k → k < w.heap.size) : Calls Tryz.prog 43 #[.pointer (some ⟨d, 0, none⟩), .string sLog] w fun e w' => ∃ A c F' L', e = .returned (.tuple #[.slice A ([tagLE] : List LE).length c, .int .i64 0]) ∧ Rep w' F' d L' lo3 (Live lo3) ∧ Chg w F w' F' ∧ Rd kLE w' (fun k => ¬ F' k) A c [tagLE] := by
  have := LogOpen_calls w F d L lo3 1800 1100 sLog h hF s_lo3 (by decide) (by decide) (by decide) (by rw [v_lo3r]; decide) (by rw [v_lo3r, v_recS]; decide)
  rw [v_lo3] at this
  exact this
end
theorem rec_str {w : World} {A : Option Addr} {c : Nat} {ok : Nat → Prop} (h : Rd kB w ok A c recT) : (convert 36 9 (.slice A 8 c)).run Tryz.prog w = .ok (.string ⟨#[7, 3, 5, 0, 0, 0, 1, 97]⟩) w := by
  have := Kd.C_string Tryz.underlying36 Tryz.underlying5 Tryz.underlying9 (c := c) (Kd.C_take h.now (show 8 ≤ recT.length by decide))
  rw [show strOfNums (recT.take 8) = ⟨#[7, 3, 5, 0, 0, 0, 1, 97]⟩ by kernel_rfl] at this
  exact this
theorem Rd.grow {α : Type} {dk : Kd α} {w w' : World} {row : Option Nat} {ok : Nat → Prop} {A : Option Addr} {c : Nat} {xs : List α} (h : Rd dk w ok A c xs) (hg : w.grownBy w' row) (hne : ∀ k, ok k → some k ≠ row) : Rd dk w' ok A c xs := h.move (fun k hk hlt => hg.block k hlt (hne k hk))
set_option maxHeartbeats 8000000 in
set_option maxRecDepth 100000 in
theorem lives24_calls (w : World) : Calls Tryz.prog 12 #[] w fun e w' => e = .returned (.bool true) ∧ Below w.heap.size w w' := by
  have HTT := Lib.hid (show leC ((tagLE, 12, 0) : LE × Int × Int).1 = #[.int .i64 3, .int .i64 5, .int .i64 0, .int .i64 0, .int .i64 0, .string ⟨#[97]⟩] from rfl)
  go_enter Tryz.func12, Tryz.ntmps12
  go_upto_region 6 with (first
    | (go_at_call 7; refine (New_calls _).mono ?_; rintro e w8 ⟨d, F8, L8, rfl, hr, hc⟩; have R8 := Lib.hid hr; have C8 := Lib.hid ((Chg.ofBelow B7.out).trans hc); have V8 := Lib.hid (V7.out.chg hc); have G8 := Lib.hid ((hc.fr.block _ (lt_blk G7.out) (fun e => e)).trans G7.out); clear hr hc V7 G7 B7)
    | (go_at_call 42; refine (Scan_calls _ A6 c6 ([] ++ recT ++ [7, 3]) V6.out.now V6.out.le (by decide) (by decide)).mono ?_; rw [show ([] ++ recT ++ [7, 3] : List Int) = recT ++ [7, 3] from rfl, v_scan]; rintro e w7 ⟨A7, c7, rfl, -, hb⟩; have B7 := Lib.hid (B6.out.trans (hb.mono B6.out.size)); have V7 := Lib.hid ((X6.out.below hb).mono (ok' := fun _ => ¬ False) (fun _ _ _ h => h)); have G7 := Lib.hid ((hb.block _ (lt_blk G6.out)).trans G6.out); clear hb V6 X6 G6 B6)
    | ((with_reducible refine gate_builtin (b := .append) (xs := #[.tmp 37, .tmp 38]) rfl ?_); at_builtin; refine Kd.R_append_row (Value.int .u8) (0 : Int) (w0 := w) w.heap.size rfl (.tmp 37) (.tmp 38) 36 5 (.int .u8 0) 1 rfl Tryz.underlying36 infoB rfl (by decide) (.slice A5 ([] ++ recT : List Int).length c5) ([] ++ recT) [7, 3] (some ⟨w5.heap.size, 0, none⟩) 2 2 (fun k => w4.heap.size ≤ k) rfl rfl (fun k hk => by have := S5.out; simp at hk; omega) (Kd.R_below R5.out (Below.of_alloc' _ _)) (C_blk (enc := Value.int .u8) (h1 := fun _ => rfl) (xs := [7, 3]) (heap_alloc_new w5 _) (by decide)) (B5.out.trans ((Below.of_alloc' w5 _).mono B5.out.size)) (by have := B5.out.size; simp; omega) (by decide) ?_; intro v6 w6 hr hb hg hat; obtain ⟨A6, c6, rfl, hrd⟩ := Rd.ofR hr; have V6 := Lib.hid hrd; have B6 := Lib.hid hb; have X6 := Lib.hid ((V5.out.below (Below.of_alloc' w5 _)).grow hg (fun k hk e => by have := R5.out.1 k e.symm; omega)); have G6 := Lib.hid ((hg.block _ (Nat.lt_of_lt_of_le (lt_blk G5.out) (Below.of_alloc' w5 _).size) (fun e => by have := R5.out.1 _ e.symm; have := L5.out; omega)).trans (((Below.of_alloc' w5 _).block _ (lt_blk G5.out)).trans G5.out)); clear hr hb hg hat hrd R5 B5 V5 G5 S5)
    | ((with_reducible refine gate_builtin (b := .append) (xs := #[.tmp 35, .tmp 36]) rfl ?_); at_builtin; refine Kd.R_append_row (Value.int .u8) (0 : Int) (w0 := w) w.heap.size rfl (.tmp 35) (.tmp 36) 36 5 (.int .u8 0) 1 rfl Tryz.underlying36 infoB rfl (by decide) (.slice (some ⟨w4.heap.size, 0, none⟩) 0 0) [] recT A2 recT.length c2 (fun k => w4.heap.size ≤ k) rfl rfl (fun k hk => by simp at hk; omega) (R_lit w4 [] (by decide) (Nat.le_refl _) B4.out.size) (V4.out.below (Below.of_alloc' w4 _)).now (B4.out.trans ((Below.of_alloc' w4 _).mono B4.out.size)) (by have := B4.out.size; simp; omega) (by decide) ?_; intro v5 w5 hr hb hg hat; obtain ⟨A5, c5, rfl⟩ := Kd.R_slice hr; have R5 := Lib.hid hr; have B5 := Lib.hid hb; have V5 := Lib.hid (((V4.out.mono (ok' := fun k => k < w4.heap.size) (fun _ _ h => h)).below (Below.of_alloc' w4 _)).grow hg (fun k hk e => by simp [Value.ownBlock] at e; omega)); have G5 := Lib.hid ((hg.block _ (Nat.lt_of_lt_of_le (lt_blk G4.out) (Below.of_alloc' w4 _).size) (fun e => by have := lt_blk G4.out; simp [Value.ownBlock] at e; omega)).trans (((Below.of_alloc' w4 _).block _ (lt_blk G4.out)).trans G4.out)); have S5 := Lib.hid (show w4.heap.size ≤ w5.heap.size by have := hg.size; simp at this; omega); have L5 := Lib.hid (lt_blk G4.out); clear hr hb hg hat V4 B4 G4)
    | (go_at_call 39; have hz := B3.out; clear hz; refine (Enc_calls _ badLE wf_bad).mono ?_; rw [enc_no v_bad]; rintro e w4 ⟨A4, c4, rfl, -, hb0⟩; have hb := ((Below.of_alloc' w3 (.cells (leC tagLE) tLE)).trans (hb0.mono (by simp))); have G4 := Lib.hid ((hb0.block _ (by simp)).trans (heap_alloc_new w3 (.cells (leC tagLE) tLE))); have B4 := Lib.hid (B3.out.trans (hb.mono B3.out.size)); have V4 := Lib.hid (V3.out.below hb); clear hb hb0 B3 V3)
    | (go_at_call 41; refine (Dec_calls _ A2 c2 recT 0 V2.out.now V2.out.le (by decide) (by decide)).mono ?_; rw [v_dec, HTT.out]; rintro e w3 ⟨rfl, hb⟩; have B3 := Lib.hid (B2.out.trans (hb.mono B2.out.size)); have V3 := Lib.hid (V2.out.below hb); clear hb V2 B2)
    | (go_at_call 39; have hz := B1.out; clear hz; refine (Enc_calls _ tagLE wf_tag).mono ?_; rw [enc_yes v_tag, v_recT]; rintro e w2 ⟨A2, c2, rfl, hr, hb⟩; have B2 := Lib.hid (B1.out.trans (hb.mono B1.out.size)); have V2 := Lib.hid (hr.mono (ok' := fun _ => True) (fun _ _ _ => trivial)); clear hr hb B1)
    | (go_at_call 40; have hz := HTT.out; clear hz; refine (tag_calls _).mono ?_; rintro e w1 ⟨rfl, hb⟩; have B1 := Lib.hid hb; clear hb)
    | fail)
  have hcl : 12 ≤ c2 := V8.out.le
  have h8 : (8 : Int) ≤ (c2 : Int) := by omega
  have P8 := Lib.hid (And.intro (rec_str (V8.out.move (w' := w8.drew) (fun _ _ _ => rfl))) (six_le (w := w8.drew) (x := tagLE) G8.out))
  go_region_held3 (fun w' => (convert 36 9 (.slice A2 8 c2)).run Tryz.prog w' = .ok (.string ⟨#[7, 3, 5, 0, 0, 0, 1, 97]⟩) w' ∧ w'.cell? ⟨w3.heap.size, 0, none⟩ = some (.int .i64 3) ∧ w'.cell? ⟨w3.heap.size, 1, none⟩ = some (.int .i64 5) ∧ w'.cell? ⟨w3.heap.size, 2, none⟩ = some (.int .i64 0) ∧ w'.cell? ⟨w3.heap.size, 3, none⟩ = some (.int .i64 0) ∧ w'.cell? ⟨w3.heap.size, 4, none⟩ = some (.int .i64 0) ∧ w'.cell? ⟨w3.heap.size, 5, none⟩ = some (.string ⟨#[97]⟩))
    (first | exact P8.out | exact P9.out)
    (first | (go_at_call 40; refine (tag_calls _).mono ?_; rintro e w9 ⟨rfl, hb⟩; have hb9 : Below w8.heap.size w8 w9 := ((Below.refl _ w8).drew).trans hb; have R9 := Lib.hid (R8.out.below hb9); have C9 := Lib.hid (C8.out.fr2 (Below.toFr hb9 _)); have V9 := Lib.hid (V8.out.below hb9); have G9 := Lib.hid ((hb9.block _ (lt_blk G8.out)).trans G8.out); have P9 := Lib.hid (And.intro (rec_str V9.out) (six_le (x := tagLE) G9.out)); clear hb hb9 R8 C8 V8 G8))
  clear P8 hcl h8
  go_wp2_with (first
    | (go_at_call 46; have hz := C19.out; clear hz; refine (Rewrite_nil _ sLog (.slice none 0 0)).mono ?_; rintro e w20 ⟨rfl, hb⟩; have C20 := Lib.hid (C19.out.fr2 (Below.toFr hb _)); clear hb C19)
    | (go_at_call 44; have hz := C18.out; clear hz; refine (Append_nil _ sLog tagLE).mono ?_; rintro e w19 ⟨rfl, hb⟩; have C19 := Lib.hid (C18.out.fr2 (Below.toFr hb _)); clear hb C18)
    | (go_at_call 40; have hz := C17.out; clear hz; refine (tag_calls _).mono ?_; rintro e w18 ⟨rfl, hb⟩; have C18 := Lib.hid (C17.out.fr2 (Below.toFr hb _)); clear hb C17)
    | (go_at_call 45; refine (rEq_calls _ A14 c14 (some ⟨w16.heap.size, 0, none⟩) 1 [tagLE] (V16.out.below (Below.of_alloc' w16 _)).now V16.out.le (C_le1 (heap_alloc_new w16 _)) (by decide) (by decide)).mono ?_; rintro e w17 ⟨rfl, hb⟩; have C17 := Lib.hid ((C16.out.up _).fr2 (Below.toFr hb _)); clear hb C16 V16)
    | (go_at_call 40; have hz := C15.out; clear hz; refine (tag_calls _).mono ?_; rintro e w16 ⟨rfl, hb⟩; have C16 := Lib.hid (C15.out.fr2 (Below.toFr hb _)); have V16 := Lib.hid (V14.out.below hb); clear hb C15 V14)
    | (go_at_call 43; have hz := C14.out; clear hz; refine (LogOpen_nil _ _).mono ?_; rintro e w15 ⟨rfl, rfl⟩; have C15 := Lib.hid C14.out; clear C14)
    | (go_at_call 43; have hz := C13.out; clear hz; refine (lopen3 _ _ _ _ R13.out C13.out.lt).mono ?_; rintro e w14 ⟨A14, c14, F14, L14, rfl, hr, hc, hv⟩; have C14 := Lib.hid (C13.out.trans hc); have V14 := Lib.hid hv; clear hr hc hv R13 C13)
    | (go_at_call 20; refine (lcr3 _ _ _ _ R12.out).mono ?_; rintro e w13 ⟨rfl, F13, L13, hr, hc⟩; have R13 := Lib.hid hr; have C13 := Lib.hid (C12.out.trans hc); clear hr hc R12 C12)
    | (go_at_call 44; have hz := R11.out; clear hz; refine (lapp2 _ _ _ _ R11.out C11.out.lt).mono ?_; rintro e w12 ⟨rfl, F12, L12, hr, hc⟩; have R12 := Lib.hid hr; have C12 := Lib.hid (C11.out.trans hc); clear hr hc R11 C11)
    | (go_at_call 40; have hz := R10.out; clear hz; refine (tag_calls _).mono ?_; rintro e w11 ⟨rfl, hb⟩; have R11 := Lib.hid (R10.out.below hb); have C11 := Lib.hid (C10.out.fr2 (Below.toFr hb _)); clear hb R10 C10)
    | (go_at_call 43; have hz := R9.out; clear hz; refine (lopen1 _ _ _ _ R9.out C9.out.lt).mono ?_; rintro e w10 ⟨A10, c10, rfl, F10, L10, hr, hc⟩; have R10 := Lib.hid hr; have C10 := Lib.hid (C9.out.trans hc); clear hr hc R9 C9 P9 V9 G9)
    | fail)
  go_ret
  exact ⟨rfl, C20.out.fr.toBelow (Nat.le_refl _) (fun _ hk => hk.elim)⟩
end Go.Proofs.YtehhafnjbkbmjaaGreat.Disk

/- What is read out of the arguments of a law: entries. -/
namespace Go.Proofs.YtehhafnjbkbmjaaGreat.Disk
open Go Go.RowKit Go.Proofs.YtehhafnjbkbmjaaGreatW.PrintWords Go.Proofs.YtehhafnjbkbmjaaGreatW.PrintLast Go.Proofs.YtehhafnjbkbmjaaGreatW.PrintMore Go.Proofs.YtehhafnjbkbmjaaGreat.PCommitlogSequence
open Go.ChangeShapes Go.WideShapes Go.Deep
theorem opens_le : Opens kLE tLE WfLE := fun _ _ _ _ cs _ h => by
  obtain ⟨hl, n, hf⟩ := struct_cells Tryz.underlying46 (by kernel_rfl) (by
    intro i f hf
    have hi := (Array.getElem?_eq_some_iff.1 hf).1
    match i, hi with
    | 0, _ => cases hf; exact ⟨rfl, by kernel_rfl⟩
    | 1, _ => cases hf; exact ⟨rfl, by kernel_rfl⟩
    | 2, _ => cases hf; exact ⟨rfl, by kernel_rfl⟩
    | 3, _ => cases hf; exact ⟨rfl, by kernel_rfl⟩
    | 4, _ => cases hf; exact ⟨rfl, by kernel_rfl⟩
    | 5, _ => cases hf; exact ⟨rfl, by kernel_rfl⟩) h
  match cs, hl with
  | [u0, u1, u2, u3, u4, u5], _ =>
    obtain ⟨y0, h0⟩ := hf 0 _ u0 rfl rfl
    obtain ⟨y1, h1⟩ := hf 1 _ u1 rfl rfl
    obtain ⟨y2, h2⟩ := hf 2 _ u2 rfl rfl
    obtain ⟨y3, h3⟩ := hf 3 _ u3 rfl rfl
    obtain ⟨y4, h4⟩ := hf 4 _ u4 rfl rfl
    obtain ⟨y5, h5⟩ := hf 5 _ u5 rfl rfl
    obtain ⟨a0, k0, w0⟩ := opens_int Tryz.underlying3 _ _ _ _ _ _ h0
    obtain ⟨a1, k1, w1⟩ := opens_int Tryz.underlying2 _ _ _ _ _ _ h1
    obtain ⟨a2, k2, w2⟩ := opens_int Tryz.underlying2 _ _ _ _ _ _ h2
    obtain ⟨a3, k3, w3⟩ := opens_int Tryz.underlying2 _ _ _ _ _ _ h3
    obtain ⟨a4, k4, w4⟩ := opens_int Tryz.underlying2 _ _ _ _ _ _ h4
    obtain ⟨a5, k5, _⟩ := opens_string Tryz.underlying9 _ _ _ _ _ _ h5
    cases k0
    cases k1
    cases k2
    cases k3
    cases k4
    cases k5
    exact ⟨⟨a0, a1, a2, a3, a4, a5⟩, k46_mk _ ⟨a0, a1, a2, a3, a4, a5⟩, ⟨(bounds_i64 w1).2, (bounds_i64 w2).2, (bounds_i64 w3).2, (bounds_i64 w4).2⟩⟩
set_option maxRecDepth 100000
instance : Inhabited LE := ⟨zLE⟩
theorem heap_le : Kd.Heap kLE := Kd.heap_iso _ (Kd.heap_pair (Kd.heap_int _) (Kd.heap_pair (Kd.heap_int _) (Kd.heap_pair (Kd.heap_int _) (Kd.heap_pair (Kd.heap_int _) (Kd.heap_pair (Kd.heap_int _) Kd.heap_string)))))
end Go.Proofs.YtehhafnjbkbmjaaGreat.Disk

/- commitlog: what is encoded decodes as it was, plain. -/
namespace Go.Proofs.YtehhafnjbkbmjaaGreat.Disk
open Go Go.RowKit Go.Proofs.YtehhafnjbkbmjaaGreatW.PrintWords Go.Proofs.YtehhafnjbkbmjaaGreatW.PrintLast Go.Proofs.YtehhafnjbkbmjaaGreatW.PrintMore Go.Proofs.YtehhafnjbkbmjaaGreat.PCommitlogSequence
theorem split128 (acc n p : Nat) : acc + n % 128 * p + n / 128 * (p * 128) = acc + n * p := by
  have e1 : n / 128 * (p * 128) = 128 * (n / 128 * p) := by rw [Nat.mul_comm p 128, ← Nat.mul_assoc, Nat.mul_comm (n / 128) 128, Nat.mul_assoc]
  have e2 : (128 * (n / 128) + n % 128) * p = 128 * (n / 128 * p) + n % 128 * p := by rw [Nat.add_mul, Nat.mul_assoc]
  have e3 : 128 * (n / 128) + n % 128 = n := by omega
  rw [e3] at e2
  omega
end Go.Proofs.YtehhafnjbkbmjaaGreat.Disk

/- commitlog: what decodes was encoded so, plain. -/
namespace Go.Proofs.YtehhafnjbkbmjaaGreat.Disk
open Go Go.RowKit Go.Proofs.YtehhafnjbkbmjaaGreatW.PrintWords Go.Proofs.YtehhafnjbkbmjaaGreatW.PrintLast Go.Proofs.YtehhafnjbkbmjaaGreatW.PrintMore Go.Proofs.YtehhafnjbkbmjaaGreat.PCommitlogSequence
theorem decGo_inv : ∀ (l : List Int) (i acc : Nat), i ≤ 9 → (∀ x ∈ l, 0 ≤ x ∧ x ≤ 255) → (decGo l i acc).2.2 = 0 →
    ∃ m, (decGo l i acc).1 = acc + m * 128 ^ i ∧ (0 < i → 0 < m) ∧ i < (decGo l i acc).2.1 ∧ l.take ((decGo l i acc).2.1 - i) = encVk (10 - i) m
  | [], i, acc, hi, hw, h => by simp [decGo] at h
  | c :: r, i, acc, hi, hw, h => by
    have hc := hw c List.mem_cons_self
    unfold decGo at h ⊢
    by_cases h1 : (i = 9 ∧ 1 < c) ∨ (0 < i ∧ c = 0)
    · rw [if_pos h1] at h
      simp at h
    · rw [if_neg h1] at h ⊢
      have hk : 10 - i = (9 - i) + 1 := by omega
      by_cases h2 : c < 128
      · rw [if_pos h2]
        refine ⟨c.toNat, rfl, fun h0 => ?_, Nat.lt_succ_self _, ?_⟩
        · rcases Nat.eq_zero_or_pos c.toNat with h3 | h3
          · exact absurd (Or.inr ⟨h0, by omega⟩) h1
          · exact h3
        · simp only [Nat.add_sub_cancel_left]
          rw [hk]
          unfold encVk
          rw [if_pos (by omega)]
          simp
          omega
      · rw [if_neg h2] at h ⊢
        have hi9 : i ≠ 9 := fun e => h1 (.inl ⟨e, by omega⟩)
        obtain ⟨m, e1, e2, e3, e4⟩ := decGo_inv r (i + 1) _ (by omega) (fun x hx => hw x (List.mem_cons_of_mem _ hx)) h
        have hm := e2 (by omega)
        obtain ⟨d, hd⟩ : ∃ d, d = c.toNat - 128 := ⟨_, rfl⟩
        have hdl : d < 128 := by omega
        rw [← hd] at e1 e3 e4 ⊢
        have hmod : (d + 128 * m) % 128 = d := by omega
        have hdiv : (d + 128 * m) / 128 = m := by omega
        refine ⟨d + 128 * m, ?_, fun _ => by omega, by omega, ?_⟩
        · rw [e1]
          have := split128 acc (d + 128 * m) (128 ^ i)
          rw [hmod, hdiv] at this
          rw [Nat.pow_succ, this]
        · rw [hk]
          unfold encVk
          rw [if_neg (by omega), hmod, hdiv]
          obtain ⟨q, hq⟩ : ∃ q, q = (decGo r (i + 1) (acc + d * 128 ^ i)).2.1 := ⟨_, rfl⟩
          rw [← hq] at e3 e4 ⊢
          rw [show q - i = (q - (i + 1)) + 1 by omega, List.take_succ_cons, e4, show 10 - (i + 1) = 9 - i by omega]
          congr 1
          omega
theorem decV_inv {b : List Int} {off : Int} (hw : ∀ x ∈ b, 0 ≤ x ∧ x ≤ 255) (h : (decV b off).2.2 = 0) : (b.drop off.toNat).take ((decV b off).2.1.toNat - off.toNat) = encV (decV b off).1 := by
  unfold decV at h ⊢
  split at h
  · simp at h
  · rename_i h1
    rw [if_neg h1]
    split at h
    · rename_i h2
      rw [if_pos h2]
      obtain ⟨m, e1, _, e3, e4⟩ := decGo_inv (b.drop off.toNat) 0 0 (by omega) (fun x hx => hw x (List.mem_of_mem_drop hx)) h2
      simp only
      rw [show (off + ((decGo (b.drop off.toNat) 0 0).2.1 : Int)).toNat - off.toNat = (decGo (b.drop off.toNat) 0 0).2.1 - 0 by omega, e4, e1]
      simp [encV]
    · rename_i h2
      exact absurd h h2
theorem take_join {b : List Int} {a m n : Nat} {x y : List Int} (h1 : (b.drop a).take (m - a) = x) (h2 : (b.drop m).take (n - m) = y) (ham : a ≤ m) (hmn : m ≤ n) : (b.drop a).take (n - a) = x ++ y := by
  subst h1 h2
  have e : b.drop m = (b.drop a).drop (m - a) := by rw [List.drop_drop]; congr 1; omega
  rw [e, show n - a = (m - a) + (n - m) by omega, List.take_add]
theorem fldGo_inv (l : List Int) (hw : ∀ x ∈ l, 0 ≤ x ∧ x ≤ 255) : ∀ (k : Nat) (a : Int) (ns : List Nat), 0 ≤ a → a ≤ l.length → (fldGo l k a ns).2.2 = 0 →
    ∃ ms : List Nat, (fldGo l k a ns).1 = ns ++ ms ∧ ms.length = k ∧ a ≤ (fldGo l k a ns).2.1 ∧ (l.drop a.toNat).take ((fldGo l k a ns).2.1.toNat - a.toNat) = ms.flatMap encV
  | 0, a, ns, h0, h1, h => ⟨[], by simp [fldGo], rfl, Int.le_refl _, by simp [fldGo]⟩
  | k + 1, a, ns, h0, h1, h => by
    unfold fldGo at h ⊢
    split at h
    · rename_i h2
      exact absurd h h2
    · rename_i h2
      rw [if_neg h2]
      have hd := decV_ok (b := l) (off := a) (by omega)
      have he := decV_inv (b := l) (off := a) hw (by omega)
      split at h
      · simp at h
      · rename_i h3
        rw [if_neg h3]
        obtain ⟨ms, e1, e2, e3, e4⟩ := fldGo_inv l hw k _ _ (by omega) hd.2.2 h
        refine ⟨(decV l a).1 :: ms, by rw [e1]; simp, by simp [e2], by omega, ?_⟩
        rw [List.flatMap_cons]
        exact take_join he e4 (by omega) (by omega)
theorem bytesOf_str {l : List Int} (hw : ∀ x ∈ l, 0 ≤ x ∧ x ≤ 255) : bytesOf (strOfNums l) = l := by
  unfold bytesOf strOfNums
  simp only [List.map_map]
  conv => rhs; rw [← List.map_id l]
  apply List.map_congr_left
  intro c hc
  have := hw c hc
  simp
  omega
theorem entE_inv {l : List Int} (hw : ∀ x ∈ l, 0 ≤ x ∧ x ≤ 255) (h : (entE l).2 = 0) : bodyF (entE l).1 = l := by
  unfold entE at h ⊢
  split at h
  · rename_i h1
    exact absurd h h1
  · rename_i h1
    rw [if_neg h1]
    have h1' : (fldF l).2.2 = 0 := by omega
    obtain ⟨o1, o2, o3⟩ := fldF_ok h1'
    obtain ⟨ms, e1, e2, e3, e4⟩ := fldGo_inv l hw 6 0 [] (by omega) (by omega) h1'
    have e1 : (fldF l).1 = ms := by simpa [fldF] using e1
    have e4 : l.take (fldF l).2.1.toNat = ms.flatMap encV := by simpa [fldF] using e4
    split at h
    · simp at h
    · rename_i h2
      rw [if_neg h2]
      split at h
      · simp at h
      · rename_i h3
        rw [if_neg h3]
        split at h
        · rename_i h4
          rw [if_pos h4]
          have hsz : (strOfNums (l.drop (fldF l).2.1.toNat)).size = (l.drop (fldF l).2.1.toNat).length := by
            rw [← bytesOf_length, bytesOf_str (fun x hx => hw x (List.mem_of_mem_drop hx))]
          rw [e1] at h2 h3 ⊢
          unfold bodyF
          have en : numsLE (leOf ms (strOfNums (l.drop (fldF l).2.1.toNat))) = ms := by
            match ms, e2 with
            | [m0, m1, m2, m3, m4, m5], _ =>
              have h2' : ¬ (l.length : Int) - (fldF l).2.1 < (m5 : Int) := h2
              have h3' : ¬ (m5 : Int) < (l.length : Int) - (fldF l).2.1 := h3
              have h5 : (strOfNums (l.drop (fldF l).2.1.toNat)).size = m5 := by rw [hsz, List.length_drop]; omega
              simp only [numsLE, leOf, h5]
              simp
          rw [en, ← e4]
          show l.take _ ++ bytesOf (strOfNums (l.drop (fldF l).2.1.toNat)) = l
          rw [bytesOf_str (fun x hx => hw x (List.mem_of_mem_drop hx)), List.take_append_drop]
        · simp at h
theorem decE_inv {b : List Int} {off : Int} (hw : ∀ x ∈ b, 0 ≤ x ∧ x ≤ 255) (h : (decE b off).2.2 = 0) : (b.drop off.toNat).take ((decE b off).2.1.toNat - off.toNat) = recF (decE b off).1 := by
  obtain ⟨h1, h2, h3, h4, h5, h6⟩ := decE_entry h
  have hd := decV_ok h1
  have he := decV_inv hw h1
  rw [h6]
  simp only
  obtain ⟨a, ha⟩ : ∃ a : Nat, (decV b off).2.1 = a := ⟨(decV b off).2.1.toNat, by omega⟩
  rw [ha] at h3 h4 h5 he hd ⊢
  simp only [Int.toNat_natCast] at h4 h5 he ⊢
  have hb : bodyF (entE ((b.drop a).take (decV b off).1)).1 = (b.drop a).take (decV b off).1 := entE_inv (fun x hx => hw x (List.mem_of_mem_drop (List.mem_of_mem_take hx))) h5
  have hbl : (bodyF (entE ((b.drop a).take (decV b off).1)).1).length = (decV b off).1 := by rw [hb, List.length_take, List.length_drop]; omega
  unfold recF
  rw [hbl, hb]
  have h8 : (b.drop (a + (decV b off).1)).take 4 = le4 (crcF ((b.drop a).take (decV b off).1)) := by
    have e0 : (b.drop (a + (decV b off).1)).take 4 = (b.take (a + (decV b off).1 + 4)).drop (a + (decV b off).1) := by rw [List.drop_take, show a + (decV b off).1 + 4 - (a + (decV b off).1) = 4 by omega]
    rw [h4, ← valN_part, e0]
    exact (le4_of _ (by rw [List.length_drop, List.length_take]; omega) (fun x hx => hw x (List.mem_of_mem_take (List.mem_of_mem_drop hx)))).symm
  have e9 : ((a : Int) + ((decV b off).1 : Int) + 4).toNat = a + (decV b off).1 + 4 := by omega
  rw [e9]
  refine take_join he ?_ (by omega) (by omega)
  refine take_join (m := a + (decV b off).1) (by rw [Nat.add_sub_cancel_left]) ?_ (by omega) (by omega)
  rw [Nat.add_sub_cancel_left]
  exact h8
theorem scanGo_inv (b : List Int) (hw : ∀ x ∈ b, 0 ≤ x ∧ x ≤ 255) : ∀ (k : Nat) (a : Int) (out : List LE), 0 ≤ a → a ≤ b.length → recsF out = b.take a.toNat → recsF (scanGo b k a out).1 = b.take (scanGo b k a out).2.toNat
  | 0, a, out, h0, h1, h => h
  | k + 1, a, out, h0, h1, h => by
    unfold scanGo
    split
    · split
      · exact h
      · rename_i h4
        have h4' : (decE b a).2.2 = 0 := by omega
        have h5 := decE_ok h4'
        have h6 := decE_inv hw h4'
        refine scanGo_inv b hw k _ _ (by omega) h5.2.2 ?_
        rw [recsF_snoc]
        have := take_join (b := b) (a := 0) (m := a.toNat) (n := (decE b a).2.1.toNat) (x := recsF out) (y := recF (decE b a).1) (by rw [h]; simp) h6 (by omega) (by omega)
        simpa using this.symm
    · exact h
theorem scanF_inv {b : List Int} (hw : ∀ x ∈ b, 0 ≤ x ∧ x ≤ 255) : recsF (scanF b).1 = b.take (scanF b).2.toNat := scanGo_inv b hw _ 0 [] (by omega) (by omega) (by simp [recsF])
end Go.Proofs.YtehhafnjbkbmjaaGreat.Disk
