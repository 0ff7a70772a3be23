import Derived.Test.YtpffeafoangegaaM4
import Derived.LaidEqlPtr
import Derived.Deep.RegionHeld3
import Derived.Test.YtpffeafoangegaaRows
import Derived.WalkKit
import Derived.ProofKit
import Derived.OpenShut
import Derived.ShutString
import Derived.ChangeOld
import Derived.Below
import Derived.SizedLaws
import Derived.Carry
/- The law SimdiskCrash: the walk. -/
namespace Go.Proofs.Ytpffeafoangegaa.Disk
open Go Go.RowKit Go.Proofs.YtpffeafoangegaaW.PrintWords Go.Proofs.YtpffeafoangegaaW.PrintLast Go.Proofs.YtpffeafoangegaaW.PrintMore Go.Proofs.Ytpffeafoangegaa.PSimdiskOperations
theorem pLeft_full (f : Fil) (c : Cf) (h : f.f1 = f.f0.length) : pLeft f c = f.f0 := by
  have e : pKept f c = 0 := by
    unfold pKept mn mx
    rw [h]
    simp only [Int.sub_self]
    split <;> (try split) <;> omega
  unfold pLeft
  rw [e, h]
  simp
theorem newDir_at (l : List Ent) (j : Nat) (h : j < (newDir l l.length).length) : (newDir l l.length)[j] = ⟨(l[j]'(by rw [newDir_length l _ (Nat.le_refl _)] at h; exact h)).f0, (j : Int)⟩ := by
  simp [newDir]
theorem newDir_twice (l : List Ent) : newDir (newDir l l.length) (newDir l l.length).length = newDir l l.length := by
  have hl := newDir_length l l.length (Nat.le_refl _)
  apply List.ext_getElem
  · rw [newDir_length _ _ (Nat.le_refl _)]
  · intro j h1 h2
    rw [newDir_at _ j h1, newDir_at l j h2]
theorem newFiles_getElem (S : PS) (l : List Ent) (cs : List Cf) (j : Nat) (h : j < (newFiles S l cs).length) : (newFiles S l cs)[j] = ⟨pLeft (fileAt S (l[j]'(by rw [newFiles_length] at h; exact h)).f1) (cfAt cs j), (pLeft (fileAt S (l[j]'(by rw [newFiles_length] at h; exact h)).f1) (cfAt cs j)).length⟩ := by
  simp [newFiles]
/-- A second crash changes nothing. -/
theorem crash_twice (S : PS) (n m : Int) (cs ds : List Cf) : pCrash (pCrash S n cs) m ds = pCrash S n cs := by
  have e1 : pCrashDir (pCrash S n cs) m = newDir (pCrashDir S n) (pCrashDir S n).length := by simp [pCrashDir, pCrash]
  have e2 : newFiles (pCrash S n cs) (newDir (pCrashDir S n) (pCrashDir S n).length) ds = newFiles S (pCrashDir S n) cs := by
    apply List.ext_getElem
    · rw [newFiles_length, newFiles_length, newDir_length _ _ (Nat.le_refl _)]
    · intro j h1 h2
      rw [newFiles_getElem]
      have h3 : j < (newDir (pCrashDir S n) (pCrashDir S n).length).length := by rw [newFiles_length] at h1; exact h1
      have e3 : fileAt (pCrash S n cs) ((newDir (pCrashDir S n) (pCrashDir S n).length)[j]).f1 = (newFiles S (pCrashDir S n) cs)[j] := by
        rw [newDir_at _ j h3]
        show (newFiles S (pCrashDir S n) cs).getD ((j : Int)).toNat _ = _
        simp [List.getD, h2]
      have e4 : ((newFiles S (pCrashDir S n) cs)[j]).f1 = (((newFiles S (pCrashDir S n) cs)[j]).f0.length : Int) := by rw [newFiles_getElem]
      rw [e3, pLeft_full _ _ e4]
      generalize (newFiles S (pCrashDir S n) cs)[j] = f at e4 ⊢
      obtain ⟨a, b⟩ := f
      simp only at e4 ⊢
      rw [e4]
  show (⟨newFiles (pCrash S n cs) (pCrashDir (pCrash S n cs) m) ds, newDir (pCrashDir (pCrash S n cs) m) (pCrashDir (pCrash S n cs) m).length, newDir (pCrashDir (pCrash S n cs) m) (pCrashDir (pCrash S n cs) m).length, [], false, 0⟩ : PS) = _
  rw [e1, e2, newDir_twice]
  rfl
theorem sync_crash (S : PS) (n : Int) (cs : List Cf) : (pSyncDir (pCrash S n cs)).2 = 0 := by
  have : pCheck (pCrash S n cs).lim (pCrash S n cs).left [] = 0 := by kernel_rfl
  simp [pSyncDir, this]
/-- A disk's call, then the reference's, whose state is stored into the box b. -/
theorem pair_store {w wx w4 w5 w6 : World} {F ok F' : Nat → Prop} {d b : Nat} {L' : Lay} {S' : PS} {b0 : Option Addr} {d0 : Nat} {b1 : Option Addr} {d1 : Nat} {b2 : Option Addr} {d2 : Nat} {b3 : Option Addr} {d3 : Nat} {x0 x1 x2 x3 x4 x5 : Value}
    (hw : Below w.heap.size w wx) (hbw : w.heap.size ≤ b) (hk : wx.heap[b]? = some (.cells #[x0, x1, x2, x3, x4, x5] tState (0, 0))) (hap : ∀ k, ok k → ¬ F k) (hF : ∀ k, F k → w.heap.size ≤ k ∧ k ≠ b) (hok : ∀ k, ok k → k ≠ b)
    (hc : Chg wx F w4 F') (hr : Rep w4 F' d L' S' (Live S')) (hb : Below w4.heap.size w4 w5) (hf : Ref w5 (fun k => (ok k ∧ k < wx.heap.size) ∨ w4.heap.size ≤ k) b0 d0 b1 d1 b2 d2 b3 d3 S')
    (h6 : w6 = ((((((w5.setCell ⟨b, 0, none⟩ (.slice b0 S'.files.length d0)).setCell ⟨b, 1, none⟩ (.slice b1 S'.dir.length d1)).setCell ⟨b, 2, none⟩ (.slice b2 S'.dur.length d2)).setCell ⟨b, 3, none⟩ (.slice b3 S'.pend.length d3)).setCell ⟨b, 4, none⟩ (.bool S'.lim)).setCell ⟨b, 5, none⟩ (.int .i64 S'.left))) :
    w6.heap[b]? = some (.cells (svC b0 d0 b1 d1 b2 d2 b3 d3 S') tState (0, 0)) ∧ Pair w6 F' (okN ok wx F') d (sv b0 d0 b1 d1 b2 d2 b3 d3 S') S' ∧ Below w.heap.size w w6 ∧ (∀ k, F' k → w.heap.size ≤ k ∧ k ≠ b) ∧ (∀ k, okN ok wx F' k → k ≠ b) ∧ w5.heap.size = w6.heap.size := by
  have lb := lt_blk hk
  have s4 : wx.heap.size ≤ w4.heap.size := hc.fr.size
  have s5 := hb.size
  have sw := hw.size
  have far : ∀ k, k ≠ b → w6.heap[k]? = w5.heap[k]? := fun k hkb => by rw [h6, other_six hkb]
  have hs6 : w5.heap.size = w6.heap.size := by rw [h6]; simp [World.setCell]
  have kb5 : w5.heap[b]? = some (.cells #[x0, x1, x2, x3, x4, x5] tState (0, 0)) := (hb.block b (by omega)).trans ((hc.fr.block b lb (fun e => (hF b e).2 rfl)).trans hk)
  have kb6 : w6.heap[b]? = some (.cells (svC b0 d0 b1 d1 b2 d2 b3 d3 S') tState (0, 0)) := by rw [h6]; exact set_six _ _ _ _ _ _ kb5
  have b56 : Below w.heap.size w5 w6 := by rw [h6]; exact below_six (Below.refl _ _) hbw _ _ _ _ _ _
  clear h6
  have newF : ∀ k, F' k → w.heap.size ≤ k ∧ k ≠ b := fun k hk => by
    rcases hc.new k hk with h1 | h1
    · exact hF k h1
    · omega
  have newO : ∀ k, okN ok wx F' k → k ≠ b := fun k hk => by
    rcases hk with hk | hk
    · exact hok k hk.1
    · have := hk.1; omega
  have bx4 : Below w.heap.size wx w4 := hc.fr.toBelow (by omega) (fun k hk => (hF k hk).1)
  refine ⟨kb6, ⟨⟨L', ?_⟩, ⟨b0, d0, b1, d1, b2, d2, b3, d3, rfl, ?_⟩, fun k hk => ?_, fun k hk hk' => ?_⟩, ((hw.trans bx4).trans (hb.mono (by omega))).trans b56, newF, newO, hs6⟩
  · exact (hr.below hb).move (fun k hk _ => far k (newF k hk).2)
  · refine (hf.move (fun k hk hlt5 => far k ?_)).mono (fun k hk _ => ?_)
    · rcases hk with hk | hk
      · exact hok k hk.1
      · omega
    · rcases hk with hk | hk
      · exact .inl hk
      · exact .inr ⟨by omega, fun e => by have := hc.lt k e; omega⟩
  · have := hc.lt k hk; omega
  · rcases hk with hk | hk
    · rcases hc.new k hk' with h | h
      · exact hap k hk.1 h
      · have := hk.2; omega
    · exact hk.2 hk'
theorem pair_after {w7 w8 : World} {F ok F' : Nat → Prop} {d : Nat} {v : Value} {S : PS} {L' : Lay} (h : Pair w7 F ok d v S) (hc : Chg w7 F w8 F') (hr : Rep w8 F' d L' S (Live S)) : Pair w8 F' (fun k => ok k ∧ k < w7.heap.size) d v S := by
  obtain ⟨_, ⟨a0, c0, a1, c1, a2, c2, a3, c3, rfl, hf⟩, _, hap⟩ := h
  refine ⟨⟨L', hr⟩, ⟨a0, c0, a1, c1, a2, c2, a3, c3, rfl, (hf.mono (ok' := fun k => ok k ∧ k < w7.heap.size) (fun k h1 h2 => ⟨h1, h2⟩)).move (fun k hk hlt => hc.fr.block k hlt (hap k hk.1))⟩, hc.lt, fun k hk hk' => ?_⟩
  rcases hc.new k hk' with h1 | h1
  · exact hap k hk.1 h1
  · have := hk.2; omega
theorem two_cellsA {w : World} {b : Nat} {x0 x1 : Value} {t : Nat} {fz : Nat × Nat} (h : w.heap[b]? = some (.cells #[x0, x1] t fz)) : (∀ o, (w.alloc o).cell? ⟨b, 0, none⟩ = some x0) ∧ (∀ o, (w.alloc o).cell? ⟨b, 1, none⟩ = some x1) := ⟨fun o => cell_blk (blk_allocN h o) 0, fun o => cell_blk (blk_allocN h o) 1⟩
theorem chg_below {a b : World} {F F' : Nat → Prop} {B : Nat} (h : Chg a F b F') (hF : ∀ k, F k → B ≤ k) (hB : B ≤ a.heap.size) : Below B a b := h.fr.toBelow hB hF
set_option maxHeartbeats 4000000 in
set_option maxRecDepth 100000 in
theorem crash_walk (w : World) (A : Option Addr) (c : Nat) (l : List SOp) (h : Kd.C kOp w A l.length l) (hc : l.length ≤ c) (hw : ∀ x ∈ l, WfOp x) (n0 n1 : Int) (A2 : Option Addr) (c2 : Nat) (cs : List Cf) (h2 : Kd.C kC w A2 cs.length cs) (hc2 : cs.length ≤ c2) (A3 : Option Addr) (c3 : Nat) (ds : List Cf) (h3 : Kd.C kC w A3 ds.length ds) (hc3 : ds.length ≤ c3) :
    Calls Try.prog 4 #[.slice A l.length c, .agg #[.int .i64 n0, .int .i64 n1], .slice A2 cs.length c2, .slice A3 ds.length c3] w fun e w' => e = .returned (.bool true) ∧ Below w.heap.size w w' := by
  have HR := Lib.hid (Rd.ofC heap_op h hc)
  have HR2 := Lib.hid (Rd.ofC heap_cf h2 hc2)
  have HR3 := Lib.hid (Rd.ofC heap_cf h3 hc3)
  have HW := Lib.hid hw
  have HC2 := Lib.hid hc2
  have HC3 := Lib.hid hc3
  have hcap1 := h.2.1
  have hcap2 := h2.2.1
  have hcap3 := h3.2.1
  obtain ⟨w1, hw1⟩ : ∃ w1, w1 = w.alloc (.cells #[.int .i64 n0, .int .i64 n1] 34) := ⟨_, rfl⟩
  have hb1 : Below w.heap.size w w1 := by rw [hw1]; exact below_alloc (Below.refl _ _) _
  have hk1 : w1.heap[w.heap.size]? = some (.cells #[.int .i64 n0, .int .i64 n1] 34 (0, 0)) := by rw [hw1]; exact heap_alloc_new w _
  have HB1 := Lib.hid hb1
  have HK1 := Lib.hid hk1
  clear h h2 h3 hc hc2 hc3 hw hb1 hk1
  by_cases hmain : lightB l = true ∧ cs.length ≤ 100 ∧ ds.length ≤ 100
  · obtain ⟨hl, hcs, hds⟩ := hmain
    have HL := Lib.hid hl
    have HS := Lib.hid (stAt_sound Sound.new hl HW.out l.length (Nat.le_refl _))
    have h60 := (light_at hl).1
    have hd1 : decide ((100 : Int) < (cs.length : Int)) = false := decide_eq_false (by omega)
    have hd2 : decide ((100 : Int) < (ds.length : Int)) = false := decide_eq_false (by omega)
    clear hl hcs hds
    go_enter Try.func4, Try.ntmps4
    go_upto_region 1 with (fail)
    rw [← hw1]
    clear hw1
    go_wp2_with (first
      | (go_at_call 8; refine (light_calls _ A c l (HR.out.below HB1.out).now HR.out.le).mono ?_; rw [HL.out]; rintro e w2 ⟨rfl, hb⟩; have HB2 := Lib.hid hb; clear hb)
      | (go_at_call 10; refine (play_calls _ A c l ((HR.out.below HB1.out).below HB2.out).now HR.out.le HL.out HW.out).mono ?_; rintro e w3 ⟨d, v, F, ok, rfl, hp, hb, hF, hok⟩; obtain ⟨St, hSt⟩ : ∃ St, St = stAt pNew l l.length := ⟨_, rfl⟩; rw [← hSt] at hp; have HST := Lib.hid (hSt ▸ HS.out); obtain ⟨a0, c0, a1, c1, a2, cc2, a3, cc3, hv, href⟩ := hp.ref; subst hv; obtain ⟨L, hrep⟩ := hp.rep; have HREP3 := Lib.hid hrep; have HREF3 := Lib.hid href; have HP3 := Lib.hid hp; have HB3 := Lib.hid (HB2.out.trans (hb.mono HB2.out.size)); have HF3 := Lib.hid (show ∀ k, F k → w1.heap.size ≤ k from fun k hk => Nat.le_trans HB2.out.size (hF k hk)); have K53 := Lib.hid (blk_below HK1.out HB3.out); obtain ⟨q0, q1⟩ := two_cellsA K53.out; clear hp hb hF hok hrep href hSt)
      | (go_at_call 12; refine (Crash_calls _ F d L St _ n0 A2 c2 cs (((HR2.out.below HB1.out).below HB3.out).below (below_alloc (Below.refl _ _) _)).now (HREP3.out.alloc _) HST.out.good (by omega)).mono ?_; rintro e w4 ⟨rfl, F4, L4, hr4, hc4⟩; have HR4 := Lib.hid hr4; have HC4 := Lib.hid hc4; have HB4 := Lib.hid (show Below w1.heap.size w1 w4 from (below_alloc HB3.out _).trans (chg_below hc4 HF3.out (by have := HB3.out.size; simp; omega))); have K54 := Lib.hid (blk_below HK1.out HB4.out); have KB4 := Lib.hid (chg_blk hc4 (heap_alloc_new w3 _) (not_new HP3.out.lt (Nat.le_refl _))); have HREF4 := Lib.hid (((HREF3.out.mono (ok' := fun k => ok k ∧ k < w3.heap.size) (fun k h1 h2 => ⟨h1, h2⟩)).below (below_alloc (Below.refl _ _) _)).chg hc4 (fun k hk => HP3.out.apart k hk.1)); clear q0 q1; obtain ⟨q0, q1⟩ := two_cells K54.out; obtain ⟨s0, s1, s2, s3, s4, s5⟩ := six_cells KB4.out; clear hr4 hc4 HREP3)
      | (go_at_call 13; refine (refCrash_calls _ (fun k => ok k ∧ k < w3.heap.size) a0 c0 a1 c1 a2 cc2 a3 cc3 St _ n0 A2 c2 cs ((HR2.out.below HB1.out).below HB4.out).now HC2.out HREF4.out HST.out.good (by omega)).mono ?_; rintro e w5 ⟨v, rfl, ⟨b0, d0, b1, d1, b2, d2, b3, d3, rfl, hr⟩, hb⟩; have hps := fun w6 h6 => @pair_store w1 _ w4 w5 w6 F (fun k => ok k ∧ k < w3.heap.size) F4 d w3.heap.size L4 _ b0 d0 b1 d1 b2 d2 b3 d3 _ _ _ _ _ _ (below_alloc HB3.out _) HB3.out.size (heap_alloc_new w3 _) (fun k hk => HP3.out.apart k hk.1) (fun k hk => ⟨HF3.out k hk, by have := HP3.out.lt k hk; omega⟩) (fun k hk => by have := hk.2; omega) HC4.out HR4.out hb (hr.mono (ok' := fun k => ((ok k ∧ k < w3.heap.size) ∧ k < _) ∨ w4.heap.size ≤ k) (fun k hk _ => by rcases hk with hk | hk; exact .inl ⟨hk, by have := hk.2; simp; omega⟩; exact .inr hk)) h6; have HPS := Lib.hid hps; have KB5 := Lib.hid (blk_below KB4.out hb); clear s0 s1 s2 s3 s4 s5 q0 q1; obtain ⟨f0, f1, f2, f3, f4, f5⟩ := six_frozen KB5.out; obtain ⟨s0, s1, s2, s3, s4, s5⟩ := six_cells KB5.out; clear hr hb hps)
      | (go_at_call 11; obtain ⟨z1, z2, z3, z4, z5, z6⟩ := HPS.out _ rfl; refine (same_calls _ F4 _ d _ _ _ z2 HST.out.crash.good (by omega)).mono ?_; rintro e w7 ⟨rfl, hb⟩; have HP7 := Lib.hid (z2.below hb); have HB7 := Lib.hid (z3.trans (hb.mono z3.size)); have HF7 := Lib.hid z4; have K57 := Lib.hid (blk_below HK1.out HB7.out); have KB7 := Lib.hid (blk_below z1 hb); clear z1 z2 z3 z4 z5 z6 HPS hb s0 s1 s2 s3 s4 s5 f0 f1 f2 f3 f4 f5; obtain ⟨q0, q1⟩ := two_cells K57.out; obtain ⟨s0, s1, s2, s3, s4, s5⟩ := six_cells KB7.out)
      | (go_at_call 12; obtain ⟨L7, hr7⟩ := HP7.out.rep; refine (Crash_calls _ F4 d L7 _ _ n1 A3 c3 ds ((HR3.out.below HB1.out).below HB7.out).now hr7 HST.out.crash.good (by omega)).mono ?_; rintro e w8 ⟨rfl, F8, L8, hr8, hc8⟩; rw [crash_twice] at hr8; have HR8 := Lib.hid hr8; have HF8 := Lib.hid (show ∀ k, F8 k → w1.heap.size ≤ k from fun k hk => by rcases hc8.new k hk with h1 | h1; exact (HF7.out k h1).1; exact Nat.le_trans HB7.out.size h1); have HP8 := Lib.hid (pair_after HP7.out hc8 hr8); have HB8 := Lib.hid (HB7.out.trans (chg_below hc8 (fun k hk => (HF7.out k hk).1) HB7.out.size)); have KB8 := Lib.hid (chg_blk hc8 KB7.out (fun e => (HF7.out _ e).2 rfl)); clear hr7 hr8 hc8 q0 q1 s0 s1 s2 s3 s4 s5 HP7; obtain ⟨s0, s1, s2, s3, s4, s5⟩ := six_cells KB8.out)
      | (go_at_call 11; refine (same_calls _ F8 _ d _ _ _ HP8.out HST.out.crash.good (by omega)).mono ?_; rintro e w9 ⟨rfl, hb⟩; have HR9 := Lib.hid (HR8.out.below hb); have HB9 := Lib.hid (HB8.out.trans (hb.mono HB8.out.size)); clear hb HP8 s0 s1 s2 s3 s4 s5)
      | (go_at_call 14; refine (SyncDir_calls _ F8 d L8 _ _ HR9.out HST.out.crash.good (by omega)).mono ?_; rw [sync_crash]; rintro e w10 ⟨rfl, F10, L10, hr10, hc10⟩; have HC10 := Lib.hid hc10; clear hr10 hc10)
      | (go_at_call 9; refine (awake_calls _).mono ?_; rintro e w11 ⟨rfl, hb⟩; have HB11 := Lib.hid hb; clear hb)
      | fail)
    go_ret
    have hb10 := HB9.out.trans (chg_below HC10.out HF8.out HB9.out.size)
    exact ⟨rfl, HB1.out.trans ((hb10.trans (HB11.out.mono hb10.size)).mono HB1.out.size)⟩
  · cases hl : lightB l with
    | false =>
      have HL := Lib.hid hl
      clear hl hmain
      go_enter Try.func4, Try.ntmps4
      go_upto_region 1 with (fail)
      rw [← hw1]
      clear hw1
      go_wp2_with (first | (go_at_call 8; refine (light_calls _ A c l (HR.out.below HB1.out).now HR.out.le).mono ?_; rw [HL.out]; rintro e w2 ⟨rfl, hb⟩; have HB2 := Lib.hid hb; clear hb) | (go_at_call 9; refine (awake_calls _).mono ?_; rintro e w11 ⟨rfl, hb⟩; have HB11 := Lib.hid hb; clear hb) | fail)
      go_ret
      exact ⟨rfl, HB1.out.trans ((HB2.out.trans (HB11.out.mono HB2.out.size)).mono HB1.out.size)⟩
    | true =>
      have HL := Lib.hid hl
      have hways : (decide ((100 : Int) < (cs.length : Int)) = true) ∨ (decide ((100 : Int) < (cs.length : Int)) = false ∧ decide ((100 : Int) < (ds.length : Int)) = true) := by
        by_cases h1 : cs.length ≤ 100
        · right
          exact ⟨decide_eq_false (by omega), decide_eq_true (by have : ¬ ds.length ≤ 100 := fun h2 => hmain ⟨hl, h1, h2⟩; omega)⟩
        · left
          exact decide_eq_true (by omega)
      clear hl hmain
      rcases hways with hd1 | ⟨hd1, hd2⟩
      all_goals
        go_enter Try.func4, Try.ntmps4
        go_upto_region 1 with (fail)
        rw [← hw1]
        clear hw1
        go_wp2_with (first | (go_at_call 8; refine (light_calls _ A c l (HR.out.below HB1.out).now HR.out.le).mono ?_; rw [HL.out]; rintro e w2 ⟨rfl, hb⟩; have HB2 := Lib.hid hb; clear hb) | (go_at_call 9; refine (awake_calls _).mono ?_; rintro e w11 ⟨rfl, hb⟩; have HB11 := Lib.hid hb; clear hb) | fail)
        go_ret
        exact ⟨rfl, HB1.out.trans ((HB2.out.trans (HB11.out.mono HB2.out.size)).mono HB1.out.size)⟩
end Go.Proofs.Ytpffeafoangegaa.Disk

/- A map keyed by pointers to files: what Clone keeps its copies in. -/
namespace Go.Proofs.Ytpffeafoangegaa.Disk
open Go Go.RowKit Go.Proofs.YtpffeafoangegaaW.PrintWords Go.Proofs.YtpffeafoangegaaW.PrintLast Go.Proofs.YtpffeafoangegaaW.PrintMore Go.Proofs.Ytpffeafoangegaa.PSimdiskOperations
open Go.ChangeMaps (setBlock heap_setBlock_same heap_setBlock_other)
abbrev tCop : Nat := 95
abbrev tPF : Nat := 70
abbrev fptr (b : Nat) : Value := .pointer (some ⟨b, 0, none⟩)
def FileAt (w : World) (b : Nat) : Prop := ∃ c, w.heap[b]? = some (.cells c tFile (0, 0))
/-- The map of block bm holds these pairs, in this order. -/
def PMap (w : World) (bm : Nat) (ks : List (Nat × Nat)) : Prop := ∃ es clock, w.heap[bm]? = some (.map es clock) ∧ es.toList.map (fun e => (e.key, e.val)) = ks.map (fun p => (fptr p.1, fptr p.2))
theorem equal_ptr_same' {P : Program} {tp te : TypeId} {j : TypeInfo} (w : World) (a : Addr) (hp : P.underlying tp = some (.pointer te)) (hte : P.info? te = some j) : (Op.equal tp (.pointer (some a)) (.pointer (some a))).run P w = .ok true w := by
  have h : ∀ d : Nat, (Op.equalIn (d + 1) tp (.pointer (some a)) (.pointer (some a))).run P w = .ok true w := fun d => by
    simp [Op.equalIn, run_underlying hp, sizeOf, typeInfo, hte, run_sameAddr_same]
  simp [Op.equal, Op.maxDepth, h 9999]
theorem equal_ptr_other' {P : Program} {tp te : TypeId} {j : TypeInfo} (w : World) {a b : Addr} {ca cb : Array Value} {ta tb : TypeId} (hp : P.underlying tp = some (.pointer te)) (hte : P.info? te = some j) (hs : j.size ≠ 0) (hne : a ≠ b) (ha : w.heap[a.block]? = some (.cells ca ta (0, 0))) (hb : w.heap[b.block]? = some (.cells cb tb (0, 0))) : (Op.equal tp (.pointer (some a)) (.pointer (some b))).run P w = .ok false w := by
  have h : ∀ d : Nat, (Op.equalIn (d + 1) tp (.pointer (some a)) (.pointer (some b))).run P w = .ok false w := fun d => by
    simp [Op.equalIn, run_underlying hp, sizeOf, typeInfo, hte, hs, run_sameAddr_other w hne ha hb]
  simp [Op.equal, Op.maxDepth, h 9999]
theorem infoFile : ∃ j, Try.prog.info? tFile = some j ∧ j.size ≠ 0 := by
  have h : (Try.prog.info? tFile).map (·.size) = some 2 := by kernel_rfl
  cases hj : Try.prog.info? tFile with
  | none => rw [hj] at h; cases h
  | some j =>
    rw [hj] at h
    refine ⟨j, rfl, ?_⟩
    simp only [Option.map_some, Option.some.injEq] at h
    omega
theorem equal_ptr_same (w : World) (a : Addr) : (Op.equal tPF (.pointer (some a)) (.pointer (some a))).run Try.prog w = .ok true w := by
  obtain ⟨j, hj, _⟩ := infoFile
  exact equal_ptr_same' w a Try.underlying70 hj
theorem equal_ptr_other (w : World) {a b : Addr} {ca cb : Array Value} {ta tb : TypeId} (hne : a ≠ b) (ha : w.heap[a.block]? = some (.cells ca ta (0, 0))) (hb : w.heap[b.block]? = some (.cells cb tb (0, 0))) : (Op.equal tPF (.pointer (some a)) (.pointer (some b))).run Try.prog w = .ok false w := by
  obtain ⟨j, hj, hs⟩ := infoFile
  exact equal_ptr_other' w Try.underlying70 hj hs hne ha hb
def pfind (f : Nat) : List (Nat × Nat) → Nat → Option (Nat × Value)
  | [], _ => none
  | p :: r, i => if p.1 = f then some (i, fptr p.2) else pfind f r (i + 1)
theorem find_ptr {w : World} {f : Nat} (hf : FileAt w f) : ∀ (es : List MapEntry) (ks : List (Nat × Nat)), es.map (fun e => (e.key, e.val)) = ks.map (fun p => (fptr p.1, fptr p.2)) → (∀ p ∈ ks, FileAt w p.1) → ∀ i, (Instr.findAsking tPF (fptr f) es i).run Try.prog w = .ok (pfind f ks i) w
  | [], [], _, _, i => by simp [Instr.findAsking, pfind]
  | [], _ :: _, h, _, _ => by simp at h
  | _ :: _, [], h, _, _ => by simp at h
  | e :: es, p :: ks, h, hk, i => by
    simp only [List.map_cons, List.cons.injEq, Prod.mk.injEq] at h
    obtain ⟨⟨h1, h2⟩, h3⟩ := h
    have ih := find_ptr hf es ks h3 (fun q hq => hk q (List.mem_cons_of_mem _ hq)) (i + 1)
    unfold Instr.findAsking pfind
    rw [h1, h2]
    by_cases he : p.1 = f
    · rw [if_pos he, he]
      simp [equal_ptr_same, Result.andThen]
    · rw [if_neg he]
      obtain ⟨c1, hc1⟩ := hf
      obtain ⟨c2, hc2⟩ := hk p List.mem_cons_self
      have := equal_ptr_other w (a := ⟨f, 0, none⟩) (b := ⟨p.1, 0, none⟩) (by intro e; cases e; exact he rfl) hc1 hc2
      simp [this, Result.andThen, ih]
theorem findKey_ptr {w : World} {f : Nat} (hf : FileAt w f) (es : List MapEntry) (ks : List (Nat × Nat)) (h : es.map (fun e => (e.key, e.val)) = ks.map (fun p => (fptr p.1, fptr p.2))) (hk : ∀ p ∈ ks, FileAt w p.1) : (Instr.findKey tPF (fptr f) es).run Try.prog w = .ok (pfind f ks 0) w := by
  cases es with
  | nil =>
    cases ks with
    | nil => simp [Instr.findKey, run_underlying Try.underlying70, Result.andThen, Instr.findNow, pfind]
    | cons p r => simp at h
  | cons e es =>
    have := find_ptr hf (e :: es) ks h hk 0
    simp [Instr.findKey, run_underlying Try.underlying70, Result.andThen, Instr.findNow, Instr.sameNow, this]
theorem checkKey_ptr (w : World) (b : Bool) (f : Nat) : (Instr.checkKey b 10000 tPF (fptr f)).run Try.prog w = .ok () w := by
  show (Instr.checkKey b (9999 + 1) tPF (fptr f)).run Try.prog w = .ok () w
  unfold Instr.checkKey
  simp [run_underlying Try.underlying70, Result.andThen]
/-- What a look-up gives. -/
theorem plook {w : World} {bm f : Nat} {ks : List (Nat × Nat)} (h : PMap w bm ks) (hf : FileAt w f) (hk : ∀ p ∈ ks, FileAt w p.1) (ok : Bool) :
    (Instr.lookup tCop (.map (some bm)) (fptr f) ok).run Try.prog w = .ok (match pfind f ks 0 with | some (_, v) => (if ok then .tuple #[v, .bool true] else v) | none => (if ok then .tuple #[.pointer none, .bool false] else .pointer none)) w := by
  obtain ⟨es, clock, hb, he⟩ := h
  have h1 := findKey_ptr hf es.toList ks he hk
  cases hp : pfind f ks 0 with
  | none =>
    rw [hp] at h1
    simp [Instr.lookup, run_underlying Try.underlying95, MapKept.run_getObj_map hb, checkKey_ptr, h1, Result.andThen]
  | some q =>
    obtain ⟨i, v⟩ := q
    rw [hp] at h1
    simp [Instr.lookup, run_underlying Try.underlying95, MapKept.run_getObj_map hb, checkKey_ptr, h1, Result.andThen]
theorem pfind_none {f : Nat} : ∀ (ks : List (Nat × Nat)) (i : Nat), (∀ p ∈ ks, p.1 ≠ f) → pfind f ks i = none
  | [], _, _ => rfl
  | p :: r, i, h => by
    unfold pfind
    rw [if_neg (h p List.mem_cons_self)]
    exact pfind_none r _ (fun q hq => h q (List.mem_cons_of_mem _ hq))
theorem pfind_some {f g : Nat} : ∀ (ks : List (Nat × Nat)) (i : Nat), (f, g) ∈ ks → (∀ p ∈ ks, p.1 = f → p.2 = g) → ∃ j, pfind f ks i = some (j, fptr g)
  | [], _, h, _ => by cases h
  | p :: r, i, h, hu => by
    unfold pfind
    by_cases hp : p.1 = f
    · rw [if_pos hp, hu p List.mem_cons_self hp]
      exact ⟨i, rfl⟩
    · rw [if_neg hp]
      rcases List.mem_cons.1 h with rfl | h
      · exact absurd rfl hp
      · exact pfind_some r _ h (fun q hq => hu q (List.mem_cons_of_mem _ hq))
/-- A new key is put. -/
theorem pput {w : World} {bm f : Nat} {ks : List (Nat × Nat)} {es : Array MapEntry} {clock : Nat} (hb : w.heap[bm]? = some (.map es clock)) (he : es.toList.map (fun e => (e.key, e.val)) = ks.map (fun p => (fptr p.1, fptr p.2))) (hf : FileAt w f) (hk : ∀ p ∈ ks, FileAt w p.1) (hn : ∀ p ∈ ks, p.1 ≠ f) (v : Value) :
    (Instr.mapUpdate tCop (.map (some bm)) (fptr f) v).run Try.prog w = .ok () (setBlock w bm (.map (es.push ⟨fptr f, v, clock⟩) (clock + 1))) := by
  have h1 := findKey_ptr hf es.toList ks he hk
  rw [pfind_none ks 0 hn] at h1
  simp [Instr.mapUpdate, run_underlying Try.underlying95, MapKept.run_getObj_map hb, checkKey_ptr, h1, MapKept.run_setObj_map _ hb, Result.andThen, setBlock]
theorem pmap_put {w : World} {bm f g : Nat} {ks : List (Nat × Nat)} {es : Array MapEntry} {clock : Nat} (hb : w.heap[bm]? = some (.map es clock)) (he : es.toList.map (fun e => (e.key, e.val)) = ks.map (fun p => (fptr p.1, fptr p.2))) : PMap (setBlock w bm (.map (es.push ⟨fptr f, fptr g, clock⟩) (clock + 1))) bm (ks ++ [(f, g)]) :=
  ⟨_, _, heap_setBlock_same hb _, by rw [Array.toList_push, List.map_append, List.map_append, he]; rfl⟩
theorem PMap.move {w w' : World} {bm : Nat} {ks : List (Nat × Nat)} (h : PMap w bm ks) (hm : w'.heap[bm]? = w.heap[bm]?) : PMap w' bm ks := by
  obtain ⟨es, clock, hb, he⟩ := h
  exact ⟨es, clock, hm.trans hb, he⟩
theorem PMap.lt {w : World} {bm : Nat} {ks : List (Nat × Nat)} (h : PMap w bm ks) : bm < w.heap.size := by
  obtain ⟨es, clock, hb, he⟩ := h
  exact lt_blk hb
/-- The copies made so far: of the files 'seen', each in a block and a row of its own. -/
structure Cop (w : World) (base : Nat) (L : Lay) (S : PS) (bm : Nat) (seen : List Int) (blk2 : Int → Nat) (data2 : Int → Value) : Prop where
  live : ∀ i ∈ seen, Live S i
  map : PMap w bm (seen.map fun i => (L.blk i, blk2 i))
  file : ∀ i ∈ seen, w.heap[blk2 i]? = some (.cells (fileCells (data2 i) (fileAt S i).f1) tFile (0, 0))
  rows : ∀ i ∈ seen, w.ownsRow base 5 1 (data2 i) (fileAt S i).f0.length (u8s (fileAt S i).f0)
  inj : ∀ i ∈ seen, ∀ j ∈ seen, blk2 i = blk2 j → i = j
  apart : ∀ i ∈ seen, ∀ j ∈ seen, i ≠ j → (data2 i).ownBlock = none ∨ (data2 i).ownBlock ≠ (data2 j).ownBlock
  ge : ∀ i ∈ seen, base ≤ blk2 i
  geM : base ≤ bm
/-- The copies' blocks are left alone. -/
theorem Cop.move {w w' : World} {base : Nat} {L : Lay} {S : PS} {bm : Nat} {seen : List Int} {blk2 : Int → Nat} {data2 : Int → Value} (h : Cop w base L S bm seen blk2 data2) (hm : w'.heap[bm]? = w.heap[bm]?) (hf : ∀ k c, w.heap[k]? = some (.cells c tFile (0, 0)) → base ≤ k → w'.heap[k]? = w.heap[k]?) (hr : ∀ k c, w.heap[k]? = some (.cells c 5 (0, 0)) → base ≤ k → w'.heap[k]? = w.heap[k]?) : Cop w' base L S bm seen blk2 data2 :=
  { h with
    map := h.map.move hm
    file := fun i hi => (hf _ _ (h.file i hi) (h.ge i hi)).trans (h.file i hi)
    rows := fun i hi => own_move (h.rows i hi) (fun k hk => by
      obtain ⟨c, hc⟩ := own_typed (h.rows i hi) k hk
      exact hr k c hc ((h.rows i hi).lt k hk).1) }
theorem Cop.below {w w' : World} {base : Nat} {L : Lay} {S : PS} {bm : Nat} {seen : List Int} {blk2 : Int → Nat} {data2 : Int → Value} (h : Cop w base L S bm seen blk2 data2) (hb : Below w.heap.size w w') : Cop w' base L S bm seen blk2 data2 :=
  h.move (hb.block _ h.map.lt) (fun k _ hk _ => hb.block k (lt_blk hk)) (fun k _ hk _ => hb.block k (lt_blk hk))
/-- One file more. -/
theorem Cop.put {w w1 w2 : World} {base : Nat} {L : Lay} {S : PS} {bm : Nat} {seen : List Int} {blk2 : Int → Nat} {data2 : Int → Value} {i : Int} {v : Value} {es : Array MapEntry} {clock : Nat} (h : Cop w base L S bm seen blk2 data2) (hi : Live S i) (hn : i ∉ seen) (hbase : base ≤ w.heap.size) (hb : Below w.heap.size w w1)
    (hv : w1.ownsRow w.heap.size 5 1 v (fileAt S i).f0.length (u8s (fileAt S i).f0)) (hm : w1.heap[bm]? = some (.map es clock)) (he : es.toList.map (fun e => (e.key, e.val)) = (seen.map fun i => (L.blk i, blk2 i)).map (fun p => (fptr p.1, fptr p.2)))
    (h2 : w2 = setBlock (w1.alloc (.cells (fileCells v (fileAt S i).f1) tFile)) bm (.map (es.push ⟨fptr (L.blk i), fptr w1.heap.size, clock⟩) (clock + 1))) :
    Cop w2 base L S bm (seen ++ [i]) (fun j => if j = i then w1.heap.size else blk2 j) (fun j => if j = i then v else data2 j) ∧ Fr (fun k => k = bm) w w2 ∧ ∀ k, k < w1.heap.size → k ≠ bm → w2.heap[k]? = w1.heap[k]? := by
  have hma : (w1.alloc (.cells (fileCells v (fileAt S i).f1) tFile)).heap[bm]? = some (.map es clock) := blk_allocN hm _
  have far : ∀ k, k ≠ bm → w2.heap[k]? = (w1.alloc (.cells (fileCells v (fileAt S i).f1) tFile)).heap[k]? := fun k hk => by rw [h2]; exact heap_setBlock_other hma _ hk
  have old : ∀ k, k < w1.heap.size → k ≠ bm → w2.heap[k]? = w1.heap[k]? := fun k hk hne => (far k hne).trans (Below.heap_alloc w1 _ k hk)
  have lm := lt_blk hm
  have ls := hb.size
  have hnew : w2.heap[w1.heap.size]? = some (.cells (fileCells v (fileAt S i).f1) tFile (0, 0)) := (far _ (by omega)).trans (heap_alloc_new w1 _)
  have hpm : PMap w2 bm ((seen.map fun i => (L.blk i, blk2 i)) ++ [(L.blk i, w1.heap.size)]) := by rw [h2]; exact pmap_put hma he
  have hs2 : w2.heap.size = w1.heap.size + 1 := by rw [h2]; simp [setBlock]
  have ho : w2.os = w1.os := by rw [h2]; rfl
  have ht : w2.tape = w1.tape := by rw [h2]; rfl
  have hout : w2.output = w1.output := by rw [h2]; rfl
  clear h2 far
  have old' : ∀ k, k < w.heap.size → k ≠ bm → w2.heap[k]? = w.heap[k]? := fun k hk hne => (old k (by omega) hne).trans (hb.block k hk)
  have ne : ∀ j ∈ seen, ¬ j = i := fun j hj e => hn (e ▸ hj)
  have fileNe : ∀ j ∈ seen, blk2 j ≠ bm := fun j hj e => by
    obtain ⟨es', cl', hb', _⟩ := h.map
    exact cells_ne_map (h.file j hj) hb' e
  have rowNe : ∀ j ∈ seen, ∀ k, (data2 j).ownBlock = some k → k ≠ bm := fun j hj k hk e => by
    obtain ⟨es', cl', hb', _⟩ := h.map
    obtain ⟨c, hc⟩ := own_typed (h.rows j hj) k hk
    exact cells_ne_map hc hb' e
  refine ⟨?_, ⟨ho.trans hb.os, ht.trans hb.tape, hout.trans hb.output, by omega, fun k hk hne => old' k hk hne⟩, old⟩
  exact
    { live := fun j hj => by
        rcases List.mem_append.1 hj with hj | hj
        · exact h.live j hj
        · rw [List.mem_singleton.1 hj]; exact hi
      map := by
        rw [List.map_append]
        have e1 : (seen.map fun j => (L.blk j, if j = i then w1.heap.size else blk2 j)) = seen.map fun j => (L.blk j, blk2 j) := List.map_congr_left (fun j hj => by rw [if_neg (ne j hj)])
        rw [e1]
        simpa using hpm
      file := fun j hj => by
        rcases List.mem_append.1 hj with hj | hj
        · simp only [if_neg (ne j hj)]
          exact (old' _ (lt_blk (h.file j hj)) (fileNe j hj)).trans (h.file j hj)
        · rw [List.mem_singleton.1 hj]
          simp only [if_pos]
          exact hnew
      rows := fun j hj => by
        rcases List.mem_append.1 hj with hj | hj
        · simp only [if_neg (ne j hj)]
          exact own_move (h.rows j hj) (fun k hk => old' k (ownBlock_lt (h.rows j hj) hk) (rowNe j hj k hk))
        · rw [List.mem_singleton.1 hj]
          simp only [if_pos]
          refine own_move (own_weaken hv hbase) (fun k hk => old k (ownBlock_lt hv hk) (fun e => ?_))
          obtain ⟨c, hc⟩ := own_typed hv k hk
          exact cells_ne_map hc hm e
      inj := fun a ha b hb' e => by
        rcases List.mem_append.1 ha with ha | ha <;> rcases List.mem_append.1 hb' with hb' | hb'
        · simp only [if_neg (ne a ha), if_neg (ne b hb')] at e
          exact h.inj a ha b hb' e
        · rw [List.mem_singleton.1 hb'] at e ⊢
          simp only [if_neg (ne a ha), if_pos] at e
          have := lt_blk (h.file a ha)
          omega
        · rw [List.mem_singleton.1 ha] at e ⊢
          simp only [if_neg (ne b hb'), if_pos] at e
          have := lt_blk (h.file b hb')
          omega
        · rw [List.mem_singleton.1 ha, List.mem_singleton.1 hb']
      apart := fun a ha b hb' hab => by
        rcases List.mem_append.1 ha with ha | ha <;> rcases List.mem_append.1 hb' with hb' | hb'
        · simp only [if_neg (ne a ha), if_neg (ne b hb')]
          exact h.apart a ha b hb' hab
        · rw [List.mem_singleton.1 hb']
          simp only [if_neg (ne a ha), if_pos]
          cases hq : (data2 a).ownBlock with
          | none => exact .inl rfl
          | some k =>
            right
            intro e
            have h3 := ownBlock_lt (h.rows a ha) hq
            have h4 := (hv.lt k e.symm).1
            omega
        · rw [List.mem_singleton.1 ha]
          simp only [if_neg (ne b hb'), if_pos]
          cases hq : v.ownBlock with
          | none => exact .inl rfl
          | some k =>
            right
            intro e
            have h3 := ownBlock_lt (h.rows b hb') e.symm
            have h4 := (hv.lt k hq).1
            omega
        · rw [List.mem_singleton.1 ha, List.mem_singleton.1 hb'] at hab
          exact absurd rfl hab
      ge := fun j hj => by
        rcases List.mem_append.1 hj with hj | hj
        · simp only [if_neg (ne j hj)]
          exact h.ge j hj
        · rw [List.mem_singleton.1 hj]
          simp only [if_pos]
          omega
      geM := h.geM }
end Go.Proofs.Ytpffeafoangegaa.Disk

/- Clone's closure: a file's copy. -/
namespace Go.Proofs.Ytpffeafoangegaa.Disk
open Go Go.RowKit Go.Proofs.YtpffeafoangegaaW.PrintWords Go.Proofs.YtpffeafoangegaaW.PrintLast Go.Proofs.YtpffeafoangegaaW.PrintMore Go.Proofs.Ytpffeafoangegaa.PSimdiskOperations
open Go.ChangeMaps (setBlock heap_setBlock_same heap_setBlock_other)
/-- What the closure gives for file i. -/
def Copied (w : World) (base : Nat) (L : Lay) (S : PS) (bm : Nat) (seen : List Int) (blk2 : Int → Nat) (data2 : Int → Value) (i : Int) (e : Ending) (w' : World) : Prop :=
  ∃ (seen' : List Int) (blk3 : Int → Nat) (data3 : Int → Value), e = .returned (fptr (blk3 i)) ∧ i ∈ seen' ∧ Cop w' base L S bm seen' blk3 data3 ∧ (∀ j ∈ seen, j ∈ seen' ∧ blk3 j = blk2 j ∧ data3 j = data2 j) ∧ Fr (fun k => k = bm) w w'
theorem same_nil (w : World) (v : Value) : Calls Try.prog 46 #[.pointer none, v] w fun e w' => e = .returned (.pointer none) ∧ w = w' := by
  go_enter Try.func46, Try.ntmps46
  go_wp2_with fail
  go_ret
  exact ⟨rfl, rfl⟩
theorem cop_keys {w : World} {base : Nat} {L : Lay} {S : PS} {bm : Nat} {seen : List Int} {blk2 : Int → Nat} {data2 : Int → Value} {F : Nat → Prop} {d : Nat} (h : Cop w base L S bm seen blk2 data2) (hr : Rep w F d L S (Live S)) : ∀ p ∈ seen.map (fun i => (L.blk i, blk2 i)), FileAt w p.1 := fun p hp => by
  obtain ⟨i, hi, rfl⟩ := List.mem_map.1 hp
  exact ⟨_, hr.file i (h.live i hi)⟩
theorem cop_found {w : World} {base : Nat} {L : Lay} {S : PS} {bm : Nat} {seen : List Int} {blk2 : Int → Nat} {data2 : Int → Value} {F : Nat → Prop} {d : Nat} {i : Int} (h : Cop w base L S bm seen blk2 data2) (hr : Rep w F d L S (Live S)) (hi : i ∈ seen) (ok : Bool) :
    (Instr.lookup tCop (.map (some bm)) (fptr (L.blk i)) ok).run Try.prog w = .ok (if ok then .tuple #[fptr (blk2 i), .bool true] else fptr (blk2 i)) w := by
  have h1 := plook h.map ⟨_, hr.file i (h.live i hi)⟩ (cop_keys h hr) ok
  obtain ⟨j, hj⟩ := pfind_some (f := L.blk i) (g := blk2 i) (seen.map fun i => (L.blk i, blk2 i)) 0 (List.mem_map.2 ⟨i, hi, rfl⟩) (fun p hp e => by
    obtain ⟨a, ha, rfl⟩ := List.mem_map.1 hp
    have := hr.inj a i (h.live a ha) (h.live i hi) e
    subst this
    rfl)
  rw [hj] at h1
  exact h1
theorem cop_apart {w : World} {base : Nat} {L : Lay} {S : PS} {bm : Nat} {seen : List Int} {blk2 : Int → Nat} {data2 : Int → Value} {F : Nat → Prop} {d : Nat} {i : Int} (h : Cop w base L S bm seen blk2 data2) (hr : Rep w F d L S (Live S)) (hl : Live S i) (hi : i ∉ seen) : ∀ p ∈ seen.map (fun i => (L.blk i, blk2 i)), p.1 ≠ L.blk i := fun p hp e => by
  obtain ⟨a, ha, rfl⟩ := List.mem_map.1 hp
  have := hr.inj a i (h.live a ha) hl e
  subst this
  exact hi ha
theorem cop_new {w : World} {base : Nat} {L : Lay} {S : PS} {bm : Nat} {seen : List Int} {blk2 : Int → Nat} {data2 : Int → Value} {F : Nat → Prop} {d : Nat} {i : Int} (h : Cop w base L S bm seen blk2 data2) (hr : Rep w F d L S (Live S)) (hl : Live S i) (hi : i ∉ seen) (ok : Bool) :
    (Instr.lookup tCop (.map (some bm)) (fptr (L.blk i)) ok).run Try.prog w = .ok (if ok then .tuple #[.pointer none, .bool false] else .pointer none) w := by
  have h1 := plook h.map ⟨_, hr.file i hl⟩ (cop_keys h hr) ok
  rw [pfind_none _ 0 (cop_apart h hr hl hi)] at h1
  exact h1
theorem head_cell {w : World} {b : Nat} {x : Value} {t : Nat} {fz : Nat × Nat} (h : w.heap[b]? = some (.cells #[x] t fz)) : w.cell? ⟨b, 0, none⟩ = some x := cell_blk h 0
set_option maxHeartbeats 2000000 in
theorem same_seen (w : World) (base bm bv : Nat) (F : Nat → Prop) (d : Nat) (L : Lay) (S : PS) (seen : List Int) (blk2 : Int → Nat) (data2 : Int → Value) (i : Int) (hr : Rep w F d L S (Live S)) (hc : Cop w base L S bm seen blk2 data2) (hv : w.heap[bv]? = some (.cells #[.map (some bm)] tCop (0, 0))) (hi : i ∈ seen) :
    Calls Try.prog 46 #[fptr (L.blk i), .pointer (some ⟨bv, 0, none⟩)] w (Copied w base L S bm seen blk2 data2 i) := by
  have HC := Lib.hid hc
  have HI := Lib.hid hi
  have c0 := head_cell hv
  have e1 := cop_found hc hr hi true
  have e2 := cop_found hc hr hi false
  simp only [if_true, if_false, Bool.false_eq_true] at e1 e2
  clear hc hr hv hi
  go_enter Try.func46, Try.ntmps46
  go_wp2_with fail
  go_ret
  exact ⟨seen, blk2, data2, rfl, HI.out, HC.out, fun j hj => ⟨hj, rfl, rfl⟩, Fr.refl _ _⟩
theorem cell_setBlock {w : World} {b : Nat} {es : Array MapEntry} {clock : Nat} {o : Obj} {a : Addr} {x : Value} (hb : w.heap[b]? = some (.map es clock)) (h : w.cell? a = some x) : (setBlock w b o).cell? a = some x := by
  have hne : a.block ≠ b := fun e => by
    subst e
    simp [World.cell?, hb] at h
  have := heap_setBlock_other hb o hne
  rw [← h]
  exact World.cell?_of_block this
theorem three_cells' {w : World} {bv bf : Nat} {x y z : Value} (h1 : w.cell? ⟨bv, 0, none⟩ = some x) (h2 : w.heap[bf]? = some (.cells #[y, z] tFile (0, 0))) : w.cell? ⟨bv, 0, none⟩ = some x ∧ w.cell? ⟨bf, 0, none⟩ = some y ∧ w.cell? ⟨bf, 1, none⟩ = some z := ⟨h1, cell_blk h2 0, cell_blk h2 1⟩
def Three (w' : World) (bm bv bf : Nat) (y z : Value) : Prop := w'.cell? ⟨bv, 0, none⟩ = some (.map (some bm)) ∧ w'.cell? ⟨bf, 0, none⟩ = some y ∧ w'.cell? ⟨bf, 1, none⟩ = some z
/-- What holds once the bytes are copied: all that the rest of the closure does, and its end. -/
theorem put_ready (w w5 : World) (base bm bv : Nat) (F : Nat → Prop) (d : Nat) (L : Lay) (S : PS) (seen : List Int) (blk2 : Int → Nat) (data2 : Int → Value) (i : Int) (v : Value) (hr : Rep w F d L S (Live S)) (hc : Cop w base L S bm seen blk2 data2) (hbase : base ≤ w.heap.size) (hF : ∀ k, F k → k < base) (hv : w.heap[bv]? = some (.cells #[.map (some bm)] tCop (0, 0))) (hl : Live S i) (hi : i ∉ seen)
    (ho : w5.ownsRow w.heap.size 5 1 v (fileAt S i).f0.length (u8s (fileAt S i).f0)) (hf : Fr (fun _ => False) w w5) :
    ∃ W6, (Instr.mapUpdate tCop (.map (some bm)) (.pointer (some ⟨L.blk i, 0, none⟩)) (.pointer (some ⟨w5.heap.size, 0, none⟩))).run Try.prog (w5.alloc (.cells #[v, .int .i64 (fileAt S i).f1] tFile)) = .ok () W6
      ∧ Three w5 bm bv (L.blk i) (L.data i) (.int .i64 (fileAt S i).f1)
      ∧ Three (w5.alloc (.cells #[v, .int .i64 (fileAt S i).f1] tFile)) bm bv (L.blk i) (L.data i) (.int .i64 (fileAt S i).f1)
      ∧ Three W6 bm bv (L.blk i) (L.data i) (.int .i64 (fileAt S i).f1)
      ∧ (Instr.lookup tCop (.map (some bm)) (.pointer (some ⟨L.blk i, 0, none⟩)) false).run Try.prog W6 = .ok (.pointer (some ⟨w5.heap.size, 0, none⟩)) W6
      ∧ Copied w base L S bm seen blk2 data2 i (.returned (.pointer (some ⟨w5.heap.size, 0, none⟩))) W6 := by
  have hb5 := fr_below hf
  have hc5 := hc.below hb5
  have hr5 := hr.below hb5
  obtain ⟨es, clock, hb, he⟩ := hc5.map
  have hv5 := (hb5.block _ (lt_blk hv)).trans hv
  have hfi5 := hr5.file i hl
  have t5 : Three w5 bm bv (L.blk i) (L.data i) (.int .i64 (fileAt S i).f1) := ⟨cell_blk hv5 0, cell_blk hfi5 0, cell_blk hfi5 1⟩
  have t6 : Three (w5.alloc (.cells #[v, .int .i64 (fileAt S i).f1] tFile)) bm bv (L.blk i) (L.data i) (.int .i64 (fileAt S i).f1) := ⟨cell_up t5.1, cell_up t5.2.1, cell_up t5.2.2⟩
  have hma : (w5.alloc (.cells #[v, .int .i64 (fileAt S i).f1] tFile)).heap[bm]? = some (.map es clock) := blk_allocN hb _
  have hra := hr5.alloc (.cells #[v, .int .i64 (fileAt S i).f1] tFile)
  have hca := hc5.below (fr_below ((Fr.refl (fun _ => False) w5).alloc (.cells #[v, .int .i64 (fileAt S i).f1] tFile)))
  obtain ⟨q1, q2, q3⟩ := hc.put (w2 := setBlock (w5.alloc (.cells #[v, .int .i64 (fileAt S i).f1] tFile)) bm (.map (es.push ⟨fptr (L.blk i), fptr w5.heap.size, clock⟩) (clock + 1))) hl hi hbase hb5 ho hb he rfl
  have hr6 : Rep (setBlock (w5.alloc (.cells #[v, .int .i64 (fileAt S i).f1] tFile)) bm (.map (es.push ⟨fptr (L.blk i), fptr w5.heap.size, clock⟩) (clock + 1))) F d L S (Live S) := hr.fr q2 (fun k hk e => by have := hF k hk; have := hc.geM; omega)
  have e3 := cop_found q1 hr6 (i := i) (by simp) false
  refine ⟨_, pput hma he ⟨_, hra.file i hl⟩ (fun p hp => cop_keys hca hra p hp) (cop_apart hc hr hl hi) _, t5, t6, ⟨cell_setBlock hma t6.1, cell_setBlock hma t6.2.1, cell_setBlock hma t6.2.2⟩, ?_, ?_⟩
  · simpa using e3
  · refine ⟨_, _, _, ?_, ?_, q1, fun j hj => ⟨List.mem_append_left _ hj, ?_, ?_⟩, q2⟩
    · simp
    · simp
    · have : ¬ j = i := fun e => hi (e ▸ hj)
      simp [this]
    · have : ¬ j = i := fun e => hi (e ▸ hj)
      simp [this]
set_option maxHeartbeats 4000000 in
theorem same_new (w : World) (base bm bv : Nat) (F : Nat → Prop) (d : Nat) (L : Lay) (S : PS) (B : Nat) (seen : List Int) (blk2 : Int → Nat) (data2 : Int → Value) (i : Int) (hr : Rep w F d L S (Live S)) (hg : Good S B) (hB : B ≤ 549755813888) (hc : Cop w base L S bm seen blk2 data2) (hbase : base ≤ w.heap.size) (hF : ∀ k, F k → k < base) (hv : w.heap[bv]? = some (.cells #[.map (some bm)] tCop (0, 0))) (hl : Live S i) (hi : i ∉ seen) :
    Calls Try.prog 46 #[fptr (L.blk i), .pointer (some ⟨bv, 0, none⟩)] w (Copied w base L S bm seen blk2 data2 i) := by
  have HC := Lib.hid hc
  have HR := Lib.hid hr
  have HV := Lib.hid hv
  have HBASE := Lib.hid hbase
  have HF := Lib.hid hF
  have HL := Lib.hid hl
  have HN := Lib.hid hi
  have HLEN := Lib.hid (show (fileAt S i).f0.length ≤ 1099511627776 by have := hg.nBytes _ (fileAt_mem (hg.range i hl)); omega)
  have c0 := head_cell hv
  have e1 := cop_new hc hr hl hi true
  simp only [if_true] at e1
  have hfile := hr.file i hl
  have f0 := cell_blk hfile 0
  have f1 := cell_blk hfile 1
  simp [fileCells] at f0 f1
  have HFI := Lib.hid hfile
  clear hc hr hg hB hbase hF hv hl hi hfile
  go_enter Try.func46, Try.ntmps46
  go_upto_region 5 with (fail)
  go_region_held3 (fun w' => w'.cell? ⟨bv, 0, none⟩ = some (.map (some bm)) ∧ w'.cell? ⟨L.blk i, 0, none⟩ = some (L.data i) ∧ w'.cell? ⟨L.blk i, 1, none⟩ = some (.int .i64 (fileAt S i).f1))
    (first | exact three_cells' c0 HFI.out | exact T5.out | exact T6.out | exact T7.out)
    (first | (go_at_call 32; refine (Clone_own _ _ _ ((HR.out.move (w' := w.drew) (fun _ _ _ => rfl)).data i HL.out) HLEN.out).mono ?_; rintro e w5 ⟨v, rfl, ho, hf⟩; obtain ⟨W6, e2, t5, t6, t7, e3, hend⟩ := put_ready w w5 base bm bv F d L S seen blk2 data2 i v HR.out HC.out HBASE.out HF.out HV.out HL.out HN.out ho (((Fr.refl _ w).drew).trans hf (fun _ => .inl)); obtain ⟨vA, vn, vc, rfl, hvn, hvc⟩ := data_form2 (own_weaken ho (Nat.zero_le _)); have T5 := Lib.hid t5; have T6 := Lib.hid t6; have T7 := Lib.hid t7; have HEND := Lib.hid hend; have k0 := t5.1; have k1 := t5.2.1; have k2 := t5.2.2; have k3 := t7.1; clear ho hf hvn hvc t5 t6 t7 hend))
  go_wp2_with fail
  go_ret
  exact HEND.out
end Go.Proofs.Ytpffeafoangegaa.Disk

/- Clone, plain: what the loops keep. -/
namespace Go.Proofs.Ytpffeafoangegaa.Disk
open Go Go.RowKit Go.Proofs.YtpffeafoangegaaW.PrintWords Go.Proofs.YtpffeafoangegaaW.PrintLast Go.Proofs.YtpffeafoangegaaW.PrintMore Go.Proofs.Ytpffeafoangegaa.PSimdiskOperations

/-! ### directories -/
theorem has_any (blk : Int → Nat) (l : List Ent) (k : Lit) : Maps.has (dirD blk l) k = l.any (fun e => (entKey e.f0).sameKey k) := by
  show (l.map (ent blk)).any _ = _
  rw [List.any_map]
  rfl
theorem at_find (blk : Int → Nat) (l : List Ent) (k : Lit) (z : DataW Unit) : (dirD blk l).atKey k z = match l.find? (fun e => (entKey e.f0).sameKey k) with | some e => .lit (.int .i64 (blk e.f1)) | none => z := by
  have h : (l.map (ent blk)).find? (fun p => p.1.sameKey k) = (l.find? (fun e => (entKey e.f0).sameKey k)).map (ent blk) := by
    rw [List.find?_map]
    rfl
  unfold dirD DataW.atKey
  simp only [h]
  cases l.find? (fun e => (entKey e.f0).sameKey k) <;> rfl
theorem agree_blk {Dout : DataW Unit} {blk blk' : Int → Nat} {l : List Ent} {left : Lit → Bool} (hA : Maps.Agree Dout (dirD blk l) left) (h : ∀ e ∈ l, left (entKey e.f0) = false → blk e.f1 = blk' e.f1) : Maps.Agree Dout (dirD blk' l) left := by
  refine ⟨fun k => by rw [hA.1 k, has_any, has_any], fun k z hk => ?_⟩
  rw [hA.2 k z hk, at_find, at_find]
  have h1 := hA.1 k
  rw [hk] at h1
  cases hf : l.find? (fun e => (entKey e.f0).sameKey k) with
  | none => rfl
  | some e =>
    have h2 := List.find?_some hf
    have h3 := List.mem_of_find?_eq_some hf
    have h4 : entKey e.f0 = k := WideAt.sameKey_eq h2
    have h5 : left k = false := by
      cases hl : left k
      · rfl
      · rw [hl] at h1; simp at h1
    simp only
    rw [h e h3 (by rw [h4]; exact h5)]
theorem once_of : ∀ {l : List Ent} {blk : Int → Nat}, (l.map (ent blk)).Pairwise (fun p q => p.1.before q.1 = true) → ∀ a ∈ l, ∀ b ∈ l, a.f0 = b.f0 → a = b
  | [], _, _, a, ha, _, _, _ => by cases ha
  | x :: r, blk, h, a, ha, b, hb, e => by
    obtain ⟨h1, h2⟩ := List.pairwise_cons.1 (by simpa using h : List.Pairwise (fun p q => p.1.before q.1 = true) (ent blk x :: r.map (ent blk)))
    have key : ∀ y ∈ r, x.f0 ≠ y.f0 := fun y hy e => by
      have h3 := h1 (ent blk y) (List.mem_map.2 ⟨y, hy, rfl⟩)
      simp only [ent, e] at h3
      rw [Go.WideShapes.before_irrefl] at h3
      cases h3
    rcases List.mem_cons.1 ha with rfl | ha
    · rcases List.mem_cons.1 hb with rfl | hb
      · rfl
      · exact absurd e (key b hb)
    · rcases List.mem_cons.1 hb with rfl | hb
      · exact absurd e.symm (key a ‹a ∈ r›)
      · exact once_of h2 a ha b hb e
theorem once {l : List Ent} {blk : Int → Nat} (h : Maps.Canon (dirD blk l)) : ∀ a ∈ l, ∀ b ∈ l, a.f0 = b.f0 → a = b := by
  obtain ⟨es, he, hs, _⟩ := h
  have : l.map (ent blk) = es := DataW.map.inj he
  rw [← this] at hs
  exact once_of hs
theorem canon_blk {l : List Ent} {blk : Int → Nat} (blk' : Int → Nat) (h : Maps.Canon (dirD blk l)) : Maps.Canon (dirD blk' l) := by
  obtain ⟨es, he, hs, hk⟩ := h
  have : l.map (ent blk) = es := DataW.map.inj he
  rw [← this] at hs hk
  refine ⟨_, rfl, ?_, ?_⟩
  · rw [List.pairwise_map] at hs ⊢
    exact hs
  · intro p hp
    obtain ⟨e, he, rfl⟩ := List.mem_map.1 hp
    exact hk (ent blk e) (List.mem_map.2 ⟨e, he, rfl⟩)
/-- What a copy of a directory holds while the range runs. -/
structure DirGo (l : List Ent) (seen : List Int) (blk2 : Int → Nat) (Dout : DataW Unit) (left : Lit → Bool) : Prop where
  agree : Maps.Agree Dout (dirD blk2 l) left
  all : ∀ e ∈ l, left (entKey e.f0) = false → e.f1 ∈ seen
def More (seen seen' : List Int) (blk2 blk3 : Int → Nat) : Prop := ∀ j ∈ seen, j ∈ seen' ∧ blk3 j = blk2 j
theorem DirGo.start (l : List Ent) (seen : List Int) (blk blk2 : Int → Nat) : DirGo l seen blk2 (.map []) (Maps.has (dirD blk l)) := by
  have e : Maps.has (dirD blk l) = Maps.has (dirD blk2 l) := funext fun k => by rw [has_any, has_any]
  refine ⟨by rw [e]; exact Maps.agree_start _, fun a ha h => ?_⟩
  rw [dirD_has] at h
  exfalso
  unfold pLook at h
  simp only [Option.isSome_map, Option.isSome_eq_false_iff, Option.isNone_iff_eq_none, List.find?_eq_none, decide_eq_true_eq] at h
  exact h a ha rfl
theorem DirGo.step {l : List Ent} {seen seen' : List Int} {blk blk2 blk3 : Int → Nat} {Dout : DataW Unit} {left : Lit → Bool} {x : ByteArray} {i : Int} (h : DirGo l seen blk2 Dout left) (hc : Maps.Canon (dirD blk l)) (hm : Maps.IsMap Dout) (hp : pLook l x = some i) (hi : i ∈ seen') (hmore : More seen seen' blk2 blk3) :
    DirGo l seen' blk3 (Dout.put (entKey x) (.lit (.int .i64 (blk3 i)))) (fun z => left z && !z.sameKey (entKey x)) := by
  refine ⟨Maps.agree_step (agree_blk h.agree (fun e he hl => ((hmore _ (h.all e he hl)).2).symm)) hm (isKey x) (fun zd => by rw [dirD_atKey, hp]), fun e he hl => ?_⟩
  by_cases hx : e.f0 = x
  · unfold pLook at hp
    cases hf : l.find? (fun e => decide (e.f0 = x)) with
    | none => rw [hf] at hp; cases hp
    | some a =>
      rw [hf] at hp
      simp only [Option.map_some, Option.some.injEq] at hp
      have h1 := List.find?_some hf
      simp only [decide_eq_true_eq] at h1
      have := once hc e he a (List.mem_of_find?_eq_some hf) (hx.trans h1.symm)
      rw [this, hp]
      exact hi
  · rw [entKey_same] at hl
    have hl' : left (entKey e.f0) = false := by simpa [hx] using hl
    exact (hmore _ (h.all e he hl')).1
theorem DirGo.done {l : List Ent} {seen : List Int} {blk blk2 : Int → Nat} {Dout : DataW Unit} {left : Lit → Bool} (h : DirGo l seen blk2 Dout left) (hl : ∀ k, left k = false) (hc : Maps.Canon (dirD blk l)) (hd : Maps.Canon Dout) : Dout = dirD blk2 l ∧ ∀ e ∈ l, e.f1 ∈ seen :=
  ⟨Maps.agree_end h.agree hl hd (canon_blk blk2 hc), fun e he => h.all e he (hl _)⟩
theorem look_of {l : List Ent} {blk : Int → Nat} {x : ByteArray} {c : Option Nat} {y : DataW Unit × List MemPlace} (hv : fileElem (mkPtr c) = some y) (hat : ∀ zd, (dirD blk l).atKey (entKey x) zd = y.1) : ∃ i, pLook l x = some i ∧ mkPtr c = fptr (blk i) := by
  cases hp : pLook l x with
  | none =>
    exfalso
    have h1 := hat .nil
    have h2 := hat (.map [])
    rw [dirD_atKey, hp] at h1 h2
    rw [← h2] at h1
    cases h1
  | some i =>
    refine ⟨i, rfl, ?_⟩
    have h1 := hat .nil
    rw [dirD_atKey, hp] at h1
    obtain ⟨y1, y2⟩ := y
    cases h1
    exact fileElem_lit hv
theorem look_mem {l : List Ent} {x : ByteArray} {i : Int} (h : pLook l x = some i) : ∃ e ∈ l, e.f1 = i := by
  unfold pLook at h
  simp only [Option.map_eq_some_iff] at h
  obtain ⟨a, h1, h2⟩ := h
  exact ⟨a, List.mem_of_find?_eq_some h1, h2⟩

/-! ### memory -/
/-- What stands of the copy at any time: the map of copies in its variable, the new disk. -/
structure Clo (w wr : World) (bm bv d2 c2 u2 : Nat) (pv : Value) (L : Lay) (S : PS) (seen : List Int) (blk2 : Int → Nat) (data2 : Int → Value) : Prop where
  fr : Fr (fun _ => False) w wr
  cop : Cop wr w.heap.size L S bm seen blk2 data2
  var : wr.heap[bv]? = some (.cells #[.map (some bm)] tCop (0, 0))
  disk : wr.heap[d2]? = some (.cells (diskCells c2 u2 pv S.lim L.left) tDisk (0, 0))
  geV : w.heap.size ≤ bv
  geD : w.heap.size ≤ d2
  geC : w.heap.size ≤ c2
  geU : w.heap.size ≤ u2
  neC : c2 ≠ bm
  neU : u2 ≠ bm
  ne : c2 ≠ u2
def NoCells (w : World) (k : Nat) : Prop := ∀ c t, w.heap[k]? ≠ some (.cells c t (0, 0))
theorem Clo.move {w wr wr' : World} {G : Nat → Prop} {bm bv d2 c2 u2 : Nat} {pv : Value} {L : Lay} {S : PS} {seen : List Int} {blk2 : Int → Nat} {data2 : Int → Value} (h : Clo w wr bm bv d2 c2 u2 pv L S seen blk2 data2) (hf : Fr G wr wr') (hG : ∀ k, G k → w.heap.size ≤ k ∧ k ≠ bm ∧ NoCells wr k) : Clo w wr' bm bv d2 c2 u2 pv L S seen blk2 data2 :=
  { h with
    fr := h.fr.trans hf (fun k hk => .inr (hG k hk).1)
    cop := h.cop.move (hf.block _ h.cop.map.lt (fun e => (hG _ e).2.1 rfl)) (fun k _ hk _ => hf.block k (lt_blk hk) (fun e => (hG _ e).2.2 _ _ hk)) (fun k _ hk _ => hf.block k (lt_blk hk) (fun e => (hG _ e).2.2 _ _ hk))
    var := (hf.block _ (lt_blk h.var) (fun e => (hG _ e).2.2 _ _ h.var)).trans h.var
    disk := (hf.block _ (lt_blk h.disk) (fun e => (hG _ e).2.2 _ _ h.disk)).trans h.disk }
theorem noCells_map {w : World} {b n : Nat} {D : DataW Unit} (h : OwnDir w b n D) : NoCells w b := fun c t e => by
  obtain ⟨_, _, hb, _⟩ := h
  rw [hb] at e
  cases e
theorem noCells_range {w : World} {b r n cnt : Nat} {D : DataW Unit} {left : Lit → Bool} (h : w.ranges Try.prog 9 fileElem b r n D left cnt) : NoCells w r := fun c t e => by
  obtain ⟨_, _, _, _, _, _, _, _, _, hr, _⟩ := h
  rw [hr] at e
  cases e
theorem range_ne_map {w : World} {b r n cnt bm : Nat} {ks : List (Nat × Nat)} {D : DataW Unit} {left : Lit → Bool} (h : w.ranges Try.prog 9 fileElem b r n D left cnt) (h' : PMap w bm ks) : r ≠ bm := by
  obtain ⟨_, _, _, _, _, _, _, _, _, hr, _⟩ := h
  obtain ⟨_, _, hb, _⟩ := h'
  rintro rfl
  rw [hr] at hb
  cases hb
/-- What a call of the closure leaves. -/
def Went (w wr : World) (bm bv d2 c2 u2 : Nat) (pv : Value) (L : Lay) (S : PS) (seen : List Int) (blk2 : Int → Nat) (i : Int) (e : Ending) (w' : World) : Prop :=
  ∃ (seen' : List Int) (blk3 : Int → Nat) (data3 : Int → Value), e = .returned (.pointer (some ⟨blk3 i, 0, none⟩)) ∧ i ∈ seen' ∧ Clo w w' bm bv d2 c2 u2 pv L S seen' blk3 data3 ∧ More seen seen' blk2 blk3 ∧ Fr (fun k => k = bm) wr w'
theorem same_go {w wr : World} {bm bv d2 c2 u2 : Nat} {pv : Value} {F : Nat → Prop} {d B : Nat} {L : Lay} {S : PS} {seen : List Int} {blk2 : Int → Nat} {data2 : Int → Value} {i : Int} (h : Clo w wr bm bv d2 c2 u2 pv L S seen blk2 data2) (hr : Rep w F d L S (Live S)) (hF : ∀ k, F k → k < w.heap.size) (hg : Good S B) (hB : B ≤ 549755813888) (hl : Live S i) :
    Calls Try.prog 46 #[.pointer (some ⟨L.blk i, 0, none⟩), .pointer (some ⟨bv, 0, none⟩)] wr (Went w wr bm bv d2 c2 u2 pv L S seen blk2 i) := by
  have hr' := hr.fr h.fr (fun _ _ e => e)
  have key : ∀ e w', Copied wr w.heap.size L S bm seen blk2 data2 i e w' → Went w wr bm bv d2 c2 u2 pv L S seen blk2 i e w' := fun e w' hq => by
    obtain ⟨seen', blk3, data3, q1, q2, q3, q4, q5⟩ := hq
    refine ⟨seen', blk3, data3, q1, q2, ?_, fun j hj => ⟨(q4 j hj).1, (q4 j hj).2.1⟩, q5⟩
    obtain ⟨_, _, hb, _⟩ := h.cop.map
    exact
      { fr := h.fr.trans q5 (fun k hk => .inr (by subst hk; exact h.cop.geM))
        cop := q3
        var := (q5.block _ (lt_blk h.var) (cells_ne_map h.var hb)).trans h.var
        disk := (q5.block _ (lt_blk h.disk) (cells_ne_map h.disk hb)).trans h.disk
        geV := h.geV, geD := h.geD, geC := h.geC, geU := h.geU, neC := h.neC, neU := h.neU, ne := h.ne }
  by_cases hi : i ∈ seen
  · exact (same_seen wr w.heap.size bm bv F d L S seen blk2 data2 i hr' h.cop h.var hi).mono key
  · exact (same_new wr w.heap.size bm bv F d L S B seen blk2 data2 i hr' hg hB h.cop h.fr.size hF h.var hl hi).mono key
end Go.Proofs.Ytpffeafoangegaa.Disk

/- Clone, plain: the loops' relations. -/
namespace Go.Proofs.Ytpffeafoangegaa.Disk
open Go Go.RowKit Go.Proofs.YtpffeafoangegaaW.PrintWords Go.Proofs.YtpffeafoangegaaW.PrintLast Go.Proofs.YtpffeafoangegaaW.PrintMore Go.Proofs.Ytpffeafoangegaa.PSimdiskOperations
theorem Fr.toGrown {w w' : World} {b : Nat} (h : Fr (fun k => k = b) w w') : w.grownBy w' (some b) := ⟨h.os, h.tape, h.output, h.size, fun k hk hn => h.block k hk (fun e => hn (by rw [e]))⟩
theorem grown_fr {w w' : World} {b : Nat} (h : w.grownBy w' (some b)) : Fr (fun k => k = b) w w' := (Fr.refl _ w).grown h (fun k hk => .inl (by cases hk; rfl))
/-- The state of a range over a directory of the old disk: cc is being filled, oo stands. -/
def RelD (w : World) (bm bv d2 c2 u2 : Nat) (L : Lay) (S : PS) (b r : Nat) (l : List Ent) (cc oo : Nat) (lo : List Ent) (wr : World) : Prop :=
  ∃ (left : Lit → Bool) (cnt : Nat) (Dout : DataW Unit) (k : Nat) (seen : List Int) (blk2 : Int → Nat) (data2 : Int → Value), wr.ranges Try.prog 9 fileElem b r l.length (dirD L.blk l) left cnt ∧ OwnDir wr cc k Dout ∧ OwnDir wr oo lo.length (dirD blk2 lo) ∧ (∀ e ∈ lo, e.f1 ∈ seen) ∧ k + cnt ≤ l.length
    ∧ DirGo l seen blk2 Dout left ∧ Clo w wr bm bv d2 c2 u2 (.slice none 0 0) L S seen blk2 data2
theorem Clo.grown {w wr wr' : World} {b : Nat} {bm bv d2 c2 u2 : Nat} {pv : Value} {L : Lay} {S : PS} {seen : List Int} {blk2 : Int → Nat} {data2 : Int → Value} (h : Clo w wr bm bv d2 c2 u2 pv L S seen blk2 data2) (hg : wr.grownBy wr' (some b)) (h1 : w.heap.size ≤ b) (h2 : b ≠ bm) (h3 : NoCells wr b) : Clo w wr' bm bv d2 c2 u2 pv L S seen blk2 data2 :=
  h.move (grown_fr hg) (fun k hk => by subst hk; exact ⟨h1, h2, h3⟩)
theorem Clo.drew {w wr : World} {bm bv d2 c2 u2 : Nat} {pv : Value} {L : Lay} {S : PS} {seen : List Int} {blk2 : Int → Nat} {data2 : Int → Value} (h : Clo w wr bm bv d2 c2 u2 pv L S seen blk2 data2) : Clo w wr.drew bm bv d2 c2 u2 pv L S seen blk2 data2 :=
  h.move (G := fun _ => False) ((Fr.refl _ wr).drew) (fun _ hk => hk.elim)
theorem dir_more {w : World} {oo : Nat} {lo : List Ent} {seen seen' : List Int} {blk2 blk3 : Int → Nat} (h : OwnDir w oo lo.length (dirD blk2 lo)) (hin : ∀ e ∈ lo, e.f1 ∈ seen) (hm : More seen seen' blk2 blk3) : OwnDir w oo lo.length (dirD blk3 lo) ∧ ∀ e ∈ lo, e.f1 ∈ seen' :=
  ⟨by rw [dirD_congr (blk' := blk2) (fun e he => (hm _ (hin e he)).2)]; exact h, fun e he => (hm _ (hin e he)).1⟩
theorem range_kept {w w' : World} {b r n cnt x : Nat} {D : DataW Unit} {left : Lit → Bool} (h : w.ranges Try.prog 9 fileElem b r n D left cnt) (hg : w.grownBy w' (some x)) (h1 : b ≠ x) (h2 : r ≠ x) : w'.ranges Try.prog 9 fileElem b r n D left cnt := h.kept hg (fun e => h1 (Option.some.inj e)) (fun e => h2 (Option.some.inj e))
theorem own_kept {w w' : World} {b n x : Nat} {D : DataW Unit} (h : OwnDir w b n D) (hg : w.grownBy w' (some x)) (h1 : b ≠ x) : OwnDir w' b n D := h.kept hg (fun e => h1 (Option.some.inj e))
/-- What stands when the closure is to be called. -/
theorem RelD.ready {w wr w1 : World} {bm bv d2 c2 u2 b r cnt k : Nat} {L : Lay} {S : PS} {l : List Ent} {cc : Nat} {left : Lit → Bool} {Dout : DataW Unit} {seen : List Int} {blk2 : Int → Nat} {data2 : Int → Value}
    (h1 : wr.ranges Try.prog 9 fileElem b r l.length (dirD L.blk l) left cnt) (h2 : OwnDir wr cc k Dout) (h7 : Clo w wr bm bv d2 c2 u2 (.slice none 0 0) L S seen blk2 data2) (hr : w.heap.size ≤ r)
    (hg : wr.grownBy w1 (some r)) : Clo w w1 bm bv d2 c2 u2 (.slice none 0 0) L S seen blk2 data2 ∧ OwnDir w1 cc k Dout ∧ r ≠ bm :=
  have hne := range_ne_map h1 h7.cop.map
  ⟨h7.grown hg hr hne (noCells_range h1), ranges_keeps h1 h2 hg, hne⟩
theorem RelD.step {w wr w1 w2 w3 : World} {bm bv d2 c2 u2 b r cnt cnt1 k : Nat} {L : Lay} {S : PS} {l : List Ent} {cc oo : Nat} {lo : List Ent} {left : Lit → Bool} {Dout : DataW Unit} {seen seen' : List Int} {blk2 blk3 : Int → Nat} {data3 : Int → Value} {x : ByteArray} {i : Int}
    (hb : b < w.heap.size) (hbm : w.heap.size ≤ bm) (hrm : r ≠ bm) (hcc : w.heap.size ≤ cc) (hc1 : cc ≠ bm) (hc2 : oo ≠ bm) (hc3 : cc ≠ oo)
    (h1 : wr.ranges Try.prog 9 fileElem b r l.length (dirD L.blk l) left cnt) (h2 : OwnDir wr cc k Dout) (h3 : OwnDir wr oo lo.length (dirD blk2 lo)) (h4 : ∀ e ∈ lo, e.f1 ∈ seen) (h5 : k + cnt ≤ l.length) (h6 : DirGo l seen blk2 Dout left)
    (g1 : w1.ranges Try.prog 9 fileElem b r l.length (dirD L.blk l) (fun z => left z && !z.sameKey (entKey x)) cnt1) (hlt : cnt1 < cnt) (hg : wr.grownBy w1 (some r))
    (q1 : i ∈ seen') (q2 : Clo w w2 bm bv d2 c2 u2 (.slice none 0 0) L S seen' blk3 data3) (q3 : More seen seen' blk2 blk3) (q4 : Fr (fun k => k = bm) w1 w2)
    (m1 : OwnDir w3 cc (k + 1) (Dout.put (entKey x) (.lit (.int .i64 (blk3 i))))) (m2 : w2.grownBy w3 (some cc)) (hp : pLook l x = some i) :
    RelD w bm bv d2 c2 u2 L S b r l cc oo lo w3 ∧ w3.rangeLeft b r < wr.rangeLeft b r := by
  have g2 := range_kept g1 q4.toGrown (by omega) hrm
  have o1 := ranges_keeps h1 h2 hg
  have o2 := own_kept o1 q4.toGrown hc1
  have hrc := ranges_ne_own g2 o2
  have g3 := range_kept g2 m2 (by omega) (fun e => hrc e.symm)
  have p3 := own_kept (own_kept (ranges_keeps h1 h3 hg) q4.toGrown hc2) m2 (fun e => hc3 e.symm)
  obtain ⟨p4, p5⟩ := dir_more p3 h4 q3
  refine ⟨⟨_, _, _, k + 1, seen', blk3, data3, g3, m1, p4, p5, by omega, h6.step (h1.owns.canon dirK) h2.isMap hp q1 q3, q2.grown m2 hcc hc1 (noCells_map o2)⟩, ?_⟩
  rw [g3.left_eq, h1.left_eq]
  exact hlt
theorem RelD.start {w w0 w1 : World} {bm bv d2 c2 u2 b r : Nat} {L : Lay} {S : PS} {l : List Ent} {cc oo : Nat} {lo : List Ent} {seen : List Int} {blk2 : Int → Nat} {data2 : Int → Value} (hs : w1.ranges Try.prog 9 fileElem b r l.length (dirD L.blk l) (Maps.has (dirD L.blk l)) (Maps.size (dirD L.blk l))) (hg : w0.grownBy w1 none)
    (h2 : OwnDir w0 cc 0 (.map [])) (h3 : OwnDir w0 oo lo.length (dirD blk2 lo)) (h4 : ∀ e ∈ lo, e.f1 ∈ seen) (h7 : Clo w w0 bm bv d2 c2 u2 (.slice none 0 0) L S seen blk2 data2) : RelD w bm bv d2 c2 u2 L S b r l cc oo lo w1 := by
  have hf : Fr (fun _ => False) w0 w1 := (Fr.refl _ _).grown hg (fun k hk => by cases hk)
  exact ⟨_, _, .map [], 0, seen, blk2, data2, hs, h2.kept hg (by simp), h3.kept hg (by simp), h4, by have := hs.owns.size_le; omega, DirGo.start l seen L.blk blk2, h7.move hf (fun _ hk => hk.elim)⟩
theorem RelD.done {wr : World} {b r k : Nat} {L : Lay} {l : List Ent} {cc : Nat} {left : Lit → Bool} {Dout : DataW Unit} {seen : List Int} {blk2 : Int → Nat}
    (h1 : wr.ranges Try.prog 9 fileElem b r l.length (dirD L.blk l) left 0) (h2 : OwnDir wr cc k Dout) (h5 : k + 0 ≤ l.length) (h6 : DirGo l seen blk2 Dout left) (hl : ∀ z, left z = false) : OwnDir wr cc l.length (dirD blk2 l) ∧ ∀ e ∈ l, e.f1 ∈ seen := by
  obtain ⟨e, h⟩ := h6.done hl (h1.owns.canon dirK) (h2.canon dirK)
  subst e
  exact ⟨h2.mono (by omega), h⟩

/-- The state of the loop over the pending operations. -/
structure RelP (w : World) (bm bv d2 c2 u2 : Nat) (L : Lay) (S : PS) (j : Nat) (pv : Value) (seen : List Int) (blk2 : Int → Nat) (data2 : Int → Value) (wr : World) : Prop where
  clo : Clo w wr bm bv d2 c2 u2 pv L S seen blk2 data2
  cur : OwnDir wr c2 S.dir.length (dirD blk2 S.dir)
  dur : OwnDir wr u2 S.dur.length (dirD blk2 S.dur)
  inC : ∀ e ∈ S.dir, e.f1 ∈ seen
  inU : ∀ e ∈ S.dur, e.f1 ∈ seen
  row : wr.ownsRow w.heap.size tOp 4 pv j (opsCells blk2 (S.pend.take j))
  inP : ∀ o ∈ S.pend.take j, o.f0 = 1 → o.f3 ∈ seen
theorem RelP.end {w wr : World} {bm bv d2 c2 u2 : Nat} {F : Nat → Prop} {d : Nat} {L : Lay} {S : PS} {pv : Value} {seen : List Int} {blk2 : Int → Nat} {data2 : Int → Value} (h : RelP w bm bv d2 c2 u2 L S S.pend.length pv seen blk2 data2 wr) (hr : Rep w F d L S (Live S)) :
    ∃ L', Rep wr (fun k => w.heap.size ≤ k) d2 L' S (Live S) := by
  have hp := h.inP
  have hrow := h.row
  rw [List.take_length] at hp hrow
  have hin : ∀ i, Live S i → i ∈ seen := fun i hi => by
    rcases hi with ⟨e, he, rfl⟩ | ⟨e, he, rfl⟩ | ⟨o, ho, h1, rfl⟩
    · exact h.inC e he
    · exact h.inU e he
    · exact hp o ho h1
  refine ⟨⟨blk2, c2, u2, pv, data2, L.left⟩, ?_⟩
  exact
    { disk := h.clo.disk
      left := hr.left
      cur := h.cur
      dur := h.dur
      ne := h.clo.ne
      pend := own_weaken hrow (Nat.zero_le _)
      live := fun i hi => hi
      file := fun i hi => h.clo.cop.file i (hin i hi)
      data := fun i hi => own_weaken (h.clo.cop.rows i (hin i hi)) (Nat.zero_le _)
      inj := fun i j hi hj => h.clo.cop.inj i (hin i hi) j (hin j hj)
      apart := fun i j hi hj => h.clo.cop.apart i (hin i hi) j (hin j hj)
      inD := h.clo.geD
      inC := h.clo.geC
      inU := h.clo.geU
      inP := fun k hk => (hrow.lt k hk).1
      inB := fun i hi => h.clo.cop.ge i (hin i hi)
      inV := fun i hi k hk => ((h.clo.cop.rows i (hin i hi)).lt k hk).1 }
end Go.Proofs.Ytpffeafoangegaa.Disk

/- Clone, plain: the loop over the pending operations. -/
namespace Go.Proofs.Ytpffeafoangegaa.Disk
open Go Go.RowKit Go.Proofs.YtpffeafoangegaaW.PrintWords Go.Proofs.YtpffeafoangegaaW.PrintLast Go.Proofs.YtpffeafoangegaaW.PrintMore Go.Proofs.Ytpffeafoangegaa.PSimdiskOperations
def Typed (w : World) (k : Nat) (t : Nat) : Prop := ∃ c, w.heap[k]? = some (.cells c t (0, 0))
theorem Clo.move2 {w wr wr' : World} {G : Nat → Prop} {bm bv d2 c2 u2 : Nat} {pv pv' : Value} {L : Lay} {S : PS} {seen : List Int} {blk2 : Int → Nat} {data2 : Int → Value} (h : Clo w wr bm bv d2 c2 u2 pv L S seen blk2 data2) (hf : Fr G wr wr') (hG : ∀ k, G k → w.heap.size ≤ k ∧ (Typed wr k tOp ∨ Typed wr k tDisk))
    (hd : wr'.heap[d2]? = some (.cells (diskCells c2 u2 pv' S.lim L.left) tDisk (0, 0))) : Clo w wr' bm bv d2 c2 u2 pv' L S seen blk2 data2 := by
  have nm : ∀ k es cl, wr.heap[k]? = some (.map es cl) → ¬ G k := fun k es cl hk e => by
    rcases (hG k e).2 with ⟨c, hc⟩ | ⟨c, hc⟩ <;> exact cells_ne_map hc hk rfl
  have nf : ∀ k c, wr.heap[k]? = some (.cells c tFile (0, 0)) → ¬ G k := fun k c hk e => by
    rcases (hG k e).2 with ⟨c, hc⟩ | ⟨c, hc⟩ <;> exact cells_ne_type hc hk (by decide) rfl
  have nu : ∀ k c, wr.heap[k]? = some (.cells c 5 (0, 0)) → ¬ G k := fun k c hk e => by
    rcases (hG k e).2 with ⟨c, hc⟩ | ⟨c, hc⟩ <;> exact cells_ne_type hc hk (by decide) rfl
  have nv : ¬ G bv := fun e => by
    rcases (hG bv e).2 with ⟨c, hc⟩ | ⟨c, hc⟩ <;> exact cells_ne_type hc h.var (by decide) rfl
  obtain ⟨es, cl, hb, _⟩ := h.cop.map
  exact
    { h with
      fr := h.fr.trans hf (fun k hk => .inr (hG k hk).1)
      cop := h.cop.move (hf.block _ h.cop.map.lt (nm _ _ _ hb)) (fun k c hk _ => hf.block k (lt_blk hk) (nf _ c hk)) (fun k c hk _ => hf.block k (lt_blk hk) (nu _ c hk))
      var := (hf.block _ (lt_blk h.var) nv).trans h.var
      disk := hd }
theorem Clo.alloc {w wr : World} {bm bv d2 c2 u2 : Nat} {pv : Value} {L : Lay} {S : PS} {seen : List Int} {blk2 : Int → Nat} {data2 : Int → Value} (h : Clo w wr bm bv d2 c2 u2 pv L S seen blk2 data2) (o : Obj) : Clo w (wr.alloc o) bm bv d2 c2 u2 pv L S seen blk2 data2 :=
  h.move (G := fun _ => False) ((Fr.refl _ wr).alloc o) (fun _ hk => hk.elim)
/-- A call of the closure for a pending operation's file, or for none. -/
theorem same_op {w wr : World} {bm bv d2 c2 u2 : Nat} {pv : Value} {F : Nat → Prop} {d B : Nat} {L : Lay} {S : PS} {seen : List Int} {blk2 : Int → Nat} {data2 : Int → Value} {o : Opn} (pp : Option Addr) (hpp : opPtr L.blk o = .pointer pp) (h : Clo w wr bm bv d2 c2 u2 pv L S seen blk2 data2) (hr : Rep w F d L S (Live S)) (hF : ∀ k, F k → k < w.heap.size) (hg : Good S B) (hB : B ≤ 549755813888) (ho : o ∈ S.pend) :
    Calls Try.prog 46 #[.pointer pp, .pointer (some ⟨bv, 0, none⟩)] wr fun e w' => ∃ (seen' : List Int) (blk3 : Int → Nat) (data3 : Int → Value) (pq : Option Addr), e = .returned (.pointer pq) ∧ opPtr blk3 o = .pointer pq ∧ (o.f0 = 1 → o.f3 ∈ seen') ∧ Clo w w' bm bv d2 c2 u2 pv L S seen' blk3 data3 ∧ More seen seen' blk2 blk3 ∧ Fr (fun k => k = bm) wr w' := by
  by_cases h1 : o.f0 = 1
  · unfold opPtr at hpp
    rw [if_pos h1] at hpp
    cases hpp
    refine (same_go h hr hF hg hB (i := o.f3) (.inr (.inr ⟨o, ho, h1, rfl⟩))).mono ?_
    rintro e w' ⟨seen', blk3, data3, q1, q2, q3, q4, q5⟩
    exact ⟨seen', blk3, data3, _, q1, by unfold opPtr; rw [if_pos h1], fun _ => q2, q3, q4, q5⟩
  · unfold opPtr at hpp
    rw [if_neg h1] at hpp
    cases hpp
    refine (same_nil wr _).mono ?_
    rintro e w' ⟨q1, q2⟩
    subst q2
    exact ⟨seen, blk2, data2, _, q1, by unfold opPtr; rw [if_neg h1], fun e => absurd e h1, h, fun j hj => ⟨hj, rfl⟩, Fr.refl _ _⟩
theorem RelP.start {w wr : World} {bm bv d2 c2 u2 : Nat} {L : Lay} {S : PS} {seen : List Int} {blk2 : Int → Nat} {data2 : Int → Value} (h : Clo w wr bm bv d2 c2 u2 (.slice none 0 0) L S seen blk2 data2) (h1 : OwnDir wr c2 S.dir.length (dirD blk2 S.dir)) (h2 : OwnDir wr u2 S.dur.length (dirD blk2 S.dur)) (h3 : ∀ e ∈ S.dir, e.f1 ∈ seen) (h4 : ∀ e ∈ S.dur, e.f1 ∈ seen) : RelP w bm bv d2 c2 u2 L S 0 (.slice none 0 0) seen blk2 data2 wr :=
  ⟨h, h1, h2, h3, h4, by simpa [opsCells] using World.ownsRow_nil wr w.heap.size tOp 4, fun o ho => by simp at ho⟩
theorem RelP.step {w wr w2 w4 w5 : World} {bm bv d2 c2 u2 j g cap B : Nat} {L : Lay} {S : PS} {pv : Value} {seen seen' : List Int} {blk2 blk3 : Int → Nat} {data2 data3 : Int → Value} {o : Opn} {c0 : Array Value} {ob : Obj} {a3 : Addr} {v3 : Value}
    (h : RelP w bm bv d2 c2 u2 L S j pv seen blk2 data2 wr) (hj : j < S.pend.length) (ho : o = S.pend[j]) (hB : B = wr.heap.size)
    (q1 : o.f0 = 1 → o.f3 ∈ seen') (q2 : Clo w w2 bm bv d2 c2 u2 pv L S seen' blk3 data3) (q3 : More seen seen' blk2 blk3) (q4 : Fr (fun k => k = bm) (wr.alloc (.cells c0 tOp)) w2) (ha3 : a3.block = B)
    (m1 : w4.ownsRow w.heap.size tOp 4 (.slice (some ⟨g, 0, none⟩) (j + 1) cap) (j + 1) (opsCells blk2 (S.pend.take j) ++ opCells blk3 o))
    (m2 : ((w2.setCell a3 v3).alloc ob).drew.grownBy w4 pv.ownBlock) (hv5 : w5 = w4.setCell ⟨d2, 2, none⟩ (.slice (some ⟨g, 0, none⟩) (j + 1) cap)) :
    RelP w bm bv d2 c2 u2 L S (j + 1) (.slice (some ⟨g, 0, none⟩) (j + 1) cap) seen' blk3 data3 w5 := by
  subst hB
  have hbm := h.clo.cop.map.lt
  have hB2 : w2.heap[wr.heap.size]? = some (.cells c0 tOp (0, 0)) := (q4.block _ (by simp) (by omega)).trans (heap_alloc_new wr _)
  have hbs := h.clo.fr.size
  have hfa : Fr (fun k => k = bm) wr w2 := ((Fr.refl _ wr).alloc _).trans q4 (fun _ => .inl)
  have hrow2 : w2.ownsRow w.heap.size tOp 4 pv j (opsCells blk2 (S.pend.take j)) := own_move h.row (fun k hk => hfa.block k (ownBlock_lt h.row hk) (fun e => by
    obtain ⟨c, hc⟩ := own_typed h.row k hk
    obtain ⟨_, _, hb, _⟩ := h.clo.cop.map
    exact cells_ne_map hc hb e))
  have f4 : Fr (fun k => k = wr.heap.size ∨ pv.ownBlock = some k) w2 w4 :=
    ((((Fr.refl _ w2).setCell (p := a3) (.inl (.inl ha3)) v3).alloc ob).drew).grown m2 (fun k hk => .inl (.inr hk))
  have f5 : Fr (fun k => k = d2 ∨ (k = wr.heap.size ∨ pv.ownBlock = some k)) w2 w5 := by
    rw [hv5]
    exact (f4.mono (F' := fun k => k = d2 ∨ (k = wr.heap.size ∨ pv.ownBlock = some k)) (fun _ hk => .inl (.inr hk))).setCell (p := ⟨d2, 2, none⟩) (.inl (.inl rfl)) _
  have hG : ∀ k, (k = d2 ∨ (k = wr.heap.size ∨ pv.ownBlock = some k)) → w.heap.size ≤ k ∧ (Typed w2 k tOp ∨ Typed w2 k tDisk) := fun k hk => by
    rcases hk with rfl | rfl | hk
    · exact ⟨q2.geD, .inr ⟨_, q2.disk⟩⟩
    · exact ⟨hbs, .inl ⟨_, hB2⟩⟩
    · exact ⟨(hrow2.lt k hk).1, .inl (own_typed hrow2 k hk)⟩
  have hd4 : w4.heap[d2]? = some (.cells (diskCells c2 u2 pv S.lim L.left) tDisk (0, 0)) := (f4.block d2 (lt_blk q2.disk) (fun e => by
    rcases e with e | e
    · rw [e] at q2
      exact cells_ne_type q2.disk hB2 (by decide) rfl
    · obtain ⟨c, hc⟩ := own_typed hrow2 d2 e
      exact cells_ne_type q2.disk hc (by decide) rfl)).trans q2.disk
  have hd5 : w5.heap[d2]? = some (.cells (diskCells c2 u2 (.slice (some ⟨g, 0, none⟩) (j + 1) cap) S.lim L.left) tDisk (0, 0)) := by rw [hv5]; exact blk_set hd4 2 _
  have far : ∀ {k : Nat} {n : Nat} {D : DataW Unit}, OwnDir w2 k n D → OwnDir w5 k n D := fun {k n D} hk => ownDir_move hk (f5.block k hk.lt (fun e => by
    rcases (hG k e).2 with ⟨c, hc⟩ | ⟨c, hc⟩ <;> exact noCells_map hk _ _ hc))
  obtain ⟨p1, p2⟩ := dir_more (own_kept (ownDir_move (w' := wr.alloc (.cells c0 tOp)) h.cur (Below.heap_alloc _ _ _ h.cur.lt)) q4.toGrown h.clo.neC) h.inC q3
  obtain ⟨p3, p4⟩ := dir_more (own_kept (ownDir_move (w' := wr.alloc (.cells c0 tOp)) h.dur (Below.heap_alloc _ _ _ h.dur.lt)) q4.toGrown h.clo.neU) h.inU q3
  have htk : S.pend.take (j + 1) = S.pend.take j ++ [o] := by rw [ho]; exact List.take_succ_eq_append_getElem hj
  have hoc : opsCells blk2 (S.pend.take j) ++ opCells blk3 o = opsCells blk3 (S.pend.take (j + 1)) := by
    rw [htk, opsCells_congr (blk' := blk3) (fun a ha h1 => ((q3 _ (h.inP a ha h1)).2).symm)]
    simp [opsCells]
  rw [hoc] at m1
  exact
    { clo := q2.move2 f5 hG hd5
      cur := far p1
      dur := far p3
      inC := p2
      inU := p4
      row := own_move m1 (fun k hk => by
        rw [hv5]
        refine Below.heap_setCell _ _ _ _ (fun e => ?_)
        obtain ⟨c, hc⟩ := own_typed m1 k hk
        exact cells_ne_type hd4 hc (by decide) e.symm)
      inP := fun a ha h1 => by
        rw [htk] at ha
        rcases List.mem_append.1 ha with ha | ha
        · exact (q3 _ (h.inP a ha h1)).1
        · rw [List.mem_singleton] at ha
          subst ha
          exact q1 h1 }
theorem RelP.mid {w wr w2 w3 : World} {bm bv d2 c2 u2 j : Nat} {L : Lay} {S : PS} {pv : Value} {seen seen' : List Int} {blk2 blk3 : Int → Nat} {data2 data3 : Int → Value} {x0 x1 x2 x3 v3 : Value}
    (h : RelP w bm bv d2 c2 u2 L S j pv seen blk2 data2 wr) (q2 : Clo w w2 bm bv d2 c2 u2 pv L S seen' blk3 data3) (q4 : Fr (fun k => k = bm) (wr.alloc (.cells #[x0, x1, x2, x3] tOp)) w2) (hB2 : w2.heap[wr.heap.size]? = some (.cells #[x0, x1, x2, x3] tOp (0, 0))) (h3 : w3 = w2.setCell ⟨wr.heap.size, 3, none⟩ v3) :
    w3.ownsRow w.heap.size tOp 4 pv j (opsCells blk2 (S.pend.take j)) ∧ w3.heap[d2]? = some (.cells (diskCells c2 u2 pv S.lim L.left) tDisk (0, 0)) ∧ w3.heap[wr.heap.size]? = some (.cells #[x0, x1, x2, v3] tOp (0, 0)) ∧ some d2 ≠ pv.ownBlock ∧ wr.heap.size ≠ d2 ∧ w.heap.size ≤ w3.heap.size := by
  have hfa : Fr (fun k => k = bm) wr w2 := ((Fr.refl _ wr).alloc _).trans q4 (fun _ => .inl)
  have hrow2 : w2.ownsRow w.heap.size tOp 4 pv j (opsCells blk2 (S.pend.take j)) := own_move h.row (fun k hk => hfa.block k (ownBlock_lt h.row hk) (fun e => by
    obtain ⟨c, hc⟩ := own_typed h.row k hk
    obtain ⟨_, _, hb, _⟩ := h.clo.cop.map
    exact cells_ne_map hc hb e))
  have hne : wr.heap.size ≠ d2 := cells_ne_type hB2 q2.disk (by decide)
  subst h3
  refine ⟨own_move hrow2 (fun k hk => Below.heap_setCell _ _ _ _ (fun e => ?_)), blk_set_other q2.disk (fun e => hne e.symm) _, ?_, fun e => ?_, hne, ?_⟩
  · have := ownBlock_lt h.row hk
    simp only at e
    omega
  · have := blk_set hB2 3 v3
    simpa using this
  · obtain ⟨c, hc⟩ := own_typed hrow2 d2 e.symm
    exact cells_ne_type q2.disk hc (by decide) rfl
  · have := q2.fr.size
    simpa [World.setCell] using this
def RelP3 (w : World) (bm bv d2 c2 u2 : Nat) (L : Lay) (S : PS) (i : Value) (wr : World) : Prop := ∃ (j : Nat) (pv : Value) (seen : List Int) (blk2 : Int → Nat) (data2 : Int → Value), j ≤ S.pend.length ∧ i = .int .i64 j ∧ RelP w bm bv d2 c2 u2 L S j pv seen blk2 data2 wr
end Go.Proofs.Ytpffeafoangegaa.Disk

/- Clone: the walk. -/
namespace Go.Proofs.Ytpffeafoangegaa.Disk
open Go Go.RowKit Go.Proofs.YtpffeafoangegaaW.PrintWords Go.Proofs.YtpffeafoangegaaW.PrintLast Go.Proofs.YtpffeafoangegaaW.PrintMore Go.Proofs.Ytpffeafoangegaa.PSimdiskOperations
theorem two_of {w : World} {b : Nat} {x0 x1 x2 x3 x4 : Value} {t : Nat} {fz : Nat × Nat} (h : w.heap[b]? = some (.cells #[x0, x1, x2, x3, x4] t fz)) : w.cell? ⟨b, 3, none⟩ = some x3 ∧ w.cell? ⟨b, 4, none⟩ = some x4 := ⟨cell_blk h 3, cell_blk h 4⟩
def Cloned (w : World) (S : PS) (e : Ending) (w' : World) : Prop := ∃ d' F' L', e = .returned (.pointer (some ⟨d', 0, none⟩)) ∧ Rep w' F' d' L' S (Live S) ∧ (∀ k, F' k → w.heap.size ≤ k) ∧ Fr (fun _ => False) w w'
/-- Both maps and the new disk are made. -/
def Begun (w : World) (bm bv : Nat) (L : Lay) (S : PS) (a : Value) (wx : World) : Prop := ∃ d2 c2 u2, a = .pointer (some ⟨d2, 0, none⟩) ∧ OwnDir wx c2 0 (.map []) ∧ OwnDir wx u2 0 (.map []) ∧ Clo w wx bm bv d2 c2 u2 (.slice none 0 0) L S [] L.blk L.data
theorem own_made {w : World} {b : Nat} (h : w.heap[b]? = some (.map #[] 0)) : OwnDir w b 0 (.map []) := by
  obtain ⟨es, clock, hb, F, hs, hD⟩ := (World.ownsMap_made w Try.prog 9 fileElem : OwnDir _ _ 0 (.map []))
  rw [heap_alloc_new] at hb
  simp only [Option.some.injEq, Obj.map.injEq] at hb
  obtain ⟨rfl, rfl⟩ := hb
  exact ⟨#[], 0, h, F, hs, hD⟩
theorem begun_of {w w1 w2 w3 w4 w5 : World} {L : Lay} {S : PS} {cA cB : Nat} {n : Nat} (hn : n = w.heap.size) (h1 : w1 = w.alloc (.map #[] 0)) (h2 : w2 = w1.alloc (.cells #[.map (some n)] tCop)) (h3 : w3 = w2.alloc (.map #[] 0)) (h4 : w4 = w3.alloc (.map #[] 0)) (h5 : w5 = w4.alloc (.cells (diskCells cA cB (.slice none 0 0) S.lim L.left) tDisk)) (hc : (cA = n + 2 ∧ cB = n + 3) ∨ (cA = n + 3 ∧ cB = n + 2)) :
    Begun w n (n + 1) L S (.pointer (some ⟨n + 4, 0, none⟩)) w5 := by
  subst hn
  have s1 : w1.heap.size = w.heap.size + 1 := by rw [h1]; simp
  have s2 : w2.heap.size = w.heap.size + 2 := by rw [h2]; simp; omega
  have s3 : w3.heap.size = w.heap.size + 3 := by rw [h3]; simp; omega
  have s4 : w4.heap.size = w.heap.size + 4 := by rw [h4]; simp; omega
  have a0 : w1.heap[w.heap.size]? = some (.map #[] 0) := by rw [h1]; exact heap_alloc_new _ _
  have b0 : w2.heap[w.heap.size + 1]? = some (.cells #[.map (some w.heap.size)] tCop (0, 0)) := by rw [h2, ← s1]; exact heap_alloc_new _ _
  have d0 : w3.heap[w.heap.size + 2]? = some (.map #[] 0) := by rw [h3, ← s2]; exact heap_alloc_new _ _
  have e0 : w4.heap[w.heap.size + 3]? = some (.map #[] 0) := by rw [h4, ← s3]; exact heap_alloc_new _ _
  have f0 : w5.heap[w.heap.size + 4]? = some (.cells (diskCells cA cB (.slice none 0 0) S.lim L.left) tDisk (0, 0)) := by rw [h5, ← s4]; exact heap_alloc_new _ _
  have up2 : ∀ {k : Nat} {o : Obj}, w1.heap[k]? = some o → w2.heap[k]? = some o := fun h => by rw [h2]; exact blk_allocN h _
  have up3 : ∀ {k : Nat} {o : Obj}, w2.heap[k]? = some o → w3.heap[k]? = some o := fun h => by rw [h3]; exact blk_allocN h _
  have up4 : ∀ {k : Nat} {o : Obj}, w3.heap[k]? = some o → w4.heap[k]? = some o := fun h => by rw [h4]; exact blk_allocN h _
  have up5 : ∀ {k : Nat} {o : Obj}, w4.heap[k]? = some o → w5.heap[k]? = some o := fun h => by rw [h5]; exact blk_allocN h _
  have hfr : Fr (fun _ => False) w w5 := by rw [h5, h4, h3, h2, h1]; exact (((((Fr.refl _ w).alloc _).alloc _).alloc _).alloc _).alloc _
  have p0 := up5 (up4 (up3 (up2 a0)))
  have o2 := own_made (up5 (up4 d0))
  have o3 := own_made (up5 e0)
  have hcop : Cop w5 w.heap.size L S w.heap.size [] L.blk L.data :=
    { live := fun i hi => by cases hi
      map := ⟨#[], 0, p0, rfl⟩
      file := fun i hi => by cases hi
      rows := fun i hi => by cases hi
      inj := fun i hi => by cases hi
      apart := fun i hi => by cases hi
      ge := fun i hi => by cases hi
      geM := Nat.le_refl _ }
  refine ⟨_, cA, cB, rfl, ?_, ?_, ?_⟩
  · rcases hc with ⟨rfl, rfl⟩ | ⟨rfl, rfl⟩
    · exact o2
    · exact o3
  · rcases hc with ⟨rfl, rfl⟩ | ⟨rfl, rfl⟩
    · exact o3
    · exact o2
  · exact
      { fr := hfr
        cop := hcop
        var := up5 (up4 (up3 b0))
        disk := f0
        geV := by omega
        geD := by omega
        geC := by omega
        geU := by omega
        neC := by omega
        neU := by omega
        ne := by omega }
theorem Begun.drew {w wx : World} {bm bv : Nat} {L : Lay} {S : PS} {a : Value} (h : Begun w bm bv L S a wx) : Begun w bm bv L S a wx.drew := by
  obtain ⟨d2, c2, u2, e, h1, h2, h3⟩ := h
  exact ⟨d2, c2, u2, e, ownDir_move h1 rfl, ownDir_move h2 rfl, h3.drew⟩
set_option maxHeartbeats 8000000 in
set_option maxRecDepth 100000 in
theorem Clone_calls (w : World) (F : Nat → Prop) (d : Nat) (L : Lay) (S : PS) (B : Nat) (h : Rep w F d L S (Live S)) (hF : ∀ k, F k → k < w.heap.size) (hg : Good S B) (hB : B ≤ 549755813888) :
    Calls Try.prog 22 #[.pointer (some ⟨d, 0, none⟩)] w (Cloned w S) := by
  have H := Lib.hid h
  have HF := Lib.hid hF
  have HG := Lib.hid hg
  have HB := Lib.hid hB
  have c3 := cell_blk h.disk 3
  have c4 := cell_blk h.disk 4
  simp [diskCells] at c3 c4
  clear h hF hg hB
  have hmm := @run_makeMap Try.prog
  have hmf : ∀ (fn : Fn) (first cap : Array Value) (w : World), (Instr.makeFunc fn first cap).run Try.prog w = .ok (.func fn first cap) w := fun _ _ _ _ => rfl
  go_enter Try.func22, Try.ntmps22
  go_upto_region 5 with (fail)
  go_cut [5] from 16 to 27 (fun a wx => Begun w w.heap.size (w.heap.size + 1) L S a wx)
  case first =>
    go_region_held3 (fun w' => w'.cell? ⟨d, 3, none⟩ = some (.bool S.lim) ∧ w'.cell? ⟨d, 4, none⟩ = some (.int .i64 L.left))
      (refine ⟨?_, ?_⟩ <;> (repeat (first | exact c3 | exact c4 | refine cell_up ?_)))
      (fail)
    all_goals
      go_wp2_with fail
      go_meet
      first | exact (begun_of rfl rfl rfl rfl rfl rfl (.inl ⟨rfl, rfl⟩)).drew | exact (begun_of rfl rfl rfl rfl rfl rfl (.inr ⟨rfl, rfl⟩)).drew | exact begun_of rfl rfl rfl rfl rfl rfl (.inl ⟨rfl, rfl⟩) | exact begun_of rfl rfl rfl rfl rfl rfl (.inr ⟨rfl, rfl⟩)
  case rest =>
    obtain ⟨d2, c2, u2, rfl, ho1, ho2, hclo⟩ := hcut
    obtain ⟨bm, hbm⟩ : ∃ bm, bm = w.heap.size := ⟨_, rfl⟩
    obtain ⟨bv, hbv⟩ : ∃ bv, bv = w.heap.size + 1 := ⟨_, rfl⟩
    rw [← hbv] at hclo
    rw [← hbm] at hclo
    simp only [← hbv]
    clear hbm hbv c3 c4
    have c0 := cell_blk (H.out.fr hclo.fr (fun _ _ e => e)).disk 0
    simp [diskCells] at c0
    have hcu := (H.out.fr hclo.fr (fun _ _ e => e)).cur
    have HO1 := Lib.hid ho1
    have HO2 := Lib.hid ho2
    have HCLO := Lib.hid hclo
    have HD2 := Lib.hid hclo.disk
    clear ho1 ho2 hclo
    go_wp2_with (first | (at_range; refine wpList_range_own _ rfl _ 65 rfl 9 70 dirK dirT fileElem L.cur _ _ rfl (by exact hcu) ?_) | fail)
    intro w0 hrg0 hg0 hs0
    have HRel := Lib.hid (RelD.start (cc := c2) (oo := u2) (lo := []) hrg0 hg0 HO1.out HO2.out (fun e he => by cases he) HCLO.out)
    obtain ⟨r, hr⟩ : ∃ r, r = wc.heap.size := ⟨_, rfl⟩
    have HR : Hid (w.heap.size ≤ r) := by show _ ≤ _; rw [hr]; exact HCLO.out.fr.size
    rw [← hr] at HRel ⊢
    have HGM := Lib.hid HCLO.out.cop.geM
    have HLC := Lib.hid H.out.cur.lt
    have HLU := Lib.hid H.out.dur.lt
    have HC2 := Lib.hid HCLO.out.geC
    have HU2 := Lib.hid HCLO.out.geU
    have HN1 := Lib.hid HCLO.out.neC
    have HN2 := Lib.hid HCLO.out.neU
    have HN3 := Lib.hid HCLO.out.ne
    clear hr hs0 hg0 hrg0 c0 hcu
    go_wp2
    try go_frame
    go_loopw [6, 7] (fun _ _ wx => RelD w bm bv d2 c2 u2 L S L.cur r S.dir c2 u2 [] wx) (fun _ _ wx => wx.rangeLeft L.cur r)
    case atStart => exact HRel.out
    case round =>
      clear HRel
      obtain ⟨left, cnt, Dout, k, seen, blk2, data2, h1, h2, h3, h4, h5, h6, h7⟩ := hrel
      have H3 := Lib.hid h3
      have H4 := Lib.hid h4
      have H5 := Lib.hid h5
      have H6 := Lib.hid h6
      have H7 := Lib.hid h7
      clear h3 h4 h5 h6 h7
      go_upto_region 9 with (first | (at_next; refine wpList_next_dir _ rfl _ rfl L.cur r _ _ left cnt rfl h1 ?_ ?_) | fail)
      · intro hc hl
        subst hc
        obtain ⟨q1, q2⟩ := RelD.done h1 h2 H5.out H6.out hl
        have Q1 := Lib.hid q1
        have Q2 := Lib.hid q2
        have HO2' := Lib.hid (show OwnDir wr u2 0 (.map []) from H3.out)
        have c0 := cell_blk (H.out.fr H7.out.fr (fun _ _ e => e)).disk 1
        simp [diskCells] at c0
        have hcu := (H.out.fr H7.out.fr (fun _ _ e => e)).dur
        clear hl h1 h2 q1 q2
        go_wp2_with (first | (at_range; refine wpList_range_own _ rfl _ 65 rfl 9 70 dirK dirT fileElem L.dur _ _ rfl (by exact hcu) ?_) | fail)
        intro w0' hrg0 hg0 hs0
        have HRel' := Lib.hid (RelD.start (cc := u2) (oo := c2) (lo := S.dir) hrg0 hg0 HO2'.out Q1.out Q2.out H7.out)
        obtain ⟨r', hr⟩ : ∃ r, r = wr.heap.size := ⟨_, rfl⟩
        have HR' : Hid (w.heap.size ≤ r') := by show _ ≤ _; rw [hr]; exact H7.out.fr.size
        rw [← hr] at HRel' ⊢
        clear hr hs0 hg0 hrg0 c0 hcu
        go_wp2
        try go_frame
        go_loopw [8, 9] (fun _ _ wx => RelD w bm bv d2 c2 u2 L S L.dur r' S.dur u2 c2 S.dir wx) (fun _ _ wx => wx.rangeLeft L.dur r')
        case atStart => exact HRel'.out
        case round =>
          clear HRel'
          obtain ⟨left', cnt', Dout', k', seen', blk2', data2', h1, h2, h3, h4, h5, h6, h7⟩ := hrel
          have H3 := Lib.hid h3
          have H4 := Lib.hid h4
          have H5 := Lib.hid h5
          have H6 := Lib.hid h6
          have H7 := Lib.hid h7
          clear h3 h4 h5 h6 h7
          go_upto_region 13 with (first | (at_next; refine wpList_next_dir _ rfl _ rfl L.dur r' _ _ left' cnt' rfl h1 ?_ ?_) | fail)
          · intro hc hl
            subst hc
            obtain ⟨q1, q2⟩ := RelD.done h1 h2 H5.out H6.out hl
            have HP0 := Lib.hid (RelP.start H7.out (show OwnDir _ c2 S.dir.length (dirD blk2' S.dir) from H3.out) q1 H4.out q2)
            have hr7 := (H.out.fr H7.out.fr (fun _ _ e => e))
            obtain ⟨pA, pc, hpv, hpl⟩ : ∃ pA pc, L.pend = .slice pA S.pend.length pc ∧ S.pend.length ≤ pc := by
              rcases H.out.pend.2 with ⟨h1, h2⟩ | ⟨g, cap, cur, h1, _, _, h2, _⟩
              · exact ⟨none, 0, by rw [h1, h2], by omega⟩
              · exact ⟨_, _, h1, h2⟩
            have HPV := Lib.hid hpv
            have hpn : S.pend.length ≤ 549755813888 := by have := HG.out.nPend; have := HB.out; omega
            have c2p := cell_blk hr7.disk 2
            simp [diskCells] at c2p
            rw [hpv] at c2p
            clear hl h1 h2 q1 q2 hr7 hpv
            obtain ⟨i0, hi, hz0, hz1, hz2⟩ := info_parts infoO
            have HI := Lib.hid hi
            have HZ0 := Lib.hid hz0
            have HZ1 := Lib.hid hz1
            have HZ2 := Lib.hid hz2
            clear hi hz0 hz1 hz2
            go_wp2
            go_loopw [69, 11] (fun i _ wx => RelP3 w bm bv d2 c2 u2 L S i wx) (fun i _ _ => S.pend.length - (intOf i).toNat)
            case atStart => exact ⟨0, _, _, _, _, Nat.zero_le _, rfl, HP0.out⟩
            case round =>
              clear HP0 c2p
              obtain ⟨j, pv, seen3, blk3, data3, hj, rfl, hp⟩ := hrel
              have HP := Lib.hid hp
              clear hp
              by_cases hlt : j < S.pend.length
              · obtain ⟨g, hgA, q0, q1, q2, q3⟩ := pend_cells (HPV.out ▸ (H.out.fr HP.out.clo.fr (fun _ _ e => e)).pend) j hlt
                subst hgA
                obtain ⟨o, ho⟩ : ∃ o, o = S.pend[j] := ⟨_, rfl⟩
                rw [← ho] at q0 q1 q2 q3
                have HOM := Lib.hid (show o ∈ S.pend by rw [ho]; exact List.getElem_mem hlt)
                have HO := Lib.hid ho
                obtain ⟨pp, hpp⟩ : ∃ pp : Option Addr, opPtr L.blk o = .pointer pp := by unfold opPtr; split <;> exact ⟨_, rfl⟩
                rw [hpp] at q3
                have HPP := Lib.hid hpp
                clear ho hpp
                go_upto_region 18 with (first | (go_at_call 46; refine (same_op pp HPP.out (HP.out.clo.alloc _) H.out HF.out HG.out HB.out HOM.out).mono ?_; rintro e w2 ⟨seen4, blk4, data4, pq, rfl, ha1, ha2, ha3, ha4, ha5⟩; have hB2 := (ha5.block _ (by simp) (by have := HP.out.clo.cop.map.lt; omega)).trans (heap_alloc_new wr _); have HB2 := Lib.hid hB2; have HA1 := Lib.hid ha1; have HA2 := Lib.hid ha2; have HA3 := Lib.hid ha3; have HA4 := Lib.hid ha4; have HA5 := Lib.hid ha5; have b0 := cell_blk hB2 0; have b1 := cell_blk hB2 1; have b2 := cell_blk hB2 2; have b3 := cell_blk hB2 3; have g3 := frozen_blk hB2 3; simp at b0 b1 b2 b3; clear hB2 ha1 ha2 ha3 ha4 ha5) | fail)
                obtain ⟨w3, hw3⟩ : ∃ w3, w3 = w2.setCell ⟨wr.heap.size, 3, none⟩ (.pointer pq) := ⟨_, rfl⟩
                obtain ⟨hpe, hd3, hB3, hdp, hbd, hsz⟩ := HP.out.mid HA3.out HA5.out HB2.out hw3
                rw [← hw3]
                have HW3 := Lib.hid hw3
                have HD3 := Lib.hid hd3
                have HJ := Lib.hid (show j ≤ 549755813888 by omega)
                have HSZ := Lib.hid hsz
                have HPQ := Lib.hid (show ([.int .i64 (o.f0 - 1), .string (opFrom o), .string (opTo o), .pointer pq] : List Value) = opCells blk4 o by unfold opCells; rw [HA1.out])
                clear b0 b1 b2 b3 g3 q0 q1 q2 q3 hw3 hsz
                obtain ⟨nb, hnb⟩ : ∃ nb, nb = wr.heap.size := ⟨_, rfl⟩
                rw [← hnb] at hB3 hbd HW3 ⊢
                have HNB := Lib.hid hnb
                have b0 := cell_blk hB3 0
                have b1 := cell_blk hB3 1
                have b2 := cell_blk hB3 2
                have b3 := cell_blk hB3 3
                have e2 := cell_blk hd3 2
                have f2 := frozen_blk hd3 2
                simp [diskCells] at b0 b1 b2 b3 e2
                have ca2 : ∀ o : Obj, (w3.alloc o).cell? ⟨d2, 2, none⟩ = some pv := fun o => cell_up e2
                have hone : ∀ u ∈ ([.int .i64 (o.f0 - 1), .string (opFrom o), .string (opTo o), .pointer pq] : List Value), u.oneCell' = true := by
                  intro u hu
                  simp only [List.mem_cons, List.mem_nil_iff, or_false] at hu
                  rcases hu with rfl | rfl | rfl | rfl <;> rfl
                clear hB3 hd3 hnb
                go_region_law (refine step_append_lies _ rfl _ _ 66 rfl w.heap.size tOp i0 _ 4 48 Try.underlying66 HI.out HZ0.out HZ1.out HZ2.out rfl (by decide) _ _ _ rfl (hpe.drew.alloc _) ⟨w3.heap.size, 0, none⟩ 1 1 [.int .i64 (o.f0 - 1), .string (opFrom o), .string (opTo o), .pointer pq] rfl rfl (World.news_of_block (heap_alloc_new _ _)) hone (by decide) (by have := HJ.out; unfold maxLen; omega) (by have := HJ.out; omega) (by have := HSZ.out; simp; omega) _ rfl ?_; intro g cap w4 ho4 hg4 hat4 hlt4; have hd4 := (hg4.block d2 (by have := lt_blk HD3.out; simp; omega) hdp).trans ((Below.heap_alloc w3 _ d2 (lt_blk HD3.out)).trans HD3.out); have c24 := cell_blk hd4 2; have f24 := frozen_blk hd4 2; simp [diskCells] at c24; have HD4 := Lib.hid hd4; have HO4 := Lib.hid ho4; have HG4 := Lib.hid hg4; have HA6 := Lib.hid hat4; clear hd4 ho4 hg4 hat4 hlt4)
                all_goals
                  have STEP := Lib.hid (HP.out.step (B := nb) (a3 := ⟨nb, 3, none⟩) (v3 := .pointer pq) hlt HO.out HNB.out HA2.out HA3.out HA4.out HA5.out rfl (by rw [← HPQ.out]; exact HO4.out) (by have h := HG4.out; rw [HW3.out] at h; exact h) rfl)
                  go_wp2_with fail
                  go_roundw
                  case rel => exact ⟨j + 1, _, _, _, _, by omega, by go_num, STEP.out⟩
                  case measure => simp [intOf]; omega
              · have hjj : j = S.pend.length := by omega
                subst hjj
                go_wp2_with fail
                go_ret
                obtain ⟨L', hrep⟩ := HP.out.end H.out
                exact ⟨_, _, L', rfl, hrep, fun k hk => hk, HP.out.clo.fr⟩
          · intro x c y yp w1 cnt1 hx hlk hv hat hrg1 hlt hgr hsz hen
            obtain ⟨i, hp, hci⟩ := look_of hv hat
            rw [hci] at hen
            obtain ⟨hq1, hq2, hq3⟩ := RelD.ready h1 h2 H7.out HR'.out hgr
            have H1 := Lib.hid h1
            have H2 := Lib.hid h2
            have HP := Lib.hid hp
            have HX := Lib.hid hx
            have HLT := Lib.hid hlt
            have HGR := Lib.hid hgr
            have HQ1 := Lib.hid hq1
            have HQ2 := Lib.hid hq2
            have HQ3 := Lib.hid hq3
            have HG1 := Lib.hid hrg1
            have e0 := cell_blk hq1.disk 1
            simp [diskCells] at e0
            have HLV := Lib.hid (show Live S i by obtain ⟨e, he, h⟩ := look_mem hp; exact .inr (.inl ⟨e, he, h⟩))
            clear h1 h2 hlk hv hat hci hsz hp hx hlt hgr hq1 hq2 hq3 hrg1
            go_upto_region 13 with (fail)
            go_region_held3 (fun w' => w'.cell? ⟨d2, 1, none⟩ = some (.map (some u2)))
              (first | exact e0 | exact E2.out | exact E3.out)
              (first | (go_at_call 46; refine (same_go HQ1.out.drew H.out HF.out HG.out HB.out HLV.out).mono ?_; rintro e w2 ⟨seen', blk3, data3, rfl, hin, hc2, hmore, hf2⟩; obtain ⟨w3, hrun, hm3, hg3⟩ := (own_kept (ownDir_move (w' := w1.drew) HQ2.out rfl) hf2.toGrown HN2.out).update dirK dirT (by have := H5.out; have := HG.out.nDur; have := HB.out; unfold maxLen; omega) (keyS HX.out) (show fileElem (.pointer (some ⟨blk3 i, 0, none⟩)) = some (.lit (.int .i64 (blk3 i)), []) from rfl); have HIN := Lib.hid hin; have HC2' := Lib.hid hc2; have HMORE := Lib.hid hmore; have HF2 := Lib.hid hf2; have HM3 := Lib.hid hm3; have HG3 := Lib.hid hg3; have E2 := Lib.hid (show w2.cell? ⟨d2, 1, none⟩ = some (.map (some u2)) from cell_blk hc2.disk 1); have E3 := Lib.hid (show w3.cell? ⟨d2, 1, none⟩ = some (.map (some u2)) from cell_blk (hc2.grown hg3 HU2.out HN2.out (noCells_map (own_kept (ownDir_move (w' := w1.drew) HQ2.out rfl) hf2.toGrown HN2.out))).disk 1); clear hin hc2 hmore hf2 hm3 hg3))
            have STEP := Lib.hid (RelD.step HLU.out HGM.out HQ3.out HU2.out HN2.out HN1.out HN3.out.symm H1.out H2.out H3.out H4.out H5.out H6.out HG1.out HLT.out HGR.out HIN.out HC2'.out HMORE.out (((Fr.refl _ w1).drew).trans HF2.out (fun _ => .inl)) HM3.out HG3.out HP.out)
            go_wp2_with fail
            go_roundw
            case rel => exact STEP.out.1
            case measure => exact STEP.out.2
      · intro x c y yp w1 cnt1 hx hlk hv hat hrg1 hlt hgr hsz hen
        obtain ⟨i, hp, hci⟩ := look_of hv hat
        rw [hci] at hen
        obtain ⟨hq1, hq2, hq3⟩ := RelD.ready h1 h2 H7.out HR.out hgr
        have H1 := Lib.hid h1
        have H2 := Lib.hid h2
        have HP := Lib.hid hp
        have HX := Lib.hid hx
        have HLT := Lib.hid hlt
        have HGR := Lib.hid hgr
        have HQ1 := Lib.hid hq1
        have HQ2 := Lib.hid hq2
        have HQ3 := Lib.hid hq3
        have HG1 := Lib.hid hrg1
        have e0 := cell_blk hq1.disk 0
        simp [diskCells] at e0
        have HLV := Lib.hid (show Live S i by obtain ⟨e, he, h⟩ := look_mem hp; exact .inl ⟨e, he, h⟩)
        clear h1 h2 hlk hv hat hci hsz hp hx hlt hgr hq1 hq2 hq3 hrg1
        go_upto_region 9 with (fail)
        go_region_held3 (fun w' => w'.cell? ⟨d2, 0, none⟩ = some (.map (some c2)))
          (first | exact e0 | exact E2.out | exact E3.out)
          (first | (go_at_call 46; refine (same_go HQ1.out.drew H.out HF.out HG.out HB.out HLV.out).mono ?_; rintro e w2 ⟨seen', blk3, data3, rfl, hin, hc2, hmore, hf2⟩; obtain ⟨w3, hrun, hm3, hg3⟩ := (own_kept (ownDir_move (w' := w1.drew) HQ2.out rfl) hf2.toGrown HN1.out).update dirK dirT (by have := H5.out; have := HG.out.nDir; have := HB.out; unfold maxLen; omega) (keyS HX.out) (show fileElem (.pointer (some ⟨blk3 i, 0, none⟩)) = some (.lit (.int .i64 (blk3 i)), []) from rfl); have HIN := Lib.hid hin; have HC2' := Lib.hid hc2; have HMORE := Lib.hid hmore; have HF2 := Lib.hid hf2; have HM3 := Lib.hid hm3; have HG3 := Lib.hid hg3; have E2 := Lib.hid (show w2.cell? ⟨d2, 0, none⟩ = some (.map (some c2)) from cell_blk hc2.disk 0); have E3 := Lib.hid (show w3.cell? ⟨d2, 0, none⟩ = some (.map (some c2)) from cell_blk (hc2.grown hg3 HC2.out HN1.out (noCells_map (own_kept (ownDir_move (w' := w1.drew) HQ2.out rfl) hf2.toGrown HN1.out))).disk 0); clear hin hc2 hmore hf2 hm3 hg3))
        have STEP := Lib.hid (RelD.step HLC.out HGM.out HQ3.out HC2.out HN1.out HN2.out HN3.out H1.out H2.out H3.out H4.out H5.out H6.out HG1.out HLT.out HGR.out HIN.out HC2'.out HMORE.out (((Fr.refl _ w1).drew).trans HF2.out (fun _ => .inl)) HM3.out HG3.out HP.out)
        go_wp2_with fail
        go_roundw
        case rel => exact STEP.out.1
        case measure => exact STEP.out.2
end Go.Proofs.Ytpffeafoangegaa.Disk

/- The law SimdiskClones: what its loop keeps. -/
namespace Go.Proofs.Ytpffeafoangegaa.Disk
open Go Go.RowKit Go.Proofs.YtpffeafoangegaaW.PrintWords Go.Proofs.YtpffeafoangegaaW.PrintLast Go.Proofs.YtpffeafoangegaaW.PrintMore Go.Proofs.Ytpffeafoangegaa.PSimdiskOperations
/-- The loop of the law: the copy goes its own way; what stood before the copy was made stands. -/
def ClRel (w : World) (okD : Nat → Prop) (S : PS) (l : List SOp) (d bx : Nat) (i : Value) (wr : World) : Prop :=
  ∃ (j : Nat) (F ok : Nat → Prop) (a0 : Option Addr) (c0 : Nat) (a1 : Option Addr) (c1 : Nat) (a2 : Option Addr) (c2 : Nat) (a3 : Option Addr) (c3 : Nat), j ≤ l.length ∧ i = .int .i64 j ∧
    wr.heap[bx]? = some (.cells (svC a0 c0 a1 c1 a2 c2 a3 c3 (stAt S l j)) tState (0, 0)) ∧ Pair wr F ok d (sv a0 c0 a1 c1 a2 c2 a3 c3 (stAt S l j)) (stAt S l j) ∧
    Below w.heap.size w wr ∧ (∀ k, F k → w.heap.size ≤ k ∧ k ≠ bx) ∧ (∀ k, ok k → k ≠ bx ∧ (okD k ∨ w.heap.size ≤ k)) ∧ ∀ k, okD k → ok k
theorem cl_next {w wr wx w5 w6 : World} {okD : Nat → Prop} {S S' : PS} {l : List SOp} {d bx j : Nat} {F ok F' : Nat → Prop} {b0 : Option Addr} {d0 : Nat} {b1 : Option Addr} {d1 : Nat} {b2 : Option Addr} {d2 : Nat} {b3 : Option Addr} {d3 : Nat} {x0 x1 x2 x3 x4 x5 : Value} {o : Obj}
    (hj : j < l.length) (hS : S' = stAt S l (j + 1)) (hw : w.heap.size ≤ bx) (hD : ∀ k, okD k → k < w.heap.size) (hbw : Below w.heap.size w wr) (hbx : Below wr.heap.size wr wx) (hk : wr.heap[bx]? = some (.cells #[x0, x1, x2, x3, x4, x5] tState (0, 0)))
    (hF : ∀ k, F k → w.heap.size ≤ k ∧ k ≠ bx) (hok : ∀ k, ok k → k ≠ bx ∧ (okD k ∨ w.heap.size ≤ k)) (hold : ∀ k, okD k → ok k) (hp : Pair w5 F' (okN ok wx F') d (sv b0 d0 b1 d1 b2 d2 b3 d3 S') S') (hc : Chg wx F w5 F')
    (h6 : w6 = ((((((w5.alloc o).setCell ⟨bx, 0, none⟩ (.slice b0 S'.files.length d0)).setCell ⟨bx, 1, none⟩ (.slice b1 S'.dir.length d1)).setCell ⟨bx, 2, none⟩ (.slice b2 S'.dur.length d2)).setCell ⟨bx, 3, none⟩ (.slice b3 S'.pend.length d3)).setCell ⟨bx, 4, none⟩ (.bool S'.lim)).setCell ⟨bx, 5, none⟩ (.int .i64 S'.left)) :
    ClRel w okD S l d bx (.int .i64 ((j + 1 : Nat) : Int)) w6 := by
  subst hS
  have lb := lt_blk hk
  have sx := hbx.size
  have s5 : wx.heap.size ≤ w5.heap.size := hc.fr.size
  have sw := hbw.size
  have e5 : (w5.alloc o).heap[bx]? = some (.cells #[x0, x1, x2, x3, x4, x5] tState (0, 0)) := blk_allocN ((hc.fr.block bx (by omega) (fun e => (hF bx e).2 rfl)).trans ((hbx.block bx lb).trans hk)) o
  have far : ∀ k, k ≠ bx → w6.heap[k]? = (w5.alloc o).heap[k]? := fun k hk => by rw [h6, other_six hk]
  have e6 : w6.heap[bx]? = some (.cells (svC b0 d0 b1 d1 b2 d2 b3 d3 (stAt S l (j + 1))) tState (0, 0)) := by rw [h6]; exact set_six _ _ _ _ _ _ e5
  have hs6 : (w5.alloc o).heap.size ≤ w6.heap.size := by rw [h6]; simp [World.setCell]
  have b56 : Below w.heap.size w5 w6 := by rw [h6]; exact below_six ((below_alloc (Below.refl _ w5) o).mono (by omega)) hw _ _ _ _ _ _
  clear h6
  have newF : ∀ k, F' k → w.heap.size ≤ k ∧ k ≠ bx := fun k hk => by
    rcases hc.new k hk with h1 | h1
    · exact hF k h1
    · omega
  have newO : ∀ k, okN ok wx F' k → k ≠ bx ∧ (okD k ∨ w.heap.size ≤ k) := fun k hk => by
    rcases hk with hk | hk
    · exact hok k hk.1
    · have := hk.1; exact ⟨by omega, .inr (by omega)⟩
  have bx5 : Below w.heap.size wx w5 := hc.fr.toBelow (by omega) (fun k hk => (hF k hk).1)
  exact ⟨j + 1, F', okN ok wx F', b0, d0, b1, d1, b2, d2, b3, d3, by omega, rfl, e6, (hp.below (below_alloc (Below.refl _ _) o)).move hs6 (fun k hk _ => far k (by rcases hk with hk | hk; exact (newF k hk).2; exact (newO k hk).1)), ((hbw.trans (hbx.mono hbw.size)).trans bx5).trans b56, newF, newO, fun k hk => .inl ⟨hold k hk, by have := hD k hk; omega⟩⟩
/-- The copy beside its reference, just made. -/
theorem cl_pair {w w4 : World} {F F' okD : Nat → Prop} {d d2 : Nat} {L' : Lay} {S : PS} {a0 : Option Addr} {c0 : Nat} {a1 : Option Addr} {c1 : Nat} {a2 : Option Addr} {c2 : Nat} {a3 : Option Addr} {c3 : Nat} (hD : ∀ k, okD k → k < w.heap.size) (hp : Pair w F okD d (sv a0 c0 a1 c1 a2 c2 a3 c3 S) S) (hr : Rep w4 F' d2 L' S (Live S)) (hge : ∀ k, F' k → w.heap.size ≤ k) (hf : Fr (fun _ => False) w w4) :
    Pair w4 (fun k => w.heap.size ≤ k ∧ k < w4.heap.size) okD d2 (sv a0 c0 a1 c1 a2 c2 a3 c3 S) S := by
  have hp4 := hp.below (fr_below hf)
  exact ⟨⟨L', hr.mono (fun k hk hlt => ⟨hge k hk, hlt⟩)⟩, hp4.ref, fun k hk => hk.2, fun k hk e => by have := hD k hk; have := e.1; omega⟩
theorem cl_start {w w5 : World} {F okD : Nat → Prop} {d : Nat} {S : PS} {l : List SOp} {a0 : Option Addr} {c0 : Nat} {a1 : Option Addr} {c1 : Nat} {a2 : Option Addr} {c2 : Nat} {a3 : Option Addr} {c3 : Nat} (hD : ∀ k, okD k → k < w.heap.size) (hp : Pair w5 F okD d (sv a0 c0 a1 c1 a2 c2 a3 c3 S) S) (hF : ∀ k, F k → w.heap.size ≤ k) (hb : Below w.heap.size w w5) :
    ClRel w okD S l d w5.heap.size (.int .i64 0) (w5.alloc (.cells (svC a0 c0 a1 c1 a2 c2 a3 c3 S) tState)) := by
  have hs := hb.size
  refine ⟨0, F, okD, a0, c0, a1, c1, a2, c2, a3, c3, Nat.zero_le _, rfl, heap_alloc_new w5 _, hp.below (below_alloc (Below.refl _ _) _), below_alloc hb _, fun k hk => ⟨hF k hk, ?_⟩, fun k hk => ⟨?_, .inl hk⟩, fun _ hk => hk⟩
  · have := hp.lt k hk; omega
  · have := hD k hk; omega
/-- Another disk has turned. -/
theorem pair_other {w w' : World} {F ok G G' : Nat → Prop} {d : Nat} {v : Value} {S : PS} (h : Pair w F ok d v S) (hc : Chg w G w' G') (h1 : ∀ k, F k → ¬ G k) (h2 : ∀ k, ok k → ¬ G k) : Pair w' F ok d v S :=
  h.move hc.fr.size (fun k hk hlt => hc.fr.block k hlt (fun e => by rcases hk with hk | hk; exact h1 k hk e; exact h2 k hk e))
/-- A crashed disk beside the crashed reference. -/
theorem crash_pair {w8 w9 w10 : World} {F F9 okD : Nat → Prop} {d : Nat} {L9 : Lay} {S' : PS} {b0 : Option Addr} {d0 : Nat} {b1 : Option Addr} {d1 : Nat} {b2 : Option Addr} {d2 : Nat} {b3 : Option Addr} {d3 : Nat} (hD : ∀ k, okD k → k < w8.heap.size) (hap : ∀ k, okD k → ¬ F k) (hc : Chg w8 F w9 F9) (hr : Rep w9 F9 d L9 S' (Live S')) (hb : Below w9.heap.size w9 w10)
    (hf : Ref w10 (fun k => (okD k ∧ k < w9.heap.size) ∨ w9.heap.size ≤ k) b0 d0 b1 d1 b2 d2 b3 d3 S') : Pair w10 F9 (fun k => (okD k ∧ k < w9.heap.size) ∨ w9.heap.size ≤ k) d (sv b0 d0 b1 d1 b2 d2 b3 d3 S') S' := by
  refine ⟨⟨L9, hr.below hb⟩, ⟨b0, d0, b1, d1, b2, d2, b3, d3, rfl, hf⟩, fun k hk => Nat.lt_of_lt_of_le (hc.lt k hk) hb.size, fun k hk e => ?_⟩
  rcases hk with hk | hk
  · rcases hc.new k e with h1 | h1
    · exact hap k hk.1 h1
    · have := hD k hk.1; omega
  · have := hc.lt k e; omega
end Go.Proofs.Ytpffeafoangegaa.Disk

/- The law SimdiskClones: the walk. -/
namespace Go.Proofs.Ytpffeafoangegaa.Disk
open Go Go.RowKit Go.Proofs.YtpffeafoangegaaW.PrintWords Go.Proofs.YtpffeafoangegaaW.PrintLast Go.Proofs.YtpffeafoangegaaW.PrintMore Go.Proofs.Ytpffeafoangegaa.PSimdiskOperations
set_option maxHeartbeats 4000000 in
set_option maxRecDepth 100000 in
theorem clones_walk (w : World) (A : Option Addr) (c : Nat) (l : List SOp) (h : Kd.C kOp w A l.length l) (hc : l.length ≤ c) (hw : ∀ x ∈ l, WfOp x) (A1 : Option Addr) (c1 : Nat) (more : List SOp) (h1 : Kd.C kOp w A1 more.length more) (hc1 : more.length ≤ c1) (hw1 : ∀ x ∈ more, WfOp x) (n : Int) (_ : n ≤ 9223372036854775807) (A3 : Option Addr) (c3 : Nat) (cs : List Cf) (h3 : Kd.C kC w A3 cs.length cs) (hc3 : cs.length ≤ c3) :
    Calls Try.prog 6 #[.slice A l.length c, .slice A1 more.length c1, .int .i64 n, .slice A3 cs.length c3] w fun e w' => e = .returned (.bool true) ∧ Below w.heap.size w w' := by
  have HR := Lib.hid (Rd.ofC heap_op h hc)
  have HR1 := Lib.hid (Rd.ofC heap_op h1 hc1)
  have HR3 := Lib.hid (Rd.ofC heap_cf h3 hc3)
  have HW := Lib.hid hw
  have HW1 := Lib.hid hw1
  have HC3 := Lib.hid hc3
  have hcap0 := h.2.1
  have hcap1 := h1.2.1
  have hcap3 := h3.2.1
  clear h h1 h3 hc hc1 hc3 hw hw1
  by_cases hmain : lightB l = true ∧ lightB more = true ∧ cs.length ≤ 100
  · obtain ⟨hl, hm, hcs⟩ := hmain
    have HL := Lib.hid hl
    have HM := Lib.hid hm
    have HS := Lib.hid (stAt_sound Sound.new hl HW.out l.length (Nat.le_refl _))
    have h60 := (light_at hl).1
    have m60 := (light_at hm).1
    have hd1 : decide ((100 : Int) < (cs.length : Int)) = false := decide_eq_false (by omega)
    clear hl hm hcs
    go_enter Try.func6, Try.ntmps6
    go_upto_region 6 with (first
      | (go_at_call 8; have hz := HB1.out; clear hz; refine (light_calls _ A1 c1 more (HR1.out.below HB1.out).now HR1.out.le).mono ?_; rw [HM.out]; rintro e w2 ⟨rfl, hb⟩; have HB2 := Lib.hid (HB1.out.trans (hb.mono HB1.out.size)); clear hb)
      | (go_at_call 8; refine (light_calls _ A c l HR.out.now HR.out.le).mono ?_; rw [HL.out]; rintro e w1 ⟨rfl, hb⟩; have HB1 := Lib.hid hb; clear hb)
      | (go_at_call 10; refine (play_calls _ A c l (HR.out.below HB2.out).now HR.out.le HL.out HW.out).mono ?_; rintro e w3 ⟨d, v, F, ok, rfl, hp, hb, hF, hok⟩; obtain ⟨St, hSt⟩ : ∃ St, St = stAt pNew l l.length := ⟨_, rfl⟩; rw [← hSt] at hp; have HST := Lib.hid (hSt ▸ HS.out); obtain ⟨a0, c0, a1, cc1, a2, cc2, a3, cc3, hv, href⟩ := hp.ref; subst hv; have HREF3 := Lib.hid href; have HP3 := Lib.hid hp; have HB3 := Lib.hid (HB2.out.trans (hb.mono HB2.out.size)); have HF3 := Lib.hid (show ∀ k, F k → w.heap.size ≤ k from fun k hk => Nat.le_trans HB2.out.size (hF k hk)); have HK3 := Lib.hid (show ∀ k, k < w.heap.size → ok k from fun k hk => hok k (Nat.lt_of_lt_of_le hk HB2.out.size)); clear hp hb hF hok hSt href)
      | fail)
    obtain ⟨wb, hwb⟩ : ∃ wb, wb = w3.alloc (.cells (svC a0 c0 a1 cc1 a2 cc2 a3 cc3 St) tState) := ⟨_, rfl⟩
    obtain ⟨b10, hb10⟩ : ∃ b10, b10 = w3.heap.size := ⟨_, rfl⟩
    have hsb : wb.heap.size = w3.heap.size + 1 := by rw [hwb]; simp
    have HU := Lib.hid (show wb.heap[b10]? = some (.cells (svC a0 c0 a1 cc1 a2 cc2 a3 cc3 St) tState (0, 0)) by rw [hwb, hb10]; exact heap_alloc_new w3 _)
    have HAB := Lib.hid (show Below w3.heap.size w3 wb by rw [hwb]; exact below_alloc (Below.refl _ _) _)
    have HBB := Lib.hid (show Below w.heap.size w wb by rw [hwb]; exact below_alloc HB3.out _)
    have HREFD := Lib.hid ((HREF3.out.mono (ok' := fun k => ok k ∧ k < w3.heap.size) (fun k h1 h2 => ⟨h1, h2⟩)).below HAB.out)
    have HPD := Lib.hid ((HP3.out.mono (ok' := fun k => ok k ∧ k < w3.heap.size) (fun k h1 h2 => ⟨h1, h2⟩) (fun k hk => HP3.out.apart k hk.1)).below HAB.out)
    have HDD := Lib.hid (show ∀ k, (ok k ∧ k < w3.heap.size) → k < wb.heap.size from fun k hk => by have := hk.2; omega)
    have HFL := Lib.hid (show ∀ k, F k → k < b10 from fun k hk => by rw [hb10]; exact HP3.out.lt k hk)
    have HBS := Lib.hid (show b10 < wb.heap.size by omega)
    have HFW := Lib.hid (show ∀ k, F k → k < wb.heap.size from fun k hk => by have := HP3.out.lt k hk; omega)
    have HKD := Lib.hid (show ∀ k, k < w.heap.size → (ok k ∧ k < w3.heap.size) from fun k hk => ⟨HK3.out k hk, Nat.lt_of_lt_of_le hk HB3.out.size⟩)
    have HAP := Lib.hid (show ∀ k, (ok k ∧ k < w3.heap.size) → ¬ F k from fun k hk => HP3.out.apart k hk.1)
    obtain ⟨okD, hokD⟩ : ∃ okD : Nat → Prop, okD = fun k => ok k ∧ k < w3.heap.size := ⟨_, rfl⟩
    rw [show w3.alloc (.cells #[.slice a0 St.files.length c0, .slice a1 St.dir.length cc1, .slice a2 St.dur.length cc2, .slice a3 St.pend.length cc3, .bool St.lim, .int .i64 St.left] tState) = wb from hwb.symm, ← hb10]
    change Hid (Ref wb (fun k => ok k ∧ k < w3.heap.size) a0 c0 a1 cc1 a2 cc2 a3 cc3 St) at HREFD
    change Hid (Pair wb F (fun k => ok k ∧ k < w3.heap.size) d (sv a0 c0 a1 cc1 a2 cc2 a3 cc3 St) St) at HPD
    rw [← hokD] at HREFD HPD
    have HDD' := Lib.hid (show ∀ k, okD k → k < wb.heap.size by rw [hokD]; exact HDD.out)
    have HKD' := Lib.hid (show ∀ k, k < w.heap.size → okD k by rw [hokD]; exact HKD.out)
    have HAP' := Lib.hid (show ∀ k, okD k → ¬ F k by rw [hokD]; exact HAP.out)
    clear hwb hb10 hsb hokD HDD HKD HAP HP3 HREF3 HAB
    obtain ⟨y0, y1, y2, y3, y4, y5⟩ := six_cells HU.out
    go_wp2_with (first
      | (go_at_call 22; obtain ⟨L0, hr0⟩ := HPD.out.rep; refine (Clone_calls wb F d L0 St _ hr0 HFW.out HST.out.good (by omega)).mono ?_; rintro e w4 ⟨d2, F2, L2, rfl, hr4, hge, hf4⟩; have HP4 := Lib.hid (cl_pair HDD'.out HPD.out hr4 hge hf4); have HB4 := Lib.hid (fr_below hf4); have U4 := Lib.hid (blk_below HU.out HB4.out); clear hr0 hr4 hge hf4 y0 y1 y2 y3 y4 y5; obtain ⟨y0, y1, y2, y3, y4, y5⟩ := six_cells U4.out)
      | (go_at_call 11; refine (same_calls _ _ okD d2 _ St _ HP4.out HST.out.good (by omega)).mono ?_; rintro e w5 ⟨rfl, hb⟩; have HP5 := Lib.hid (HP4.out.below hb); have HB5 := Lib.hid (HB4.out.trans (hb.mono HB4.out.size)); have U5 := Lib.hid (blk_below U4.out hb); clear hb y0 y1 y2 y3 y4 y5; obtain ⟨y0, y1, y2, y3, y4, y5⟩ := six_cells U5.out)
      | fail)
    have HST0 := Lib.hid (cl_start (l := more) HDD'.out HP5.out (fun k hk => hk.1) HB5.out)
    obtain ⟨bx, hbx⟩ : ∃ bx, bx = w5.heap.size := ⟨_, rfl⟩
    have HBX := Lib.hid (show wb.heap.size ≤ bx by rw [hbx]; exact HB5.out.size)
    rw [← hbx] at HST0 ⊢
    clear hbx y0 y1 y2 y3 y4 y5
    go_loopw [53] (fun i wr => ClRel wb okD St more d2 bx i wr) (fun i _ => more.length - (intOf i).toNat)
    case atStart => exact HST0.out
    case round =>
      obtain ⟨j, Fj, okj, e0, k0, e1, k1, e2, k2, e3, k3, hj, rfl, hk6, hp, hbw, hF, hok, hold⟩ := hrel
      have K6 := Lib.hid hk6
      have HPc := Lib.hid hp
      have HBR := Lib.hid hbw
      have HF := Lib.hid hF
      have HOK := Lib.hid hok
      have HOLD := Lib.hid hold
      clear hk6 hp hbw hF hok hold
      by_cases hlt : j < more.length
      · obtain ⟨ad, A3', c3', A5, c5', hA, q0, q1, q2, q3, q4, q5, r3, r5⟩ := op_at ((HR1.out.below HBB.out).below HBR.out) j hlt
        subst hA
        have HSD := Lib.hid (stAt_sound HST.out HM.out HW1.out j hj)
        have hx100 := (light_at HM.out).2 _ (List.getElem_mem hlt)
        have HSU := Lib.hid (stAt_succ St more j hlt)
        obtain ⟨x, hx⟩ : ∃ x, x = more[j] := ⟨_, rfl⟩
        rw [← hx] at q0 q1 q2 q3 q4 q5 r3 r5 hx100 HSU
        obtain ⟨Sj, hSj⟩ : ∃ Sj, Sj = stAt St more j := ⟨_, rfl⟩
        rw [← hSj] at HSD HSU HPc K6
        have R3 := Lib.hid (r3.mono (ok' := okj) (fun k hk _ => HOLD.out k (HKD'.out k hk)))
        have R5 := Lib.hid (r5.mono (ok' := okj) (fun k hk _ => HOLD.out k (HKD'.out k hk)))
        have HX100 := Lib.hid hx100
        obtain ⟨s0, s1, s2, s3, s4, s5⟩ := six_cellsA K6.out
        clear hx hx100 r3 r5 hSj
        go_wp2_with (first | (go_at_call 20; refine (step_calls _ Fj okj d2 _ Sj _ x A3' c3' A5 c5' (HPc.out.below (below_alloc (Below.refl _ _) _)) HSD.out.good (by omega) (R3.out.below (below_alloc (Below.refl _ _) _)) HX100.out (R5.out.below (below_alloc (Below.refl _ _) _))).mono ?_; rintro e w6 ⟨v, F', rfl, hp, hch⟩; obtain ⟨b0, d0, b1, d1, b2, d2', b3, d3, hv, _⟩ := hp.ref; subst hv; have HP6 := Lib.hid hp; have HC6 := Lib.hid hch; have K66 := Lib.hid (chg_blk hch (blk_allocN K6.out _) (fun e => (HF.out _ e).2 rfl)); clear hp hch s0 s1 s2 s3 s4 s5; obtain ⟨s0, s1, s2, s3, s4, s5⟩ := six_cellsA K66.out; obtain ⟨f0, f1, f2, f3, f4, f5⟩ := six_frozenA K66.out) | fail)
        go_roundw
        case rel => exact cl_next hlt HSU.out.symm HBX.out HDD'.out HBR.out (below_alloc (Below.refl _ _) _) K6.out HF.out HOK.out HOLD.out HP6.out HC6.out rfl
        case measure => simp [intOf]; omega
      · obtain rfl : j = more.length := by omega
        have HSD := Lib.hid (stAt_sound HST.out HM.out HW1.out more.length (Nat.le_refl _))
        obtain ⟨Se, hSe⟩ : ∃ Se, Se = stAt St more more.length := ⟨_, rfl⟩
        rw [← hSe] at HSD HPc K6
        have U6 := Lib.hid (blk_below HU.out HBR.out)
        have HNF := Lib.hid (show ∀ k, Fj k → ¬ F k from fun k h1 h2 => by have := (HF.out k h1).1; have := HFW.out k h2; omega)
        have HNO := Lib.hid (show ∀ k, okj k → ¬ F k from fun k h1 h2 => by rcases (HOK.out k h1).2 with h | h; exact HAP'.out k h h2; have := HFW.out k h2; omega)
        have HNX := Lib.hid (show ¬ F bx from fun h => by have := HFW.out _ h; have := HBX.out; omega)
        have HN10 := Lib.hid (show ¬ F b10 from fun h => by have := HFL.out _ h; omega)
        obtain ⟨s0, s1, s2, s3, s4, s5⟩ := six_cells K6.out
        obtain ⟨y0, y1, y2, y3, y4, y5⟩ := six_cells U6.out
        clear hSe
        go_wp2_with (first
          | (go_at_call 11; have hz := HP11.out; clear hz; refine (same_calls _ Fj okj d2 _ Se _ HPc11.out HSD.out.good (by omega)).mono ?_; rintro e w12 ⟨rfl, hb⟩; have HBf12 := Lib.hid (HBf11.out.trans (hb.mono HBf11.out.size)); clear hb)
          | (go_at_call 11; have hz := HP10.out; clear hz; refine (same_calls _ F9 _ d _ _ _ HP10.out HST.out.crash.good (by omega)).mono ?_; rintro e w11 ⟨rfl, hb⟩; have HP11 := Lib.hid trivial; have HPc11 := Lib.hid (HPc10.out.below hb); have T11 := Lib.hid (blk_below T10.out hb); have HBf11 := Lib.hid (HBf10.out.trans (hb.mono HBf10.out.size)); clear hb s0 s1 s2 s3 s4 s5; obtain ⟨s0, s1, s2, s3, s4, s5⟩ := six_cells T11.out)
          | (go_at_call 11; have hz := HPc7.out; clear hz; refine (same_calls _ F okD d _ St _ (HPD.out.below HB7.out) HST.out.good (by omega)).mono ?_; rintro e w8 ⟨rfl, hb⟩; have HPc8 := Lib.hid (HPc7.out.below hb); have T8 := Lib.hid (blk_below T7.out hb); have HB8 := Lib.hid (HB7.out.trans (hb.mono HB7.out.size)); have U8 := Lib.hid (blk_below U7.out hb); clear hb s0 s1 s2 s3 s4 s5 y0 y1 y2 y3 y4 y5)
          | (go_at_call 11; refine (same_calls _ Fj okj d2 _ Se _ HPc.out HSD.out.good (by omega)).mono ?_; rintro e w7 ⟨rfl, hb⟩; have HPc7 := Lib.hid (HPc.out.below hb); have T7 := Lib.hid (blk_below K6.out hb); have HB7 := Lib.hid (HBR.out.trans (hb.mono HBR.out.size)); have U7 := Lib.hid (blk_below U6.out hb); clear hb s0 s1 s2 s3 s4 s5 y0 y1 y2 y3 y4 y5; obtain ⟨s0, s1, s2, s3, s4, s5⟩ := six_cells T7.out; obtain ⟨y0, y1, y2, y3, y4, y5⟩ := six_cells U7.out)
          | (go_at_call 12; obtain ⟨L8, hr8⟩ := (HPD.out.below HB8.out).rep; refine (Crash_calls _ F d L8 St _ n A3 c3 cs ((HR3.out.below HBB.out).below HB8.out).now hr8 HST.out.good (by omega)).mono ?_; rintro e w9 ⟨rfl, F9, L9, hr9, hc9⟩; have HPc9 := Lib.hid (pair_other HPc8.out hc9 HNF.out HNO.out); have T9 := Lib.hid (chg_blk hc9 T8.out HNX.out); have U9 := Lib.hid (chg_blk hc9 U8.out HN10.out); have HREF9 := Lib.hid ((HREFD.out.below HB8.out).chg hc9 HAP'.out); have HR9 := Lib.hid hr9; have HC9 := Lib.hid hc9; have hb8 := HBB.out.trans (HB8.out.mono HBB.out.size); have HBf9 := Lib.hid (hb8.trans (chg_below hc9 HF3.out hb8.size)); have HD9 := Lib.hid (show ∀ k, okD k → k < _ from fun k hk => Nat.lt_of_lt_of_le (HDD'.out k hk) HB8.out.size); clear hr8 hr9 hc9 hb8; obtain ⟨s0, s1, s2, s3, s4, s5⟩ := six_cells T9.out; obtain ⟨y0, y1, y2, y3, y4, y5⟩ := six_cells U9.out)
          | (go_at_call 13; refine (refCrash_calls _ okD a0 c0 a1 cc1 a2 cc2 a3 cc3 St _ n A3 c3 cs (HR3.out.below HBf9.out).now HC3.out HREF9.out HST.out.good (by omega)).mono ?_; rintro e w10 ⟨v, rfl, ⟨b0, d0, b1, d1, b2, d2', b3, d3, rfl, hr⟩, hb⟩; have HP10 := Lib.hid (crash_pair HD9.out HAP'.out HC9.out HR9.out hb (hr.mono (fun k hk _ => by rcases hk with hk | hk; exact .inl ⟨hk, by have := HD9.out k hk; have := HC9.out.fr.size; omega⟩; exact .inr hk))); have HPc10 := Lib.hid (HPc9.out.below hb); have T10 := Lib.hid (blk_below T9.out hb); have HBf10 := Lib.hid (HBf9.out.trans (hb.mono HBf9.out.size)); clear hr hb s0 s1 s2 s3 s4 s5 y0 y1 y2 y3 y4 y5; obtain ⟨s0, s1, s2, s3, s4, s5⟩ := six_cells T10.out)
          | (go_at_call 9; refine (awake_calls _).mono ?_; rintro e w13 ⟨rfl, hb⟩; have HB13 := Lib.hid hb; clear hb)
          | fail)
        go_ret
        exact ⟨rfl, HBf12.out.trans (HB13.out.mono HBf12.out.size)⟩
  · cases hl : lightB l with
    | false =>
      have HL := Lib.hid hl
      clear hl hmain
      go_enter Try.func6, Try.ntmps6
      go_wp2_with (first | (go_at_call 8; refine (light_calls _ A c l HR.out.now HR.out.le).mono ?_; rw [HL.out]; rintro e w2 ⟨rfl, hb⟩; have HB2 := Lib.hid hb; clear hb) | (go_at_call 9; refine (awake_calls _).mono ?_; rintro e w11 ⟨rfl, hb⟩; have HB11 := Lib.hid hb; clear hb) | fail)
      go_ret
      exact ⟨rfl, HB2.out.trans (HB11.out.mono HB2.out.size)⟩
    | true =>
      have HL := Lib.hid hl
      cases hm : lightB more with
      | false =>
        have HM := Lib.hid hm
        clear hl hm hmain
        go_enter Try.func6, Try.ntmps6
        go_wp2_with (first | (go_at_call 8; have hz := HB1.out; clear hz; refine (light_calls _ A1 c1 more (HR1.out.below HB1.out).now HR1.out.le).mono ?_; rw [HM.out]; rintro e w2 ⟨rfl, hb⟩; have HB2 := Lib.hid (HB1.out.trans (hb.mono HB1.out.size)); clear hb) | (go_at_call 8; refine (light_calls _ A c l HR.out.now HR.out.le).mono ?_; rw [HL.out]; rintro e w1 ⟨rfl, hb⟩; have HB1 := Lib.hid hb; clear hb) | (go_at_call 9; refine (awake_calls _).mono ?_; rintro e w11 ⟨rfl, hb⟩; have HB11 := Lib.hid hb; clear hb) | fail)
        go_ret
        exact ⟨rfl, HB2.out.trans (HB11.out.mono HB2.out.size)⟩
      | true =>
        have HM := Lib.hid hm
        have hd1 : decide ((100 : Int) < (cs.length : Int)) = true := decide_eq_true (by have : ¬ cs.length ≤ 100 := fun h2 => hmain ⟨hl, hm, h2⟩; omega)
        clear hl hm hmain
        go_enter Try.func6, Try.ntmps6
        go_wp2_with (first | (go_at_call 8; have hz := HB1.out; clear hz; refine (light_calls _ A1 c1 more (HR1.out.below HB1.out).now HR1.out.le).mono ?_; rw [HM.out]; rintro e w2 ⟨rfl, hb⟩; have HB2 := Lib.hid (HB1.out.trans (hb.mono HB1.out.size)); clear hb) | (go_at_call 8; refine (light_calls _ A c l HR.out.now HR.out.le).mono ?_; rw [HL.out]; rintro e w1 ⟨rfl, hb⟩; have HB1 := Lib.hid hb; clear hb) | (go_at_call 9; refine (awake_calls _).mono ?_; rintro e w11 ⟨rfl, hb⟩; have HB11 := Lib.hid hb; clear hb) | fail)
        go_ret
        exact ⟨rfl, HB2.out.trans (HB11.out.mono HB2.out.size)⟩
end Go.Proofs.Ytpffeafoangegaa.Disk

/- The law SimdiskClones holds: for every input the call returns true, and each argument reads behind the call as it read before. No condition. -/
namespace Go.Proofs.Ytpffeafoangegaa.simdiskClones
open Go.ChangeShapes Go.WideShapes Go.ChangeAt Go.RowKit
open Go.ChangeMaps (open_string shut_string)
open Go.Proofs.YtpffeafoangegaaW.PrintWords Go.Proofs.Ytpffeafoangegaa.Disk
set_option linter.unusedVariables false
theorem own : ownKnob Try.prog.godebug = none := by kernel_rfl
theorem laidOut : laidOutB Try.prog = true := by kernel_rfl
set_option maxRecDepth 100000 in
theorem lifted (os : Os) (started : os.Started) (H : Type) (enc : TypeId × Value → H) :
    ReturnsInHanded {} Try.checked os 6 .any (Rows.simdiskClonesSpec.pre6 enc Try.prog Try.f6 Rows.simdiskClonesRow.domain false) (Rows.simdiskClonesSpec.post enc Try.prog Try.f6 false true false false) := by
  refine returnsInHanded_of_change_sized (C := Try.checked) own started (by kernel_rfl) Try.func6
    (ChangeSpec.witness6 (enc := enc) (C := Try.checked) false ⟨#[], #[.slice none 0 0, .slice none 0 0, .int .i64 0, .slice none 0 0], []⟩ 8 (by kernel_rfl) (by kernel_rfl) (by kernel_rfl) (by kernel_rfl)) ?_
  intro W base args ds gs before hval0 hW hcnd hsz0 _
  have hval : ∀ (j : Nat) t v, Try.f6.params[j]? = some t → args[j]? = some v → Value.okWide Try.prog W .any base t v := hval0
  have hW' := hW
  obtain ⟨p, q, hA0, hV, rfl, hfz, hnd⟩ := hW
  have hA : DataW.TrodAll enc Try.prog W 0 (fun _ => true) true Try.f6.params.toList args.toList ds p := hA0
  rw [Try.params6] at hA hval
  obtain ⟨v0, vs0, d0, ds0, p0, q0, hargs, rfl, rfl, h0, r0⟩ := trodAll_cons hA
  obtain ⟨v1, vs1, d1, ds1, p1, q1, rfl, rfl, rfl, h1, r1⟩ := trodAll_cons r0
  obtain ⟨v2, vs2, d2, ds2, p2, q2, rfl, rfl, rfl, h2, r2⟩ := trodAll_cons r1
  obtain ⟨v3, vs3, d3, ds3, p3, q3, rfl, rfl, rfl, h3, r3⟩ := trodAll_cons r2
  obtain ⟨rfl, rfl, rfl⟩ := trodAll_nil r3
  obtain rfl : args = #[v0, v1, v2, v3] := by cases args; simp_all
  obtain ⟨rfl, rfl⟩ := trodVars_none hV
  obtain ⟨a0, len0, cap0, rfl⟩ := okWide_slice Try.underlying22 (hval 0 22 v0 rfl rfl)
  have lt0 : ∀ x ∈ p0, x.block < W.heap.size := by obtain ⟨m, hm⟩ := h0; exact DataW.trod_lt m _ _ _ hm
  obtain ⟨l0, rfl, hc0, hC0, hw0⟩ := ops_row h0
  obtain ⟨a1, len1, cap1, rfl⟩ := okWide_slice Try.underlying22 (hval 1 22 v1 rfl rfl)
  have lt1 : ∀ x ∈ p1, x.block < W.heap.size := by obtain ⟨m, hm⟩ := h1; exact DataW.trod_lt m _ _ _ hm
  obtain ⟨l1, rfl, hc1, hC1, hw1⟩ := ops_row h1
  obtain ⟨n2, rfl, rfl, rfl, w2⟩ := open_int Try.underlying3 (hval 2 3 v2 rfl rfl) h2
  obtain ⟨a3, len3, cap3, rfl⟩ := okWide_slice Try.underlying35 (hval 3 35 v3 rfl rfl)
  have lt3 : ∀ x ∈ p3, x.block < W.heap.size := by obtain ⟨m, hm⟩ := h3; exact DataW.trod_lt m _ _ _ hm
  obtain ⟨l3, rfl, hc3, hC3⟩ := cfs_row h3
  clear hA0 hval0 hsz0
  refine (clones_walk W a0 cap0 l0 hC0 hc0 hw0 a1 cap1 l1 hC1 hc1 hw1 n2 (bounds_i64 w2).2 a3 cap3 l3 hC3 hc3).mono fun e W' ⟨he, bel⟩ => ?_
  subst he
  exact ⟨_, rfl, _, _, _, [], _, [], hW', trodAll_mk1 (shut_bool Try.underlying4 _), (trodAll_cons_mk (Below.trod laidOut (by kernel_rfl) (of_decide_eq_true (by kernel_rfl)) h0 bel lt0) (trodAll_cons_mk (Below.trod laidOut (by kernel_rfl) (of_decide_eq_true (by kernel_rfl)) h1 bel lt1) (trodAll_cons_mk (shut_int Try.underlying3 w2) (trodAll_cons_mk (Below.trod laidOut (by kernel_rfl) (of_decide_eq_true (by kernel_rfl)) h3 bel lt3) trodAll_mk0)))), rfl, bel.frame _, fun h => by cases h⟩
theorem over : Rows.simdiskClonesRow.holds Try.pinned (OpenSpec.ofChange Rows.simdiskClonesSpec) :=
  OpenClaim.holds_of_wide 6 Try.f6 rfl rfl rfl rfl rfl rfl rfl ⟨rfl, rfl, rfl, rfl, rfl⟩ rfl rfl rfl rfl rfl (by kernel_rfl) Try.func6 (by kernel_rfl)
    (of_decide_eq_true (by kernel_rfl)) (by unfold Func.isWrapper; first | (rw [if_pos (by decide +kernel)]; kernel_rfl) | (rw [if_neg (by decide +kernel)]; exact ⟨rfl, rfl⟩))
    (fun os started H enc _ => lifted os started H enc)
theorem proved : Rows.SimdiskClonesSaid := over
#print axioms proved
end Go.Proofs.Ytpffeafoangegaa.simdiskClones
namespace Go.Proofs.Ytpffeafoangegaa
theorem simdiskClones_holds : Rows.SimdiskClonesSaid := simdiskClones.proved
end Go.Proofs.Ytpffeafoangegaa
