import Derived.Test.YtpffeafoangegaaM4
import Derived.Test.YtpffeafoangegaaRows
import Derived.WalkKit
import Derived.ProofKit
import Derived.OpenShut
import Derived.ShutString
import Derived.ChangeOld
import Derived.Below
import Derived.SizedLaws
import Derived.Carry
/- The law SimdiskCrash: the walk. -/
namespace Go.Proofs.Ytpffeafoangegaa.Disk
open Go Go.RowKit Go.Proofs.YtpffeafoangegaaW.PrintWords Go.Proofs.YtpffeafoangegaaW.PrintLast Go.Proofs.YtpffeafoangegaaW.PrintMore Go.Proofs.Ytpffeafoangegaa.PSimdiskOperations
theorem pLeft_full (f : Fil) (c : Cf) (h : f.f1 = f.f0.length) : pLeft f c = f.f0 := by
  have e : pKept f c = 0 := by
    unfold pKept mn mx
    rw [h]
    simp only [Int.sub_self]
    split <;> (try split) <;> omega
  unfold pLeft
  rw [e, h]
  simp
theorem newDir_at (l : List Ent) (j : Nat) (h : j < (newDir l l.length).length) : (newDir l l.length)[j] = ⟨(l[j]'(by rw [newDir_length l _ (Nat.le_refl _)] at h; exact h)).f0, (j : Int)⟩ := by
  simp [newDir]
theorem newDir_twice (l : List Ent) : newDir (newDir l l.length) (newDir l l.length).length = newDir l l.length := by
  have hl := newDir_length l l.length (Nat.le_refl _)
  apply List.ext_getElem
  · rw [newDir_length _ _ (Nat.le_refl _)]
  · intro j h1 h2
    rw [newDir_at _ j h1, newDir_at l j h2]
theorem newFiles_getElem (S : PS) (l : List Ent) (cs : List Cf) (j : Nat) (h : j < (newFiles S l cs).length) : (newFiles S l cs)[j] = ⟨pLeft (fileAt S (l[j]'(by rw [newFiles_length] at h; exact h)).f1) (cfAt cs j), (pLeft (fileAt S (l[j]'(by rw [newFiles_length] at h; exact h)).f1) (cfAt cs j)).length⟩ := by
  simp [newFiles]
/-- A second crash changes nothing. -/
theorem crash_twice (S : PS) (n m : Int) (cs ds : List Cf) : pCrash (pCrash S n cs) m ds = pCrash S n cs := by
  have e1 : pCrashDir (pCrash S n cs) m = newDir (pCrashDir S n) (pCrashDir S n).length := by simp [pCrashDir, pCrash]
  have e2 : newFiles (pCrash S n cs) (newDir (pCrashDir S n) (pCrashDir S n).length) ds = newFiles S (pCrashDir S n) cs := by
    apply List.ext_getElem
    · rw [newFiles_length, newFiles_length, newDir_length _ _ (Nat.le_refl _)]
    · intro j h1 h2
      rw [newFiles_getElem]
      have h3 : j < (newDir (pCrashDir S n) (pCrashDir S n).length).length := by rw [newFiles_length] at h1; exact h1
      have e3 : fileAt (pCrash S n cs) ((newDir (pCrashDir S n) (pCrashDir S n).length)[j]).f1 = (newFiles S (pCrashDir S n) cs)[j] := by
        rw [newDir_at _ j h3]
        show (newFiles S (pCrashDir S n) cs).getD ((j : Int)).toNat _ = _
        simp [List.getD, h2]
      have e4 : ((newFiles S (pCrashDir S n) cs)[j]).f1 = (((newFiles S (pCrashDir S n) cs)[j]).f0.length : Int) := by rw [newFiles_getElem]
      rw [e3, pLeft_full _ _ e4]
      generalize (newFiles S (pCrashDir S n) cs)[j] = f at e4 ⊢
      obtain ⟨a, b⟩ := f
      simp only at e4 ⊢
      rw [e4]
  show (⟨newFiles (pCrash S n cs) (pCrashDir (pCrash S n cs) m) ds, newDir (pCrashDir (pCrash S n cs) m) (pCrashDir (pCrash S n cs) m).length, newDir (pCrashDir (pCrash S n cs) m) (pCrashDir (pCrash S n cs) m).length, [], false, 0⟩ : PS) = _
  rw [e1, e2, newDir_twice]
  rfl
theorem sync_crash (S : PS) (n : Int) (cs : List Cf) : (pSyncDir (pCrash S n cs)).2 = 0 := by
  have : pCheck (pCrash S n cs).lim (pCrash S n cs).left [] = 0 := by kernel_rfl
  simp [pSyncDir, this]
/-- A disk's call, then the reference's, whose state is stored into the box b. -/
theorem pair_store {w wx w4 w5 w6 : World} {F ok F' : Nat → Prop} {d b : Nat} {L' : Lay} {S' : PS} {b0 : Option Addr} {d0 : Nat} {b1 : Option Addr} {d1 : Nat} {b2 : Option Addr} {d2 : Nat} {b3 : Option Addr} {d3 : Nat} {x0 x1 x2 x3 x4 x5 : Value}
    (hw : Below w.heap.size w wx) (hbw : w.heap.size ≤ b) (hk : wx.heap[b]? = some (.cells #[x0, x1, x2, x3, x4, x5] tState (0, 0))) (hap : ∀ k, ok k → ¬ F k) (hF : ∀ k, F k → w.heap.size ≤ k ∧ k ≠ b) (hok : ∀ k, ok k → k ≠ b)
    (hc : Chg wx F w4 F') (hr : Rep w4 F' d L' S' (Live S')) (hb : Below w4.heap.size w4 w5) (hf : Ref w5 (fun k => (ok k ∧ k < wx.heap.size) ∨ w4.heap.size ≤ k) b0 d0 b1 d1 b2 d2 b3 d3 S')
    (h6 : w6 = ((((((w5.setCell ⟨b, 0, none⟩ (.slice b0 S'.files.length d0)).setCell ⟨b, 1, none⟩ (.slice b1 S'.dir.length d1)).setCell ⟨b, 2, none⟩ (.slice b2 S'.dur.length d2)).setCell ⟨b, 3, none⟩ (.slice b3 S'.pend.length d3)).setCell ⟨b, 4, none⟩ (.bool S'.lim)).setCell ⟨b, 5, none⟩ (.int .i64 S'.left))) :
    w6.heap[b]? = some (.cells (svC b0 d0 b1 d1 b2 d2 b3 d3 S') tState (0, 0)) ∧ Pair w6 F' (okN ok wx F') d (sv b0 d0 b1 d1 b2 d2 b3 d3 S') S' ∧ Below w.heap.size w w6 ∧ (∀ k, F' k → w.heap.size ≤ k ∧ k ≠ b) ∧ (∀ k, okN ok wx F' k → k ≠ b) ∧ w5.heap.size = w6.heap.size := by
  have lb := lt_blk hk
  have s4 : wx.heap.size ≤ w4.heap.size := hc.fr.size
  have s5 := hb.size
  have sw := hw.size
  have far : ∀ k, k ≠ b → w6.heap[k]? = w5.heap[k]? := fun k hkb => by rw [h6, other_six hkb]
  have hs6 : w5.heap.size = w6.heap.size := by rw [h6]; simp [World.setCell]
  have kb5 : w5.heap[b]? = some (.cells #[x0, x1, x2, x3, x4, x5] tState (0, 0)) := (hb.block b (by omega)).trans ((hc.fr.block b lb (fun e => (hF b e).2 rfl)).trans hk)
  have kb6 : w6.heap[b]? = some (.cells (svC b0 d0 b1 d1 b2 d2 b3 d3 S') tState (0, 0)) := by rw [h6]; exact set_six _ _ _ _ _ _ kb5
  have b56 : Below w.heap.size w5 w6 := by rw [h6]; exact below_six (Below.refl _ _) hbw _ _ _ _ _ _
  clear h6
  have newF : ∀ k, F' k → w.heap.size ≤ k ∧ k ≠ b := fun k hk => by
    rcases hc.new k hk with h1 | h1
    · exact hF k h1
    · omega
  have newO : ∀ k, okN ok wx F' k → k ≠ b := fun k hk => by
    rcases hk with hk | hk
    · exact hok k hk.1
    · have := hk.1; omega
  have bx4 : Below w.heap.size wx w4 := hc.fr.toBelow (by omega) (fun k hk => (hF k hk).1)
  refine ⟨kb6, ⟨⟨L', ?_⟩, ⟨b0, d0, b1, d1, b2, d2, b3, d3, rfl, ?_⟩, fun k hk => ?_, fun k hk hk' => ?_⟩, ((hw.trans bx4).trans (hb.mono (by omega))).trans b56, newF, newO, hs6⟩
  · exact (hr.below hb).move (fun k hk _ => far k (newF k hk).2)
  · refine (hf.move (fun k hk hlt5 => far k ?_)).mono (fun k hk _ => ?_)
    · rcases hk with hk | hk
      · exact hok k hk.1
      · omega
    · rcases hk with hk | hk
      · exact .inl hk
      · exact .inr ⟨by omega, fun e => by have := hc.lt k e; omega⟩
  · have := hc.lt k hk; omega
  · rcases hk with hk | hk
    · rcases hc.new k hk' with h | h
      · exact hap k hk.1 h
      · have := hk.2; omega
    · exact hk.2 hk'
theorem pair_after {w7 w8 : World} {F ok F' : Nat → Prop} {d : Nat} {v : Value} {S : PS} {L' : Lay} (h : Pair w7 F ok d v S) (hc : Chg w7 F w8 F') (hr : Rep w8 F' d L' S (Live S)) : Pair w8 F' (fun k => ok k ∧ k < w7.heap.size) d v S := by
  obtain ⟨_, ⟨a0, c0, a1, c1, a2, c2, a3, c3, rfl, hf⟩, _, hap⟩ := h
  refine ⟨⟨L', hr⟩, ⟨a0, c0, a1, c1, a2, c2, a3, c3, rfl, (hf.mono (ok' := fun k => ok k ∧ k < w7.heap.size) (fun k h1 h2 => ⟨h1, h2⟩)).move (fun k hk hlt => hc.fr.block k hlt (hap k hk.1))⟩, hc.lt, fun k hk hk' => ?_⟩
  rcases hc.new k hk' with h1 | h1
  · exact hap k hk.1 h1
  · have := hk.2; omega
theorem two_cellsA {w : World} {b : Nat} {x0 x1 : Value} {t : Nat} {fz : Nat × Nat} (h : w.heap[b]? = some (.cells #[x0, x1] t fz)) : (∀ o, (w.alloc o).cell? ⟨b, 0, none⟩ = some x0) ∧ (∀ o, (w.alloc o).cell? ⟨b, 1, none⟩ = some x1) := ⟨fun o => cell_blk (blk_allocN h o) 0, fun o => cell_blk (blk_allocN h o) 1⟩
theorem chg_below {a b : World} {F F' : Nat → Prop} {B : Nat} (h : Chg a F b F') (hF : ∀ k, F k → B ≤ k) (hB : B ≤ a.heap.size) : Below B a b := h.fr.toBelow hB hF
set_option maxHeartbeats 4000000 in
set_option maxRecDepth 100000 in
theorem crash_walk (w : World) (A : Option Addr) (c : Nat) (l : List SOp) (h : Kd.C kOp w A l.length l) (hc : l.length ≤ c) (hw : ∀ x ∈ l, WfOp x) (n0 n1 : Int) (A2 : Option Addr) (c2 : Nat) (cs : List Cf) (h2 : Kd.C kC w A2 cs.length cs) (hc2 : cs.length ≤ c2) (A3 : Option Addr) (c3 : Nat) (ds : List Cf) (h3 : Kd.C kC w A3 ds.length ds) (hc3 : ds.length ≤ c3) :
    Calls Try.prog 4 #[.slice A l.length c, .agg #[.int .i64 n0, .int .i64 n1], .slice A2 cs.length c2, .slice A3 ds.length c3] w fun e w' => e = .returned (.bool true) ∧ Below w.heap.size w w' := by
  have HR := Lib.hid (Rd.ofC heap_op h hc)
  have HR2 := Lib.hid (Rd.ofC heap_cf h2 hc2)
  have HR3 := Lib.hid (Rd.ofC heap_cf h3 hc3)
  have HW := Lib.hid hw
  have HC2 := Lib.hid hc2
  have HC3 := Lib.hid hc3
  have hcap1 := h.2.1
  have hcap2 := h2.2.1
  have hcap3 := h3.2.1
  obtain ⟨w1, hw1⟩ : ∃ w1, w1 = w.alloc (.cells #[.int .i64 n0, .int .i64 n1] 34) := ⟨_, rfl⟩
  have hb1 : Below w.heap.size w w1 := by rw [hw1]; exact below_alloc (Below.refl _ _) _
  have hk1 : w1.heap[w.heap.size]? = some (.cells #[.int .i64 n0, .int .i64 n1] 34 (0, 0)) := by rw [hw1]; exact heap_alloc_new w _
  have HB1 := Lib.hid hb1
  have HK1 := Lib.hid hk1
  clear h h2 h3 hc hc2 hc3 hw hb1 hk1
  by_cases hmain : lightB l = true ∧ cs.length ≤ 100 ∧ ds.length ≤ 100
  · obtain ⟨hl, hcs, hds⟩ := hmain
    have HL := Lib.hid hl
    have HS := Lib.hid (stAt_sound Sound.new hl HW.out l.length (Nat.le_refl _))
    have h60 := (light_at hl).1
    have hd1 : decide ((100 : Int) < (cs.length : Int)) = false := decide_eq_false (by omega)
    have hd2 : decide ((100 : Int) < (ds.length : Int)) = false := decide_eq_false (by omega)
    clear hl hcs hds
    go_enter Try.func4, Try.ntmps4
    go_upto_region 1 with (fail)
    rw [← hw1]
    clear hw1
    go_wp2_with (first
      | (go_at_call 8; refine (light_calls _ A c l (HR.out.below HB1.out).now HR.out.le).mono ?_; rw [HL.out]; rintro e w2 ⟨rfl, hb⟩; have HB2 := Lib.hid hb; clear hb)
      | (go_at_call 10; refine (play_calls _ A c l ((HR.out.below HB1.out).below HB2.out).now HR.out.le HL.out HW.out).mono ?_; rintro e w3 ⟨d, v, F, ok, rfl, hp, hb, hF, hok⟩; obtain ⟨St, hSt⟩ : ∃ St, St = stAt pNew l l.length := ⟨_, rfl⟩; rw [← hSt] at hp; have HST := Lib.hid (hSt ▸ HS.out); obtain ⟨a0, c0, a1, c1, a2, cc2, a3, cc3, hv, href⟩ := hp.ref; subst hv; obtain ⟨L, hrep⟩ := hp.rep; have HREP3 := Lib.hid hrep; have HREF3 := Lib.hid href; have HP3 := Lib.hid hp; have HB3 := Lib.hid (HB2.out.trans (hb.mono HB2.out.size)); have HF3 := Lib.hid (show ∀ k, F k → w1.heap.size ≤ k from fun k hk => Nat.le_trans HB2.out.size (hF k hk)); have K53 := Lib.hid (blk_below HK1.out HB3.out); obtain ⟨q0, q1⟩ := two_cellsA K53.out; clear hp hb hF hok hrep href hSt)
      | (go_at_call 12; refine (Crash_calls _ F d L St _ n0 A2 c2 cs (((HR2.out.below HB1.out).below HB3.out).below (below_alloc (Below.refl _ _) _)).now (HREP3.out.alloc _) HST.out.good (by omega)).mono ?_; rintro e w4 ⟨rfl, F4, L4, hr4, hc4⟩; have HR4 := Lib.hid hr4; have HC4 := Lib.hid hc4; have HB4 := Lib.hid (show Below w1.heap.size w1 w4 from (below_alloc HB3.out _).trans (chg_below hc4 HF3.out (by have := HB3.out.size; simp; omega))); have K54 := Lib.hid (blk_below HK1.out HB4.out); have KB4 := Lib.hid (chg_blk hc4 (heap_alloc_new w3 _) (not_new HP3.out.lt (Nat.le_refl _))); have HREF4 := Lib.hid (((HREF3.out.mono (ok' := fun k => ok k ∧ k < w3.heap.size) (fun k h1 h2 => ⟨h1, h2⟩)).below (below_alloc (Below.refl _ _) _)).chg hc4 (fun k hk => HP3.out.apart k hk.1)); clear q0 q1; obtain ⟨q0, q1⟩ := two_cells K54.out; obtain ⟨s0, s1, s2, s3, s4, s5⟩ := six_cells KB4.out; clear hr4 hc4 HREP3)
      | (go_at_call 13; refine (refCrash_calls _ (fun k => ok k ∧ k < w3.heap.size) a0 c0 a1 c1 a2 cc2 a3 cc3 St _ n0 A2 c2 cs ((HR2.out.below HB1.out).below HB4.out).now HC2.out HREF4.out HST.out.good (by omega)).mono ?_; rintro e w5 ⟨v, rfl, ⟨b0, d0, b1, d1, b2, d2, b3, d3, rfl, hr⟩, hb⟩; have hps := fun w6 h6 => @pair_store w1 _ w4 w5 w6 F (fun k => ok k ∧ k < w3.heap.size) F4 d w3.heap.size L4 _ b0 d0 b1 d1 b2 d2 b3 d3 _ _ _ _ _ _ (below_alloc HB3.out _) HB3.out.size (heap_alloc_new w3 _) (fun k hk => HP3.out.apart k hk.1) (fun k hk => ⟨HF3.out k hk, by have := HP3.out.lt k hk; omega⟩) (fun k hk => by have := hk.2; omega) HC4.out HR4.out hb (hr.mono (ok' := fun k => ((ok k ∧ k < w3.heap.size) ∧ k < _) ∨ w4.heap.size ≤ k) (fun k hk _ => by rcases hk with hk | hk; exact .inl ⟨hk, by have := hk.2; simp; omega⟩; exact .inr hk)) h6; have HPS := Lib.hid hps; have KB5 := Lib.hid (blk_below KB4.out hb); clear s0 s1 s2 s3 s4 s5 q0 q1; obtain ⟨f0, f1, f2, f3, f4, f5⟩ := six_frozen KB5.out; obtain ⟨s0, s1, s2, s3, s4, s5⟩ := six_cells KB5.out; clear hr hb hps)
      | (go_at_call 11; obtain ⟨z1, z2, z3, z4, z5, z6⟩ := HPS.out _ rfl; refine (same_calls _ F4 _ d _ _ _ z2 HST.out.crash.good (by omega)).mono ?_; rintro e w7 ⟨rfl, hb⟩; have HP7 := Lib.hid (z2.below hb); have HB7 := Lib.hid (z3.trans (hb.mono z3.size)); have HF7 := Lib.hid z4; have K57 := Lib.hid (blk_below HK1.out HB7.out); have KB7 := Lib.hid (blk_below z1 hb); clear z1 z2 z3 z4 z5 z6 HPS hb s0 s1 s2 s3 s4 s5 f0 f1 f2 f3 f4 f5; obtain ⟨q0, q1⟩ := two_cells K57.out; obtain ⟨s0, s1, s2, s3, s4, s5⟩ := six_cells KB7.out)
      | (go_at_call 12; obtain ⟨L7, hr7⟩ := HP7.out.rep; refine (Crash_calls _ F4 d L7 _ _ n1 A3 c3 ds ((HR3.out.below HB1.out).below HB7.out).now hr7 HST.out.crash.good (by omega)).mono ?_; rintro e w8 ⟨rfl, F8, L8, hr8, hc8⟩; rw [crash_twice] at hr8; have HR8 := Lib.hid hr8; have HF8 := Lib.hid (show ∀ k, F8 k → w1.heap.size ≤ k from fun k hk => by rcases hc8.new k hk with h1 | h1; exact (HF7.out k h1).1; exact Nat.le_trans HB7.out.size h1); have HP8 := Lib.hid (pair_after HP7.out hc8 hr8); have HB8 := Lib.hid (HB7.out.trans (chg_below hc8 (fun k hk => (HF7.out k hk).1) HB7.out.size)); have KB8 := Lib.hid (chg_blk hc8 KB7.out (fun e => (HF7.out _ e).2 rfl)); clear hr7 hr8 hc8 q0 q1 s0 s1 s2 s3 s4 s5 HP7; obtain ⟨s0, s1, s2, s3, s4, s5⟩ := six_cells KB8.out)
      | (go_at_call 11; refine (same_calls _ F8 _ d _ _ _ HP8.out HST.out.crash.good (by omega)).mono ?_; rintro e w9 ⟨rfl, hb⟩; have HR9 := Lib.hid (HR8.out.below hb); have HB9 := Lib.hid (HB8.out.trans (hb.mono HB8.out.size)); clear hb HP8 s0 s1 s2 s3 s4 s5)
      | (go_at_call 14; refine (SyncDir_calls _ F8 d L8 _ _ HR9.out HST.out.crash.good (by omega)).mono ?_; rw [sync_crash]; rintro e w10 ⟨rfl, F10, L10, hr10, hc10⟩; have HC10 := Lib.hid hc10; clear hr10 hc10)
      | (go_at_call 9; refine (awake_calls _).mono ?_; rintro e w11 ⟨rfl, hb⟩; have HB11 := Lib.hid hb; clear hb)
      | fail)
    go_ret
    have hb10 := HB9.out.trans (chg_below HC10.out HF8.out HB9.out.size)
    exact ⟨rfl, HB1.out.trans ((hb10.trans (HB11.out.mono hb10.size)).mono HB1.out.size)⟩
  · cases hl : lightB l with
    | false =>
      have HL := Lib.hid hl
      clear hl hmain
      go_enter Try.func4, Try.ntmps4
      go_upto_region 1 with (fail)
      rw [← hw1]
      clear hw1
      go_wp2_with (first | (go_at_call 8; refine (light_calls _ A c l (HR.out.below HB1.out).now HR.out.le).mono ?_; rw [HL.out]; rintro e w2 ⟨rfl, hb⟩; have HB2 := Lib.hid hb; clear hb) | (go_at_call 9; refine (awake_calls _).mono ?_; rintro e w11 ⟨rfl, hb⟩; have HB11 := Lib.hid hb; clear hb) | fail)
      go_ret
      exact ⟨rfl, HB1.out.trans ((HB2.out.trans (HB11.out.mono HB2.out.size)).mono HB1.out.size)⟩
    | true =>
      have HL := Lib.hid hl
      have hways : (decide ((100 : Int) < (cs.length : Int)) = true) ∨ (decide ((100 : Int) < (cs.length : Int)) = false ∧ decide ((100 : Int) < (ds.length : Int)) = true) := by
        by_cases h1 : cs.length ≤ 100
        · right
          exact ⟨decide_eq_false (by omega), decide_eq_true (by have : ¬ ds.length ≤ 100 := fun h2 => hmain ⟨hl, h1, h2⟩; omega)⟩
        · left
          exact decide_eq_true (by omega)
      clear hl hmain
      rcases hways with hd1 | ⟨hd1, hd2⟩
      all_goals
        go_enter Try.func4, Try.ntmps4
        go_upto_region 1 with (fail)
        rw [← hw1]
        clear hw1
        go_wp2_with (first | (go_at_call 8; refine (light_calls _ A c l (HR.out.below HB1.out).now HR.out.le).mono ?_; rw [HL.out]; rintro e w2 ⟨rfl, hb⟩; have HB2 := Lib.hid hb; clear hb) | (go_at_call 9; refine (awake_calls _).mono ?_; rintro e w11 ⟨rfl, hb⟩; have HB11 := Lib.hid hb; clear hb) | fail)
        go_ret
        exact ⟨rfl, HB1.out.trans ((HB2.out.trans (HB11.out.mono HB2.out.size)).mono HB1.out.size)⟩
end Go.Proofs.Ytpffeafoangegaa.Disk

/- The law SimdiskCrash holds: for every input the call returns true, and each argument reads behind the call as it read before. No condition. -/
namespace Go.Proofs.Ytpffeafoangegaa.simdiskCrash
open Go.ChangeShapes Go.WideShapes Go.ChangeAt Go.RowKit
open Go.ChangeMaps (open_string shut_string)
open Go.Proofs.YtpffeafoangegaaW.PrintWords Go.Proofs.Ytpffeafoangegaa.Disk
set_option linter.unusedVariables false
theorem own : ownKnob Try.prog.godebug = none := by kernel_rfl
theorem laidOut : laidOutB Try.prog = true := by kernel_rfl
set_option maxRecDepth 100000 in
theorem lifted (os : Os) (started : os.Started) (H : Type) (enc : TypeId × Value → H) :
    ReturnsInHanded {} Try.checked os 4 .any (Rows.simdiskCrashSpec.pre6 enc Try.prog Try.f4 Rows.simdiskCrashRow.domain false) (Rows.simdiskCrashSpec.post enc Try.prog Try.f4 false true false false) := by
  refine returnsInHanded_of_change_sized (C := Try.checked) own started (by kernel_rfl) Try.func4
    (ChangeSpec.witness6 (enc := enc) (C := Try.checked) false ⟨#[], #[.slice none 0 0, .agg #[.int .i64 0, .int .i64 0], .slice none 0 0, .slice none 0 0], []⟩ 8 (by kernel_rfl) (by kernel_rfl) (by kernel_rfl) (by kernel_rfl)) ?_
  intro W base args ds gs before hval0 hW hcnd hsz0 _
  have hval : ∀ (j : Nat) t v, Try.f4.params[j]? = some t → args[j]? = some v → Value.okWide Try.prog W .any base t v := hval0
  have hW' := hW
  obtain ⟨p, q, hA0, hV, rfl, hfz, hnd⟩ := hW
  have hA : DataW.TrodAll enc Try.prog W 0 (fun _ => true) true Try.f4.params.toList args.toList ds p := hA0
  rw [Try.params4] at hA hval
  obtain ⟨v0, vs0, d0, ds0, p0, q0, hargs, rfl, rfl, h0, r0⟩ := trodAll_cons hA
  obtain ⟨v1, vs1, d1, ds1, p1, q1, rfl, rfl, rfl, h1, r1⟩ := trodAll_cons r0
  obtain ⟨v2, vs2, d2, ds2, p2, q2, rfl, rfl, rfl, h2, r2⟩ := trodAll_cons r1
  obtain ⟨v3, vs3, d3, ds3, p3, q3, rfl, rfl, rfl, h3, r3⟩ := trodAll_cons r2
  obtain ⟨rfl, rfl, rfl⟩ := trodAll_nil r3
  obtain rfl : args = #[v0, v1, v2, v3] := by cases args; simp_all
  obtain ⟨rfl, rfl⟩ := trodVars_none hV
  obtain ⟨a0, len0, cap0, rfl⟩ := okWide_slice Try.underlying22 (hval 0 22 v0 rfl rfl)
  have lt0 : ∀ x ∈ p0, x.block < W.heap.size := by obtain ⟨m, hm⟩ := h0; exact DataW.trod_lt m _ _ _ hm
  obtain ⟨l0, rfl, hc0, hC0, hw0⟩ := ops_row h0
  have lt1 : ∀ x ∈ p1, x.block < W.heap.size := by obtain ⟨m, hm⟩ := h1; exact DataW.trod_lt m _ _ _ hm
  obtain ⟨n1, m1, rfl⟩ := arr2_row (hval 1 34 v1 rfl rfl) h1
  obtain ⟨a2, len2, cap2, rfl⟩ := okWide_slice Try.underlying35 (hval 2 35 v2 rfl rfl)
  have lt2 : ∀ x ∈ p2, x.block < W.heap.size := by obtain ⟨m, hm⟩ := h2; exact DataW.trod_lt m _ _ _ hm
  obtain ⟨l2, rfl, hc2, hC2⟩ := cfs_row h2
  obtain ⟨a3, len3, cap3, rfl⟩ := okWide_slice Try.underlying35 (hval 3 35 v3 rfl rfl)
  have lt3 : ∀ x ∈ p3, x.block < W.heap.size := by obtain ⟨m, hm⟩ := h3; exact DataW.trod_lt m _ _ _ hm
  obtain ⟨l3, rfl, hc3, hC3⟩ := cfs_row h3
  clear hA0 hval0 hsz0
  refine (crash_walk W a0 cap0 l0 hC0 hc0 hw0 n1 m1 a2 cap2 l2 hC2 hc2 a3 cap3 l3 hC3 hc3).mono fun e W' ⟨he, bel⟩ => ?_
  subst he
  exact ⟨_, rfl, _, _, _, [], _, [], hW', trodAll_mk1 (shut_bool Try.underlying4 _), (trodAll_cons_mk (Below.trod laidOut (by kernel_rfl) (of_decide_eq_true (by kernel_rfl)) h0 bel lt0) (trodAll_cons_mk (Below.trod laidOut (by kernel_rfl) (of_decide_eq_true (by kernel_rfl)) h1 bel lt1) (trodAll_cons_mk (Below.trod laidOut (by kernel_rfl) (of_decide_eq_true (by kernel_rfl)) h2 bel lt2) (trodAll_cons_mk (Below.trod laidOut (by kernel_rfl) (of_decide_eq_true (by kernel_rfl)) h3 bel lt3) trodAll_mk0)))), rfl, bel.frame _, fun h => by cases h⟩
theorem over : Rows.simdiskCrashRow.holds Try.pinned (OpenSpec.ofChange Rows.simdiskCrashSpec) :=
  OpenClaim.holds_of_wide 4 Try.f4 rfl rfl rfl rfl rfl rfl rfl ⟨rfl, rfl, rfl, rfl, rfl⟩ rfl rfl rfl rfl rfl (by kernel_rfl) Try.func4 (by kernel_rfl)
    (of_decide_eq_true (by kernel_rfl)) (by unfold Func.isWrapper; first | (rw [if_pos (by decide +kernel)]; kernel_rfl) | (rw [if_neg (by decide +kernel)]; exact ⟨rfl, rfl⟩))
    (fun os started H enc _ => lifted os started H enc)
theorem proved : Rows.SimdiskCrashSaid := over
#print axioms proved
end Go.Proofs.Ytpffeafoangegaa.simdiskCrash
namespace Go.Proofs.Ytpffeafoangegaa
theorem simdiskCrash_holds : Rows.SimdiskCrashSaid := simdiskCrash.proved
end Go.Proofs.Ytpffeafoangegaa
