/- The reference's log, a step on both. -/
import Derived.Test.YtehhafnjbkbmjaaGreatY8
import Derived.Test.YtehhafnjbkbmjaaGreatY4
import Derived.Test.YtehhafnjbkbmjaaGreatQh
import Derived.Test.YtehhafnjbkbmjaaGreatY7
import Derived.Test.YtehhafnjbkbmjaaGreatY2
import Derived.Test.YtehhafnjbkbmjaaGreatY5
import Derived.Test.YtehhafnjbkbmjaaGreatY3
import Derived.Test.YtehhafnjbkbmjaaGreatY6
import Derived.Deep.RegionHeld3
/- The reference: Read, List, FailAfter, Has. -/
namespace Go.Proofs.YtehhafnjbkbmjaaGreat.Disk
open Go Go.RowKit Go.Proofs.YtehhafnjbkbmjaaGreatW.PrintWords Go.Proofs.YtehhafnjbkbmjaaGreatW.PrintLast Go.Proofs.YtehhafnjbkbmjaaGreatW.PrintMore Go.Proofs.YtehhafnjbkbmjaaGreat.PCommitlogSequence
theorem read_f (S : PS) (B : Nat) (n : ByteArray) (hg : Good S B) (hB : B ≤ 549755813888) : laminaref20_Read.f (S.dir.length + 68) S.files S.dir S.dur S.pend S.lim S.left n = some (pRead S n) := by
  have hd := hg.nDir
  unfold laminaref20_Read.f pRead
  rw [ValidName_f n _ (by omega)]
  simp only [Option.bind_some]
  by_cases hn : okName n = true
  · rw [if_pos hn, if_pos hn]
    cases hp : pLook S.dir n with
    | none =>
      rw [find_none S.dir n _ (by omega) (by omega) hp]
      simp
    | some x =>
      obtain ⟨t, h1, h2, h3⟩ := find_some S.dir n (S.dir.length + 68) (by omega) (by omega) hp
      have hr := hg.range x (live_look hp)
      have hb := hg.nBytes _ (fileAt_mem hr)
      rw [h1]
      simp only [Option.bind_some]
      rw [if_neg (by omega), if_pos (by omega), if_pos (by omega), h3, if_pos hr.1, if_pos hr.2]
      have e : (rd_T107 S.files x) = fileAt S x := rfl
      rw [e, if_pos (by simp only [List.length_nil]; omega)]
      simp
  · rw [if_neg hn, if_neg hn]
theorem refRead_calls (w : World) (ok : Nat → Prop) (a0 : Option Addr) (c0 : Nat) (a1 : Option Addr) (c1 : Nat) (a2 : Option Addr) (c2 : Nat) (a3 : Option Addr) (c3 : Nat) (S : PS) (B : Nat) (n : ByteArray) (h : Ref w ok a0 c0 a1 c1 a2 c2 a3 c3 S) (hg : Good S B) (hB : B ≤ 549755813888) :
    Calls Tryz.prog 15 #[sv a0 c0 a1 c1 a2 c2 a3 c3 S, .string n] w fun e w' => ∃ A c, e = .returned (.tuple #[.slice A (pRead S n).1.length c, .int .i64 (pRead S n).2]) ∧ Rd kB w' (fun k => w.heap.size ≤ k) A c (pRead S n).1 ∧ Below w.heap.size w w' :=
  (laminaref20_Read.calls (S.dir.length + 68) _ _ _ _ _ _ _ _ _ _ _ _ _ _ n (pRead S n).1 (pRead S n).2 w h.files.now h.files.le h.dir.now h.dir.le h.dur.now h.dur.le h.pend.now h.pend.le (read_f S B n hg hB)).mono fun e w' hq => by
    obtain ⟨v, q1, q2, q3⟩ := hq
    obtain ⟨A, c, rfl, hr⟩ := Rd.ofR q2
    exact ⟨A, c, q1, hr.mono (fun k hk _ => hk.1), q3⟩
theorem refList_calls (w : World) (ok : Nat → Prop) (a0 : Option Addr) (c0 : Nat) (a1 : Option Addr) (c1 : Nat) (a2 : Option Addr) (c2 : Nat) (a3 : Option Addr) (c3 : Nat) (S : PS) (B : Nat) (h : Ref w ok a0 c0 a1 c1 a2 c2 a3 c3 S) (hg : Good S B) (hB : B ≤ 549755813888) :
    Calls Tryz.prog 38 #[sv a0 c0 a1 c1 a2 c2 a3 c3 S] w fun e w' => ∃ A c, e = .returned (.slice A (S.dir.map (·.f0)).length c) ∧ Rd Kd.string w' (fun k => w.heap.size ≤ k) A c (S.dir.map (·.f0)) ∧ Below w.heap.size w w' :=
  (laminaref20_List.calls (S.dir.length + 1) _ _ _ _ _ _ _ _ _ _ _ _ _ _ (S.dir.map (·.f0)) w h.files.now h.files.le h.dir.now h.dir.le h.dur.now h.dur.le h.pend.now h.pend.le (List_f _ _ _ _ _ _ _ (by have := hg.nDir; omega) (by omega))).mono fun e w' hq => by
    obtain ⟨v, q1, q2, q3⟩ := hq
    obtain ⟨A, c, rfl, hr⟩ := Rd.ofR q2
    exact ⟨A, c, q1, hr.mono (fun k hk _ => hk.1), q3⟩
theorem refFail2_calls (w : World) (ok : Nat → Prop) (a0 : Option Addr) (c0 : Nat) (a1 : Option Addr) (c1 : Nat) (a2 : Option Addr) (c2 : Nat) (a3 : Option Addr) (c3 : Nat) (S : PS) (n : Int) (h : Ref w ok a0 c0 a1 c1 a2 c2 a3 c3 S) :
    Calls Tryz.prog 28 #[sv a0 c0 a1 c1 a2 c2 a3 c3 S, .int .i64 n] w (RefE w ok (pFail S n)) :=
  (refFail_calls w a0 a1 a2 a3 _ c0 _ c1 _ c2 _ c3 S.lim S.left n).mono fun _ _ ⟨q1, q2⟩ => ⟨_, q1, ⟨a0, c0, a1, c1, a2, c2, a3, c3, rfl, ((⟨h.files, h.dir, h.dur, h.pend⟩ : Ref w ok a0 c0 a1 c1 a2 c2 a3 c3 (pFail S n)).below q2).mono (fun _ hk _ => .inl hk)⟩, q2⟩
theorem has_l0 (l : List ByteArray) (n : ByteArray) (hl : l.length ≤ 1099511627776) : ∀ (d k i : Nat), l.length - i = d → i ≤ l.length → d < k → laminaref21_Has.l0 k n l i = some ((l.drop i).any fun y => decide (y = n))
  | 0, k, i, hd, hi, hk => by
    obtain ⟨k, rfl⟩ : ∃ m, k = m + 1 := ⟨k - 1, by omega⟩
    have hn : l.drop i = [] := List.drop_eq_nil_of_le (by omega)
    simp only [laminaref21_Has.l0]
    rw [if_neg (by omega), hn]
    rfl
  | d + 1, k, i, hd, hi, hk => by
    obtain ⟨k, rfl⟩ : ∃ m, k = m + 1 := ⟨k - 1, by omega⟩
    have hlt : i < l.length := by omega
    have e : wrap64 ((i : Int) + 1) = ((i + 1 : Nat) : Int) := by unfold wrap64; omega
    have hr : rdOf ByteArray.empty l (i : Int) = l[i] := by simp [rdOf, List.getD, hlt]
    simp only [laminaref21_Has.l0, hr, e]
    rw [if_pos (by omega), if_pos (by omega), List.drop_eq_getElem_cons hlt, List.any_cons]
    by_cases hq : l[i] = n
    · rw [if_pos (by rw [hq]), decide_eq_true hq, Bool.true_or]
    · rw [if_neg (fun h => hq ((toList_eq_iff _ _).1 h)), decide_eq_false hq, Bool.false_or]
      exact has_l0 l n hl d k (i + 1) (by omega) (by omega) (by omega)
theorem refHas_calls (w : World) (ok : Nat → Prop) (a0 : Option Addr) (c0 : Nat) (a1 : Option Addr) (c1 : Nat) (a2 : Option Addr) (c2 : Nat) (a3 : Option Addr) (c3 : Nat) (S : PS) (B : Nat) (n : ByteArray) (h : Ref w ok a0 c0 a1 c1 a2 c2 a3 c3 S) (hg : Good S B) (hB : B ≤ 549755813888) :
    Calls Tryz.prog 92 #[sv a0 c0 a1 c1 a2 c2 a3 c3 S, .string n] w fun e w' => e = .returned (.bool (pHas S n)) ∧ Below w.heap.size w w' := by
  have hd := hg.nDir
  refine laminaref21_Has.calls (S.dir.length + 1) _ _ _ _ _ _ _ _ _ _ _ _ _ _ n (pHas S n) w h.files.now h.files.le h.dir.now h.dir.le h.dur.now h.dur.le h.pend.now h.pend.le ?_
  unfold laminaref21_Has.f
  rw [List_f _ _ _ _ _ _ _ (by omega) (by omega), Option.bind_some]
  exact has_l0 _ n (by simp; omega) (S.dir.map (·.f0)).length _ 0 (by omega) (by omega) (by simp)
end Go.Proofs.YtehhafnjbkbmjaaGreat.Disk

/- The reference: Replace. -/
namespace Go.Proofs.YtehhafnjbkbmjaaGreat.Disk
open Go Go.RowKit Go.Proofs.YtehhafnjbkbmjaaGreatW.PrintWords Go.Proofs.YtehhafnjbkbmjaaGreatW.PrintLast Go.Proofs.YtehhafnjbkbmjaaGreatW.PrintMore Go.Proofs.YtehhafnjbkbmjaaGreat.PCommitlogSequence
abbrev OkR (w : World) (ok : Nat → Prop) : Nat → Prop := fun k => (ok k ∧ k < w.heap.size) ∨ w.heap.size + 2 ≤ k
/-- The state in its box, the result's block behind it. -/
structure RS (w wn : World) (ok : Nat → Prop) (a0 : Option Addr) (c0 : Nat) (a1 : Option Addr) (c1 : Nat) (a2 : Option Addr) (c2 : Nat) (a3 : Option Addr) (c3 : Nat) (S : PS) : Prop where
  b0 : wn.heap[w.heap.size]? = some (.cells (svC a0 c0 a1 c1 a2 c2 a3 c3 S) tState (0, 0))
  b1 : wn.heap[w.heap.size + 1]? = some (.cells zeroC tState (0, 0))
  bl : Below w.heap.size w wn
  rf : Ref wn (OkR w ok) a0 c0 a1 c1 a2 c2 a3 c3 S
theorem RS.below {w wn wk : World} {ok : Nat → Prop} {a0 c0 a1 c1 a2 c2 a3 c3} {S : PS} (h : RS w wn ok a0 c0 a1 c1 a2 c2 a3 c3 S) (hb : Below wn.heap.size wn wk) : RS w wk ok a0 c0 a1 c1 a2 c2 a3 c3 S :=
  ⟨blk_below h.b0 hb, blk_below h.b1 hb, h.bl.trans (hb.mono h.bl.size), h.rf.below hb⟩
theorem RS.put {w wn wk : World} {ok : Nat → Prop} {a0 c0 a1 c1 a2 c2 a3 c3} {e0 f0 e1 f1 e2 f2 e3 f3} {S S' : PS} (h : RS w wn ok a0 c0 a1 c1 a2 c2 a3 c3 S) (hb : Below wn.heap.size wn wk) (hr : Ref wk (fun k => OkR w ok k ∨ wn.heap.size ≤ k) e0 f0 e1 f1 e2 f2 e3 f3 S') :
    RS w ((((((wk.setCell ⟨w.heap.size, 0, none⟩ (.slice e0 S'.files.length f0)).setCell ⟨w.heap.size, 1, none⟩ (.slice e1 S'.dir.length f1)).setCell ⟨w.heap.size, 2, none⟩ (.slice e2 S'.dur.length f2)).setCell ⟨w.heap.size, 3, none⟩ (.slice e3 S'.pend.length f3)).setCell ⟨w.heap.size, 4, none⟩ (.bool S'.lim)).setCell ⟨w.heap.size, 5, none⟩ (.int .i64 S'.left)) ok e0 f0 e1 f1 e2 f2 e3 f3 S' := by
  have h1 := blk_below h.b0 hb
  have h2 := blk_below h.b1 hb
  have hs := lt_blk h.b1
  refine ⟨set_six _ _ _ _ _ _ h1, (other_six (by omega) _ _ _ _ _ _).trans h2, below_six (h.bl.trans (hb.mono h.bl.size)) (Nat.le_refl _) _ _ _ _ _ _, ?_⟩
  have hm := hr.mono (ok' := OkR w ok) (fun k hk _ => by
    rcases hk with hk | hk
    · exact hk
    · exact .inr (by omega))
  exact hm.move (fun k hk _ => other_six (by rcases hk with hk | hk; have := hk.2; omega; omega) _ _ _ _ _ _)
theorem okR_below {w wn wk : World} {ok : Nat → Prop} {A : Option Addr} {c : Nat} {bs : List Int} {y0 y1 y2 y3 y4 y5 : Value} (h : Rd kB wn (OkR w ok) A c bs) (hb : Below wn.heap.size wn wk) : Rd kB ((((((wk.setCell ⟨w.heap.size, 0, none⟩ y0).setCell ⟨w.heap.size, 1, none⟩ y1).setCell ⟨w.heap.size, 2, none⟩ y2).setCell ⟨w.heap.size, 3, none⟩ y3).setCell ⟨w.heap.size, 4, none⟩ y4).setCell ⟨w.heap.size, 5, none⟩ y5) (OkR w ok) A c bs :=
  (h.below hb).move (fun k hk _ => other_six (by rcases hk with hk | hk; have := hk.2; omega; omega) _ _ _ _ _ _)
set_option maxHeartbeats 16000000 in
set_option maxRecDepth 100000 in
theorem refReplace_calls (w : World) (ok : Nat → Prop) (a0 : Option Addr) (c0 : Nat) (a1 : Option Addr) (c1 : Nat) (a2 : Option Addr) (c2 : Nat) (a3 : Option Addr) (c3 : Nat) (S : PS) (B m : Nat) (n : ByteArray) (Ab : Option Addr) (cb : Nat) (bs : List Int) (h : Ref w ok a0 c0 a1 c1 a2 c2 a3 c3 S) (hs : Sound S B) (hm : 100 ≤ m) (hB : B + m * 6 ≤ 549755813888) (hb : Rd kB w ok Ab cb bs) (hbl : bs.length ≤ m) (hwb : ∀ x ∈ bs, 0 ≤ x ∧ x ≤ 255) (hn : n.size ≤ 1000000) :
    Calls Tryz.prog 78 #[sv a0 c0 a1 c1 a2 c2 a3 c3 S, .string n, .slice Ab bs.length cb] w (RefE2 w ok (pReplace S (tmpOf n) n bs)) := by
  obtain ⟨t, ht⟩ : ∃ t, t = tmpOf n := ⟨_, rfl⟩
  have HT := Lib.hid (show t = (⟨#[116, 109, 112, 45]⟩ : ByteArray) ++ n by rw [ht]; rfl)
  rw [← ht]
  have HSO := Lib.hid (fun j => hs.runTo (t := t) (n := n) hm hbl hwb j)
  have hsj : ∀ j, j ≤ 6 → B + m * j ≤ 549755813888 := fun j hj => Nat.le_trans (Nat.add_le_add_left (Nat.mul_le_mul_left m hj) B) hB
  have HSJ := Lib.hid hsj
  have hbl2 : bs.length ≤ 549755813888 := by omega
  obtain ⟨w1, hw1⟩ : ∃ w1, w1 = (w.alloc (.cells (svC a0 c0 a1 c1 a2 c2 a3 c3 S) tState)).alloc (.cells zeroC tState) := ⟨_, rfl⟩
  have hk := two_blks w (.cells (svC a0 c0 a1 c1 a2 c2 a3 c3 S) tState) (.cells zeroC tState)
  rw [← hw1] at hk
  have R1 := Lib.hid (show RS w w1 ok a0 c0 a1 c1 a2 c2 a3 c3 S from ⟨hk.1.1, hk.1.2, hk.2, (h.mono (ok' := OkR w ok) (fun k h1 h2 => .inl ⟨h1, h2⟩)).below hk.2⟩)
  have X1 := Lib.hid ((hb.mono (ok' := OkR w ok) (fun k h1 h2 => .inl ⟨h1, h2⟩)).below hk.2)
  have HW1 := Lib.hid (show w1 = (w.alloc (.cells #[.slice a0 S.files.length c0, .slice a1 S.dir.length c1, .slice a2 S.dur.length c2, .slice a3 S.pend.length c3, .bool S.lim, .int .i64 S.left] tState)).alloc (.cells #[.slice none 0 0, .slice none 0 0, .slice none 0 0, .slice none 0 0, .bool false, .int .i64 0] tState) from hw1)
  clear h hs hb hwb ht hw1 hk hsj
  obtain ⟨s0, s1, s2, s3, s4, s5⟩ := six_cells R1.out.b0
  go_enter Tryz.func78, Tryz.ntmps78
  go_upto_region 2 with (fail)
  rw [← HT.out, ← HW1.out]
  cases hh : pHas S t
  · have HH := Lib.hid hh
    have HJ0 := Lib.hid (show runTo S t n bs 1 = (S, 0) by show pClear S t = _; unfold pClear; rw [hh]; rfl)
    clear hh
    go_upto_region 5 with (first | (go_at_call 92; refine (refHas_calls _ (OkR w ok) a0 c0 a1 c1 a2 c2 a3 c3 S B t R1.out.rf (HSO.out 0).good (by omega)).mono ?_; rw [HH.out]; rintro e w2 ⟨rfl, hb⟩; have R2 := Lib.hid (R1.out.below hb); have X2 := Lib.hid (X1.out.below hb); clear hb R1 X1 s0 s1 s2 s3 s4 s5; obtain ⟨s0, s1, s2, s3, s4, s5⟩ := six_cells R2.out.b0) | fail)
    have HG := Lib.hid (show Good S (B + m * 1) by have h1 := HSO.out 1; rw [HJ0.out] at h1; exact h1.good)
    obtain ⟨p11, hp11⟩ : ∃ p, p = pCreate S t := ⟨_, rfl⟩
    obtain ⟨S11, cd11⟩ := p11
    have HQ11 := Lib.hid hp11
    have HJ11 := Lib.hid (show runTo S t n bs 2 = (S11, cd11) by rw [runTo_go (by rw [HJ0.out]), HJ0.out]; exact hp11.symm)
    clear hp11
    go_upto_region 7 with (first | (go_at_call 30; refine (refCreate_calls _ (OkR w ok) a0 c0 a1 c1 a2 c2 a3 c3 S (B + m * 1) t R2.out.rf HG.out (HSJ.out 1 (by decide))).mono ?_; rw [← HQ11.out]; rintro e wk11 ⟨v, rfl, ⟨e0, f0, e1, f1, e2, f2, e3, f3, rfl, hr⟩, hb⟩; have HR11 := Lib.hid hr; have HB11 := Lib.hid hb; have k0 := blk_below R2.out.b0 hb; obtain ⟨z0, z1, z2, z3, z4, z5⟩ := six_cells k0; obtain ⟨g0, g1, g2, g3, g4, g5⟩ := six_frozen k0; clear hr hb k0 s0 s1 s2 s3 s4 s5) | fail)
    obtain ⟨wn11, hwn11⟩ : ∃ wn, wn = ((((((wk11.setCell ⟨w.heap.size, 0, none⟩ (.slice e0 S11.files.length f0)).setCell ⟨w.heap.size, 1, none⟩ (.slice e1 S11.dir.length f1)).setCell ⟨w.heap.size, 2, none⟩ (.slice e2 S11.dur.length f2)).setCell ⟨w.heap.size, 3, none⟩ (.slice e3 S11.pend.length f3)).setCell ⟨w.heap.size, 4, none⟩ (.bool S11.lim)).setCell ⟨w.heap.size, 5, none⟩ (.int .i64 S11.left)) := ⟨_, rfl⟩
    rw [← hwn11]
    have RN11 := Lib.hid (show RS w wn11 ok e0 f0 e1 f1 e2 f2 e3 f3 S11 by rw [hwn11]; exact R2.out.put HB11.out HR11.out)
    have XN11 := Lib.hid (show Rd kB wn11 (OkR w ok) Ab cb bs by rw [hwn11]; exact okR_below X2.out HB11.out)
    clear hwn11 HB11 HR11 R2 X2 HG HQ11 z0 z1 z2 z3 z4 z5 g0 g1 g2 g3 g4 g5
    obtain ⟨s0, s1, s2, s3, s4, s5⟩ := six_cells RN11.out.b0
    by_cases hz11 : cd11 = 0
    · subst hz11
      have HG := Lib.hid (show Good S11 (B + m * 2) by have h1 := HSO.out 2; rw [HJ11.out] at h1; exact h1.good)
      obtain ⟨p2, hp2⟩ : ∃ p, p = pAppend S11 t bs := ⟨_, rfl⟩
      obtain ⟨S2, cd2⟩ := p2
      have HQ2 := Lib.hid hp2
      have HJ2 := Lib.hid (show runTo S t n bs 3 = (S2, cd2) by rw [runTo_go (by rw [HJ11.out]), HJ11.out]; exact hp2.symm)
      clear hp2
      go_upto_region 9 with (first | (go_at_call 32; refine (refAppend_calls _ (OkR w ok) e0 f0 e1 f1 e2 f2 e3 f3 S11 (B + m * 2) t Ab cb bs RN11.out.rf HG.out (HSJ.out 2 (by decide)) XN11.out hbl2).mono ?_; rw [← HQ2.out]; rintro e wk2 ⟨v, rfl, ⟨e0, f0, e1, f1, e2, f2, e3, f3, rfl, hr⟩, hb⟩; have HR2 := Lib.hid hr; have HB2 := Lib.hid hb; have k0 := blk_below RN11.out.b0 hb; obtain ⟨z0, z1, z2, z3, z4, z5⟩ := six_cells k0; obtain ⟨g0, g1, g2, g3, g4, g5⟩ := six_frozen k0; clear hr hb k0 s0 s1 s2 s3 s4 s5) | fail)
      obtain ⟨wn2, hwn2⟩ : ∃ wn, wn = ((((((wk2.setCell ⟨w.heap.size, 0, none⟩ (.slice e0 S2.files.length f0)).setCell ⟨w.heap.size, 1, none⟩ (.slice e1 S2.dir.length f1)).setCell ⟨w.heap.size, 2, none⟩ (.slice e2 S2.dur.length f2)).setCell ⟨w.heap.size, 3, none⟩ (.slice e3 S2.pend.length f3)).setCell ⟨w.heap.size, 4, none⟩ (.bool S2.lim)).setCell ⟨w.heap.size, 5, none⟩ (.int .i64 S2.left)) := ⟨_, rfl⟩
      rw [← hwn2]
      have RN2 := Lib.hid (show RS w wn2 ok e0 f0 e1 f1 e2 f2 e3 f3 S2 by rw [hwn2]; exact RN11.out.put HB2.out HR2.out)
      have XN2 := Lib.hid (show Rd kB wn2 (OkR w ok) Ab cb bs by rw [hwn2]; exact okR_below XN11.out HB2.out)
      clear hwn2 HB2 HR2 RN11 XN11 HG HQ2 z0 z1 z2 z3 z4 z5 g0 g1 g2 g3 g4 g5
      obtain ⟨s0, s1, s2, s3, s4, s5⟩ := six_cells RN2.out.b0
      by_cases hz2 : cd2 = 0
      · subst hz2
        have HG := Lib.hid (show Good S2 (B + m * 3) by have h1 := HSO.out 3; rw [HJ2.out] at h1; exact h1.good)
        obtain ⟨p3, hp3⟩ : ∃ p, p = pSync S2 t := ⟨_, rfl⟩
        obtain ⟨S3, cd3⟩ := p3
        have HQ3 := Lib.hid hp3
        have HJ3 := Lib.hid (show runTo S t n bs 4 = (S3, cd3) by rw [runTo_go (by rw [HJ2.out]), HJ2.out]; exact hp3.symm)
        clear hp3
        go_upto_region 11 with (first | (go_at_call 107; refine (refSync_calls _ (OkR w ok) e0 f0 e1 f1 e2 f2 e3 f3 S2 (B + m * 3) t RN2.out.rf HG.out (HSJ.out 3 (by decide))).mono ?_; rw [← HQ3.out]; rintro e wk3 ⟨v, rfl, ⟨e0, f0, e1, f1, e2, f2, e3, f3, rfl, hr⟩, hb⟩; have HR3 := Lib.hid hr; have HB3 := Lib.hid hb; have k0 := blk_below RN2.out.b0 hb; obtain ⟨z0, z1, z2, z3, z4, z5⟩ := six_cells k0; obtain ⟨g0, g1, g2, g3, g4, g5⟩ := six_frozen k0; clear hr hb k0 s0 s1 s2 s3 s4 s5) | fail)
        obtain ⟨wn3, hwn3⟩ : ∃ wn, wn = ((((((wk3.setCell ⟨w.heap.size, 0, none⟩ (.slice e0 S3.files.length f0)).setCell ⟨w.heap.size, 1, none⟩ (.slice e1 S3.dir.length f1)).setCell ⟨w.heap.size, 2, none⟩ (.slice e2 S3.dur.length f2)).setCell ⟨w.heap.size, 3, none⟩ (.slice e3 S3.pend.length f3)).setCell ⟨w.heap.size, 4, none⟩ (.bool S3.lim)).setCell ⟨w.heap.size, 5, none⟩ (.int .i64 S3.left)) := ⟨_, rfl⟩
        rw [← hwn3]
        have RN3 := Lib.hid (show RS w wn3 ok e0 f0 e1 f1 e2 f2 e3 f3 S3 by rw [hwn3]; exact RN2.out.put HB3.out HR3.out)
        have XN3 := Lib.hid (show Rd kB wn3 (OkR w ok) Ab cb bs by rw [hwn3]; exact okR_below XN2.out HB3.out)
        clear hwn3 HB3 HR3 RN2 XN2 HG HQ3 z0 z1 z2 z3 z4 z5 g0 g1 g2 g3 g4 g5
        obtain ⟨s0, s1, s2, s3, s4, s5⟩ := six_cells RN3.out.b0
        by_cases hz3 : cd3 = 0
        · subst hz3
          have HG := Lib.hid (show Good S3 (B + m * 4) by have h1 := HSO.out 4; rw [HJ3.out] at h1; exact h1.good)
          obtain ⟨p4, hp4⟩ : ∃ p, p = pRename S3 t n := ⟨_, rfl⟩
          obtain ⟨S4, cd4⟩ := p4
          have HQ4 := Lib.hid hp4
          have HJ4 := Lib.hid (show runTo S t n bs 5 = (S4, cd4) by rw [runTo_go (by rw [HJ3.out]), HJ3.out]; exact hp4.symm)
          clear hp4
          go_upto_region 13 with (first | (go_at_call 113; refine (refRename_calls _ (OkR w ok) e0 f0 e1 f1 e2 f2 e3 f3 S3 (B + m * 4) t n RN3.out.rf HG.out (HSJ.out 4 (by decide))).mono ?_; rw [← HQ4.out]; rintro e wk4 ⟨v, rfl, ⟨e0, f0, e1, f1, e2, f2, e3, f3, rfl, hr⟩, hb⟩; have HR4 := Lib.hid hr; have HB4 := Lib.hid hb; have k0 := blk_below RN3.out.b0 hb; obtain ⟨z0, z1, z2, z3, z4, z5⟩ := six_cells k0; obtain ⟨g0, g1, g2, g3, g4, g5⟩ := six_frozen k0; clear hr hb k0 s0 s1 s2 s3 s4 s5) | fail)
          obtain ⟨wn4, hwn4⟩ : ∃ wn, wn = ((((((wk4.setCell ⟨w.heap.size, 0, none⟩ (.slice e0 S4.files.length f0)).setCell ⟨w.heap.size, 1, none⟩ (.slice e1 S4.dir.length f1)).setCell ⟨w.heap.size, 2, none⟩ (.slice e2 S4.dur.length f2)).setCell ⟨w.heap.size, 3, none⟩ (.slice e3 S4.pend.length f3)).setCell ⟨w.heap.size, 4, none⟩ (.bool S4.lim)).setCell ⟨w.heap.size, 5, none⟩ (.int .i64 S4.left)) := ⟨_, rfl⟩
          rw [← hwn4]
          have RN4 := Lib.hid (show RS w wn4 ok e0 f0 e1 f1 e2 f2 e3 f3 S4 by rw [hwn4]; exact RN3.out.put HB4.out HR4.out)
          have XN4 := Lib.hid (show Rd kB wn4 (OkR w ok) Ab cb bs by rw [hwn4]; exact okR_below XN3.out HB4.out)
          clear hwn4 HB4 HR4 RN3 XN3 HG HQ4 z0 z1 z2 z3 z4 z5 g0 g1 g2 g3 g4 g5
          obtain ⟨s0, s1, s2, s3, s4, s5⟩ := six_cells RN4.out.b0
          by_cases hz4 : cd4 = 0
          · subst hz4
            have HG := Lib.hid (show Good S4 (B + m * 5) by have h1 := HSO.out 5; rw [HJ4.out] at h1; exact h1.good)
            obtain ⟨p5, hp5⟩ : ∃ p, p = pSyncDir S4  := ⟨_, rfl⟩
            obtain ⟨S5, cd5⟩ := p5
            have HQ5 := Lib.hid hp5
            have HJ5 := Lib.hid (show runTo S t n bs 6 = (S5, cd5) by rw [runTo_go (by rw [HJ4.out]), HJ4.out]; exact hp5.symm)
            clear hp5
            go_upto_region 15 with (first | (go_at_call 114; refine (refSyncDir_calls _ (OkR w ok) e0 f0 e1 f1 e2 f2 e3 f3 S4 (B + m * 5)  RN4.out.rf HG.out (HSJ.out 5 (by decide))).mono ?_; rw [← HQ5.out]; rintro e wk5 ⟨v, rfl, ⟨e0, f0, e1, f1, e2, f2, e3, f3, rfl, hr⟩, hb⟩; have HR5 := Lib.hid hr; have HB5 := Lib.hid hb; have k0 := blk_below RN4.out.b0 hb; obtain ⟨z0, z1, z2, z3, z4, z5⟩ := six_cells k0; obtain ⟨g0, g1, g2, g3, g4, g5⟩ := six_frozen k0; clear hr hb k0 s0 s1 s2 s3 s4 s5) | fail)
            obtain ⟨wn5, hwn5⟩ : ∃ wn, wn = ((((((wk5.setCell ⟨w.heap.size, 0, none⟩ (.slice e0 S5.files.length f0)).setCell ⟨w.heap.size, 1, none⟩ (.slice e1 S5.dir.length f1)).setCell ⟨w.heap.size, 2, none⟩ (.slice e2 S5.dur.length f2)).setCell ⟨w.heap.size, 3, none⟩ (.slice e3 S5.pend.length f3)).setCell ⟨w.heap.size, 4, none⟩ (.bool S5.lim)).setCell ⟨w.heap.size, 5, none⟩ (.int .i64 S5.left)) := ⟨_, rfl⟩
            rw [← hwn5]
            have RN5 := Lib.hid (show RS w wn5 ok e0 f0 e1 f1 e2 f2 e3 f3 S5 by rw [hwn5]; exact RN4.out.put HB5.out HR5.out)
            have XN5 := Lib.hid (show Rd kB wn5 (OkR w ok) Ab cb bs by rw [hwn5]; exact okR_below XN4.out HB5.out)
            clear hwn5 HB5 HR5 RN4 XN4 HG HQ5 z0 z1 z2 z3 z4 z5 g0 g1 g2 g3 g4 g5
            obtain ⟨s0, s1, s2, s3, s4, s5⟩ := six_cells RN5.out.b0
            have HP := Lib.hid (show pReplace S t n bs = (S5, cd5) from HJ5.out)
            obtain ⟨y0, y1, y2, y3, y4, y5⟩ := six_cells RN5.out.b1
            obtain ⟨x0, x1, x2, x3, x4, x5⟩ := six_frozen RN5.out.b1
            go_wp2_with fail
            rw [HP.out]
            obtain ⟨q1, q2, q3⟩ := fin_ref (ok := ok) (S := S5) RN5.out.bl RN5.out.b1 RN5.out.rf
            exact bodyPost_ret (results_ct rfl _ _ (w.heap.size + 1) tState _ (0, 0) _ rfl q1 Tryz.underlying31 rfl (by kernel_rfl)) rfl ⟨_, rfl, ⟨e0, f0, e1, f1, e2, f2, e3, f3, rfl, q3⟩, q2⟩
          · have HP := Lib.hid (show pReplace S t n bs = (S4, cd4) by
              have h1 := runTo_stop (S := S) (t := t) (n := n) (bs := bs) (j := 5) (by rw [HJ4.out]; exact hz4) 1
              exact h1.trans HJ4.out)
            have hne : (cd4 == 0) = false := by simpa using hz4
            obtain ⟨y0, y1, y2, y3, y4, y5⟩ := six_cells RN4.out.b1
            obtain ⟨x0, x1, x2, x3, x4, x5⟩ := six_frozen RN4.out.b1
            go_wp2_with fail
            rw [HP.out]
            obtain ⟨q1, q2, q3⟩ := fin_ref (ok := ok) (S := S4) RN4.out.bl RN4.out.b1 RN4.out.rf
            exact bodyPost_ret (results_ct rfl _ _ (w.heap.size + 1) tState _ (0, 0) _ rfl q1 Tryz.underlying31 rfl (by kernel_rfl)) rfl ⟨_, rfl, ⟨e0, f0, e1, f1, e2, f2, e3, f3, rfl, q3⟩, q2⟩
        · have HP := Lib.hid (show pReplace S t n bs = (S3, cd3) by
            have h1 := runTo_stop (S := S) (t := t) (n := n) (bs := bs) (j := 4) (by rw [HJ3.out]; exact hz3) 2
            exact h1.trans HJ3.out)
          have hne : (cd3 == 0) = false := by simpa using hz3
          obtain ⟨y0, y1, y2, y3, y4, y5⟩ := six_cells RN3.out.b1
          obtain ⟨x0, x1, x2, x3, x4, x5⟩ := six_frozen RN3.out.b1
          go_wp2_with fail
          rw [HP.out]
          obtain ⟨q1, q2, q3⟩ := fin_ref (ok := ok) (S := S3) RN3.out.bl RN3.out.b1 RN3.out.rf
          exact bodyPost_ret (results_ct rfl _ _ (w.heap.size + 1) tState _ (0, 0) _ rfl q1 Tryz.underlying31 rfl (by kernel_rfl)) rfl ⟨_, rfl, ⟨e0, f0, e1, f1, e2, f2, e3, f3, rfl, q3⟩, q2⟩
      · have HP := Lib.hid (show pReplace S t n bs = (S2, cd2) by
          have h1 := runTo_stop (S := S) (t := t) (n := n) (bs := bs) (j := 3) (by rw [HJ2.out]; exact hz2) 3
          exact h1.trans HJ2.out)
        have hne : (cd2 == 0) = false := by simpa using hz2
        obtain ⟨y0, y1, y2, y3, y4, y5⟩ := six_cells RN2.out.b1
        obtain ⟨x0, x1, x2, x3, x4, x5⟩ := six_frozen RN2.out.b1
        go_wp2_with fail
        rw [HP.out]
        obtain ⟨q1, q2, q3⟩ := fin_ref (ok := ok) (S := S2) RN2.out.bl RN2.out.b1 RN2.out.rf
        exact bodyPost_ret (results_ct rfl _ _ (w.heap.size + 1) tState _ (0, 0) _ rfl q1 Tryz.underlying31 rfl (by kernel_rfl)) rfl ⟨_, rfl, ⟨e0, f0, e1, f1, e2, f2, e3, f3, rfl, q3⟩, q2⟩
    · have HP := Lib.hid (show pReplace S t n bs = (S11, cd11) by
        have h1 := runTo_stop (S := S) (t := t) (n := n) (bs := bs) (j := 2) (by rw [HJ11.out]; exact hz11) 4
        exact h1.trans HJ11.out)
      have hne : (cd11 == 0) = false := by simpa using hz11
      obtain ⟨y0, y1, y2, y3, y4, y5⟩ := six_cells RN11.out.b1
      obtain ⟨x0, x1, x2, x3, x4, x5⟩ := six_frozen RN11.out.b1
      go_wp2_with fail
      rw [HP.out]
      obtain ⟨q1, q2, q3⟩ := fin_ref (ok := ok) (S := S11) RN11.out.bl RN11.out.b1 RN11.out.rf
      exact bodyPost_ret (results_ct rfl _ _ (w.heap.size + 1) tState _ (0, 0) _ rfl q1 Tryz.underlying31 rfl (by kernel_rfl)) rfl ⟨_, rfl, ⟨e0, f0, e1, f1, e2, f2, e3, f3, rfl, q3⟩, q2⟩
  · have HH := Lib.hid hh
    have HJ0 := Lib.hid (show runTo S t n bs 1 = pRemove S t by show pClear S t = _; unfold pClear; rw [hh]; rfl)
    clear hh
    obtain ⟨p20, hp20⟩ : ∃ p, p = pRemove S t := ⟨_, rfl⟩
    obtain ⟨S20, cd20⟩ := p20
    have HQ20 := Lib.hid hp20
    have HJ20 := Lib.hid (show runTo S t n bs 1 = (S20, cd20) by rw [HJ0.out]; exact hp20.symm)
    clear hp20 HJ0
    go_upto_region 5 with (first
      | (go_at_call 92; refine (refHas_calls _ (OkR w ok) a0 c0 a1 c1 a2 c2 a3 c3 S B t R1.out.rf (HSO.out 0).good (by omega)).mono ?_; rw [HH.out]; rintro e w2 ⟨rfl, hb⟩; have R2 := Lib.hid (R1.out.below hb); have X2 := Lib.hid (X1.out.below hb); clear hb R1 X1 s0 s1 s2 s3 s4 s5; obtain ⟨s0, s1, s2, s3, s4, s5⟩ := six_cells R2.out.b0)
      | (go_at_call 112; refine (refRemove_calls _ (OkR w ok) a0 c0 a1 c1 a2 c2 a3 c3 S B t R2.out.rf (HSO.out 0).good (by omega)).mono ?_; rw [← HQ20.out]; rintro e wk20 ⟨v, rfl, ⟨e0, f0, e1, f1, e2, f2, e3, f3, rfl, hr⟩, hb⟩; have HR20 := Lib.hid hr; have HB20 := Lib.hid hb; have k0 := blk_below R2.out.b0 hb; obtain ⟨z0, z1, z2, z3, z4, z5⟩ := six_cells k0; obtain ⟨g0, g1, g2, g3, g4, g5⟩ := six_frozen k0; clear hr hb k0 s0 s1 s2 s3 s4 s5)
      | fail)
    obtain ⟨wn20, hwn20⟩ : ∃ wn, wn = ((((((wk20.setCell ⟨w.heap.size, 0, none⟩ (.slice e0 S20.files.length f0)).setCell ⟨w.heap.size, 1, none⟩ (.slice e1 S20.dir.length f1)).setCell ⟨w.heap.size, 2, none⟩ (.slice e2 S20.dur.length f2)).setCell ⟨w.heap.size, 3, none⟩ (.slice e3 S20.pend.length f3)).setCell ⟨w.heap.size, 4, none⟩ (.bool S20.lim)).setCell ⟨w.heap.size, 5, none⟩ (.int .i64 S20.left)) := ⟨_, rfl⟩
    rw [← hwn20]
    have RN20 := Lib.hid (show RS w wn20 ok e0 f0 e1 f1 e2 f2 e3 f3 S20 by rw [hwn20]; exact R2.out.put HB20.out HR20.out)
    have XN20 := Lib.hid (show Rd kB wn20 (OkR w ok) Ab cb bs by rw [hwn20]; exact okR_below X2.out HB20.out)
    clear hwn20 HB20 HR20 R2 X2 HQ20 z0 z1 z2 z3 z4 z5 g0 g1 g2 g3 g4 g5
    obtain ⟨s0, s1, s2, s3, s4, s5⟩ := six_cells RN20.out.b0
    by_cases hz20 : cd20 = 0
    · subst hz20
      have HG := Lib.hid (show Good S20 (B + m * 1) by have h1 := HSO.out 1; rw [HJ20.out] at h1; exact h1.good)
      obtain ⟨p1, hp1⟩ : ∃ p, p = pCreate S20 t := ⟨_, rfl⟩
      obtain ⟨S1, cd1⟩ := p1
      have HQ1 := Lib.hid hp1
      have HJ1 := Lib.hid (show runTo S t n bs 2 = (S1, cd1) by rw [runTo_go (by rw [HJ20.out]), HJ20.out]; exact hp1.symm)
      clear hp1
      go_upto_region 7 with (first | (go_at_call 30; refine (refCreate_calls _ (OkR w ok) e0 f0 e1 f1 e2 f2 e3 f3 S20 (B + m * 1) t RN20.out.rf HG.out (HSJ.out 1 (by decide))).mono ?_; rw [← HQ1.out]; rintro e wk1 ⟨v, rfl, ⟨e0, f0, e1, f1, e2, f2, e3, f3, rfl, hr⟩, hb⟩; have HR1 := Lib.hid hr; have HB1 := Lib.hid hb; have k0 := blk_below RN20.out.b0 hb; obtain ⟨z0, z1, z2, z3, z4, z5⟩ := six_cells k0; obtain ⟨g0, g1, g2, g3, g4, g5⟩ := six_frozen k0; clear hr hb k0 s0 s1 s2 s3 s4 s5) | fail)
      obtain ⟨wn1, hwn1⟩ : ∃ wn, wn = ((((((wk1.setCell ⟨w.heap.size, 0, none⟩ (.slice e0 S1.files.length f0)).setCell ⟨w.heap.size, 1, none⟩ (.slice e1 S1.dir.length f1)).setCell ⟨w.heap.size, 2, none⟩ (.slice e2 S1.dur.length f2)).setCell ⟨w.heap.size, 3, none⟩ (.slice e3 S1.pend.length f3)).setCell ⟨w.heap.size, 4, none⟩ (.bool S1.lim)).setCell ⟨w.heap.size, 5, none⟩ (.int .i64 S1.left)) := ⟨_, rfl⟩
      rw [← hwn1]
      have RN1 := Lib.hid (show RS w wn1 ok e0 f0 e1 f1 e2 f2 e3 f3 S1 by rw [hwn1]; exact RN20.out.put HB1.out HR1.out)
      have XN1 := Lib.hid (show Rd kB wn1 (OkR w ok) Ab cb bs by rw [hwn1]; exact okR_below XN20.out HB1.out)
      clear hwn1 HB1 HR1 RN20 XN20 HG HQ1 z0 z1 z2 z3 z4 z5 g0 g1 g2 g3 g4 g5
      obtain ⟨s0, s1, s2, s3, s4, s5⟩ := six_cells RN1.out.b0
      by_cases hz1 : cd1 = 0
      · subst hz1
        have HG := Lib.hid (show Good S1 (B + m * 2) by have h1 := HSO.out 2; rw [HJ1.out] at h1; exact h1.good)
        obtain ⟨p2, hp2⟩ : ∃ p, p = pAppend S1 t bs := ⟨_, rfl⟩
        obtain ⟨S2, cd2⟩ := p2
        have HQ2 := Lib.hid hp2
        have HJ2 := Lib.hid (show runTo S t n bs 3 = (S2, cd2) by rw [runTo_go (by rw [HJ1.out]), HJ1.out]; exact hp2.symm)
        clear hp2
        go_upto_region 9 with (first | (go_at_call 32; refine (refAppend_calls _ (OkR w ok) e0 f0 e1 f1 e2 f2 e3 f3 S1 (B + m * 2) t Ab cb bs RN1.out.rf HG.out (HSJ.out 2 (by decide)) XN1.out hbl2).mono ?_; rw [← HQ2.out]; rintro e wk2 ⟨v, rfl, ⟨e0, f0, e1, f1, e2, f2, e3, f3, rfl, hr⟩, hb⟩; have HR2 := Lib.hid hr; have HB2 := Lib.hid hb; have k0 := blk_below RN1.out.b0 hb; obtain ⟨z0, z1, z2, z3, z4, z5⟩ := six_cells k0; obtain ⟨g0, g1, g2, g3, g4, g5⟩ := six_frozen k0; clear hr hb k0 s0 s1 s2 s3 s4 s5) | fail)
        obtain ⟨wn2, hwn2⟩ : ∃ wn, wn = ((((((wk2.setCell ⟨w.heap.size, 0, none⟩ (.slice e0 S2.files.length f0)).setCell ⟨w.heap.size, 1, none⟩ (.slice e1 S2.dir.length f1)).setCell ⟨w.heap.size, 2, none⟩ (.slice e2 S2.dur.length f2)).setCell ⟨w.heap.size, 3, none⟩ (.slice e3 S2.pend.length f3)).setCell ⟨w.heap.size, 4, none⟩ (.bool S2.lim)).setCell ⟨w.heap.size, 5, none⟩ (.int .i64 S2.left)) := ⟨_, rfl⟩
        rw [← hwn2]
        have RN2 := Lib.hid (show RS w wn2 ok e0 f0 e1 f1 e2 f2 e3 f3 S2 by rw [hwn2]; exact RN1.out.put HB2.out HR2.out)
        have XN2 := Lib.hid (show Rd kB wn2 (OkR w ok) Ab cb bs by rw [hwn2]; exact okR_below XN1.out HB2.out)
        clear hwn2 HB2 HR2 RN1 XN1 HG HQ2 z0 z1 z2 z3 z4 z5 g0 g1 g2 g3 g4 g5
        obtain ⟨s0, s1, s2, s3, s4, s5⟩ := six_cells RN2.out.b0
        by_cases hz2 : cd2 = 0
        · subst hz2
          have HG := Lib.hid (show Good S2 (B + m * 3) by have h1 := HSO.out 3; rw [HJ2.out] at h1; exact h1.good)
          obtain ⟨p3, hp3⟩ : ∃ p, p = pSync S2 t := ⟨_, rfl⟩
          obtain ⟨S3, cd3⟩ := p3
          have HQ3 := Lib.hid hp3
          have HJ3 := Lib.hid (show runTo S t n bs 4 = (S3, cd3) by rw [runTo_go (by rw [HJ2.out]), HJ2.out]; exact hp3.symm)
          clear hp3
          go_upto_region 11 with (first | (go_at_call 107; refine (refSync_calls _ (OkR w ok) e0 f0 e1 f1 e2 f2 e3 f3 S2 (B + m * 3) t RN2.out.rf HG.out (HSJ.out 3 (by decide))).mono ?_; rw [← HQ3.out]; rintro e wk3 ⟨v, rfl, ⟨e0, f0, e1, f1, e2, f2, e3, f3, rfl, hr⟩, hb⟩; have HR3 := Lib.hid hr; have HB3 := Lib.hid hb; have k0 := blk_below RN2.out.b0 hb; obtain ⟨z0, z1, z2, z3, z4, z5⟩ := six_cells k0; obtain ⟨g0, g1, g2, g3, g4, g5⟩ := six_frozen k0; clear hr hb k0 s0 s1 s2 s3 s4 s5) | fail)
          obtain ⟨wn3, hwn3⟩ : ∃ wn, wn = ((((((wk3.setCell ⟨w.heap.size, 0, none⟩ (.slice e0 S3.files.length f0)).setCell ⟨w.heap.size, 1, none⟩ (.slice e1 S3.dir.length f1)).setCell ⟨w.heap.size, 2, none⟩ (.slice e2 S3.dur.length f2)).setCell ⟨w.heap.size, 3, none⟩ (.slice e3 S3.pend.length f3)).setCell ⟨w.heap.size, 4, none⟩ (.bool S3.lim)).setCell ⟨w.heap.size, 5, none⟩ (.int .i64 S3.left)) := ⟨_, rfl⟩
          rw [← hwn3]
          have RN3 := Lib.hid (show RS w wn3 ok e0 f0 e1 f1 e2 f2 e3 f3 S3 by rw [hwn3]; exact RN2.out.put HB3.out HR3.out)
          have XN3 := Lib.hid (show Rd kB wn3 (OkR w ok) Ab cb bs by rw [hwn3]; exact okR_below XN2.out HB3.out)
          clear hwn3 HB3 HR3 RN2 XN2 HG HQ3 z0 z1 z2 z3 z4 z5 g0 g1 g2 g3 g4 g5
          obtain ⟨s0, s1, s2, s3, s4, s5⟩ := six_cells RN3.out.b0
          by_cases hz3 : cd3 = 0
          · subst hz3
            have HG := Lib.hid (show Good S3 (B + m * 4) by have h1 := HSO.out 4; rw [HJ3.out] at h1; exact h1.good)
            obtain ⟨p4, hp4⟩ : ∃ p, p = pRename S3 t n := ⟨_, rfl⟩
            obtain ⟨S4, cd4⟩ := p4
            have HQ4 := Lib.hid hp4
            have HJ4 := Lib.hid (show runTo S t n bs 5 = (S4, cd4) by rw [runTo_go (by rw [HJ3.out]), HJ3.out]; exact hp4.symm)
            clear hp4
            go_upto_region 13 with (first | (go_at_call 113; refine (refRename_calls _ (OkR w ok) e0 f0 e1 f1 e2 f2 e3 f3 S3 (B + m * 4) t n RN3.out.rf HG.out (HSJ.out 4 (by decide))).mono ?_; rw [← HQ4.out]; rintro e wk4 ⟨v, rfl, ⟨e0, f0, e1, f1, e2, f2, e3, f3, rfl, hr⟩, hb⟩; have HR4 := Lib.hid hr; have HB4 := Lib.hid hb; have k0 := blk_below RN3.out.b0 hb; obtain ⟨z0, z1, z2, z3, z4, z5⟩ := six_cells k0; obtain ⟨g0, g1, g2, g3, g4, g5⟩ := six_frozen k0; clear hr hb k0 s0 s1 s2 s3 s4 s5) | fail)
            obtain ⟨wn4, hwn4⟩ : ∃ wn, wn = ((((((wk4.setCell ⟨w.heap.size, 0, none⟩ (.slice e0 S4.files.length f0)).setCell ⟨w.heap.size, 1, none⟩ (.slice e1 S4.dir.length f1)).setCell ⟨w.heap.size, 2, none⟩ (.slice e2 S4.dur.length f2)).setCell ⟨w.heap.size, 3, none⟩ (.slice e3 S4.pend.length f3)).setCell ⟨w.heap.size, 4, none⟩ (.bool S4.lim)).setCell ⟨w.heap.size, 5, none⟩ (.int .i64 S4.left)) := ⟨_, rfl⟩
            rw [← hwn4]
            have RN4 := Lib.hid (show RS w wn4 ok e0 f0 e1 f1 e2 f2 e3 f3 S4 by rw [hwn4]; exact RN3.out.put HB4.out HR4.out)
            have XN4 := Lib.hid (show Rd kB wn4 (OkR w ok) Ab cb bs by rw [hwn4]; exact okR_below XN3.out HB4.out)
            clear hwn4 HB4 HR4 RN3 XN3 HG HQ4 z0 z1 z2 z3 z4 z5 g0 g1 g2 g3 g4 g5
            obtain ⟨s0, s1, s2, s3, s4, s5⟩ := six_cells RN4.out.b0
            by_cases hz4 : cd4 = 0
            · subst hz4
              have HG := Lib.hid (show Good S4 (B + m * 5) by have h1 := HSO.out 5; rw [HJ4.out] at h1; exact h1.good)
              obtain ⟨p5, hp5⟩ : ∃ p, p = pSyncDir S4  := ⟨_, rfl⟩
              obtain ⟨S5, cd5⟩ := p5
              have HQ5 := Lib.hid hp5
              have HJ5 := Lib.hid (show runTo S t n bs 6 = (S5, cd5) by rw [runTo_go (by rw [HJ4.out]), HJ4.out]; exact hp5.symm)
              clear hp5
              go_upto_region 15 with (first | (go_at_call 114; refine (refSyncDir_calls _ (OkR w ok) e0 f0 e1 f1 e2 f2 e3 f3 S4 (B + m * 5)  RN4.out.rf HG.out (HSJ.out 5 (by decide))).mono ?_; rw [← HQ5.out]; rintro e wk5 ⟨v, rfl, ⟨e0, f0, e1, f1, e2, f2, e3, f3, rfl, hr⟩, hb⟩; have HR5 := Lib.hid hr; have HB5 := Lib.hid hb; have k0 := blk_below RN4.out.b0 hb; obtain ⟨z0, z1, z2, z3, z4, z5⟩ := six_cells k0; obtain ⟨g0, g1, g2, g3, g4, g5⟩ := six_frozen k0; clear hr hb k0 s0 s1 s2 s3 s4 s5) | fail)
              obtain ⟨wn5, hwn5⟩ : ∃ wn, wn = ((((((wk5.setCell ⟨w.heap.size, 0, none⟩ (.slice e0 S5.files.length f0)).setCell ⟨w.heap.size, 1, none⟩ (.slice e1 S5.dir.length f1)).setCell ⟨w.heap.size, 2, none⟩ (.slice e2 S5.dur.length f2)).setCell ⟨w.heap.size, 3, none⟩ (.slice e3 S5.pend.length f3)).setCell ⟨w.heap.size, 4, none⟩ (.bool S5.lim)).setCell ⟨w.heap.size, 5, none⟩ (.int .i64 S5.left)) := ⟨_, rfl⟩
              rw [← hwn5]
              have RN5 := Lib.hid (show RS w wn5 ok e0 f0 e1 f1 e2 f2 e3 f3 S5 by rw [hwn5]; exact RN4.out.put HB5.out HR5.out)
              have XN5 := Lib.hid (show Rd kB wn5 (OkR w ok) Ab cb bs by rw [hwn5]; exact okR_below XN4.out HB5.out)
              clear hwn5 HB5 HR5 RN4 XN4 HG HQ5 z0 z1 z2 z3 z4 z5 g0 g1 g2 g3 g4 g5
              obtain ⟨s0, s1, s2, s3, s4, s5⟩ := six_cells RN5.out.b0
              have HP := Lib.hid (show pReplace S t n bs = (S5, cd5) from HJ5.out)
              obtain ⟨y0, y1, y2, y3, y4, y5⟩ := six_cells RN5.out.b1
              obtain ⟨x0, x1, x2, x3, x4, x5⟩ := six_frozen RN5.out.b1
              go_wp2_with fail
              rw [HP.out]
              obtain ⟨q1, q2, q3⟩ := fin_ref (ok := ok) (S := S5) RN5.out.bl RN5.out.b1 RN5.out.rf
              exact bodyPost_ret (results_ct rfl _ _ (w.heap.size + 1) tState _ (0, 0) _ rfl q1 Tryz.underlying31 rfl (by kernel_rfl)) rfl ⟨_, rfl, ⟨e0, f0, e1, f1, e2, f2, e3, f3, rfl, q3⟩, q2⟩
            · have HP := Lib.hid (show pReplace S t n bs = (S4, cd4) by
                have h1 := runTo_stop (S := S) (t := t) (n := n) (bs := bs) (j := 5) (by rw [HJ4.out]; exact hz4) 1
                exact h1.trans HJ4.out)
              have hne : (cd4 == 0) = false := by simpa using hz4
              obtain ⟨y0, y1, y2, y3, y4, y5⟩ := six_cells RN4.out.b1
              obtain ⟨x0, x1, x2, x3, x4, x5⟩ := six_frozen RN4.out.b1
              go_wp2_with fail
              rw [HP.out]
              obtain ⟨q1, q2, q3⟩ := fin_ref (ok := ok) (S := S4) RN4.out.bl RN4.out.b1 RN4.out.rf
              exact bodyPost_ret (results_ct rfl _ _ (w.heap.size + 1) tState _ (0, 0) _ rfl q1 Tryz.underlying31 rfl (by kernel_rfl)) rfl ⟨_, rfl, ⟨e0, f0, e1, f1, e2, f2, e3, f3, rfl, q3⟩, q2⟩
          · have HP := Lib.hid (show pReplace S t n bs = (S3, cd3) by
              have h1 := runTo_stop (S := S) (t := t) (n := n) (bs := bs) (j := 4) (by rw [HJ3.out]; exact hz3) 2
              exact h1.trans HJ3.out)
            have hne : (cd3 == 0) = false := by simpa using hz3
            obtain ⟨y0, y1, y2, y3, y4, y5⟩ := six_cells RN3.out.b1
            obtain ⟨x0, x1, x2, x3, x4, x5⟩ := six_frozen RN3.out.b1
            go_wp2_with fail
            rw [HP.out]
            obtain ⟨q1, q2, q3⟩ := fin_ref (ok := ok) (S := S3) RN3.out.bl RN3.out.b1 RN3.out.rf
            exact bodyPost_ret (results_ct rfl _ _ (w.heap.size + 1) tState _ (0, 0) _ rfl q1 Tryz.underlying31 rfl (by kernel_rfl)) rfl ⟨_, rfl, ⟨e0, f0, e1, f1, e2, f2, e3, f3, rfl, q3⟩, q2⟩
        · have HP := Lib.hid (show pReplace S t n bs = (S2, cd2) by
            have h1 := runTo_stop (S := S) (t := t) (n := n) (bs := bs) (j := 3) (by rw [HJ2.out]; exact hz2) 3
            exact h1.trans HJ2.out)
          have hne : (cd2 == 0) = false := by simpa using hz2
          obtain ⟨y0, y1, y2, y3, y4, y5⟩ := six_cells RN2.out.b1
          obtain ⟨x0, x1, x2, x3, x4, x5⟩ := six_frozen RN2.out.b1
          go_wp2_with fail
          rw [HP.out]
          obtain ⟨q1, q2, q3⟩ := fin_ref (ok := ok) (S := S2) RN2.out.bl RN2.out.b1 RN2.out.rf
          exact bodyPost_ret (results_ct rfl _ _ (w.heap.size + 1) tState _ (0, 0) _ rfl q1 Tryz.underlying31 rfl (by kernel_rfl)) rfl ⟨_, rfl, ⟨e0, f0, e1, f1, e2, f2, e3, f3, rfl, q3⟩, q2⟩
      · have HP := Lib.hid (show pReplace S t n bs = (S1, cd1) by
          have h1 := runTo_stop (S := S) (t := t) (n := n) (bs := bs) (j := 2) (by rw [HJ1.out]; exact hz1) 4
          exact h1.trans HJ1.out)
        have hne : (cd1 == 0) = false := by simpa using hz1
        obtain ⟨y0, y1, y2, y3, y4, y5⟩ := six_cells RN1.out.b1
        obtain ⟨x0, x1, x2, x3, x4, x5⟩ := six_frozen RN1.out.b1
        go_wp2_with fail
        rw [HP.out]
        obtain ⟨q1, q2, q3⟩ := fin_ref (ok := ok) (S := S1) RN1.out.bl RN1.out.b1 RN1.out.rf
        exact bodyPost_ret (results_ct rfl _ _ (w.heap.size + 1) tState _ (0, 0) _ rfl q1 Tryz.underlying31 rfl (by kernel_rfl)) rfl ⟨_, rfl, ⟨e0, f0, e1, f1, e2, f2, e3, f3, rfl, q3⟩, q2⟩
    · have HP := Lib.hid (show pReplace S t n bs = (S20, cd20) by
        have h1 := runTo_stop (S := S) (t := t) (n := n) (bs := bs) (j := 1) (by rw [HJ20.out]; exact hz20) 5
        exact h1.trans HJ20.out)
      have hne : (cd20 == 0) = false := by simpa using hz20
      obtain ⟨y0, y1, y2, y3, y4, y5⟩ := six_cells RN20.out.b1
      obtain ⟨x0, x1, x2, x3, x4, x5⟩ := six_frozen RN20.out.b1
      go_wp2_with fail
      rw [HP.out]
      obtain ⟨q1, q2, q3⟩ := fin_ref (ok := ok) (S := S20) RN20.out.bl RN20.out.b1 RN20.out.rf
      exact bodyPost_ret (results_ct rfl _ _ (w.heap.size + 1) tState _ (0, 0) _ rfl q1 Tryz.underlying31 rfl (by kernel_rfl)) rfl ⟨_, rfl, ⟨e0, f0, e1, f1, e2, f2, e3, f3, rfl, q3⟩, q2⟩
end Go.Proofs.YtehhafnjbkbmjaaGreat.Disk

/- The reference's log: Append, Rewrite. -/
namespace Go.Proofs.YtehhafnjbkbmjaaGreat.Disk
open Go Go.RowKit Go.Proofs.YtehhafnjbkbmjaaGreatW.PrintWords Go.Proofs.YtehhafnjbkbmjaaGreatW.PrintLast Go.Proofs.YtehhafnjbkbmjaaGreatW.PrintMore Go.Proofs.YtehhafnjbkbmjaaGreat.PCommitlogSequence
end Go.Proofs.YtehhafnjbkbmjaaGreat.Disk

/- The reference's log: Rewrite. -/
namespace Go.Proofs.YtehhafnjbkbmjaaGreat.Disk
open Go Go.RowKit Go.Proofs.YtehhafnjbkbmjaaGreatW.PrintWords Go.Proofs.YtehhafnjbkbmjaaGreatW.PrintLast Go.Proofs.YtehhafnjbkbmjaaGreatW.PrintMore Go.Proofs.YtehhafnjbkbmjaaGreat.PCommitlogSequence
end Go.Proofs.YtehhafnjbkbmjaaGreat.Disk

/- The reference's log: Open. -/
namespace Go.Proofs.YtehhafnjbkbmjaaGreat.Disk
open Go Go.RowKit Go.Proofs.YtehhafnjbkbmjaaGreatW.PrintWords Go.Proofs.YtehhafnjbkbmjaaGreatW.PrintLast Go.Proofs.YtehhafnjbkbmjaaGreatW.PrintMore Go.Proofs.YtehhafnjbkbmjaaGreat.PCommitlogSequence
end Go.Proofs.YtehhafnjbkbmjaaGreat.Disk

/- The commit log: a disk and a state of the reference, side by side; the end of a step. -/
namespace Go.Proofs.YtehhafnjbkbmjaaGreat.Disk
open Go Go.RowKit Go.Proofs.YtehhafnjbkbmjaaGreatW.PrintWords Go.Proofs.YtehhafnjbkbmjaaGreatW.PrintLast Go.Proofs.YtehhafnjbkbmjaaGreatW.PrintMore Go.Proofs.YtehhafnjbkbmjaaGreat.PCommitlogSequence
/-- A disk that stands as S and a state of the reference that is S2; the disk lies in F, the state's rows in ok. -/
structure Pair2 (w : World) (F ok : Nat → Prop) (d : Nat) (v : Value) (S S2 : PS) : Prop where
  rep : ∃ L, Rep w F d L S (Live S)
  ref : RefV w ok v S2
  lt : ∀ k, F k → k < w.heap.size
  apart : ∀ k, ok k → ¬ F k
abbrev Pair (w : World) (F ok : Nat → Prop) (d : Nat) (v : Value) (S : PS) : Prop := Pair2 w F ok d v S S
def okN (ok : Nat → Prop) (w : World) (F' : Nat → Prop) (k : Nat) : Prop := (ok k ∧ k < w.heap.size) ∨ (w.heap.size ≤ k ∧ ¬ F' k)
/-- What a step leaves. -/
def Stepped (w : World) (F ok : Nat → Prop) (d : Nat) (S : PS) (e : Ending) (w' : World) : Prop := ∃ v F', e = .returned (.tuple #[v, .bool true]) ∧ Pair w' F' (okN ok w F') d v S ∧ Chg w F w' F'
theorem chg_blk {w3 w4 : World} {F F' : Nat → Prop} {b : Nat} {o : Obj} (h : Chg w3 F w4 F') (hb : w3.heap[b]? = some o) (hF : ¬ F b) : w4.heap[b]? = some o := (h.fr.block b (lt_blk hb) hF).trans hb
theorem not_new {F : Nat → Prop} {n k : Nat} (h : ∀ k, F k → k < n) (hk : n ≤ k) : ¬ F k := fun e => by have := h k e; omega
theorem Ref.chg {w w' : World} {F F' ok : Nat → Prop} {a0 c0 a1 c1 a2 c2 a3 c3} {S : PS} (h : Ref w ok a0 c0 a1 c1 a2 c2 a3 c3 S) (hc : Chg w F w' F') (ha : ∀ k, ok k → ¬ F k) : Ref w' ok a0 c0 a1 c1 a2 c2 a3 c3 S := h.move (fun k hk hlt => hc.fr.block k hlt (ha k hk))
theorem set_six_other {w : World} {b n : Nat} {o : Obj} (h : w.heap[b]? = some o) (hb : b ≠ n) (y0 y1 y2 y3 y4 y5 : Value) :
    ((((((w.setCell ⟨n, 0, none⟩ y0).setCell ⟨n, 1, none⟩ y1).setCell ⟨n, 2, none⟩ y2).setCell ⟨n, 3, none⟩ y3).setCell ⟨n, 4, none⟩ y4).setCell ⟨n, 5, none⟩ y5).heap[b]? = some o := (other_six hb y0 y1 y2 y3 y4 y5).trans h
theorem step_core {w w3 w4 w5 w6 w7 : World} {F F' ok : Nat → Prop} {d : Nat} {L' : Lay} {S S2 : PS} {b0 : Option Addr} {d0 : Nat} {b1 : Option Addr} {d1 : Nat} {b2 : Option Addr} {d2 : Nat} {b3 : Option Addr} {d3 : Nat} {x0 x1 x2 x3 x4 x5 z0 z1 z2 z3 z4 z5 : Value}
    (hlt : ∀ k, F k → k < w.heap.size) (hap : ∀ k, ok k → ¬ F k) (hw : Below w.heap.size w w3) (hw3 : w.heap.size + 3 = w3.heap.size) (hc : Chg w3 F w4 F') (hr : Rep w4 F' d L' S (Live S)) (hb : Below w4.heap.size w4 w5)
    (hf : Ref w5 (fun k => (ok k ∧ k < w.heap.size) ∨ w4.heap.size ≤ k) b0 d0 b1 d1 b2 d2 b3 d3 S2)
    (far6 : ∀ k, k ≠ w.heap.size → w6.heap[k]? = w5.heap[k]?) (hs6 : w6.heap.size = w5.heap.size) (hb6 : Below w.heap.size w5 w6)
    (h7 : w7 = ((((((w6.setCell ⟨w.heap.size + 1 + 1, 0, none⟩ x0).setCell ⟨w.heap.size + 1 + 1, 1, none⟩ x1).setCell ⟨w.heap.size + 1 + 1, 2, none⟩ x2).setCell ⟨w.heap.size + 1 + 1, 3, none⟩ x3).setCell ⟨w.heap.size + 1 + 1, 4, none⟩ x4).setCell ⟨w.heap.size + 1 + 1, 5, none⟩ x5))
    (hz : w5.heap[w.heap.size + 1 + 1]? = some (.cells #[z0, z1, z2, z3, z4, z5] tState (0, 0))) :
    w7.heap[w.heap.size + 1 + 1]? = some (.cells #[x0, x1, x2, x3, x4, x5] tState (0, 0)) ∧ Pair2 w7 F' (okN ok w F') d (sv b0 d0 b1 d1 b2 d2 b3 d3 S2) S S2 ∧ Chg w F w7 F' := by
  have far : ∀ k, k ≠ w.heap.size → k ≠ w.heap.size + 1 + 1 → w7.heap[k]? = w5.heap[k]? := fun k k1 k2 => by
    rw [h7, other_six k2, far6 k k1]
  have hs4 : w3.heap.size ≤ w4.heap.size := hc.fr.size
  have hs5 := hb.size
  have hs7 : w7.heap.size = w5.heap.size := by rw [h7, ← hs6]; simp [World.setCell]
  have hb7 : Below w.heap.size w5 w7 := by rw [h7]; exact below_six hb6 (by omega) _ _ _ _ _ _
  have inF : ∀ k, F' k → k ≠ w.heap.size ∧ k ≠ w.heap.size + 1 + 1 := fun k hk => by
    rcases hc.new k hk with h | h
    · have := hlt k h; omega
    · omega
  have hz7 : w7.heap[w.heap.size + 1 + 1]? = some (.cells #[x0, x1, x2, x3, x4, x5] tState (0, 0)) := by
    rw [h7]
    exact set_six _ _ _ _ _ _ ((far6 _ (by omega)).trans hz)
  clear h7 hb6
  refine ⟨?_, ⟨⟨L', ?_⟩, ⟨b0, d0, b1, d1, b2, d2, b3, d3, rfl, ?_⟩, fun k hk => ?_, fun k hk hk' => ?_⟩, ?_, fun k hk => ?_, fun k hk => ?_⟩
  · exact hz7
  · exact (hr.below hb).move (fun k hk _ => far k (inF k hk).1 (inF k hk).2)
  · refine (hf.move (fun k hk _ => ?_)).mono (fun k hk _ => ?_)
    · have : k ≠ w.heap.size ∧ k ≠ w.heap.size + 1 + 1 := by rcases hk with hk | hk; have := hk.2; omega; omega
      exact far k this.1 this.2
    · rcases hk with hk | hk
      · exact .inl hk
      · exact .inr ⟨by omega, fun e => by have := hc.lt k e; omega⟩
  · have := hc.lt k hk; omega
  · rcases hk with hk | hk
    · rcases hc.new k hk' with h | h
      · exact hap k hk.1 h
      · have := hk.2; omega
    · exact hk.2 hk'
  · exact
      { os := hb7.os.trans (hb.os.trans (hc.fr.os.trans hw.os))
        tape := hb7.tape.trans (hb.tape.trans (hc.fr.tape.trans hw.tape))
        output := hb7.output.trans (hb.output.trans (hc.fr.output.trans hw.output))
        size := by have := hw.size; omega
        block := fun k hk hF => by
          have h3 := hw.size
          rw [far k (by omega) (by omega), hb.block k (by omega), hc.fr.block k (by omega) hF, hw.block k hk] }
  · rcases hc.new k hk with h | h
    · exact .inl h
    · exact .inr (by omega)
  · have := hc.lt k hk; omega
/-- The end of a step: the reference has gone first, then the disk. -/
theorem fin24 {w w3 w4 w5 : World} {F F' ok : Nat → Prop} {d : Nat} {L' : Lay} {S S2 : PS} {b0 : Option Addr} {d0 : Nat} {b1 : Option Addr} {d1 : Nat} {b2 : Option Addr} {d2 : Nat} {b3 : Option Addr} {d3 : Nat} {z0 z1 z2 z3 z4 z5 : Value}
    (hlt : ∀ k, F k → k < w.heap.size) (hap : ∀ k, ok k → ¬ F k) (hw : Below w.heap.size w w3) (hw3 : w.heap.size + 3 = w3.heap.size) (hb : Below w3.heap.size w3 w4)
    (hf : Ref w4 (fun k => (ok k ∧ k < w.heap.size) ∨ w3.heap.size ≤ k) b0 d0 b1 d1 b2 d2 b3 d3 S2) (hc : Chg w4 F w5 F') (hr : Rep w5 F' d L' S (Live S))
    (hz : w5.heap[w.heap.size + 1 + 1]? = some (.cells #[z0, z1, z2, z3, z4, z5] tState (0, 0))) :
    ((((((w5.setCell ⟨w.heap.size + 1 + 1, 0, none⟩ (.slice b0 S2.files.length d0)).setCell ⟨w.heap.size + 1 + 1, 1, none⟩ (.slice b1 S2.dir.length d1)).setCell ⟨w.heap.size + 1 + 1, 2, none⟩ (.slice b2 S2.dur.length d2)).setCell ⟨w.heap.size + 1 + 1, 3, none⟩ (.slice b3 S2.pend.length d3)).setCell ⟨w.heap.size + 1 + 1, 4, none⟩ (.bool S2.lim)).setCell ⟨w.heap.size + 1 + 1, 5, none⟩ (.int .i64 S2.left)).heap[w.heap.size + 1 + 1]? = some (.cells (svC b0 d0 b1 d1 b2 d2 b3 d3 S2) tState (0, 0)) ∧
    Pair2 ((((((w5.setCell ⟨w.heap.size + 1 + 1, 0, none⟩ (.slice b0 S2.files.length d0)).setCell ⟨w.heap.size + 1 + 1, 1, none⟩ (.slice b1 S2.dir.length d1)).setCell ⟨w.heap.size + 1 + 1, 2, none⟩ (.slice b2 S2.dur.length d2)).setCell ⟨w.heap.size + 1 + 1, 3, none⟩ (.slice b3 S2.pend.length d3)).setCell ⟨w.heap.size + 1 + 1, 4, none⟩ (.bool S2.lim)).setCell ⟨w.heap.size + 1 + 1, 5, none⟩ (.int .i64 S2.left)) F' (okN ok w F') d (sv b0 d0 b1 d1 b2 d2 b3 d3 S2) S S2 ∧
    Chg w F ((((((w5.setCell ⟨w.heap.size + 1 + 1, 0, none⟩ (.slice b0 S2.files.length d0)).setCell ⟨w.heap.size + 1 + 1, 1, none⟩ (.slice b1 S2.dir.length d1)).setCell ⟨w.heap.size + 1 + 1, 2, none⟩ (.slice b2 S2.dur.length d2)).setCell ⟨w.heap.size + 1 + 1, 3, none⟩ (.slice b3 S2.pend.length d3)).setCell ⟨w.heap.size + 1 + 1, 4, none⟩ (.bool S2.lim)).setCell ⟨w.heap.size + 1 + 1, 5, none⟩ (.int .i64 S2.left)) F' := by
  obtain ⟨w7, h7⟩ : ∃ w7, w7 = ((((((w5.setCell ⟨w.heap.size + 1 + 1, 0, none⟩ (.slice b0 S2.files.length d0)).setCell ⟨w.heap.size + 1 + 1, 1, none⟩ (.slice b1 S2.dir.length d1)).setCell ⟨w.heap.size + 1 + 1, 2, none⟩ (.slice b2 S2.dur.length d2)).setCell ⟨w.heap.size + 1 + 1, 3, none⟩ (.slice b3 S2.pend.length d3)).setCell ⟨w.heap.size + 1 + 1, 4, none⟩ (.bool S2.lim)).setCell ⟨w.heap.size + 1 + 1, 5, none⟩ (.int .i64 S2.left)) := ⟨_, rfl⟩
  rw [← h7]
  have far : ∀ k, k ≠ w.heap.size + 1 + 1 → w7.heap[k]? = w5.heap[k]? := fun k k2 => by rw [h7, other_six k2]
  have hs4 := hb.size
  have hs5 : w4.heap.size ≤ w5.heap.size := hc.fr.size
  have hs7 : w7.heap.size = w5.heap.size := by rw [h7]; simp [World.setCell]
  have hb7 : Below w.heap.size w5 w7 := by rw [h7]; exact below_six (Below.refl _ _) (by omega) _ _ _ _ _ _
  have hz7 : w7.heap[w.heap.size + 1 + 1]? = some (.cells (svC b0 d0 b1 d1 b2 d2 b3 d3 S2) tState (0, 0)) := by rw [h7]; exact set_six _ _ _ _ _ _ hz
  have inF : ∀ k, F' k → k ≠ w.heap.size + 1 + 1 := fun k hk => by
    rcases hc.new k hk with h | h
    · have := hlt k h; omega
    · omega
  clear h7
  refine ⟨hz7, ⟨⟨L', hr.move (fun k hk _ => far k (inF k hk))⟩, ⟨b0, d0, b1, d1, b2, d2, b3, d3, rfl, ?_⟩, fun k hk => ?_, fun k hk hk' => ?_⟩, ?_, fun k hk => ?_, fun k hk => ?_⟩
  · have h1 : Ref w5 (fun k => (ok k ∧ k < w.heap.size) ∨ (w3.heap.size ≤ k ∧ k < w4.heap.size)) b0 d0 b1 d1 b2 d2 b3 d3 S2 := (hf.mono (ok' := fun k => (ok k ∧ k < w.heap.size) ∨ (w3.heap.size ≤ k ∧ k < w4.heap.size)) (fun k hk hlt4 => by
        rcases hk with hk | hk
        · exact .inl hk
        · exact .inr ⟨hk, hlt4⟩)).chg hc (fun k hk hF => by
      rcases hk with hk | hk
      · exact hap k hk.1 hF
      · have := hlt k hF; omega)
    refine (h1.move (fun k hk _ => far k ?_)).mono (fun k hk _ => ?_)
    · rcases hk with hk | hk
      · have := hk.2; omega
      · omega
    · rcases hk with hk | hk
      · exact .inl hk
      · refine .inr ⟨by omega, fun e => ?_⟩
        rcases hc.new k e with h | h
        · have := hlt k h; omega
        · omega
  · have := hc.lt k hk; omega
  · rcases hk with hk | hk
    · rcases hc.new k hk' with h | h
      · exact hap k hk.1 h
      · have := hk.2; omega
    · exact hk.2 hk'
  · exact
      { os := hb7.os.trans (hc.fr.os.trans (hb.os.trans hw.os))
        tape := hb7.tape.trans (hc.fr.tape.trans (hb.tape.trans hw.tape))
        output := hb7.output.trans (hc.fr.output.trans (hb.output.trans hw.output))
        size := by have := hw.size; omega
        block := fun k hk hF => by
          have h3 := hw.size
          rw [far k (by omega), hc.fr.block k (by omega) hF, hb.block k (by omega), hw.block k hk] }
  · rcases hc.new k hk with h | h
    · exact .inl h
    · exact .inr (by omega)
  · have := hc.lt k hk; omega
end Go.Proofs.YtehhafnjbkbmjaaGreat.Disk

/- The reference of layer 21: names; equal lists of names. -/
namespace Go.Proofs.YtehhafnjbkbmjaaGreat.Disk
open Go.Proofs.YtehhafnjbkbmjaaGreat.PObjstoreSequence (laminaref21_temporary.f laminaref21_temporary.calls laminaref21_IsName.f laminaref21_IsName.l0 laminaref21_IsName.j0 laminaref21_IsName.calls laminalaw21_texts.f laminalaw21_texts.l0 laminalaw21_texts.j1 laminalaw21_texts.calls)
open Go Go.RowKit Go.Proofs.YtehhafnjbkbmjaaGreatW.PrintWords Go.Proofs.YtehhafnjbkbmjaaGreatW.PrintLast Go.Proofs.YtehhafnjbkbmjaaGreatW.PrintMore Go.Proofs.YtehhafnjbkbmjaaGreat.PCommitlogSequence
theorem rtmp_f (s : ByteArray) : laminaref21_temporary.f s = some (isTmp s) := by
  unfold laminaref21_temporary.f isTmp
  by_cases h : 4 ≤ s.size
  · rw [if_pos (by omega), if_pos (by omega), if_pos (by omega)]
    rw [show ([116, 109, 112, 45] : List UInt8) = sTmp.toList by kernel_rfl]
    simp [h]
  · rw [if_neg (by omega)]
    simp [h]
theorem rtmp_calls (w : World) (n : ByteArray) : Calls Tryz.prog 81 #[.string n] w fun e w' => e = .returned (.bool (isTmp n)) ∧ Drawn0 w w' := laminaref21_temporary.calls n _ w (rtmp_f n)
theorem rname_round (k : Nat) (s : ByteArray) (i : Nat) (h : i < s.size) (h60 : s.size ≤ 60) : laminaref21_IsName.l0 (k + 1) s i = if okC s[i] then laminaref21_IsName.l0 k s ((i + 1 : Nat) : Int) else some false := by
  have e : wrap64 ((i : Int) + 1) = ((i + 1 : Nat) : Int) := by unfold wrap64; omega
  simp only [laminaref21_IsName.l0, bt_at s i h, e]
  unfold okC
  rw [if_pos (show (i : Int) < s.size by omega), if_pos (show (0 : Int) ≤ i by omega)]
  by_cases hb : s[i].toNat = 45 ∨ (48 ≤ s[i].toNat ∧ s[i].toNat ≤ 57) ∨ (97 ≤ s[i].toNat ∧ s[i].toNat ≤ 122)
  · simp only [hb, decide_true, if_true]
    repeat' split
    all_goals first | rfl | (exfalso; omega)
  · simp only [hb, decide_false]
    repeat' split
    all_goals first | rfl | (exfalso; omega) | contradiction
theorem rname_l0 (s : ByteArray) (h60 : s.size ≤ 60) : ∀ (d k i : Nat), s.size - i = d → i ≤ s.size → d < k → laminaref21_IsName.l0 k s i = some ((s.data.toList.drop i).all okC) := by
  intro d
  induction d with
  | zero =>
    intro k i hd hi hk
    obtain ⟨k, rfl⟩ : ∃ m, k = m + 1 := ⟨k - 1, by omega⟩
    obtain rfl : i = s.size := by omega
    simp only [laminaref21_IsName.l0]
    rw [if_neg (by omega), List.drop_of_length_le (by rw [data_length]; omega)]
    rfl
  | succ d ih =>
    intro k i hd hi hk
    obtain ⟨k, rfl⟩ : ∃ m, k = m + 1 := ⟨k - 1, by omega⟩
    have hlt : i < s.size := by omega
    rw [rname_round k s i hlt h60, drop_at s i hlt, List.all_cons]
    cases hb : okC s[i]
    · simp
    · simp only [if_true, Bool.true_and]
      exact ih k (i + 1) (by omega) (by omega) (by omega)
theorem rname_f (s : ByteArray) (k : Nat) (hk : 62 < k) : laminaref21_IsName.f k s = some (okObj s) := by
  obtain ⟨k, rfl⟩ : ∃ m, k = m + 1 := ⟨k - 1, by omega⟩
  unfold laminaref21_IsName.f okObj
  by_cases h1 : 1 ≤ s.size
  · rw [if_neg (by omega)]
    by_cases h60 : s.size ≤ 60
    · rw [if_neg (by omega), rtmp_f]
      simp only [Option.bind_some, laminaref21_IsName.j0]
      cases ht : isTmp s
      · rw [if_neg (by simp), show (0 : Int) = ((0 : Nat) : Int) from rfl, rname_l0 s h60 s.size k 0 (by omega) (by omega) (by omega)]
        simp [h1, h60]
      · simp
    · rw [if_pos (by omega)]
      simp [laminaref21_IsName.j0, h60]
  · rw [if_pos (by omega)]
    simp [laminaref21_IsName.j0, h1]
theorem rname_calls (w : World) (n : ByteArray) : Calls Tryz.prog 77 #[.string n] w fun e w' => e = .returned (.bool (okObj n)) ∧ Drawn0 w w' := laminaref21_IsName.calls 63 n _ w (rname_f n 63 (by omega))
theorem texts_l0 (a : List ByteArray) (hl : a.length ≤ 1099511627776) : ∀ (d k i : Nat), a.length - i = d → i ≤ a.length → 2 * d + 1 < k → laminalaw21_texts.l0 k a a i = some true := by
  intro d
  induction d with
  | zero =>
    intro k i hd hi hk
    obtain ⟨k, rfl⟩ : ∃ m, k = m + 2 := ⟨k - 2, by omega⟩
    simp only [laminalaw21_texts.l0, laminalaw21_texts.j1]
    rw [if_neg (by omega)]
    simp
  | succ d ih =>
    intro k i hd hi hk
    obtain ⟨k, rfl⟩ : ∃ m, k = m + 2 := ⟨k - 2, by omega⟩
    have hlt : i < a.length := by omega
    have e : wrap64 ((i : Int) + 1) = ((i + 1 : Nat) : Int) := by unfold wrap64; omega
    simp only [laminalaw21_texts.l0, laminalaw21_texts.j1]
    rw [if_pos (by omega), if_pos (by simp; omega), if_pos (by omega), if_pos (by omega), if_pos (by omega), if_pos trivial, e]
    exact ih k (i + 1) (by omega) (by omega) (by omega)
/-- Two lists that are alike. -/
theorem texts_calls (w : World) (A : Option Addr) (c : Nat) (A2 : Option Addr) (c2 : Nat) (l : List ByteArray) (h : Kd.C Kd.string w A l.length l) (hc : l.length ≤ c) (h2 : Kd.C Kd.string w A2 l.length l) (hc2 : l.length ≤ c2) (hl : l.length ≤ 1099511627776) :
    Calls Tryz.prog 36 #[.slice A l.length c, .slice A2 l.length c2] w fun e w' => e = .returned (.bool true) ∧ Drawn0 w w' := by
  refine laminalaw21_texts.calls (2 * l.length + 3) A c l A2 c2 l true w h hc h2 hc2 ?_
  unfold laminalaw21_texts.f
  rw [if_pos rfl]
  exact texts_l0 l hl l.length _ 0 (by omega) (by omega) (by omega)
end Go.Proofs.YtehhafnjbkbmjaaGreat.Disk

/- The object store, plain: the reference's way of removing; how many entries a directory can have. -/
namespace Go.Proofs.YtehhafnjbkbmjaaGreat.Disk
open Go Go.RowKit Go.Proofs.YtehhafnjbkbmjaaGreatW.PrintWords Go.Proofs.YtehhafnjbkbmjaaGreatW.PrintLast Go.Proofs.YtehhafnjbkbmjaaGreatW.PrintMore Go.Proofs.YtehhafnjbkbmjaaGreat.PCommitlogSequence
/-- One name of a row that is removed, by the test p. -/
def rmStep (p : PS → ByteArray → Bool) (r : (PS × Int) × Bool) (z : ByteArray) : (PS × Int) × Bool :=
  if r.1.2 = 0 then (if p r.1.1 z then (pRemove r.1.1 z, true) else r) else r
def rfTo (S : PS) (zs : List ByteArray) (j : Nat) : (PS × Int) × Bool := (zs.take j).foldl (rmStep pHas) ((S, 0), false)
def pRfAll (S : PS) (zs : List ByteArray) : PS × Int :=
  if (rfTo S zs zs.length).1.2 = 0 then (if (rfTo S zs zs.length).2 then pSyncDir (rfTo S zs zs.length).1.1 else (rfTo S zs zs.length).1) else (rfTo S zs zs.length).1
theorem rfTo_succ (S : PS) (zs : List ByteArray) (j : Nat) (hj : j < zs.length) : rfTo S zs (j + 1) = rmStep pHas (rfTo S zs j) zs[j] := by
  unfold rfTo
  rw [List.take_succ_eq_append_getElem hj, List.foldl_append]
  rfl
theorem rfTo_stop (S : PS) (zs : List ByteArray) (j : Nat) (h : (rfTo S zs j).1.2 ≠ 0) : rfTo S zs zs.length = rfTo S zs j := by
  have key : ∀ (l : List ByteArray) (r : (PS × Int) × Bool), r.1.2 ≠ 0 → l.foldl (rmStep pHas) r = r := by
    intro l
    induction l with
    | nil => intro r _; rfl
    | cons z l ih =>
      intro r hr
      rw [List.foldl_cons, show rmStep pHas r z = r by unfold rmStep; rw [if_neg hr]]
      exact ih r hr
  unfold rfTo at h ⊢
  rw [List.take_length]
  conv => lhs; rw [← List.take_append_drop j zs, List.foldl_append]
  exact key _ _ h
theorem delTo_fold (S : PS) (zs : List ByteArray) : ∀ j, j ≤ zs.length → delTo S zs j = (zs.take j).foldl (rmStep pExists) ((S, 0), false)
  | 0, _ => rfl
  | j + 1, hj => by
    have hj' : j < zs.length := by omega
    rw [List.take_succ_eq_append_getElem hj', List.foldl_append, ← delTo_fold S zs j (by omega)]
    show (if _ then (if _ then _ else _) else _) = _
    have e : zs.getD j ByteArray.empty = zs[j] := by simp [List.getD, hj']
    rw [e]
    rfl
theorem fold_filter (zs : List ByteArray) : ∀ r, zs.foldl (rmStep pExists) r = (zs.filter okObj).foldl (rmStep pHas) r := by
  induction zs with
  | nil => intro r; rfl
  | cons z zs ih =>
    intro r
    rw [List.foldl_cons, ih]
    cases ho : okObj z
    · rw [List.filter_cons_of_neg (by rw [ho]; exact Bool.false_ne_true)]
      congr 1
      unfold rmStep pExists
      rw [ho]
      simp
    · rw [List.filter_cons_of_pos ho, List.foldl_cons]
      congr 1
      unfold rmStep pExists
      rw [ho]
      simp
/-- The program passes over names that are no object's, the reference strikes them first. -/
theorem rfAll_objs (S : PS) (zs : List ByteArray) : pRfAll S (zs.filter okObj) = pDelete S zs := by
  have e : rfTo S (zs.filter okObj) (zs.filter okObj).length = delTo S zs zs.length := by
    rw [delTo_fold S zs _ (Nat.le_refl _)]
    unfold rfTo
    rw [List.take_length, List.take_length, fold_filter]
  unfold pRfAll pDelete
  rw [e]
theorem pHas_iff (S : PS) (z : ByteArray) : pHas S z = true ↔ ∃ e ∈ S.dir, e.f0 = z := by
  unfold pHas
  simp
theorem has_remove {S : PS} {y z : ByteArray} (h : pHas S z = true) (hne : z ≠ y) : pHas (pRemove S y).1 z = true := by
  rw [pHas_iff] at h ⊢
  obtain ⟨e, he, rfl⟩ := h
  unfold pRemove
  split
  · split
    · refine ⟨e, ?_, rfl⟩
      show e ∈ pApply S.dir ⟨3, y, ⟨#[]⟩, 0⟩
      unfold pApply
      rw [if_neg (by simp), if_neg (by simp)]
      unfold pWithout
      exact List.mem_filter.2 ⟨he, by simp [hne]⟩
    · exact ⟨e, he, rfl⟩
  · exact ⟨e, he, rfl⟩
theorem has_rmTo {S : PS} {zs : List ByteArray} (hn : zs.Nodup) (hh : ∀ z ∈ zs, pHas S z = true) : ∀ j, j ≤ zs.length → ∀ (i : Nat) (hi : i < zs.length), j ≤ i → pHas (rmTo S zs j).1 zs[i] = true
  | 0, _, i, hi, _ => hh _ (List.getElem_mem hi)
  | j + 1, hj, i, hi, hji => by
    have ih := has_rmTo hn hh j (by omega) i hi (by omega)
    show pHas (if _ then _ else _ : PS × Int).1 _ = true
    split
    · refine has_remove ih (fun e => ?_)
      have hj' : j < zs.length := by omega
      rw [show zs.getD j ByteArray.empty = zs[j] by simp [List.getD, hj']] at e
      exact (List.pairwise_iff_getElem.1 hn) j i hj' hi (by omega) e.symm
    · exact ih
theorem rfTo_rm {S : PS} {zs : List ByteArray} (hn : zs.Nodup) (hh : ∀ z ∈ zs, pHas S z = true) : ∀ j, j ≤ zs.length → rfTo S zs j = (rmTo S zs j, decide (0 < j))
  | 0, _ => rfl
  | j + 1, hj => by
    have hj' : j < zs.length := by omega
    rw [rfTo_succ S zs j hj', rfTo_rm hn hh j (by omega)]
    unfold rmStep
    by_cases h0 : (rmTo S zs j).2 = 0
    · rw [if_pos h0, if_pos (has_rmTo hn hh j (by omega) j hj' (Nat.le_refl _)), rmTo_go h0]
      simp [List.getD, hj']
    · rw [if_neg h0, rmTo_stop h0 1]
      have : j ≠ 0 := fun e => by subst e; exact h0 rfl
      have h1 : decide (0 < j) = true := by simp; omega
      rw [h1]
      simp
theorem rfAll_all {S : PS} {zs : List ByteArray} (hn : zs.Nodup) (hh : ∀ z ∈ zs, pHas S z = true) : pRfAll S zs = pRemoveAll S zs := by
  unfold pRfAll pRemoveAll
  rw [rfTo_rm hn hh _ (Nat.le_refl _)]
  by_cases hz : zs = []
  · subst hz
    simp [rmTo]
  · have : 0 < zs.length := List.length_pos_iff.2 hz
    rw [if_neg hz]
    simp [this]
theorem sorted_nodup {l : List Ent} (h : Sorted l) : (l.map (·.f0)).Nodup := by
  unfold List.Nodup
  rw [List.pairwise_map]
  exact h.imp (fun {a b} hab => less_ne hab)
theorem rfAll_tmps {S : PS} (h : Sorted S.dir) : pRfAll S (pTmps S) = pRemoveAll S (pTmps S) := by
  refine rfAll_all ((sorted_nodup h).filter _) (fun z hz => ?_)
  unfold pTmps pDirNames at hz
  rw [pHas_iff]
  obtain ⟨h1, _⟩ := List.mem_filter.1 hz
  obtain ⟨e, he, rfl⟩ := List.mem_map.1 h1
  exact ⟨e, he, rfl⟩
/-! ### how many entries -/
def addsOp (o : Opn) : Bool := decide (o.f0 = 1 ∨ o.f0 = 2)
def adds (l : List Opn) : Nat := (l.filter addsOp).length
theorem without_length (l : List Ent) (n : ByteArray) : (pWithout l n).length ≤ l.length := by unfold pWithout; exact List.length_filter_le _ _
theorem apply_length (l : List Ent) (o : Opn) : (pApply l o).length ≤ l.length + (if addsOp o then 1 else 0) := by
  unfold pApply addsOp
  split
  · rename_i h
    simp only [h]
    have := pWith_length l o.f1 o.f3
    simpa using this
  · split
    · rename_i h
      have h2 := without_length l o.f1
      split
      · rename_i i _
        have h3 := pWith_length (pWithout l o.f1) o.f2 i
        simp only [h]
        simp
        omega
      · omega
    · have := without_length l o.f1
      omega
theorem foldl_apply_length : ∀ (ops : List Opn) (l : List Ent), (ops.foldl pApply l).length ≤ l.length + adds ops
  | [], l => by simp [adds]
  | o :: r, l => by
    rw [List.foldl_cons]
    have h1 := foldl_apply_length r (pApply l o)
    have h2 := apply_length l o
    have h3 : adds (o :: r) = (if addsOp o then 1 else 0) + adds r := by
      unfold adds
      cases h : addsOp o <;> simp [List.filter, h]
      omega
    omega
theorem adds_take (l : List Opn) (n : Nat) : adds (l.take n) ≤ adds l := by
  unfold adds
  exact ((List.take_sublist n l).filter _).length_le
theorem adds_snoc (l : List Opn) (o : Opn) : adds (l ++ [o]) = adds l + (if addsOp o then 1 else 0) := by
  unfold adds
  rw [List.filter_append, List.length_append]
  cases h : addsOp o <;> simp [List.filter, h]
/-- At most K entries, now and behind any crash. -/
structure Few (S : PS) (K : Nat) : Prop where
  dir : S.dir.length ≤ K
  dur : S.dur.length + adds S.pend ≤ K
theorem Few.mono {S : PS} {K K' : Nat} (h : Few S K) (hk : K ≤ K') : Few S K' := ⟨Nat.le_trans h.dir hk, Nat.le_trans h.dur hk⟩
theorem Few.new : Few pNew 0 := ⟨Nat.le_refl _, Nat.le_refl _⟩
theorem Few.done {S : PS} {K : Nat} (h : Few S K) : Few (pDone S) K := ⟨h.dir, h.dur⟩
theorem Few.addOp {S : PS} {K : Nat} (h : Few S K) (o : Opn) : Few (pDir S o) (K + (if addsOp o then 1 else 0)) := by
  refine ⟨?_, ?_⟩
  · have := apply_length S.dir o
    have h1 := h.dir
    show (pApply S.dir o).length ≤ _
    omega
  · show S.dur.length + adds (S.pend ++ [o]) ≤ _
    rw [adds_snoc]
    have := h.dur
    omega
theorem Few.create {S : PS} {K : Nat} {n : ByteArray} (h : Few S K) : Few (pCreate S n).1 (K + 1) := by
  unfold pCreate
  split
  · split
    · exact h.mono (by omega)
    · exact ((Few.addOp (S := { S with files := S.files ++ [⟨[], 0⟩] }) ⟨h.dir, h.dur⟩ ⟨1, n, ⟨#[]⟩, S.files.length⟩).done).mono (by simp [addsOp])
  · exact h.mono (by omega)
theorem Few.remove {S : PS} {K : Nat} {n : ByteArray} (h : Few S K) : Few (pRemove S n).1 K := by
  unfold pRemove
  split
  · split
    · exact (h.addOp ⟨3, n, ⟨#[]⟩, 0⟩).done.mono (by simp [addsOp])
    · exact h
  · exact h
theorem Few.rename {S : PS} {K : Nat} {m n : ByteArray} (h : Few S K) : Few (pRename S m n).1 (K + 1) := by
  unfold pRename
  split
  · split
    · split
      · exact h.done.mono (by omega)
      · exact (h.addOp ⟨2, m, n, 0⟩).done.mono (by simp [addsOp])
    · exact h.mono (by omega)
  · exact h.mono (by omega)
theorem Few.append {S : PS} {K : Nat} {n : ByteArray} {b : List Int} (h : Few S K) : Few (pAppend S n b).1 K := by
  unfold pAppend
  split
  · split
    · exact Few.done ⟨h.dir, h.dur⟩
    · exact h
  · exact h
theorem Few.sync {S : PS} {K : Nat} {n : ByteArray} (h : Few S K) : Few (pSync S n).1 K := by
  unfold pSync
  split
  · split
    · exact Few.done ⟨h.dir, h.dur⟩
    · exact h
  · exact h
theorem Few.syncDir {S : PS} {K : Nat} (h : Few S K) : Few (pSyncDir S).1 K := by
  unfold pSyncDir
  split
  · exact Few.done ⟨h.dir, by show S.dir.length + adds [] ≤ K; have := h.dir; simp [adds]; omega⟩
  · exact h
theorem Few.fail {S : PS} {K : Nat} {n : Int} (h : Few S K) : Few (pFail S n) K := ⟨h.dir, h.dur⟩
theorem Few.crash {S : PS} {K : Nat} {n : Int} {cs : List Cf} (h : Few S K) : Few (pCrash S n cs) K := by
  have h1 : (pCrashDir S n).length ≤ K := by
    unfold pCrashDir
    have h2 := foldl_apply_length (S.pend.take n.toNat) S.dur
    have h3 := adds_take S.pend n.toNat
    have := h.dur
    omega
  have h4 : (newDir (pCrashDir S n) (pCrashDir S n).length).length = (pCrashDir S n).length := newDir_length _ _ (Nat.le_refl _)
  refine ⟨?_, ?_⟩
  · show (newDir (pCrashDir S n) (pCrashDir S n).length).length ≤ K
    omega
  · show (newDir (pCrashDir S n) (pCrashDir S n).length).length + adds [] ≤ K
    simp [adds]
    omega
theorem Few.stepF {S : PS} {K : Nat} {t n : ByteArray} {bs : List Int} (h : Few S K) (j : Nat) : Few (stepF t n bs j S).1 (K + 1) := by
  unfold Disk.stepF
  split
  · unfold pClear
    split
    · exact h.remove.mono (by omega)
    · exact h.mono (by omega)
  · exact h.create
  · exact h.append.mono (by omega)
  · exact h.sync.mono (by omega)
  · exact h.rename
  · exact h.syncDir.mono (by omega)
theorem Few.runTo {S : PS} {K : Nat} {t n : ByteArray} {bs : List Int} (h : Few S K) : ∀ j, Few (runTo S t n bs j).1 (K + j)
  | 0 => h
  | j + 1 => by
    have ih := Few.runTo (t := t) (n := n) (bs := bs) h j
    show Few (if _ then _ else _ : PS × Int).1 _
    split
    · exact ih.stepF j
    · exact ih.mono (by omega)
theorem Few.put {S : PS} {K : Nat} {n : ByteArray} {l : List Int} (h : Few S K) : Few (pPut S n l).1 (K + 6) := by
  unfold pPut
  split
  · exact h.mono (by omega)
  · split
    · exact h.mono (by omega)
    · exact h.runTo 6
theorem Few.delTo {S : PS} {K : Nat} {zs : List ByteArray} (h : Few S K) : ∀ j, Few (delTo S zs j).1.1 K
  | 0 => h
  | j + 1 => by
    have ih := Few.delTo (zs := zs) h j
    show Few (if _ then (if _ then _ else _) else _ : (PS × Int) × Bool).1.1 _
    split
    · split
      · exact ih.remove
      · exact ih
    · exact ih
theorem Few.delete {S : PS} {K : Nat} {zs : List ByteArray} (h : Few S K) : Few (pDelete S zs).1 K := by
  unfold pDelete
  split
  · split
    · exact (h.delTo _).syncDir
    · exact h.delTo _
  · exact h.delTo _
theorem Few.rmTo {S : PS} {K : Nat} {zs : List ByteArray} (h : Few S K) : ∀ j, Few (rmTo S zs j).1 K
  | 0 => h
  | j + 1 => by
    have ih := Few.rmTo (zs := zs) h j
    show Few (if _ then _ else _ : PS × Int).1 _
    split
    · exact ih.remove
    · exact ih
theorem Few.removeAll {S : PS} {K : Nat} {zs : List ByteArray} (h : Few S K) : Few (pRemoveAll S zs).1 K := by
  unfold pRemoveAll
  split
  · exact h
  · split
    · exact (h.rmTo _).syncDir
    · exact h.rmTo _
end Go.Proofs.YtehhafnjbkbmjaaGreat.Disk

/- The reference of layer 21: Exists, List, remove, Delete, RemoveTemporary. -/
namespace Go.Proofs.YtehhafnjbkbmjaaGreat.Disk
open Go Go.RowKit Go.Proofs.YtehhafnjbkbmjaaGreatW.PrintWords Go.Proofs.YtehhafnjbkbmjaaGreatW.PrintLast Go.Proofs.YtehhafnjbkbmjaaGreatW.PrintMore Go.Proofs.YtehhafnjbkbmjaaGreat.PCommitlogSequence
theorem drawn0_below {w w' : World} (h : Drawn0 w w') : Below w.heap.size w w' := fr_below ((Fr.refl (fun _ => False) w).drawn h)
abbrev OkO (w : World) (ok : Nat → Prop) : Nat → Prop := fun k => (ok k ∧ k < w.heap.size) ∨ w.heap.size + 1 ≤ k
/-- The state in its box. -/
structure RO (w wn : World) (ok : Nat → Prop) (a0 : Option Addr) (c0 : Nat) (a1 : Option Addr) (c1 : Nat) (a2 : Option Addr) (c2 : Nat) (a3 : Option Addr) (c3 : Nat) (S : PS) : Prop where
  b0 : wn.heap[w.heap.size]? = some (.cells (svC a0 c0 a1 c1 a2 c2 a3 c3 S) tState (0, 0))
  bl : Below w.heap.size w wn
  rf : Ref wn (OkO w ok) a0 c0 a1 c1 a2 c2 a3 c3 S
theorem RO.below {w wn wk : World} {ok : Nat → Prop} {a0 c0 a1 c1 a2 c2 a3 c3} {S : PS} (h : RO w wn ok a0 c0 a1 c1 a2 c2 a3 c3 S) (hb : Below wn.heap.size wn wk) : RO w wk ok a0 c0 a1 c1 a2 c2 a3 c3 S :=
  ⟨blk_below h.b0 hb, h.bl.trans (hb.mono h.bl.size), h.rf.below hb⟩
theorem RO.new {w : World} {ok : Nat → Prop} {a0 c0 a1 c1 a2 c2 a3 c3} {S : PS} (h : Ref w ok a0 c0 a1 c1 a2 c2 a3 c3 S) : RO w (w.alloc (.cells (svC a0 c0 a1 c1 a2 c2 a3 c3 S) tState)) ok a0 c0 a1 c1 a2 c2 a3 c3 S :=
  ⟨heap_alloc_new w _, Below.of_alloc' w _, (h.mono (ok' := OkO w ok) (fun _ h1 h2 => .inl ⟨h1, h2⟩)).below (Below.of_alloc' w _)⟩
set_option maxHeartbeats 4000000 in
set_option maxRecDepth 100000 in
theorem refExists_calls (w : World) (ok : Nat → Prop) (a0 : Option Addr) (c0 : Nat) (a1 : Option Addr) (c1 : Nat) (a2 : Option Addr) (c2 : Nat) (a3 : Option Addr) (c3 : Nat) (S : PS) (B : Nat) (n : ByteArray) (h : Ref w ok a0 c0 a1 c1 a2 c2 a3 c3 S) (hg : Good S B) (hB : B ≤ 549755813888) :
    Calls Tryz.prog 35 #[sv a0 c0 a1 c1 a2 c2 a3 c3 S, .string n] w fun e w' => e = .returned (.bool (pExists S n)) ∧ Below w.heap.size w w' := by
  obtain ⟨w1, hw1⟩ : ∃ w1, w1 = w.alloc (.cells (svC a0 c0 a1 c1 a2 c2 a3 c3 S) tState) := ⟨_, rfl⟩
  have R1 := Lib.hid (show RO w w1 ok a0 c0 a1 c1 a2 c2 a3 c3 S by rw [hw1]; exact RO.new h)
  have HW1 := Lib.hid (show w1 = w.alloc (.cells #[.slice a0 S.files.length c0, .slice a1 S.dir.length c1, .slice a2 S.dur.length c2, .slice a3 S.pend.length c3, .bool S.lim, .int .i64 S.left] tState) from hw1)
  have HG := Lib.hid hg
  obtain ⟨s0, s1, s2, s3, s4, s5⟩ := six_cells R1.out.b0
  clear h hg hw1
  cases ho : okObj n
  · have HO := Lib.hid ho
    clear ho
    go_enter Tryz.func35, Tryz.ntmps35
    go_upto_region 1 with (fail)
    rw [← HW1.out]
    go_wp2_with (first | (go_at_call 77; refine (rname_calls _ n).mono ?_; rw [HO.out]; rintro e w2 ⟨rfl, hd⟩; have R2 := Lib.hid (R1.out.below (drawn0_below hd)); clear hd) | fail)
    go_ret
    exact ⟨by unfold pExists; rw [HO.out]; rfl, R2.out.bl⟩
  · have HO := Lib.hid ho
    clear ho
    go_enter Tryz.func35, Tryz.ntmps35
    go_upto_region 1 with (fail)
    rw [← HW1.out]
    go_wp2_with (first
      | (go_at_call 77; refine (rname_calls _ n).mono ?_; rw [HO.out]; rintro e w2 ⟨rfl, hd⟩; have R2 := Lib.hid (R1.out.below (drawn0_below hd)); clear s0 s1 s2 s3 s4 s5; obtain ⟨s0, s1, s2, s3, s4, s5⟩ := six_cells R2.out.b0; clear hd)
      | (go_at_call 92; refine (refHas_calls _ (OkO w ok) a0 c0 a1 c1 a2 c2 a3 c3 S B n R2.out.rf HG.out hB).mono ?_; rintro e w3 ⟨rfl, hb⟩; have R3 := Lib.hid (R2.out.below hb); clear hb)
      | fail)
    go_ret
    exact ⟨by unfold pExists; rw [HO.out]; rfl, R3.out.bl⟩
theorem name_cell {w : World} {A : Option Addr} {l : List ByteArray} (h : Kd.C kS w A l.length l) (j : Nat) (hj : j < l.length) : ∃ ad, A = some ad ∧ w.cell? (ad.add j) = some (.string l[j]) := by
  obtain ⟨ad, e, h1⟩ := str_at h j hj
  refine ⟨ad, e, ?_⟩
  rw [h1]
  simp [List.getD, hj]
/-- A loop that picks the names of which p holds. -/
def PickRel (w2 : World) (p : ByteArray → Bool) (zs : List ByteArray) (i v : Value) (wx : World) : Prop :=
  ∃ j : Nat, j ≤ zs.length ∧ i = .int .i64 j ∧ Kd.R Kd.string 9 wx w2.heap.size (fun _ => True) v ((zs.take j).filter p) ∧ Below w2.heap.size w2 wx
theorem take_pick (p : ByteArray → Bool) (zs : List ByteArray) (j : Nat) (hj : j < zs.length) : (zs.take (j + 1)).filter p = (zs.take j).filter p ++ (if p zs[j] then [zs[j]] else []) := by
  rw [List.take_add_one, List.getElem?_eq_getElem hj, List.filter_append]
  simp [List.filter]
  cases p zs[j] <;> rfl
set_option maxHeartbeats 4000000 in
set_option maxRecDepth 100000 in
theorem refObjs_calls (w : World) (ok : Nat → Prop) (a0 : Option Addr) (c0 : Nat) (a1 : Option Addr) (c1 : Nat) (a2 : Option Addr) (c2 : Nat) (a3 : Option Addr) (c3 : Nat) (S : PS) (B : Nat) (h : Ref w ok a0 c0 a1 c1 a2 c2 a3 c3 S) (hg : Good S B) (hB : B ≤ 549755813888) :
    Calls Tryz.prog 37 #[sv a0 c0 a1 c1 a2 c2 a3 c3 S] w fun e w' => ∃ A c, e = .returned (.slice A (pObjs S).length c) ∧ Rd Kd.string w' (fun k => w.heap.size ≤ k) A c (pObjs S) ∧ Below w.heap.size w w' := by
  obtain ⟨w1, hw1⟩ : ∃ w1, w1 = w.alloc (.cells (svC a0 c0 a1 c1 a2 c2 a3 c3 S) tState) := ⟨_, rfl⟩
  have R1 := Lib.hid (show RO w w1 ok a0 c0 a1 c1 a2 c2 a3 c3 S by rw [hw1]; exact RO.new h)
  have HW1 := Lib.hid (show w1 = w.alloc (.cells #[.slice a0 S.files.length c0, .slice a1 S.dir.length c1, .slice a2 S.dur.length c2, .slice a3 S.pend.length c3, .bool S.lim, .int .i64 S.left] tState) from hw1)
  have HG := Lib.hid hg
  obtain ⟨s0, s1, s2, s3, s4, s5⟩ := six_cells R1.out.b0
  obtain ⟨zs, hzs⟩ : ∃ zs, zs = S.dir.map (·.f0) := ⟨_, rfl⟩
  have HZ := Lib.hid hzs
  have hlen : zs.length ≤ 549755813888 := by rw [hzs, List.length_map]; have := hg.nDir; omega
  have HP := Lib.hid (show pObjs S = zs.filter okObj by rw [hzs]; rfl)
  rw [HP.out]
  clear h hg hw1 hzs
  go_enter Tryz.func37, Tryz.ntmps37
  go_upto_region 1 with (fail)
  rw [← HW1.out]
  go_wp2_with (first | (go_at_call 38; refine (refList_calls _ (OkO w ok) a0 c0 a1 c1 a2 c2 a3 c3 S B R1.out.rf HG.out hB).mono ?_; rw [← HZ.out]; rintro e w2 ⟨A2, d2, rfl, hr, hb⟩; have V2 := Lib.hid hr; have R2 := Lib.hid (R1.out.below hb); clear hb hr) | fail)
  go_loopw [5, 3] (fun i v wx => PickRel w2 okObj zs i v wx) (fun i _ _ => zs.length - (intOf i).toNat)
  case atStart => exact ⟨0, Nat.zero_le _, rfl, Kd.R_nil _ _ _ _ _, Below.refl _ _⟩
  case round =>
    obtain ⟨j, hj, rfl, hr, hb⟩ := hrel
    have HR := Lib.hid hr
    have HB := Lib.hid hb
    have VJ := Lib.hid (V2.out.below hb)
    clear hr hb
    obtain ⟨Av, cv, rfl⟩ := Kd.R_slice HR.out
    by_cases hlt : j < zs.length
    · have HTK := Lib.hid (take_pick okObj zs j hlt)
      obtain ⟨ad, hA, q0⟩ := name_cell VJ.out.now j hlt
      subst hA
      obtain ⟨x, hx⟩ : ∃ x, x = zs[j] := ⟨_, rfl⟩
      rw [← hx] at q0 HTK
      have hfl : ((zs.take j).filter okObj).length ≤ 549755813888 := Nat.le_trans (List.length_filter_le _ _) (by simp; omega)
      have HFL := Lib.hid hfl
      clear hx
      cases ho : okObj x
      · have HO := Lib.hid ho
        rw [ho] at HTK
        clear ho
        go_wp2_with (first | (go_at_call 77; refine (rname_calls _ x).mono ?_; rw [HO.out]; rintro e w3 ⟨rfl, hd⟩; have hb3 := drawn0_below hd; have HB3 := Lib.hid hb3; have HR3 := Lib.hid (Kd.R_below HR.out hb3); clear hd hb3) | fail)
        go_roundw
        case rel => exact ⟨j + 1, by omega, by go_num, by rw [HTK.out]; simpa using HR3.out, HB.out.trans (HB3.out.mono HB.out.size)⟩
        case measure => simp [intOf]; omega
      · have HO := Lib.hid ho
        rw [ho] at HTK
        clear ho
        go_wp2_with (first
          | (go_at_call 77; refine (rname_calls _ x).mono ?_; rw [HO.out]; rintro e w3 ⟨rfl, hd⟩; have hb3 := drawn0_below hd; have HB3 := Lib.hid (HB.out.trans (hb3.mono HB.out.size)); have HR3 := Lib.hid (Kd.R_below HR.out hb3); have q3 := (hb3.cell (World.block_lt_of_cell? _ _ q0)).trans q0; clear hd hb3 q0)
          | ((with_reducible refine gate_builtin (b := .append) (xs := #[.tmp 19, .tmp 24]) rfl ?_); at_builtin; refine Kd.R_append Kd.string (w0 := w2) w2.heap.size rfl (.tmp 19) (.tmp 24) 35 9 (.string ⟨#[]⟩) 16 rfl Tryz.underlying35 infoS rfl (by decide) (by decide) (.slice Av ((zs.take j).filter okObj).length cv) ((zs.take j).filter okObj) x [.string x] (fun _ => True) (fun _ => False) rfl rfl ?aP (fun _ hk => hk.elim) (fun _ _ => trivial) ?aO ?aB ?aS ?aL ?_; (case aP => exact rfl); (case aO => exact (by (with_reducible repeat (first | apply Kd.R_alloc | apply Kd.R_drewN | apply Kd.R_drew)); exact HR3.out)); (case aB => exact (by repeat (first | (with_reducible first | exact HB3.out | apply below_alloc | apply pw_below_drewN | apply below_drew1) | exact HB3.out))); (case aS => exact (below_size (by repeat (first | (with_reducible first | exact HB3.out | apply below_alloc | apply pw_below_drewN | apply below_drew1) | exact HB3.out)))); (case aL => have := HFL.out; omega); intro v4 w4 hr4 hb4 hg4 hat4; have HR4 := Lib.hid hr4; have HB4 := Lib.hid hb4; clear hr4 hb4 hg4 hat4)
          | fail)
        go_roundw
        case rel => exact ⟨j + 1, by omega, by go_num, by rw [HTK.out]; exact HR4.out, HB4.out⟩
        case measure => simp [intOf]; omega
    · obtain rfl : j = zs.length := by omega
      have hr := HR.out
      rw [List.take_length] at hr ⊢
      obtain ⟨Al, cl, he, hrd⟩ := Rd.ofR hr
      injection he with e1 _ e3
      subst e1
      subst e3
      go_wp2_with fail
      go_ret
      exact ⟨_, _, rfl, hrd.mono (fun k hk _ => by have := R2.out.bl.size; have := hk.1; omega), R2.out.bl.trans (HB.out.mono R2.out.bl.size)⟩
end Go.Proofs.YtehhafnjbkbmjaaGreat.Disk

/- The reference of layer 2: Seal, Open. -/
namespace Go.Proofs.YtehhafnjbkbmjaaGreat.Disk
open Go Go.RowKit Go.Proofs.YtehhafnjbkbmjaaGreatW.PrintWords Go.Proofs.YtehhafnjbkbmjaaGreatW.PrintLast Go.Proofs.YtehhafnjbkbmjaaGreatW.PrintMore Go.Proofs.YtehhafnjbkbmjaaGreat.PCommitlogSequence
def SlRel (w1 : World) (l : List Int) (n : Nat) (i v : Value) (wx : World) : Prop :=
  ∃ j : Nat, j ≤ 4 ∧ i = .int .i64 j ∧ Kd.R kB 5 wx w1.heap.size (fun _ => True) v (l ++ (le4 n).take j) ∧ Below w1.heap.size w1 wx
set_option maxHeartbeats 4000000 in
set_option maxRecDepth 100000 in
theorem refSeal_calls (w : World) (A : Option Addr) (c : Nat) (l : List Int) (h : Kd.C kB w A l.length l) (hl : l.length ≤ 549755813888) (hw : ∀ x ∈ l, 0 ≤ x ∧ x ≤ 255) :
    Calls Tryz.prog 79 #[.slice A l.length c] w fun e w' => ∃ A' c', e = .returned (.slice A' (sealF l).length c') ∧ Rd kB w' (fun k => w.heap.size ≤ k) A' c' (sealF l) ∧ Below w.heap.size w w' := by
  have H := Lib.hid h
  have HW := Lib.hid hw
  have HC := Lib.hid (crcF_lt hw)
  obtain ⟨n, hn⟩ : ∃ n, n = crcF l := ⟨_, rfl⟩
  have HN := Lib.hid hn
  have HS := Lib.hid (show sealF l = l ++ le4 n by rw [hn]; rfl)
  rw [HS.out]
  clear h hw hn
  go_enter Tryz.func79, Tryz.ntmps79
  go_wp2_with (first
    | (go_at_call 115; refine (Update_calls _ A c l HC3.out (by omega) HW.out).mono ?_; rw [← HN.out]; rintro e w4 ⟨rfl, hd⟩; have hb4 := fr_below ((Fr.refl (fun _ => False) w3).drawn hd); have HB4 := Lib.hid (HB3.out.trans (hb4.mono HB3.out.size)); have HR4 := Lib.hid (Kd.R_below HR3.out hb4); clear hd hb4)
    | (at_builtin; (refine print_append_row (w0 := w) w.heap.size rfl _ _ 36 5 .u8 1 rfl Tryz.underlying36 infoB (by decide) (.slice none 0 0) [] l A l.length c rfl rfl (World.ownsRow_nil _ _ _ _) (reads_of_C H.out) (Below.refl _ _) (Nat.le_refl _) (by simp only [List.length_nil]; omega) ?_); intro v3 w3 ho3 hb3 hg3 hat3; have HR3 := Lib.hid (show Kd.R kB 5 w3 w.heap.size (fun _ => True) v3 ([] ++ l) from Kd.R_of_own ho3 (fun _ _ => trivial)); have HB3 := Lib.hid hb3; have HC3 := Lib.hid (Kd.C_below H.out hb3); clear ho3 hb3 hg3 hat3)
    | fail)
  go_loopw [3, 5] (fun v i wx => SlRel w l n i v wx) (fun _ i _ => 4 - (intOf i).toNat)
  case atStart => exact ⟨0, by omega, rfl, by simpa using HR4.out, HB4.out⟩
  case round =>
    obtain ⟨j, hj, rfl, hr, hb⟩ := hrel
    obtain ⟨P, hP⟩ : ∃ P, P = l ++ (le4 n).take j := ⟨_, rfl⟩
    rw [← hP] at hr
    have HP := Lib.hid hP
    have HR := Lib.hid hr
    have HB := Lib.hid hb
    have hlen : P.length ≤ 549755813892 := by rw [hP]; simp [le4]; omega
    have HLEN := Lib.hid hlen
    have HN32 := Lib.hid (show n < 4294967296 by rw [HN.out]; exact HC.out)
    clear hr hb hP hlen
    obtain ⟨Av, cv, rfl⟩ := Kd.R_slice HR.out
    by_cases hlt : j < 4
    · obtain rfl | rfl | rfl | rfl : j = 0 ∨ j = 1 ∨ j = 2 ∨ j = 3 := by omega
      · have HE := Lib.hid (show l ++ (le4 n).take 1 = P ++ [((n : Int) % 256)] by rw [HP.out]; simp [le4])
        go_wp2_with (first
          | ((with_reducible refine gate_builtin (b := .append) (xs := #[.tmp 15, .tmp 22]) rfl ?_); at_builtin; refine Kd.R_append kB (w0 := w) w.heap.size rfl (.tmp 15) (.tmp 22) 36 5 (.int .u8 0) 1 rfl Tryz.underlying36 infoB rfl (by decide) (by decide) (.slice Av P.length cv) P ((n : Int) % 256) [.int .u8 ((n : Int) % 256)] (fun _ => True) (fun _ => False) rfl rfl ?aP (fun _ hk => hk.elim) (fun _ _ => trivial) ?aO ?aB ?aS ?aL ?_; (case aP => exact rfl); (case aO => exact (by (with_reducible repeat (first | apply Kd.R_alloc | apply Kd.R_drewN | apply Kd.R_drew)); exact HR.out)); (case aB => exact (by repeat (first | (with_reducible first | exact HB.out | apply below_alloc | apply pw_below_drewN | apply below_drew1) | exact HB.out))); (case aS => exact (below_size (by repeat (first | (with_reducible first | exact HB.out | apply below_alloc | apply pw_below_drewN | apply below_drew1) | exact HB.out)))); (case aL => have := HLEN.out; omega); intro v5 w5 hr5 hb5 hg5 hat5; have HR5 := Lib.hid hr5; have HB5 := Lib.hid hb5; clear hr5 hb5 hg5 hat5)
          | fail)
        go_roundw
        case rel => exact ⟨1, by omega, by go_num, by rw [HE.out]; exact HR5.out, HB5.out⟩
        case measure => simp [intOf]
      · have HE := Lib.hid (show l ++ (le4 n).take 2 = P ++ [((n : Int) / 256 % 256)] by rw [HP.out]; simp [le4])
        go_wp2_with (first
          | ((with_reducible refine gate_builtin (b := .append) (xs := #[.tmp 15, .tmp 22]) rfl ?_); at_builtin; refine Kd.R_append kB (w0 := w) w.heap.size rfl (.tmp 15) (.tmp 22) 36 5 (.int .u8 0) 1 rfl Tryz.underlying36 infoB rfl (by decide) (by decide) (.slice Av P.length cv) P ((n : Int) / 256 % 256) [.int .u8 ((n : Int) / 256 % 256)] (fun _ => True) (fun _ => False) rfl rfl ?aP (fun _ hk => hk.elim) (fun _ _ => trivial) ?aO ?aB ?aS ?aL ?_; (case aP => exact rfl); (case aO => exact (by (with_reducible repeat (first | apply Kd.R_alloc | apply Kd.R_drewN | apply Kd.R_drew)); exact HR.out)); (case aB => exact (by repeat (first | (with_reducible first | exact HB.out | apply below_alloc | apply pw_below_drewN | apply below_drew1) | exact HB.out))); (case aS => exact (below_size (by repeat (first | (with_reducible first | exact HB.out | apply below_alloc | apply pw_below_drewN | apply below_drew1) | exact HB.out)))); (case aL => have := HLEN.out; omega); intro v5 w5 hr5 hb5 hg5 hat5; have HR5 := Lib.hid hr5; have HB5 := Lib.hid hb5; clear hr5 hb5 hg5 hat5)
          | fail)
        go_roundw
        case rel => exact ⟨2, by omega, by go_num, by rw [HE.out]; exact HR5.out, HB5.out⟩
        case measure => simp [intOf]
      · have HE := Lib.hid (show l ++ (le4 n).take 3 = P ++ [((n : Int) / 65536 % 256)] by rw [HP.out]; simp [le4])
        go_wp2_with (first
          | ((with_reducible refine gate_builtin (b := .append) (xs := #[.tmp 15, .tmp 22]) rfl ?_); at_builtin; refine Kd.R_append kB (w0 := w) w.heap.size rfl (.tmp 15) (.tmp 22) 36 5 (.int .u8 0) 1 rfl Tryz.underlying36 infoB rfl (by decide) (by decide) (.slice Av P.length cv) P ((n : Int) / 65536 % 256) [.int .u8 ((n : Int) / 65536 % 256)] (fun _ => True) (fun _ => False) rfl rfl ?aP (fun _ hk => hk.elim) (fun _ _ => trivial) ?aO ?aB ?aS ?aL ?_; (case aP => exact rfl); (case aO => exact (by (with_reducible repeat (first | apply Kd.R_alloc | apply Kd.R_drewN | apply Kd.R_drew)); exact HR.out)); (case aB => exact (by repeat (first | (with_reducible first | exact HB.out | apply below_alloc | apply pw_below_drewN | apply below_drew1) | exact HB.out))); (case aS => exact (below_size (by repeat (first | (with_reducible first | exact HB.out | apply below_alloc | apply pw_below_drewN | apply below_drew1) | exact HB.out)))); (case aL => have := HLEN.out; omega); intro v5 w5 hr5 hb5 hg5 hat5; have HR5 := Lib.hid hr5; have HB5 := Lib.hid hb5; clear hr5 hb5 hg5 hat5)
          | fail)
        go_roundw
        case rel => exact ⟨3, by omega, by go_num, by rw [HE.out]; exact HR5.out, HB5.out⟩
        case measure => simp [intOf]
      · have HE := Lib.hid (show l ++ (le4 n).take 4 = P ++ [((n : Int) / 16777216 % 256)] by rw [HP.out]; simp [le4])
        go_wp2_with (first
          | ((with_reducible refine gate_builtin (b := .append) (xs := #[.tmp 15, .tmp 22]) rfl ?_); at_builtin; refine Kd.R_append kB (w0 := w) w.heap.size rfl (.tmp 15) (.tmp 22) 36 5 (.int .u8 0) 1 rfl Tryz.underlying36 infoB rfl (by decide) (by decide) (.slice Av P.length cv) P ((n : Int) / 16777216 % 256) [.int .u8 ((n : Int) / 16777216 % 256)] (fun _ => True) (fun _ => False) rfl rfl ?aP (fun _ hk => hk.elim) (fun _ _ => trivial) ?aO ?aB ?aS ?aL ?_; (case aP => exact rfl); (case aO => exact (by (with_reducible repeat (first | apply Kd.R_alloc | apply Kd.R_drewN | apply Kd.R_drew)); exact HR.out)); (case aB => exact (by repeat (first | (with_reducible first | exact HB.out | apply below_alloc | apply pw_below_drewN | apply below_drew1) | exact HB.out))); (case aS => exact (below_size (by repeat (first | (with_reducible first | exact HB.out | apply below_alloc | apply pw_below_drewN | apply below_drew1) | exact HB.out)))); (case aL => have := HLEN.out; omega); intro v5 w5 hr5 hb5 hg5 hat5; have HR5 := Lib.hid hr5; have HB5 := Lib.hid hb5; clear hr5 hb5 hg5 hat5)
          | fail)
        go_roundw
        case rel => exact ⟨4, by omega, by go_num, by rw [HE.out]; exact HR5.out, HB5.out⟩
        case measure => simp [intOf]
    · obtain rfl : j = 4 := by omega
      have hr := HR.out
      rw [show P = l ++ le4 n by rw [HP.out]; rfl] at hr ⊢
      obtain ⟨Al, cl, he, hrd⟩ := Rd.ofR hr
      injection he with e1 _ e3
      subst e1
      subst e3
      go_wp2_with fail
      go_ret
      exact ⟨_, _, rfl, hrd.mono (fun k hk _ => hk.1), HB.out⟩
end Go.Proofs.YtehhafnjbkbmjaaGreat.Disk

/- The reference of layer 2: Open. -/
namespace Go.Proofs.YtehhafnjbkbmjaaGreat.Disk
open Go Go.RowKit Go.Proofs.YtehhafnjbkbmjaaGreatW.PrintWords Go.Proofs.YtehhafnjbkbmjaaGreatW.PrintLast Go.Proofs.YtehhafnjbkbmjaaGreatW.PrintMore Go.Proofs.YtehhafnjbkbmjaaGreat.PCommitlogSequence
def OpRel (w1 : World) (l : List Int) (o n : Nat) (i : Value) (wx : World) : Prop := ∃ j : Nat, j ≤ 4 ∧ i = .int .i64 j ∧ (∀ k, k < j → byteN l (o + k) = n / 256 ^ k % 256) ∧ Below w1.heap.size w1 wx
set_option maxHeartbeats 4000000 in
set_option maxRecDepth 100000 in
theorem refUnseal_calls (w : World) (A : Option Addr) (c : Nat) (l : List Int) (h : Kd.C kB w A l.length l) (hc : l.length ≤ c) (hl : l.length ≤ 549755813888) (hw : ∀ x ∈ l, 0 ≤ x ∧ x ≤ 255) :
    Calls Tryz.prog 91 #[.slice A l.length c] w fun e w' => ∃ A' c', e = .returned (.tuple #[.slice A' (openF l).1.length c', .int .i64 (openF l).2]) ∧ Rd kB w' (fun k => w.heap.size ≤ k) A' c' (openF l).1 ∧ Below w.heap.size w w' := by
  by_cases h4 : l.length < 4
  · have h4' : (l.length : Int) - 4 < 0 := by omega
    have e : openF l = ([], 2) := by unfold openF; rw [if_pos h4]
    rw [e]
    clear h hw
    go_enter Tryz.func91, Tryz.ntmps91
    go_wp2_with fail
    go_ret2
    exact ⟨none, 0, rfl, Rd.nil _ _ _, Below.refl _ _⟩
  · obtain ⟨o, ho⟩ : ∃ o, o + 4 = l.length := ⟨l.length - 4, by omega⟩
    have e : openF l = if crcF (l.take o) = valN l o 4 then (l.take o, 0) else ([], 5) := by
      unfold openF
      rw [if_neg h4, show l.length - 4 = o by omega]
    have HE := Lib.hid e
    have H := Lib.hid h
    have HW := Lib.hid hw
    have hs : (l.length : Int) - 4 = (o : Int) := by omega
    have hs0 : (0 : Int) ≤ (o : Int) := by omega
    have hs1 : (o : Int) ≤ (c : Int) := by omega
    have HL := Lib.hid hl
    have HO := Lib.hid ho
    have htl : (l.take o).length = o := by simp; omega
    have h2 := Kd.C_take h (show o ≤ l.length by omega)
    rw [htl] at h2
    have HT := Lib.hid h2
    have HTL := Lib.hid htl
    have HLT := Lib.hid (crcF_lt (l := l.take o) (fun x hx => hw x (List.mem_of_mem_take hx)))
    have HUP := Lib.hid (Update_calls w A c (l.take o) (by rw [htl]; exact h2) (by omega) (fun x hx => hw x (List.mem_of_mem_take hx)))
    rw [htl] at HUP
    obtain ⟨n, hn⟩ : ∃ n, n = crcF (l.take o) := ⟨_, rfl⟩
    rw [← hn] at HLT HUP HE
    have HN := Lib.hid hn
    clear h hw e h4 htl h2 hn
    go_enter Tryz.func91, Tryz.ntmps91
    go_wp2_with (first
      | (go_at_call 115; refine HUP.out.mono ?_; rintro e w1 ⟨rfl, hd⟩; have HB1 := Lib.hid (fr_below ((Fr.refl (fun _ => False) w).drawn hd)); clear hd)
      | fail)
    go_loopw [6] (fun i wx => OpRel w1 l o n i wx) (fun i _ => 4 - (intOf i).toNat)
    case atStart => exact ⟨0, by omega, rfl, by intro k hk; omega, Below.refl _ _⟩
    case round =>
      obtain ⟨j, hj, rfl, hall, hb⟩ := hrel
      have HALL := Lib.hid hall
      have HB := Lib.hid (HB1.out.trans (hb.mono HB1.out.size))
      have HBJ := Lib.hid hb
      have HN32 := Lib.hid HLT.out
      clear hall hb
      by_cases hlt : j < 4
      · have hol : o + j < l.length := by omega
        obtain ⟨ad, hA, q0⟩ := byte_cell (Kd.C_below H.out HB.out) (o + j) hol
        subst hA
        have hx := HW.out _ (List.getElem_mem hol)
        obtain ⟨x, hxe⟩ : ∃ x : Nat, l[o + j] = (x : Int) := ⟨l[o + j].toNat, by omega⟩
        have HBY := Lib.hid (show byteN l (o + j) = x by simp [byteN, List.getD, hol, hxe])
        rw [hxe] at q0 hx
        clear hxe
        obtain rfl | rfl | rfl | rfl : j = 0 ∨ j = 1 ∨ j = 2 ∨ j = 3 := by omega
        · rw [Nat.add_zero] at q0 HBY
          by_cases hq : (x : Int) = ((n : Int) % 256)
          · have HQ := Lib.hid hq
            have hb0 : ((x : Int) != ((n : Int) % 256)) = false := by simpa using hq
            clear hq
            go_wp2_with fail
            go_roundw
            case rel =>
              refine ⟨1, by omega, by go_num, fun k hk => ?_, HBJ.out⟩
              by_cases hk2 : k < 0
              · exact HALL.out k hk2
              · obtain rfl : k = 0 := by omega
                have h1 := HBY.out
                have h2 := HQ.out
                simp at h1 h2 ⊢
                omega
            case measure => simp [intOf]
          · have HQ := Lib.hid hq
            have hb0 : ((x : Int) != ((n : Int) % 256)) = true := by simpa using hq
            clear hq
            have HP := Lib.hid (show openF l = ([], 5) by
              rw [HE.out, if_neg]
              intro e
              have h1 := HBY.out
              have h2 := HQ.out
              have b0 := byteN_lt HW.out o
              have b1 := byteN_lt HW.out (o + 1)
              have b2 := byteN_lt HW.out (o + 2)
              have b3 := byteN_lt HW.out (o + 3)
              simp only [valN] at e
              omega)
            go_wp2_with fail
            go_ret2
            rw [HP.out]
            exact ⟨none, 0, rfl, Rd.nil _ _ _, HB.out⟩
        · rw [Addr.add_succ'] at q0
          by_cases hq : (x : Int) = ((n : Int) / 256 % 256)
          · have HQ := Lib.hid hq
            have hb0 : ((x : Int) != ((n : Int) / 256 % 256)) = false := by simpa using hq
            clear hq
            go_wp2_with fail
            go_roundw
            case rel =>
              refine ⟨2, by omega, by go_num, fun k hk => ?_, HBJ.out⟩
              by_cases hk2 : k < 1
              · exact HALL.out k hk2
              · obtain rfl : k = 1 := by omega
                have h1 := HBY.out
                have h2 := HQ.out
                simp at h1 h2 ⊢
                omega
            case measure => simp [intOf]
          · have HQ := Lib.hid hq
            have hb0 : ((x : Int) != ((n : Int) / 256 % 256)) = true := by simpa using hq
            clear hq
            have HP := Lib.hid (show openF l = ([], 5) by
              rw [HE.out, if_neg]
              intro e
              have h1 := HBY.out
              have h2 := HQ.out
              have b0 := byteN_lt HW.out o
              have b1 := byteN_lt HW.out (o + 1)
              have b2 := byteN_lt HW.out (o + 2)
              have b3 := byteN_lt HW.out (o + 3)
              simp only [valN] at e
              omega)
            go_wp2_with fail
            go_ret2
            rw [HP.out]
            exact ⟨none, 0, rfl, Rd.nil _ _ _, HB.out⟩
        · rw [show o + 2 = (o + 1) + 1 from rfl, Addr.add_succ'] at q0
          by_cases hq : (x : Int) = ((n : Int) / 65536 % 256)
          · have HQ := Lib.hid hq
            have hb0 : ((x : Int) != ((n : Int) / 65536 % 256)) = false := by simpa using hq
            clear hq
            go_wp2_with fail
            go_roundw
            case rel =>
              refine ⟨3, by omega, by go_num, fun k hk => ?_, HBJ.out⟩
              by_cases hk2 : k < 2
              · exact HALL.out k hk2
              · obtain rfl : k = 2 := by omega
                have h1 := HBY.out
                have h2 := HQ.out
                simp at h1 h2 ⊢
                omega
            case measure => simp [intOf]
          · have HQ := Lib.hid hq
            have hb0 : ((x : Int) != ((n : Int) / 65536 % 256)) = true := by simpa using hq
            clear hq
            have HP := Lib.hid (show openF l = ([], 5) by
              rw [HE.out, if_neg]
              intro e
              have h1 := HBY.out
              have h2 := HQ.out
              have b0 := byteN_lt HW.out o
              have b1 := byteN_lt HW.out (o + 1)
              have b2 := byteN_lt HW.out (o + 2)
              have b3 := byteN_lt HW.out (o + 3)
              simp only [valN] at e
              omega)
            go_wp2_with fail
            go_ret2
            rw [HP.out]
            exact ⟨none, 0, rfl, Rd.nil _ _ _, HB.out⟩
        · rw [show o + 3 = (o + 2) + 1 from rfl, Addr.add_succ'] at q0
          by_cases hq : (x : Int) = ((n : Int) / 16777216 % 256)
          · have HQ := Lib.hid hq
            have hb0 : ((x : Int) != ((n : Int) / 16777216 % 256)) = false := by simpa using hq
            clear hq
            go_wp2_with fail
            go_roundw
            case rel =>
              refine ⟨4, by omega, by go_num, fun k hk => ?_, HBJ.out⟩
              by_cases hk2 : k < 3
              · exact HALL.out k hk2
              · obtain rfl : k = 3 := by omega
                have h1 := HBY.out
                have h2 := HQ.out
                simp at h1 h2 ⊢
                omega
            case measure => simp [intOf]
          · have HQ := Lib.hid hq
            have hb0 : ((x : Int) != ((n : Int) / 16777216 % 256)) = true := by simpa using hq
            clear hq
            have HP := Lib.hid (show openF l = ([], 5) by
              rw [HE.out, if_neg]
              intro e
              have h1 := HBY.out
              have h2 := HQ.out
              have b0 := byteN_lt HW.out o
              have b1 := byteN_lt HW.out (o + 1)
              have b2 := byteN_lt HW.out (o + 2)
              have b3 := byteN_lt HW.out (o + 3)
              simp only [valN] at e
              omega)
            go_wp2_with fail
            go_ret2
            rw [HP.out]
            exact ⟨none, 0, rfl, Rd.nil _ _ _, HB.out⟩
      · obtain rfl : j = 4 := by omega
        have HP := Lib.hid (show openF l = (l.take o, 0) by
          rw [HE.out, if_pos]
          have h0 := HALL.out 0 (by omega)
          have h1 := HALL.out 1 (by omega)
          have h2 := HALL.out 2 (by omega)
          have h3 := HALL.out 3 (by omega)
          have h4 := HN32.out
          simp at h0 h1 h2 h3
          simp only [valN]
          omega)
        go_wp2_with (first
          | (at_builtin; refine print_append_row (w0 := w) w.heap.size rfl _ _ 36 5 .u8 1 rfl Tryz.underlying36 infoB (by decide) (.slice none 0 0) [] (l.take o) A o c rfl rfl (World.ownsRow_nil _ _ _ _) (reads_of_C (Kd.C_below HT.out HB.out)) HB.out HB.out.size (by have := HO.out; have := HL.out; simp only [List.length_nil]; omega) ?_; intro v3 w3 ho3 hb3 hg3 hat3; have HO3 := Lib.hid ho3; have HB3 := Lib.hid hb3; clear ho3 hb3 hg3 hat3)
          | fail)
        have h := HO3.out
        rw [List.nil_append] at h
        obtain ⟨A3, c3, rfl, _⟩ := own_bytes (l := l.take o) (by have e1 : (l.take o).length = o := HTL.out; rw [e1]; first | exact h | (rw [e1] at h; exact h))
        go_ret2
        rw [HP.out]
        exact ⟨_, _, rfl, Rd.ofOwn (by first | exact h | (rw [HTL.out]; exact h)), HB3.out⟩
end Go.Proofs.YtehhafnjbkbmjaaGreat.Disk

/- The reference of layer 21: Put, Get. -/
namespace Go.Proofs.YtehhafnjbkbmjaaGreat.Disk
open Go Go.RowKit Go.Proofs.YtehhafnjbkbmjaaGreatW.PrintWords Go.Proofs.YtehhafnjbkbmjaaGreatW.PrintLast Go.Proofs.YtehhafnjbkbmjaaGreatW.PrintMore Go.Proofs.YtehhafnjbkbmjaaGreat.PCommitlogSequence
set_option maxHeartbeats 4000000 in
set_option maxRecDepth 100000 in
theorem refPut_calls (w : World) (ok : Nat → Prop) (a0 : Option Addr) (c0 : Nat) (a1 : Option Addr) (c1 : Nat) (a2 : Option Addr) (c2 : Nat) (a3 : Option Addr) (c3 : Nat) (S : PS) (B m : Nat) (n : ByteArray) (A : Option Addr) (c : Nat) (l : List Int) (h : Ref w ok a0 c0 a1 c1 a2 c2 a3 c3 S) (hs : Sound S B) (hm : 100 ≤ m) (hbm : l.length + 4 ≤ m) (hB : B + m * 6 ≤ 549755813888)
    (hC : Rd kB w ok A c l) (hw : ∀ x ∈ l, 0 ≤ x ∧ x ≤ 255) :
    Calls Tryz.prog 25 #[sv a0 c0 a1 c1 a2 c2 a3 c3 S, .string n, .slice A l.length c] w (RefE2 w ok (pPut S n l)) := by
  obtain ⟨w1, hw1⟩ : ∃ w1, w1 = (w.alloc (.cells (svC a0 c0 a1 c1 a2 c2 a3 c3 S) tState)).alloc (.cells zeroC tState) := ⟨_, rfl⟩
  have hk := two_blks w (.cells (svC a0 c0 a1 c1 a2 c2 a3 c3 S) tState) (.cells zeroC tState)
  rw [← hw1] at hk
  have R1 := Lib.hid (show RS w w1 ok a0 c0 a1 c1 a2 c2 a3 c3 S from ⟨hk.1.1, hk.1.2, hk.2, (h.mono (ok' := OkR w ok) (fun k h1 h2 => .inl ⟨h1, h2⟩)).below hk.2⟩)
  have X1 := Lib.hid ((hC.mono (ok' := OkR w ok) (fun k h1 h2 => .inl ⟨h1, h2⟩)).below hk.2)
  have HSZ := Lib.hid (show w1.heap.size = w.heap.size + 2 by rw [hw1]; simp)
  have HW1 := Lib.hid (show w1 = (w.alloc (.cells #[.slice a0 S.files.length c0, .slice a1 S.dir.length c1, .slice a2 S.dur.length c2, .slice a3 S.pend.length c3, .bool S.lim, .int .i64 S.left] tState)).alloc (.cells #[.slice none 0 0, .slice none 0 0, .slice none 0 0, .slice none 0 0, .bool false, .int .i64 0] tState) from hw1)
  have HS := Lib.hid hs
  have HW := Lib.hid hw
  obtain ⟨s0, s1, s2, s3, s4, s5⟩ := six_cells R1.out.b0
  clear h hs hC hw hw1 hk
  cases ho : okObj n
  · have HO := Lib.hid ho
    have HP := Lib.hid (show pPut S n l = (S, 1) by unfold pPut; rw [ho]; rfl)
    clear ho
    go_enter Tryz.func25, Tryz.ntmps25
    go_upto_region 1 with (fail)
    rw [← HW1.out]
    go_wp2_with (first | (go_at_call 77; refine (rname_calls _ n).mono ?_; rw [HO.out]; rintro e w2 ⟨rfl, hd⟩; have R2 := Lib.hid (R1.out.below (drawn0_below hd)); clear s0 s1 s2 s3 s4 s5; obtain ⟨s0, s1, s2, s3, s4, s5⟩ := six_cells R2.out.b0; obtain ⟨y0, y1, y2, y3, y4, y5⟩ := six_cells R2.out.b1; obtain ⟨x0, x1, x2, x3, x4, x5⟩ := six_frozen R2.out.b1; clear hd) | fail)
    rw [HP.out]
    obtain ⟨z1, z2, z3⟩ := fin_ref (ok := ok) (S := S) R2.out.bl R2.out.b1 R2.out.rf
    exact bodyPost_ret (results_ct rfl _ _ (w.heap.size + 1) tState _ (0, 0) _ rfl z1 Tryz.underlying31 rfl (by kernel_rfl)) rfl ⟨_, rfl, ⟨a0, c0, a1, c1, a2, c2, a3, c3, rfl, z3⟩, z2⟩
  · have HO := Lib.hid ho
    cases hh : pHas S n
    · have HX := Lib.hid (show pExists S n = false by unfold pExists; rw [ho, hh]; rfl)
      obtain ⟨z, hz⟩ : ∃ z, z = sealF l := ⟨_, rfl⟩
      have HZL := Lib.hid (show z.length ≤ m by rw [hz, sealF_length]; exact hbm)
      have HZW := Lib.hid (show ∀ x ∈ z, 0 ≤ x ∧ x ≤ 255 by rw [hz]; exact sealF_ok HW.out)
      obtain ⟨p, hp⟩ : ∃ p, p = pReplace S (tmpOf n) n z := ⟨_, rfl⟩
      obtain ⟨S2, cd⟩ := p
      have HQ := Lib.hid hp
      have HP := Lib.hid (show pPut S n l = (S2, cd) by unfold pPut; rw [ho, hh, hp, hz]; rfl)
      have hn60 := okObj_size ho
      have CS0 := Lib.hid (fun wx hx => refSeal_calls wx A c l hx (by omega) HW.out)
      rw [← hz] at CS0
      clear ho hh hp hz
      go_enter Tryz.func25, Tryz.ntmps25
      go_upto_region 1 with (fail)
      rw [← HW1.out]
      go_wp2_with (first
        | (go_at_call 77; refine (rname_calls _ n).mono ?_; rw [HO.out]; rintro e w2 ⟨rfl, hd⟩; have hb := drawn0_below hd; have R2 := Lib.hid (R1.out.below hb); have X2 := Lib.hid (X1.out.below hb); clear s0 s1 s2 s3 s4 s5; obtain ⟨s0, s1, s2, s3, s4, s5⟩ := six_cells R2.out.b0; clear hd hb)
        | (go_at_call 35; refine (refExists_calls _ (OkR w ok) a0 c0 a1 c1 a2 c2 a3 c3 S B n R2.out.rf HS.out.good (by omega)).mono ?_; rw [HX.out]; rintro e w3 ⟨rfl, hb⟩; have R3 := Lib.hid (R2.out.below hb); have X3 := Lib.hid (X2.out.below hb); clear s0 s1 s2 s3 s4 s5; obtain ⟨s0, s1, s2, s3, s4, s5⟩ := six_cells R3.out.b0; clear hb)
        | fail)
      have P3 := Lib.hid (six_cells (w := w3.drew) (t := tState) (fz := (0, 0)) R3.out.b0)
      have hne1 : w.heap.size ≠ w.heap.size + 1 := by omega
      have P4 := Lib.hid True.intro
      have P5 := Lib.hid True.intro
      have CS := Lib.hid (CS0.out w3.drew ((X3.out.move (w' := w3.drew) (fun _ _ _ => rfl)).now))
      go_region_held3 (fun w' => w'.cell? ⟨w.heap.size, 0, none⟩ = some (.slice a0 S.files.length c0) ∧ w'.cell? ⟨w.heap.size, 1, none⟩ = some (.slice a1 S.dir.length c1) ∧ w'.cell? ⟨w.heap.size, 2, none⟩ = some (.slice a2 S.dur.length c2) ∧ w'.cell? ⟨w.heap.size, 3, none⟩ = some (.slice a3 S.pend.length c3) ∧ w'.cell? ⟨w.heap.size, 4, none⟩ = some (.bool S.lim) ∧ w'.cell? ⟨w.heap.size, 5, none⟩ = some (.int .i64 S.left))
        (first | (with_reducible exact P3.out) | (with_reducible exact P4.out) | (with_reducible exact P5.out) | exact six_cells ((other_six hne1 _ _ _ _ _ _).trans J50.out))
        (first
          | (go_at_call 79; (with_reducible refine CS.out.mono ?_); rintro e w4 ⟨A4, c4, rfl, hr, hbq⟩; have hb : Below w3.heap.size w3 w4 := ((Below.refl _ w3).drew).trans hbq; have R4 := Lib.hid (R3.out.below hb); have X4 := Lib.hid ((hr.mono (ok' := fun k => w3.heap.size ≤ k) (fun k hk _ => hk)).mono (ok' := OkR w ok) (fun k hk _ => .inr (by have := lt_blk R3.out.b1; omega))); have P4 := Lib.hid (six_cells R4.out.b0); have CR := Lib.hid (refReplace_calls w4 (OkR w ok) a0 c0 a1 c1 a2 c2 a3 c3 S B m n A4 c4 z R4.out.rf HS.out hm hB X4.out HZL.out HZW.out (by omega)); rw [← HQ.out] at CR; clear hb hr hbq)
          | (go_at_call 78; (with_reducible refine CR.out.mono ?_); rintro e w5 ⟨v, rfl, ⟨e0, f0, e1, f1, e2, f2, e3, f3, rfl, hr⟩, hb⟩; have B5 := Lib.hid (R4.out.bl.trans (hb.mono R4.out.bl.size)); have J50 := Lib.hid (blk_below R4.out.b0 hb); have P5 := Lib.hid (six_cells J50.out); have J5 := Lib.hid (blk_below R4.out.b1 hb); have R5 := Lib.hid (hr.mono (ok' := OkR w ok) (fun k hk _ => by rcases hk with hk | hk; exact hk; exact .inr (by have := lt_blk R4.out.b1; omega))); obtain ⟨y0, y1, y2, y3, y4, y5⟩ := six_cells J5.out; obtain ⟨x0, x1, x2, x3, x4, x5⟩ := six_frozen J5.out; clear hr hb))
      go_wp2_with fail
      rw [HP.out]
      obtain ⟨z1, z2, z3⟩ := fin_ref (ok := ok) (S := S2) B5.out J5.out R5.out
      exact bodyPost_ret (results_ct rfl _ _ (w.heap.size + 1) tState _ (0, 0) _ rfl z1 Tryz.underlying31 rfl (by kernel_rfl)) rfl ⟨_, rfl, ⟨e0, f0, e1, f1, e2, f2, e3, f3, rfl, z3⟩, z2⟩
    · have HX := Lib.hid (show pExists S n = true by unfold pExists; rw [ho, hh]; rfl)
      have HP := Lib.hid (show pPut S n l = (S, 9) by unfold pPut; rw [ho, hh]; rfl)
      clear ho hh
      go_enter Tryz.func25, Tryz.ntmps25
      go_upto_region 1 with (fail)
      rw [← HW1.out]
      go_wp2_with (first
        | (go_at_call 77; refine (rname_calls _ n).mono ?_; rw [HO.out]; rintro e w2 ⟨rfl, hd⟩; have R2 := Lib.hid (R1.out.below (drawn0_below hd)); clear s0 s1 s2 s3 s4 s5; obtain ⟨s0, s1, s2, s3, s4, s5⟩ := six_cells R2.out.b0; clear hd)
        | (go_at_call 35; refine (refExists_calls _ (OkR w ok) a0 c0 a1 c1 a2 c2 a3 c3 S B n R2.out.rf HS.out.good (by omega)).mono ?_; rw [HX.out]; rintro e w3 ⟨rfl, hb⟩; have R3 := Lib.hid (R2.out.below hb); clear s0 s1 s2 s3 s4 s5; obtain ⟨s0, s1, s2, s3, s4, s5⟩ := six_cells R3.out.b0; obtain ⟨y0, y1, y2, y3, y4, y5⟩ := six_cells R3.out.b1; obtain ⟨x0, x1, x2, x3, x4, x5⟩ := six_frozen R3.out.b1; clear hb)
        | fail)
      rw [HP.out]
      obtain ⟨z1, z2, z3⟩ := fin_ref (ok := ok) (S := S) R3.out.bl R3.out.b1 R3.out.rf
      exact bodyPost_ret (results_ct rfl _ _ (w.heap.size + 1) tState _ (0, 0) _ rfl z1 Tryz.underlying31 rfl (by kernel_rfl)) rfl ⟨_, rfl, ⟨a0, c0, a1, c1, a2, c2, a3, c3, rfl, z3⟩, z2⟩
set_option maxHeartbeats 4000000 in
set_option maxRecDepth 100000 in
theorem refGet_calls (w : World) (ok : Nat → Prop) (a0 : Option Addr) (c0 : Nat) (a1 : Option Addr) (c1 : Nat) (a2 : Option Addr) (c2 : Nat) (a3 : Option Addr) (c3 : Nat) (S : PS) (B : Nat) (n : ByteArray) (h : Ref w ok a0 c0 a1 c1 a2 c2 a3 c3 S) (hg : Good S B) (hB : B ≤ 549755813888) :
    Calls Tryz.prog 34 #[sv a0 c0 a1 c1 a2 c2 a3 c3 S, .string n] w fun e w' => ∃ A c, e = .returned (.tuple #[.slice A (pGet S n).1.length c, .int .i64 (pGet S n).2]) ∧ Rd kB w' (fun k => w.heap.size ≤ k) A c (pGet S n).1 ∧ Below w.heap.size w w' := by
  obtain ⟨w1, hw1⟩ : ∃ w1, w1 = w.alloc (.cells (svC a0 c0 a1 c1 a2 c2 a3 c3 S) tState) := ⟨_, rfl⟩
  have R1 := Lib.hid (show RO w w1 ok a0 c0 a1 c1 a2 c2 a3 c3 S by rw [hw1]; exact RO.new h)
  have HW1 := Lib.hid (show w1 = w.alloc (.cells #[.slice a0 S.files.length c0, .slice a1 S.dir.length c1, .slice a2 S.dur.length c2, .slice a3 S.pend.length c3, .bool S.lim, .int .i64 S.left] tState) from hw1)
  have HG := Lib.hid hg
  have HRW := Lib.hid (pRead_ok hg n)
  obtain ⟨s0, s1, s2, s3, s4, s5⟩ := six_cells R1.out.b0
  clear h hg hw1
  cases hx : pExists S n
  · have HX := Lib.hid hx
    have HP := Lib.hid (show pGet S n = ([], 15) by unfold pGet; rw [hx]; rfl)
    rw [HP.out]
    clear hx
    go_enter Tryz.func34, Tryz.ntmps34
    go_upto_region 1 with (fail)
    rw [← HW1.out]
    go_wp2_with (first | (go_at_call 35; refine (refExists_calls _ (OkO w ok) a0 c0 a1 c1 a2 c2 a3 c3 S B n R1.out.rf HG.out hB).mono ?_; rw [HX.out]; rintro e w2 ⟨rfl, hb⟩; have R2 := Lib.hid (R1.out.below hb); clear hb) | fail)
    go_ret2
    exact ⟨none, 0, rfl, Rd.nil _ _ _, R2.out.bl⟩
  · have HX := Lib.hid hx
    obtain ⟨q, hq⟩ : ∃ q, q = pRead S n := ⟨_, rfl⟩
    obtain ⟨bl, rc⟩ := q
    have HQ := Lib.hid hq
    rw [← hq] at HRW
    by_cases hc : rc = 0
    · subst hc
      obtain ⟨o, ho⟩ : ∃ o, o = openF bl := ⟨_, rfl⟩
      obtain ⟨out, oc⟩ := o
      have HO := Lib.hid ho
      have HP := Lib.hid (show pGet S n = if oc ≠ 0 then ([], 19) else (out, 0) by unfold pGet; rw [hx, ← hq]; simp only; rw [← ho]; rfl)
      clear hx hq ho
      by_cases hoc : oc = 0
      · subst hoc
        rw [HP.out, if_neg (by simp)]
        go_enter Tryz.func34, Tryz.ntmps34
        go_upto_region 1 with (fail)
        rw [← HW1.out]
        go_wp2_with (first
          | (go_at_call 35; refine (refExists_calls _ (OkO w ok) a0 c0 a1 c1 a2 c2 a3 c3 S B n R1.out.rf HG.out hB).mono ?_; rw [HX.out]; rintro e w2 ⟨rfl, hb⟩; have R2 := Lib.hid (R1.out.below hb); clear s0 s1 s2 s3 s4 s5; obtain ⟨s0, s1, s2, s3, s4, s5⟩ := six_cells R2.out.b0; clear hb)
          | (go_at_call 15; refine (refRead_calls _ (OkO w ok) a0 c0 a1 c1 a2 c2 a3 c3 S B n R2.out.rf HG.out hB).mono ?_; rw [← HQ.out]; rintro e w3 ⟨A3, d3, rfl, hr, hb⟩; have V3 := Lib.hid hr; have R3 := Lib.hid (R2.out.below hb); clear hb hr)
          | (go_at_call 91; refine (refUnseal_calls _ A3 d3 bl V3.out.now V3.out.le (Nat.le_trans HRW.out.1 hB) HRW.out.2).mono ?_; rw [← HO.out]; rintro e w4 ⟨A4, d4, rfl, hr, hb⟩; have V4 := Lib.hid (hr.mono (ok' := fun k => w.heap.size ≤ k) (fun k hk _ => by have := R3.out.bl.size; omega)); have B4 := Lib.hid (R3.out.below hb).bl; clear hb hr)
          | fail)
        go_ret2
        exact ⟨A4, d4, rfl, V4.out, B4.out⟩
      · rw [HP.out, if_pos hoc]
        have hne : (oc != 0) = true := by simpa using hoc
        go_enter Tryz.func34, Tryz.ntmps34
        go_upto_region 1 with (fail)
        rw [← HW1.out]
        go_wp2_with (first
          | (go_at_call 35; refine (refExists_calls _ (OkO w ok) a0 c0 a1 c1 a2 c2 a3 c3 S B n R1.out.rf HG.out hB).mono ?_; rw [HX.out]; rintro e w2 ⟨rfl, hb⟩; have R2 := Lib.hid (R1.out.below hb); clear s0 s1 s2 s3 s4 s5; obtain ⟨s0, s1, s2, s3, s4, s5⟩ := six_cells R2.out.b0; clear hb)
          | (go_at_call 15; refine (refRead_calls _ (OkO w ok) a0 c0 a1 c1 a2 c2 a3 c3 S B n R2.out.rf HG.out hB).mono ?_; rw [← HQ.out]; rintro e w3 ⟨A3, d3, rfl, hr, hb⟩; have V3 := Lib.hid hr; have R3 := Lib.hid (R2.out.below hb); clear hb hr)
          | (go_at_call 91; refine (refUnseal_calls _ A3 d3 bl V3.out.now V3.out.le (Nat.le_trans HRW.out.1 hB) HRW.out.2).mono ?_; rw [← HO.out]; rintro e w4 ⟨A4, d4, rfl, hr, hb⟩; have B4 := Lib.hid (R3.out.below hb).bl; clear hb hr)
          | fail)
        go_ret2
        exact ⟨none, 0, rfl, Rd.nil _ _ _, B4.out⟩
    · have HP := Lib.hid (show pGet S n = ([], rc) by unfold pGet; rw [hx, ← hq]; simp [hc])
      have hne : (rc != 0) = true := by simpa using hc
      rw [HP.out]
      clear hx hq
      go_enter Tryz.func34, Tryz.ntmps34
      go_upto_region 1 with (fail)
      rw [← HW1.out]
      go_wp2_with (first
        | (go_at_call 35; refine (refExists_calls _ (OkO w ok) a0 c0 a1 c1 a2 c2 a3 c3 S B n R1.out.rf HG.out hB).mono ?_; rw [HX.out]; rintro e w2 ⟨rfl, hb⟩; have R2 := Lib.hid (R1.out.below hb); clear s0 s1 s2 s3 s4 s5; obtain ⟨s0, s1, s2, s3, s4, s5⟩ := six_cells R2.out.b0; clear hb)
        | (go_at_call 15; refine (refRead_calls _ (OkO w ok) a0 c0 a1 c1 a2 c2 a3 c3 S B n R2.out.rf HG.out hB).mono ?_; rw [← HQ.out]; rintro e w3 ⟨A3, d3, rfl, hr, hb⟩; have R3 := Lib.hid (R2.out.below hb); clear hb hr)
        | fail)
      go_ret2
      exact ⟨none, 0, rfl, Rd.nil _ _ _, R3.out.bl⟩
end Go.Proofs.YtehhafnjbkbmjaaGreat.Disk

/- The reference of layer 21: remove. -/
namespace Go.Proofs.YtehhafnjbkbmjaaGreat.Disk
open Go Go.RowKit Go.Proofs.YtehhafnjbkbmjaaGreatW.PrintWords Go.Proofs.YtehhafnjbkbmjaaGreatW.PrintLast Go.Proofs.YtehhafnjbkbmjaaGreatW.PrintMore Go.Proofs.YtehhafnjbkbmjaaGreat.PCommitlogSequence
theorem okR_belowS {w wn wk : World} {ok : Nat → Prop} {A : Option Addr} {c : Nat} {bs : List ByteArray} {y0 y1 y2 y3 y4 y5 : Value} (h : Rd kS wn (OkR w ok) A c bs) (hb : Below wn.heap.size wn wk) : Rd kS ((((((wk.setCell ⟨w.heap.size, 0, none⟩ y0).setCell ⟨w.heap.size, 1, none⟩ y1).setCell ⟨w.heap.size, 2, none⟩ y2).setCell ⟨w.heap.size, 3, none⟩ y3).setCell ⟨w.heap.size, 4, none⟩ y4).setCell ⟨w.heap.size, 5, none⟩ y5) (OkR w ok) A c bs :=
  (h.below hb).move (fun k hk _ => other_six (by rcases hk with hk | hk; have := hk.2; omega; omega) _ _ _ _ _ _)
theorem Sound.rfTo {S : PS} {B : Nat} {zs : List ByteArray} (h : Sound S B) : ∀ j, j ≤ zs.length → Sound (rfTo S zs j).1.1 (B + 100 * j)
  | 0, _ => h
  | j + 1, hj => by
    have ih := Sound.rfTo (zs := zs) h j (by omega)
    rw [show B + 100 * (j + 1) = B + 100 * j + 100 by omega, rfTo_succ S zs j (by omega)]
    unfold rmStep
    split
    · split
      · exact ih.remove
      · exact ih.mono (by omega)
    · exact ih.mono (by omega)
theorem name_q {w : World} {ad : Addr} {c : Nat} {zs : List ByteArray} {ok : Nat → Prop} {j : Nat} {x : ByteArray} (h : Rd kS w ok (some ad) c zs) (hj : j < zs.length) (hx : x = zs[j]) : w.cell? (ad.add j) = some (.string x) := by
  obtain ⟨a2, e, h1⟩ := name_cell h.now j hj
  cases e
  rw [h1, hx]
def RfaRel (w : World) (ok : Nat → Prop) (S : PS) (zs : List ByteArray) (A : Option Addr) (c : Nat) (v6 v7 v8 : Value) (wx : World) : Prop :=
  ∃ (j : Nat) (a0 : Option Addr) (c0 : Nat) (a1 : Option Addr) (c1 : Nat) (a2 : Option Addr) (c2 : Nat) (a3 : Option Addr) (c3 : Nat) (Sj : PS) (ej : Int) (bj : Bool), j ≤ zs.length ∧ v8 = .int .i64 j ∧ v6 = .bool bj ∧ v7 = .int .i64 ej ∧ rfTo S zs j = ((Sj, ej), bj) ∧ RS w wx ok a0 c0 a1 c1 a2 c2 a3 c3 Sj ∧ Rd kS wx (OkR w ok) A c zs
theorem rfAll_of {S : PS} {zs : List ByteArray} {j : Nat} {Sj : PS} {ej : Int} {bj : Bool} (h : rfTo S zs j = ((Sj, ej), bj)) (he : ej ≠ 0) : pRfAll S zs = (Sj, ej) := by
  have h1 := rfTo_stop S zs j (by rw [h]; exact he)
  unfold pRfAll
  rw [h1, h, if_neg he]
set_option linter.unusedSimpArgs false in
set_option maxHeartbeats 4000000 in
set_option maxRecDepth 100000 in
theorem refRemoveAll_calls (w : World) (ok : Nat → Prop) (a0 : Option Addr) (c0 : Nat) (a1 : Option Addr) (c1 : Nat) (a2 : Option Addr) (c2 : Nat) (a3 : Option Addr) (c3 : Nat) (S : PS) (B : Nat) (A : Option Addr) (c : Nat) (zs : List ByteArray) (h : Ref w ok a0 c0 a1 c1 a2 c2 a3 c3 S) (hs : Sound S B) (hB : B + 100 * zs.length + 100 ≤ 549755813888) (hC : Rd kS w ok A c zs) :
    Calls Tryz.prog 80 #[sv a0 c0 a1 c1 a2 c2 a3 c3 S, .slice A zs.length c] w (RefE2 w ok (pRfAll S zs)) := by
  obtain ⟨w1, hw1⟩ : ∃ w1, w1 = (w.alloc (.cells (svC a0 c0 a1 c1 a2 c2 a3 c3 S) tState)).alloc (.cells zeroC tState) := ⟨_, rfl⟩
  have hk := two_blks w (.cells (svC a0 c0 a1 c1 a2 c2 a3 c3 S) tState) (.cells zeroC tState)
  rw [← hw1] at hk
  have R1 := Lib.hid (show RS w w1 ok a0 c0 a1 c1 a2 c2 a3 c3 S from ⟨hk.1.1, hk.1.2, hk.2, (h.mono (ok' := OkR w ok) (fun k h1 h2 => .inl ⟨h1, h2⟩)).below hk.2⟩)
  have X1 := Lib.hid ((hC.mono (ok' := OkR w ok) (fun k h1 h2 => .inl ⟨h1, h2⟩)).below hk.2)
  have HW1 := Lib.hid (show w1 = (w.alloc (.cells #[.slice a0 S.files.length c0, .slice a1 S.dir.length c1, .slice a2 S.dur.length c2, .slice a3 S.pend.length c3, .bool S.lim, .int .i64 S.left] tState)).alloc (.cells #[.slice none 0 0, .slice none 0 0, .slice none 0 0, .slice none 0 0, .bool false, .int .i64 0] tState) from hw1)
  have HS := Lib.hid hs
  obtain ⟨s0, s1, s2, s3, s4, s5⟩ := six_cells R1.out.b0
  clear h hs hC hw1 hk
  go_enter Tryz.func80, Tryz.ntmps80
  go_upto_region 1 with (fail)
  rw [← HW1.out]
  go_wp2_with fail
  go_loopw [6, 7, 8] (fun a b i wx => RfaRel w ok S zs A c a b i wx) (fun _ _ i _ => zs.length - (intOf i).toNat)
  case atStart => exact ⟨0, a0, c0, a1, c1, a2, c2, a3, c3, S, 0, false, Nat.zero_le _, rfl, rfl, rfl, rfl, R1.out, X1.out⟩
  case round =>
    obtain ⟨j, b0, d0, b1, d1, b2, d2, b3, d3, Sj, ej, bj, hj, rfl, rfl, rfl, hr, hrs, hx⟩ := hrel
    have HR := Lib.hid hr
    have RJ := Lib.hid hrs
    have XJ := Lib.hid hx
    have HSJ := Lib.hid (show Sound Sj (B + 100 * j) by have := HS.out.rfTo (zs := zs) j hj; rw [hr] at this; exact this)
    clear hr hrs hx s0 s1 s2 s3 s4 s5 R1 X1
    obtain ⟨s0, s1, s2, s3, s4, s5⟩ := six_cells RJ.out.b0
    by_cases hlt : j < zs.length
    · by_cases he : ej = 0
      · subst he
        obtain ⟨ad, hA, q0⟩ := name_cell XJ.out.now j hlt
        subst hA
        obtain ⟨x, hx⟩ : ∃ x, x = zs[j] := ⟨_, rfl⟩
        rw [← hx] at q0
        have HST := Lib.hid (show rfTo S zs (j + 1) = rmStep pHas ((Sj, 0), bj) x by rw [rfTo_succ S zs j hlt, HR.out, hx])
        have HX := Lib.hid hx
        have hbj : B + 100 * j ≤ 549755813888 := by omega
        clear hx
        cases hh : pHas Sj x
        · have HH := Lib.hid hh
          have HN := Lib.hid (show rfTo S zs (j + 1) = ((Sj, 0), bj) by rw [HST.out]; unfold rmStep; rw [if_pos rfl, if_neg (by rw [hh]; exact Bool.false_ne_true)])
          clear hh
          go_upto_region 6 with (fail)
          have P0 := Lib.hid (And.intro (show wr.drew.cell? (ad.add j) = some (.string x) from q0) (six_cells (w := wr.drew) (t := tState) (fz := (0, 0)) RJ.out.b0))
          go_region_held3 (fun w' => w'.cell? (ad.add j) = some (.string x) ∧ w'.cell? ⟨w.heap.size, 0, none⟩ = some (.slice b0 Sj.files.length d0) ∧ w'.cell? ⟨w.heap.size, 1, none⟩ = some (.slice b1 Sj.dir.length d1) ∧ w'.cell? ⟨w.heap.size, 2, none⟩ = some (.slice b2 Sj.dur.length d2) ∧ w'.cell? ⟨w.heap.size, 3, none⟩ = some (.slice b3 Sj.pend.length d3) ∧ w'.cell? ⟨w.heap.size, 4, none⟩ = some (.bool Sj.lim) ∧ w'.cell? ⟨w.heap.size, 5, none⟩ = some (.int .i64 Sj.left))
            (first | (with_reducible exact P0.out) | (with_reducible exact P1.out))
            (first | (go_at_call 92; refine (refHas_calls wr.drew (OkR w ok) b0 d0 b1 d1 b2 d2 b3 d3 Sj _ x (RJ.out.rf.move (fun _ _ _ => rfl)) HSJ.out.good hbj).mono ?_; rw [HH.out]; rintro e w2 ⟨rfl, hbq⟩; have hb : Below wr.heap.size wr w2 := ((Below.refl _ wr).drew).trans hbq; clear hbq; have R2 := Lib.hid (RJ.out.below hb); have X2 := Lib.hid (XJ.out.below hb); have P1 := Lib.hid (And.intro (name_q X2.out hlt HX.out) (six_cells R2.out.b0)); clear hb))
          go_wp2_with fail
          go_roundw
          case rel => exact ⟨j + 1, b0, d0, b1, d1, b2, d2, b3, d3, Sj, 0, bj, by omega, by go_num, rfl, rfl, HN.out, R2.out, X2.out⟩
          case measure => simp [intOf]; omega
        · have HH := Lib.hid hh
          obtain ⟨p, hp⟩ : ∃ p, p = pRemove Sj x := ⟨_, rfl⟩
          obtain ⟨S2, cd⟩ := p
          have HQ := Lib.hid hp
          have HN := Lib.hid (show rfTo S zs (j + 1) = ((S2, cd), true) by rw [HST.out]; unfold rmStep; rw [if_pos rfl, if_pos hh, hp])
          clear hh hp
          go_upto_region 6 with (fail)
          have P0 := Lib.hid (And.intro (show wr.drew.cell? (ad.add j) = some (.string x) from q0) (six_cells (w := wr.drew) (t := tState) (fz := (0, 0)) RJ.out.b0))
          go_region_held3 (fun w' => w'.cell? (ad.add j) = some (.string x) ∧ w'.cell? ⟨w.heap.size, 0, none⟩ = some (.slice b0 Sj.files.length d0) ∧ w'.cell? ⟨w.heap.size, 1, none⟩ = some (.slice b1 Sj.dir.length d1) ∧ w'.cell? ⟨w.heap.size, 2, none⟩ = some (.slice b2 Sj.dur.length d2) ∧ w'.cell? ⟨w.heap.size, 3, none⟩ = some (.slice b3 Sj.pend.length d3) ∧ w'.cell? ⟨w.heap.size, 4, none⟩ = some (.bool Sj.lim) ∧ w'.cell? ⟨w.heap.size, 5, none⟩ = some (.int .i64 Sj.left))
            (first | (with_reducible exact P0.out) | (with_reducible exact P1.out))
            (first | (go_at_call 92; refine (refHas_calls wr.drew (OkR w ok) b0 d0 b1 d1 b2 d2 b3 d3 Sj _ x (RJ.out.rf.move (fun _ _ _ => rfl)) HSJ.out.good hbj).mono ?_; rw [HH.out]; rintro e w2 ⟨rfl, hbq⟩; have hb : Below wr.heap.size wr w2 := ((Below.refl _ wr).drew).trans hbq; clear hbq; have R2 := Lib.hid (RJ.out.below hb); have X2 := Lib.hid (XJ.out.below hb); have P1 := Lib.hid (And.intro (name_q X2.out hlt HX.out) (six_cells R2.out.b0)); clear hb s0 s1 s2 s3 s4 s5; obtain ⟨s0, s1, s2, s3, s4, s5⟩ := six_cells R2.out.b0))
          clear q0
          have q0 := name_q X2.out hlt HX.out
          go_upto_region 7 with (fail)
          have P2 := Lib.hid (show w2.drew.cell? (ad.add j) = some (.string x) from q0)
          refine wp_region_held_drew (S := (fun w' => w'.cell? (ad.add j) = some (.string x))) (by kernel_rfl) P2.out (fun hHeld => ?_)
          refine wpAnyH_take (i := 1) (oi := _) (v := ?_) rfl (by kernel_rfl) (by kernel_rfl) (by kernel_rfl) (fun _ _ _ h => h) (Or.inl ⟨by rfl, ?_⟩) (by assumption) ?_
          rotate_left
          · (intro w hSw; (try dsimp only at hSw); go_simp; try with_reducible rfl)
          try simp only [Act.put, List.setIfInBounds_toArray, List.set_cons_zero, List.set_cons_succ]
          refine wpAnyH_take (i := 2) (oi := _) (v := ?_) rfl (by kernel_rfl) (by kernel_rfl) (by kernel_rfl) (fun _ _ _ h => h) (Or.inl ⟨by rfl, ?_⟩) (by assumption) ?_
          rotate_left
          · (intro w hSw; (try dsimp only at hSw); go_simp; try with_reducible rfl)
          try simp only [Act.put, List.setIfInBounds_toArray, List.set_cons_zero, List.set_cons_succ]
          refine wpAnyH_take (i := 3) (oi := _) (v := ?_) rfl (by kernel_rfl) (by kernel_rfl) (by kernel_rfl) (fun _ _ _ h => h) (Or.inl ⟨by rfl, ?_⟩) (by assumption) ?_
          rotate_left
          · (intro w hSw; (try dsimp only at hSw); go_simp; try with_reducible rfl)
          try simp only [Act.put, List.setIfInBounds_toArray, List.set_cons_zero, List.set_cons_succ]
          refine wpAnyH_take (i := 4) (oi := _) (v := ?_) rfl (by kernel_rfl) (by kernel_rfl) (by kernel_rfl) (fun _ _ _ h => h) (Or.inl ⟨by rfl, ?_⟩) (by assumption) ?_
          rotate_left
          · (intro w hSw; (try dsimp only at hSw); go_simp; try with_reducible rfl)
          try simp only [Act.put, List.setIfInBounds_toArray, List.set_cons_zero, List.set_cons_succ]
          refine wpAnyH_ready (rs := [0]) (by kernel_rfl) (by simp) ?_
          refine AllReadyH.cons (o := _) rfl (fun K hK => ?_) AllReadyH.nil
          go_simp
          refine hK.out _ _ P2.out (fun hHeld => ?_)
          clear hK K
          try simp only [Act.put, List.setIfInBounds_toArray, List.set_cons_zero, List.set_cons_succ]
          refine wpAnyH_ready (rs := [5]) (by kernel_rfl) (by simp) ?_
          refine AllReadyH.cons (o := _) rfl (fun K hK => ?_) AllReadyH.nil
          go_simp
          refine (refRemove_calls w2.drew (OkR w ok) b0 d0 b1 d1 b2 d2 b3 d3 Sj _ x (R2.out.rf.move (fun _ _ _ => rfl)) HSJ.out.good hbj).mono ?_; rw [← HQ.out]; rintro e w3 ⟨v, rfl, ⟨e0, f0, e1, f1, e2, f2, e3, f3, rfl, hr⟩, hbq⟩; have hb : Below w2.heap.size w2 w3 := ((Below.refl _ w2).drew).trans hbq; clear hbq; have HR3 := Lib.hid hr; have HB3 := Lib.hid hb; have X3 := Lib.hid (X2.out.below hb); have k0 := blk_below R2.out.b0 hb; obtain ⟨z0, z1, z2, z3, z4, z5⟩ := six_cells k0; obtain ⟨g0, g1, g2, g3, g4, g5⟩ := six_frozen k0; clear hr hb k0 s0 s1 s2 s3 s4 s5
          try go_wp2_with fail
          refine hK.out _ _ (name_q X3.out hlt HX.out) (fun hHeld => ?_)
          clear hK K
          try simp only [Act.put, List.setIfInBounds_toArray, List.set_cons_zero, List.set_cons_succ]
          refine wpAnyH_take (i := 6) (oi := _) (v := ?_) rfl (by kernel_rfl) (by kernel_rfl) (by kernel_rfl) (fun _ _ _ h => h) (Or.inl ⟨by rfl, ?_⟩) (by assumption) ?_
          rotate_left
          · (intro w hSw; (try dsimp only at hSw); go_simp; try with_reducible rfl)
          try simp only [Act.put, List.setIfInBounds_toArray, List.set_cons_zero, List.set_cons_succ]
          refine wpAnyH_take (i := 7) (oi := _) (v := ?_) rfl (by kernel_rfl) (by kernel_rfl) (by kernel_rfl) (fun _ _ _ h => h) (Or.inl ⟨by rfl, ?_⟩) (by assumption) ?_
          rotate_left
          · (intro w hSw; (try dsimp only at hSw); go_simp; try with_reducible rfl)
          try simp only [Act.put, List.setIfInBounds_toArray, List.set_cons_zero, List.set_cons_succ]
          refine wpAnyH_take (i := 8) (oi := _) (v := ?_) rfl (by kernel_rfl) (by kernel_rfl) (by kernel_rfl) (fun _ _ _ h => h) (Or.inl ⟨by rfl, ?_⟩) (by assumption) ?_
          rotate_left
          · (intro w hSw; (try dsimp only at hSw); go_simp; try with_reducible rfl)
          try simp only [Act.put, List.setIfInBounds_toArray, List.set_cons_zero, List.set_cons_succ]
          refine wpAnyH_ready (rs := [9]) (by kernel_rfl) (by simp) ?_
          refine AllReadyH.cons (o := _) rfl (fun K hK => ?_) AllReadyH.nil
          go_simp
          refine hK.out _ _ (name_q (okR_belowS X2.out HB3.out) hlt HX.out) (fun hHeld => ?_)
          clear hK K
          try simp only [Act.put, List.setIfInBounds_toArray, List.set_cons_zero, List.set_cons_succ]
          refine wpAnyH_take (i := 10) (oi := _) (v := ?_) rfl (by kernel_rfl) (by kernel_rfl) (by kernel_rfl) (fun _ _ _ h => h) (Or.inl ⟨by rfl, ?_⟩) (by assumption) ?_
          rotate_left
          · (intro w hSw; (try dsimp only at hSw); go_simp; try with_reducible rfl)
          try simp only [Act.put, List.setIfInBounds_toArray, List.set_cons_zero, List.set_cons_succ]
          refine wpAnyH_done (by kernel_rfl) ?_ _
          obtain ⟨wn, hwn⟩ : ∃ wn, wn = ((((((w3.setCell ⟨w.heap.size, 0, none⟩ (.slice e0 S2.files.length f0)).setCell ⟨w.heap.size, 1, none⟩ (.slice e1 S2.dir.length f1)).setCell ⟨w.heap.size, 2, none⟩ (.slice e2 S2.dur.length f2)).setCell ⟨w.heap.size, 3, none⟩ (.slice e3 S2.pend.length f3)).setCell ⟨w.heap.size, 4, none⟩ (.bool S2.lim)).setCell ⟨w.heap.size, 5, none⟩ (.int .i64 S2.left)) := ⟨_, rfl⟩
          rw [← hwn]
          have RN := Lib.hid (show RS w wn ok e0 f0 e1 f1 e2 f2 e3 f3 S2 by rw [hwn]; exact R2.out.put HB3.out HR3.out)
          have XN := Lib.hid (show Rd kS wn (OkR w ok) (some ad) c zs by rw [hwn]; exact okR_belowS X2.out HB3.out)
          clear hwn HB3 HR3 R2 X2 z0 z1 z2 z3 z4 z5 g0 g1 g2 g3 g4 g5 q0
          go_wp2_with fail
          go_roundw
          case rel => exact ⟨j + 1, e0, f0, e1, f1, e2, f2, e3, f3, S2, cd, true, by omega, by go_num, rfl, rfl, HN.out, RN.out, XN.out⟩
          case measure => simp [intOf]; omega
      · have hne : (ej == 0) = false := by simpa using he
        have HP := Lib.hid (rfAll_of HR.out he)
        obtain ⟨y0, y1, y2, y3, y4, y5⟩ := six_cells RJ.out.b1
        obtain ⟨x0, x1, x2, x3, x4, x5⟩ := six_frozen RJ.out.b1
        go_wp2_with fail
        rw [HP.out]
        obtain ⟨z1, z2, z3⟩ := fin_ref (ok := ok) (S := Sj) RJ.out.bl RJ.out.b1 RJ.out.rf
        exact bodyPost_ret (results_ct rfl _ _ (w.heap.size + 1) tState _ (0, 0) _ rfl z1 Tryz.underlying31 rfl (by kernel_rfl)) rfl ⟨_, rfl, ⟨b0, d0, b1, d1, b2, d2, b3, d3, rfl, z3⟩, z2⟩
    · obtain rfl : j = zs.length := by omega
      by_cases he : ej = 0
      · subst he
        cases bj
        · have HP := Lib.hid (show pRfAll S zs = (Sj, 0) by unfold pRfAll; rw [HR.out]; rfl)
          obtain ⟨y0, y1, y2, y3, y4, y5⟩ := six_cells RJ.out.b1
          obtain ⟨x0, x1, x2, x3, x4, x5⟩ := six_frozen RJ.out.b1
          go_wp2_with fail
          rw [HP.out]
          obtain ⟨z1, z2, z3⟩ := fin_ref (ok := ok) (S := Sj) RJ.out.bl RJ.out.b1 RJ.out.rf
          exact bodyPost_ret (results_ct rfl _ _ (w.heap.size + 1) tState _ (0, 0) _ rfl z1 Tryz.underlying31 rfl (by kernel_rfl)) rfl ⟨_, rfl, ⟨b0, d0, b1, d1, b2, d2, b3, d3, rfl, z3⟩, z2⟩
        · obtain ⟨p, hp⟩ : ∃ p, p = pSyncDir Sj := ⟨_, rfl⟩
          obtain ⟨S2, cd⟩ := p
          have HQ := Lib.hid hp
          have HP := Lib.hid (show pRfAll S zs = (S2, cd) by unfold pRfAll; rw [HR.out]; exact hp.symm)
          clear hp
          go_upto_region 11 with (first
            | (go_at_call 114; refine (refSyncDir_calls _ (OkR w ok) b0 d0 b1 d1 b2 d2 b3 d3 Sj _ RJ.out.rf HSJ.out.good (by omega)).mono ?_; rw [← HQ.out]; rintro e w3 ⟨v, rfl, ⟨e0, f0, e1, f1, e2, f2, e3, f3, rfl, hr⟩, hb⟩; have HR3 := Lib.hid hr; have HB3 := Lib.hid hb; have k0 := blk_below RJ.out.b0 hb; obtain ⟨z0, z1, z2, z3, z4, z5⟩ := six_cells k0; obtain ⟨g0, g1, g2, g3, g4, g5⟩ := six_frozen k0; clear hr hb k0 s0 s1 s2 s3 s4 s5)
            | fail)
          obtain ⟨wn, hwn⟩ : ∃ wn, wn = ((((((w3.setCell ⟨w.heap.size, 0, none⟩ (.slice e0 S2.files.length f0)).setCell ⟨w.heap.size, 1, none⟩ (.slice e1 S2.dir.length f1)).setCell ⟨w.heap.size, 2, none⟩ (.slice e2 S2.dur.length f2)).setCell ⟨w.heap.size, 3, none⟩ (.slice e3 S2.pend.length f3)).setCell ⟨w.heap.size, 4, none⟩ (.bool S2.lim)).setCell ⟨w.heap.size, 5, none⟩ (.int .i64 S2.left)) := ⟨_, rfl⟩
          rw [← hwn]
          have RN := Lib.hid (show RS w wn ok e0 f0 e1 f1 e2 f2 e3 f3 S2 by rw [hwn]; exact RJ.out.put HB3.out HR3.out)
          clear hwn HB3 HR3 z0 z1 z2 z3 z4 z5 g0 g1 g2 g3 g4 g5
          obtain ⟨s0, s1, s2, s3, s4, s5⟩ := six_cells RN.out.b0
          obtain ⟨y0, y1, y2, y3, y4, y5⟩ := six_cells RN.out.b1
          obtain ⟨x0, x1, x2, x3, x4, x5⟩ := six_frozen RN.out.b1
          go_wp2_with fail
          rw [HP.out]
          obtain ⟨z1, z2, z3⟩ := fin_ref (ok := ok) (S := S2) RN.out.bl RN.out.b1 RN.out.rf
          exact bodyPost_ret (results_ct rfl _ _ (w.heap.size + 1) tState _ (0, 0) _ rfl z1 Tryz.underlying31 rfl (by kernel_rfl)) rfl ⟨_, rfl, ⟨e0, f0, e1, f1, e2, f2, e3, f3, rfl, z3⟩, z2⟩
      · have hne : (ej == 0) = false := by simpa using he
        have HP := Lib.hid (rfAll_of HR.out he)
        obtain ⟨y0, y1, y2, y3, y4, y5⟩ := six_cells RJ.out.b1
        obtain ⟨x0, x1, x2, x3, x4, x5⟩ := six_frozen RJ.out.b1
        go_wp2_with fail
        rw [HP.out]
        obtain ⟨z1, z2, z3⟩ := fin_ref (ok := ok) (S := Sj) RJ.out.bl RJ.out.b1 RJ.out.rf
        exact bodyPost_ret (results_ct rfl _ _ (w.heap.size + 1) tState _ (0, 0) _ rfl z1 Tryz.underlying31 rfl (by kernel_rfl)) rfl ⟨_, rfl, ⟨b0, d0, b1, d1, b2, d2, b3, d3, rfl, z3⟩, z2⟩
end Go.Proofs.YtehhafnjbkbmjaaGreat.Disk

/- The reference of layer 21: Delete, RemoveTemporary. -/
namespace Go.Proofs.YtehhafnjbkbmjaaGreat.Disk
open Go Go.RowKit Go.Proofs.YtehhafnjbkbmjaaGreatW.PrintWords Go.Proofs.YtehhafnjbkbmjaaGreatW.PrintLast Go.Proofs.YtehhafnjbkbmjaaGreatW.PrintMore Go.Proofs.YtehhafnjbkbmjaaGreat.PCommitlogSequence
set_option maxHeartbeats 4000000 in
set_option maxRecDepth 100000 in
theorem refDelete_calls (w : World) (ok : Nat → Prop) (a0 : Option Addr) (c0 : Nat) (a1 : Option Addr) (c1 : Nat) (a2 : Option Addr) (c2 : Nat) (a3 : Option Addr) (c3 : Nat) (S : PS) (B : Nat) (A : Option Addr) (c : Nat) (zs : List ByteArray) (h : Ref w ok a0 c0 a1 c1 a2 c2 a3 c3 S) (hs : Sound S B) (hB : B + 100 * zs.length + 100 ≤ 549755813888) (hC : Rd kS w ok A c zs) :
    Calls Tryz.prog 26 #[sv a0 c0 a1 c1 a2 c2 a3 c3 S, .slice A zs.length c] w (RefE2 w ok (pDelete S zs)) := by
  obtain ⟨w1, hw1⟩ : ∃ w1, w1 = (w.alloc (.cells (svC a0 c0 a1 c1 a2 c2 a3 c3 S) tState)).alloc (.cells zeroC tState) := ⟨_, rfl⟩
  have hk := two_blks w (.cells (svC a0 c0 a1 c1 a2 c2 a3 c3 S) tState) (.cells zeroC tState)
  rw [← hw1] at hk
  have R1 := Lib.hid (show RS w w1 ok a0 c0 a1 c1 a2 c2 a3 c3 S from ⟨hk.1.1, hk.1.2, hk.2, (h.mono (ok' := OkR w ok) (fun k h1 h2 => .inl ⟨h1, h2⟩)).below hk.2⟩)
  have HSZ := Lib.hid (show w1.heap.size = w.heap.size + 2 by rw [hw1]; simp)
  have HW1 := Lib.hid (show w1 = (w.alloc (.cells #[.slice a0 S.files.length c0, .slice a1 S.dir.length c1, .slice a2 S.dur.length c2, .slice a3 S.pend.length c3, .bool S.lim, .int .i64 S.left] tState)).alloc (.cells #[.slice none 0 0, .slice none 0 0, .slice none 0 0, .slice none 0 0, .bool false, .int .i64 0] tState) from hw1)
  have HS := Lib.hid hs
  have X1 := Lib.hid ((hC.mono (ok' := OkR w ok) (fun k h1 h2 => .inl ⟨h1, h2⟩)).below hk.2)
  have HP0 := Lib.hid (rfAll_objs S zs)
  rw [← HP0.out]
  clear HP0
  clear h hs hC hw1 hk
  go_enter Tryz.func26, Tryz.ntmps26
  go_upto_region 1 with (fail)
  rw [← HW1.out]
  go_wp2_with fail
  go_loopw [7, 6] (fun i v wx => PickRel w1 okObj zs i v wx) (fun i _ _ => zs.length - (intOf i).toNat)
  case atStart => exact ⟨0, Nat.zero_le _, rfl, Kd.R_nil _ _ _ _ _, Below.refl _ _⟩
  case round =>
    obtain ⟨j, hj, rfl, hr, hb⟩ := hrel
    have HR := Lib.hid hr
    have HB := Lib.hid hb
    have VJ := Lib.hid (X1.out.below hb)
    clear hr hb
    obtain ⟨Av, cv, rfl⟩ := Kd.R_slice HR.out
    by_cases hlt : j < zs.length
    · have HTK := Lib.hid (take_pick okObj zs j hlt)
      obtain ⟨ad, hA, q0⟩ := name_cell VJ.out.now j hlt
      subst hA
      obtain ⟨x, hx⟩ : ∃ x, x = zs[j] := ⟨_, rfl⟩
      rw [← hx] at q0 HTK
      have hfl : ((zs.take j).filter okObj).length ≤ 549755813888 := Nat.le_trans (List.length_filter_le _ _) (by simp; omega)
      have HFL := Lib.hid hfl
      clear hx
      cases ho : okObj x
      · have HO := Lib.hid ho
        rw [ho] at HTK
        clear ho
        go_wp2_with (first | (go_at_call 77; refine (rname_calls _ x).mono ?_; rw [HO.out]; rintro e w3 ⟨rfl, hd⟩; have hb3 := drawn0_below hd; have HB3 := Lib.hid hb3; have HR3 := Lib.hid (Kd.R_below HR.out hb3); clear hd hb3) | fail)
        go_roundw
        case rel => exact ⟨j + 1, by omega, by go_num, by rw [HTK.out]; simpa using HR3.out, HB.out.trans (HB3.out.mono HB.out.size)⟩
        case measure => simp [intOf]; omega
      · have HO := Lib.hid ho
        rw [ho] at HTK
        clear ho
        go_wp2_with (first
          | (go_at_call 77; refine (rname_calls _ x).mono ?_; rw [HO.out]; rintro e w3 ⟨rfl, hd⟩; have hb3 := drawn0_below hd; have HB3 := Lib.hid (HB.out.trans (hb3.mono HB.out.size)); have HR3 := Lib.hid (Kd.R_below HR.out hb3); have q3 := (hb3.cell (World.block_lt_of_cell? _ _ q0)).trans q0; clear hd hb3 q0)
          | ((with_reducible refine gate_builtin (b := .append) (xs := #[.tmp 19, .tmp 24]) rfl ?_); at_builtin; refine Kd.R_append Kd.string (w0 := w1) w1.heap.size rfl (.tmp 19) (.tmp 24) 35 9 (.string ⟨#[]⟩) 16 rfl Tryz.underlying35 infoS rfl (by decide) (by decide) (.slice Av ((zs.take j).filter okObj).length cv) ((zs.take j).filter okObj) x [.string x] (fun _ => True) (fun _ => False) rfl rfl ?aP (fun _ hk => hk.elim) (fun _ _ => trivial) ?aO ?aB ?aS ?aL ?_; (case aP => exact rfl); (case aO => exact (by (with_reducible repeat (first | apply Kd.R_alloc | apply Kd.R_drewN | apply Kd.R_drew)); exact HR3.out)); (case aB => exact (by repeat (first | (with_reducible first | exact HB3.out | apply below_alloc | apply pw_below_drewN | apply below_drew1) | exact HB3.out))); (case aS => exact (below_size (by repeat (first | (with_reducible first | exact HB3.out | apply below_alloc | apply pw_below_drewN | apply below_drew1) | exact HB3.out)))); (case aL => have := HFL.out; omega); intro v4 w4 hr4 hb4 hg4 hat4; have HR4 := Lib.hid hr4; have HB4 := Lib.hid hb4; clear hr4 hb4 hg4 hat4)
          | fail)
        go_roundw
        case rel => exact ⟨j + 1, by omega, by go_num, by rw [HTK.out]; exact HR4.out, HB4.out⟩
        case measure => simp [intOf]; omega
    · obtain rfl : j = zs.length := by omega
      have hr := HR.out
      rw [List.take_length] at hr ⊢
      obtain ⟨ys, hys⟩ : ∃ ys, ys = zs.filter okObj := ⟨_, rfl⟩
      have hyl : ys.length ≤ zs.length := by rw [hys]; exact List.length_filter_le _ _
      rw [← hys] at hr ⊢
      obtain ⟨Al, cl, he, hrd⟩ := Rd.ofR hr
      injection he with e1 _ e3
      subst e1
      subst e3
      have XL := Lib.hid (hrd.mono (ok' := OkR w ok) (fun k hk _ => .inr (by have := HSZ.out; have := hk.1; omega)))
      have RJ := Lib.hid (R1.out.below HB.out)
      obtain ⟨p, hp⟩ : ∃ p, p = pRfAll S ys := ⟨_, rfl⟩
      obtain ⟨S2, cd⟩ := p
      have HQ := Lib.hid hp
      have HPF := Lib.hid (show pRfAll S (zs.filter okObj) = (S2, cd) by rw [← hys]; exact hp.symm)
      have hbl : B + 100 * ys.length + 100 ≤ 549755813888 := by omega
      obtain ⟨t0, t1, t2, t3, t4, t5⟩ := six_cells RJ.out.b0
      clear hr hrd hp hys hyl HR
      go_wp2_with (first
        | (go_at_call 80; refine (refRemoveAll_calls _ (OkR w ok) a0 c0 a1 c1 a2 c2 a3 c3 S B Av cv ys RJ.out.rf HS.out hbl XL.out).mono ?_; rw [← HQ.out]; rintro e w5 ⟨v, rfl, ⟨e0, f0, e1, f1, e2, f2, e3, f3, rfl, hr⟩, hb⟩; have B5 := Lib.hid (RJ.out.bl.trans (hb.mono RJ.out.bl.size)); have J5 := Lib.hid (blk_below RJ.out.b1 hb); have R5 := Lib.hid (hr.mono (ok' := OkR w ok) (fun k hk _ => by rcases hk with hk | hk; exact hk; exact .inr (by have := lt_blk RJ.out.b1; omega))); obtain ⟨y0, y1, y2, y3, y4, y5⟩ := six_cells J5.out; obtain ⟨x0, x1, x2, x3, x4, x5⟩ := six_frozen J5.out; clear hr hb)
        | fail)
      rw [HPF.out]
      obtain ⟨z1, z2, z3⟩ := fin_ref (ok := ok) (S := S2) B5.out J5.out R5.out
      exact bodyPost_ret (results_ct rfl _ _ (w.heap.size + 1) tState _ (0, 0) _ rfl z1 Tryz.underlying31 rfl (by kernel_rfl)) rfl ⟨_, rfl, ⟨e0, f0, e1, f1, e2, f2, e3, f3, rfl, z3⟩, z2⟩
set_option maxHeartbeats 4000000 in
set_option maxRecDepth 100000 in
theorem refRemTmp_calls (w : World) (ok : Nat → Prop) (a0 : Option Addr) (c0 : Nat) (a1 : Option Addr) (c1 : Nat) (a2 : Option Addr) (c2 : Nat) (a3 : Option Addr) (c3 : Nat) (S : PS) (B : Nat) (h : Ref w ok a0 c0 a1 c1 a2 c2 a3 c3 S) (hs : Sound S B) (hsd : Sorted S.dir) (hB : B + 100 * S.dir.length + 100 ≤ 549755813888) :
    Calls Tryz.prog 27 #[sv a0 c0 a1 c1 a2 c2 a3 c3 S] w (RefE2 w ok (pRemoveAll S (pTmps S))) := by
  obtain ⟨w1, hw1⟩ : ∃ w1, w1 = (w.alloc (.cells (svC a0 c0 a1 c1 a2 c2 a3 c3 S) tState)).alloc (.cells zeroC tState) := ⟨_, rfl⟩
  have hk := two_blks w (.cells (svC a0 c0 a1 c1 a2 c2 a3 c3 S) tState) (.cells zeroC tState)
  rw [← hw1] at hk
  have R1 := Lib.hid (show RS w w1 ok a0 c0 a1 c1 a2 c2 a3 c3 S from ⟨hk.1.1, hk.1.2, hk.2, (h.mono (ok' := OkR w ok) (fun k h1 h2 => .inl ⟨h1, h2⟩)).below hk.2⟩)
  have HSZ := Lib.hid (show w1.heap.size = w.heap.size + 2 by rw [hw1]; simp)
  have HW1 := Lib.hid (show w1 = (w.alloc (.cells #[.slice a0 S.files.length c0, .slice a1 S.dir.length c1, .slice a2 S.dur.length c2, .slice a3 S.pend.length c3, .bool S.lim, .int .i64 S.left] tState)).alloc (.cells #[.slice none 0 0, .slice none 0 0, .slice none 0 0, .slice none 0 0, .bool false, .int .i64 0] tState) from hw1)
  have HS := Lib.hid hs
  obtain ⟨zs, hzs⟩ : ∃ zs, zs = S.dir.map (·.f0) := ⟨_, rfl⟩
  have HZ := Lib.hid hzs
  have HP0 := Lib.hid (show pRemoveAll S (pTmps S) = pRfAll S (zs.filter isTmp) by rw [← rfAll_tmps hsd, hzs]; rfl)
  have hlz : zs.length = S.dir.length := by rw [hzs, List.length_map]
  rw [← hlz] at hB
  rw [HP0.out]
  clear HP0 hlz hzs hsd
  clear h hs hw1 hk
  go_enter Tryz.func27, Tryz.ntmps27
  obtain ⟨s0, s1, s2, s3, s4, s5⟩ := six_cells R1.out.b0
  go_upto_region 1 with (fail)
  rw [← HW1.out]
  go_wp2_with (first | (go_at_call 38; refine (refList_calls _ (OkR w ok) a0 c0 a1 c1 a2 c2 a3 c3 S B R1.out.rf HS.out.good (by omega)).mono ?_; rw [← HZ.out]; rintro e w2 ⟨A2, d2, rfl, hr, hb⟩; have V2 := Lib.hid hr; have R2 := Lib.hid (R1.out.below hb); have HSZ2 := Lib.hid hb.size; clear hb hr s0 s1 s2 s3 s4 s5) | fail)

  go_loopw [6, 4] (fun i v wx => PickRel w2 isTmp zs i v wx) (fun i _ _ => zs.length - (intOf i).toNat)
  case atStart => exact ⟨0, Nat.zero_le _, rfl, Kd.R_nil _ _ _ _ _, Below.refl _ _⟩
  case round =>
    obtain ⟨j, hj, rfl, hr, hb⟩ := hrel
    have HR := Lib.hid hr
    have HB := Lib.hid hb
    have VJ := Lib.hid (V2.out.below hb)
    clear hr hb
    obtain ⟨Av, cv, rfl⟩ := Kd.R_slice HR.out
    by_cases hlt : j < zs.length
    · have HTK := Lib.hid (take_pick isTmp zs j hlt)
      obtain ⟨ad, hA, q0⟩ := name_cell VJ.out.now j hlt
      subst hA
      obtain ⟨x, hx⟩ : ∃ x, x = zs[j] := ⟨_, rfl⟩
      rw [← hx] at q0 HTK
      have hfl : ((zs.take j).filter isTmp).length ≤ 549755813888 := Nat.le_trans (List.length_filter_le _ _) (by simp; omega)
      have HFL := Lib.hid hfl
      clear hx
      cases ho : isTmp x
      · have HO := Lib.hid ho
        rw [ho] at HTK
        clear ho
        go_wp2_with (first | (go_at_call 81; refine (rtmp_calls _ x).mono ?_; rw [HO.out]; rintro e w3 ⟨rfl, hd⟩; have hb3 := drawn0_below hd; have HB3 := Lib.hid hb3; have HR3 := Lib.hid (Kd.R_below HR.out hb3); clear hd hb3) | fail)
        go_roundw
        case rel => exact ⟨j + 1, by omega, by go_num, by rw [HTK.out]; simpa using HR3.out, HB.out.trans (HB3.out.mono HB.out.size)⟩
        case measure => simp [intOf]; omega
      · have HO := Lib.hid ho
        rw [ho] at HTK
        clear ho
        go_wp2_with (first
          | (go_at_call 81; refine (rtmp_calls _ x).mono ?_; rw [HO.out]; rintro e w3 ⟨rfl, hd⟩; have hb3 := drawn0_below hd; have HB3 := Lib.hid (HB.out.trans (hb3.mono HB.out.size)); have HR3 := Lib.hid (Kd.R_below HR.out hb3); have q3 := (hb3.cell (World.block_lt_of_cell? _ _ q0)).trans q0; clear hd hb3 q0)
          | ((with_reducible refine gate_builtin (b := .append) (xs := #[.tmp 20, .tmp 25]) rfl ?_); at_builtin; refine Kd.R_append Kd.string (w0 := w2) w2.heap.size rfl (.tmp 20) (.tmp 25) 35 9 (.string ⟨#[]⟩) 16 rfl Tryz.underlying35 infoS rfl (by decide) (by decide) (.slice Av ((zs.take j).filter isTmp).length cv) ((zs.take j).filter isTmp) x [.string x] (fun _ => True) (fun _ => False) rfl rfl ?aP (fun _ hk => hk.elim) (fun _ _ => trivial) ?aO ?aB ?aS ?aL ?_; (case aP => exact rfl); (case aO => exact (by (with_reducible repeat (first | apply Kd.R_alloc | apply Kd.R_drewN | apply Kd.R_drew)); exact HR3.out)); (case aB => exact (by repeat (first | (with_reducible first | exact HB3.out | apply below_alloc | apply pw_below_drewN | apply below_drew1) | exact HB3.out))); (case aS => exact (below_size (by repeat (first | (with_reducible first | exact HB3.out | apply below_alloc | apply pw_below_drewN | apply below_drew1) | exact HB3.out)))); (case aL => have := HFL.out; omega); intro v4 w4 hr4 hb4 hg4 hat4; have HR4 := Lib.hid hr4; have HB4 := Lib.hid hb4; clear hr4 hb4 hg4 hat4)
          | fail)
        go_roundw
        case rel => exact ⟨j + 1, by omega, by go_num, by rw [HTK.out]; exact HR4.out, HB4.out⟩
        case measure => simp [intOf]; omega
    · obtain rfl : j = zs.length := by omega
      have hr := HR.out
      rw [List.take_length] at hr ⊢
      obtain ⟨ys, hys⟩ : ∃ ys, ys = zs.filter isTmp := ⟨_, rfl⟩
      have hyl : ys.length ≤ zs.length := by rw [hys]; exact List.length_filter_le _ _
      rw [← hys] at hr ⊢
      obtain ⟨Al, cl, he, hrd⟩ := Rd.ofR hr
      injection he with e1 _ e3
      subst e1
      subst e3
      have XL := Lib.hid (hrd.mono (ok' := OkR w ok) (fun k hk _ => .inr (by have := HSZ.out; have := hk.1; have := HSZ2.out; omega)))
      have RJ := Lib.hid (R2.out.below HB.out)
      obtain ⟨p, hp⟩ : ∃ p, p = pRfAll S ys := ⟨_, rfl⟩
      obtain ⟨S2, cd⟩ := p
      have HQ := Lib.hid hp
      have HPF := Lib.hid (show pRfAll S (zs.filter isTmp) = (S2, cd) by rw [← hys]; exact hp.symm)
      have hbl : B + 100 * ys.length + 100 ≤ 549755813888 := by omega
      obtain ⟨t0, t1, t2, t3, t4, t5⟩ := six_cells RJ.out.b0
      clear hr hrd hp hys hyl HR
      go_wp2_with (first
        | (go_at_call 80; refine (refRemoveAll_calls _ (OkR w ok) a0 c0 a1 c1 a2 c2 a3 c3 S B Av cv ys RJ.out.rf HS.out hbl XL.out).mono ?_; rw [← HQ.out]; rintro e w5 ⟨v, rfl, ⟨e0, f0, e1, f1, e2, f2, e3, f3, rfl, hr⟩, hb⟩; have B5 := Lib.hid (RJ.out.bl.trans (hb.mono RJ.out.bl.size)); have J5 := Lib.hid (blk_below RJ.out.b1 hb); have R5 := Lib.hid (hr.mono (ok' := OkR w ok) (fun k hk _ => by rcases hk with hk | hk; exact hk; exact .inr (by have := lt_blk RJ.out.b1; omega))); obtain ⟨y0, y1, y2, y3, y4, y5⟩ := six_cells J5.out; obtain ⟨x0, x1, x2, x3, x4, x5⟩ := six_frozen J5.out; clear hr hb)
        | fail)
      rw [HPF.out]
      obtain ⟨z1, z2, z3⟩ := fin_ref (ok := ok) (S := S2) B5.out J5.out R5.out
      exact bodyPost_ret (results_ct rfl _ _ (w.heap.size + 1) tState _ (0, 0) _ rfl z1 Tryz.underlying31 rfl (by kernel_rfl)) rfl ⟨_, rfl, ⟨e0, f0, e1, f1, e2, f2, e3, f3, rfl, z3⟩, z2⟩
end Go.Proofs.YtehhafnjbkbmjaaGreat.Disk

/- The object store: a step on a disk and on the reference's state: the operations 0, 1 and 2. -/
namespace Go.Proofs.YtehhafnjbkbmjaaGreat.Disk
open Go Go.RowKit Go.Proofs.YtehhafnjbkbmjaaGreatW.PrintWords Go.Proofs.YtehhafnjbkbmjaaGreatW.PrintLast Go.Proofs.YtehhafnjbkbmjaaGreatW.PrintMore Go.Proofs.YtehhafnjbkbmjaaGreat.PCommitlogSequence
set_option linter.unusedVariables false
abbrev tOp21 : Nat := 39
abbrev opW (k : Int) (n : ByteArray) (A7 : Option Addr) (c7 : Nat) (ns : List ByteArray) (A8 : Option Addr) (c8 : Nat) (bs : List Int) (nn : Int) (A10 : Option Addr) (c10 : Nat) (cs : List Cf) : Array Value :=
  #[.int .i64 k, .string n, .slice A7 ns.length c7, .slice A8 bs.length c8, .int .i64 nn, .slice A10 cs.length c10]
theorem sixW {w : World} {b : Nat} {k nn : Int} {n : ByteArray} {A7 A8 A10 : Option Addr} {c7 c8 c10 : Nat} {ns : List ByteArray} {bs : List Int} {cs : List Cf} (h : w.heap[b]? = some (.cells (opW k n A7 c7 ns A8 c8 bs nn A10 c10 cs) tOp21 (0, 0))) :
    w.cell? ⟨b, 0, none⟩ = some (.int .i64 k) ∧ w.cell? ⟨b, 1, none⟩ = some (.string n) ∧ w.cell? ⟨b, 2, none⟩ = some (.slice A7 ns.length c7) ∧ w.cell? ⟨b, 3, none⟩ = some (.slice A8 bs.length c8) ∧ w.cell? ⟨b, 4, none⟩ = some (.int .i64 nn) ∧ w.cell? ⟨b, 5, none⟩ = some (.slice A10 cs.length c10) :=
  ⟨cell_blk h 0, cell_blk h 1, cell_blk h 2, cell_blk h 3, cell_blk h 4, cell_blk h 5⟩
abbrev oldOk21 (ok : Nat → Prop) (w : World) : Nat → Prop := fun k => ok k ∧ k < w.heap.size
set_option maxHeartbeats 8000000 in
set_option maxRecDepth 100000 in
theorem step21_put (w : World) (F ok : Nat → Prop) (d : Nat) (L : Lay) (S : PS) (B m : Nat) (a0 : Option Addr) (c0 : Nat) (a1 : Option Addr) (c1 : Nat) (a2 : Option Addr) (c2 : Nat) (a3 : Option Addr) (c3 : Nat) (n : ByteArray) (A7 : Option Addr) (c7 : Nat) (ns : List ByteArray) (A8 : Option Addr) (c8 : Nat) (bs : List Int) (nn : Int) (A10 : Option Addr) (c10 : Nat) (cs : List Cf)
    (h : Rep w F d L S (Live S)) (hf : Ref w ok a0 c0 a1 c1 a2 c2 a3 c3 S) (hs : Sound S B) (hm : 1200 ≤ m) (hB : B + m * 6 ≤ 549755813888) (hlt : ∀ k, F k → k < w.heap.size) (hap : ∀ k, ok k → ¬ F k) (hbm : bs.length + 4 ≤ m) (hbs : Rd kB w ok A8 c8 bs) (hwb : ∀ x ∈ bs, 0 ≤ x ∧ x ≤ 255) :
    Calls Tryz.prog 9 #[.pointer (some ⟨d, 0, none⟩), sv a0 c0 a1 c1 a2 c2 a3 c3 S, .agg (opW 0 n A7 c7 ns A8 c8 bs nn A10 c10 cs)] w (Stepped w F ok d (pPut S n bs).1) := by
  obtain ⟨w3, hw3⟩ : ∃ w3, w3 = ((w.alloc (.cells (svC a0 c0 a1 c1 a2 c2 a3 c3 S) tState)).alloc (.cells (opW 0 n A7 c7 ns A8 c8 bs nn A10 c10 cs) tOp21)).alloc (.cells zeroC tState) := ⟨_, rfl⟩
  have HW := Lib.hid (three_blks w (.cells (svC a0 c0 a1 c1 a2 c2 a3 c3 S) tState) (.cells (opW 0 n A7 c7 ns A8 c8 bs nn A10 c10 cs) tOp21) (.cells zeroC tState))
  rw [← hw3] at HW
  have HSZ := Lib.hid (show w.heap.size + 3 = w3.heap.size by rw [hw3]; simp)
  have HW3 := Lib.hid (show w3 = ((w.alloc (.cells #[.slice a0 S.files.length c0, .slice a1 S.dir.length c1, .slice a2 S.dur.length c2, .slice a3 S.pend.length c3, .bool S.lim, .int .i64 S.left] tState)).alloc (.cells (opW 0 n A7 c7 ns A8 c8 bs nn A10 c10 cs) tOp21)).alloc (.cells #[.slice none 0 0, .slice none 0 0, .slice none 0 0, .slice none 0 0, .bool false, .int .i64 0] tState) from hw3)
  have HREP := Lib.hid (h.below HW.out.2)
  have HREF := Lib.hid ((hf.mono (ok' := oldOk21 ok w) (fun k h1 h2 => ⟨h1, h2⟩)).below HW.out.2)
  have HS := Lib.hid hs
  have HLT := Lib.hid hlt
  have HAP := Lib.hid hap
  have HLT3 := Lib.hid (fun k (hk : F k) => show k < w3.heap.size from Nat.lt_of_lt_of_le (hlt k hk) HW.out.2.size)
  clear h hf hs hlt hap hw3
  obtain ⟨s0, s1, s2, s3, s4, s5⟩ := six_cells HW.out.1.1
  obtain ⟨o0, o1, o2, o3, o4, o5⟩ := sixW HW.out.1.2.1
  obtain ⟨p, hp⟩ : ∃ p, p = pPut S n bs := ⟨_, rfl⟩
  rw [← hp]
  obtain ⟨S2, cd⟩ := p
  have HQ := Lib.hid hp
  clear hp
  have HBS := Lib.hid ((hbs.mono (ok' := oldOk21 ok w) (fun k h1 h2 => ⟨h1, h2⟩)).below HW.out.2)
  have HBN := Lib.hid (HBS.out.mono (ok' := fun k => ¬ F k) (fun k hk _ => HAP.out k hk.1))
  have HWB := Lib.hid hwb
  clear hbs hwb
  go_enter Tryz.func9, Tryz.ntmps9
  go_upto_region 1 with (fail)
  rw [← HW3.out]
  go_upto_region 4 with (first
    | ((go_at_call 25; refine (refPut_calls w3 (oldOk21 ok w) a0 c0 a1 c1 a2 c2 a3 c3 S B m n A8 c8 bs HREF.out HS.out (by omega) hbm hB HBS.out HWB.out).mono ?_); rw [← HQ.out]; rintro e w4 ⟨v, rfl, ⟨e0, f0, e1, f1, e2, f2, e3, f3, rfl, hr⟩, hb⟩; have HR4 := Lib.hid hr; have HB4 := Lib.hid hb; clear hr hb s0 s1 s2 s3 s4 s5 o0 o1 o2 o3 o4 o5)
    | fail)
  obtain ⟨w5, hw5⟩ : ∃ w5, w5 = w4.alloc (.cells #[.slice e0 S2.files.length f0, .slice e1 S2.dir.length f1, .slice e2 S2.dur.length f2, .slice e3 S2.pend.length f3, .bool S2.lim, .int .i64 S2.left] tState) := ⟨_, rfl⟩
  rw [← hw5]
  have hb45 : Below w4.heap.size w4 w5 := by rw [hw5]; exact Below.of_alloc' w4 _
  have J3 := Lib.hid (show w5.heap[w4.heap.size]? = some (.cells (svC e0 f0 e1 f1 e2 f2 e3 f3 S2) tState (0, 0)) by rw [hw5]; exact heap_alloc_new w4 _)
  have HB5 := Lib.hid (HB4.out.trans (hb45.mono HB4.out.size))
  have HR5 := Lib.hid (show Ref w5 (fun k => (ok k ∧ k < w.heap.size) ∨ w3.heap.size ≤ k) e0 f0 e1 f1 e2 f2 e3 f3 S2 from HR4.out.below hb45)
  have J1 := Lib.hid (blk_below HW.out.1.2.1 HB5.out)
  have J2 := Lib.hid (blk_below HW.out.1.2.2 HB5.out)
  have HREP5 := Lib.hid (HREP.out.below HB5.out)
  have HLT5 := Lib.hid (fun k (hk : F k) => Nat.lt_of_lt_of_le (HLT3.out k hk) HB5.out.size)
  have n1 : ¬ F (w.heap.size + 1) := not_new HLT.out (by omega)
  have n2 : ¬ F (w.heap.size + 1 + 1) := not_new HLT.out (by omega)
  have n3 : ¬ F w4.heap.size := not_new HLT3.out HB4.out.size
  have hne1 : w4.heap.size ≠ w.heap.size + 1 + 1 := by have := HB4.out.size; have := HSZ.out; omega
  clear hw5 hb45 HR4
  have P5 := Lib.hid (And.intro (six_cells (w := w5.drew) (t := tState) (fz := (0, 0)) J3.out) (sixW (w := w5.drew) J1.out))
  go_region_held3 (fun w' => (w'.cell? ⟨w4.heap.size, 0, none⟩ = some (.slice e0 S2.files.length f0) ∧ w'.cell? ⟨w4.heap.size, 1, none⟩ = some (.slice e1 S2.dir.length f1) ∧ w'.cell? ⟨w4.heap.size, 2, none⟩ = some (.slice e2 S2.dur.length f2) ∧ w'.cell? ⟨w4.heap.size, 3, none⟩ = some (.slice e3 S2.pend.length f3) ∧ w'.cell? ⟨w4.heap.size, 4, none⟩ = some (.bool S2.lim) ∧ w'.cell? ⟨w4.heap.size, 5, none⟩ = some (.int .i64 S2.left)) ∧ (w'.cell? ⟨w.heap.size + 1, 0, none⟩ = some (.int .i64 0) ∧ w'.cell? ⟨w.heap.size + 1, 1, none⟩ = some (.string n) ∧ w'.cell? ⟨w.heap.size + 1, 2, none⟩ = some (.slice A7 ns.length c7) ∧ w'.cell? ⟨w.heap.size + 1, 3, none⟩ = some (.slice A8 bs.length c8) ∧ w'.cell? ⟨w.heap.size + 1, 4, none⟩ = some (.int .i64 nn) ∧ w'.cell? ⟨w.heap.size + 1, 5, none⟩ = some (.slice A10 cs.length c10)))
    (first | (with_reducible exact P5.out) | (with_reducible exact P6.out) | exact And.intro (six_cells (set_six_other K3.out hne1 _ _ _ _ _ _)) (sixW (set_six_other K1.out (by omega) _ _ _ _ _ _)))
    (first
      | ((go_at_call 16; refine (Put_calls w5.drew F d L S B m n A8 c8 bs (HREP5.out.move (fun _ _ _ => rfl)) HLT5.out HS.out (by omega) hbm hB HWB.out ((HBN.out.below HB5.out).move (w' := w5.drew) (fun _ _ _ => rfl))).mono ?_); rw [← HQ.out]; rintro e w6 ⟨rfl, F', L', hr, hc⟩; have hc' : Chg w5 F w6 F' := ⟨((Fr.refl _ w5).drewN 1).trans hc.fr (fun _ => .inl), hc.new, hc.lt⟩; have HR6 := Lib.hid hr; have HC6 := Lib.hid hc'; have K3 := Lib.hid (chg_blk hc' J3.out n3); have K1 := Lib.hid (chg_blk hc' J1.out n1); have K2 := Lib.hid (chg_blk hc' J2.out n2); obtain ⟨z0, z1, z2, z3, z4, z5⟩ := six_cells K2.out; obtain ⟨g0, g1, g2, g3, g4, g5⟩ := six_frozen K2.out; have P6 := Lib.hid (And.intro (six_cells K3.out) (sixW K1.out)); clear hr hc hc'))
  go_wp2_with fail
  obtain ⟨q1, q2, q3⟩ := fin24 HLT.out HAP.out HW.out.2 HSZ.out HB5.out HR5.out HC6.out HR6.out K2.out
  exact bodyPost_ret (results_ct rfl _ _ (w.heap.size + 1 + 1) tState _ (0, 0) _ rfl q1 Tryz.underlying31 rfl (by kernel_rfl)) rfl ⟨_, F', rfl, q2, q3⟩
set_option maxHeartbeats 8000000 in
set_option maxRecDepth 100000 in
theorem step21_delete (w : World) (F ok : Nat → Prop) (d : Nat) (L : Lay) (S : PS) (B m : Nat) (a0 : Option Addr) (c0 : Nat) (a1 : Option Addr) (c1 : Nat) (a2 : Option Addr) (c2 : Nat) (a3 : Option Addr) (c3 : Nat) (n : ByteArray) (A7 : Option Addr) (c7 : Nat) (ns : List ByteArray) (A8 : Option Addr) (c8 : Nat) (bs : List Int) (nn : Int) (A10 : Option Addr) (c10 : Nat) (cs : List Cf)
    (h : Rep w F d L S (Live S)) (hf : Ref w ok a0 c0 a1 c1 a2 c2 a3 c3 S) (hs : Sound S B) (hm : 1200 ≤ m) (hB : B + m * 6 ≤ 549755813888) (hlt : ∀ k, F k → k < w.heap.size) (hap : ∀ k, ok k → ¬ F k) (hbm : 100 * ns.length + 100 ≤ m) (hbs : Rd kS w ok A7 c7 ns) :
    Calls Tryz.prog 9 #[.pointer (some ⟨d, 0, none⟩), sv a0 c0 a1 c1 a2 c2 a3 c3 S, .agg (opW 1 n A7 c7 ns A8 c8 bs nn A10 c10 cs)] w (Stepped w F ok d (pDelete S ns).1) := by
  obtain ⟨w3, hw3⟩ : ∃ w3, w3 = ((w.alloc (.cells (svC a0 c0 a1 c1 a2 c2 a3 c3 S) tState)).alloc (.cells (opW 1 n A7 c7 ns A8 c8 bs nn A10 c10 cs) tOp21)).alloc (.cells zeroC tState) := ⟨_, rfl⟩
  have HW := Lib.hid (three_blks w (.cells (svC a0 c0 a1 c1 a2 c2 a3 c3 S) tState) (.cells (opW 1 n A7 c7 ns A8 c8 bs nn A10 c10 cs) tOp21) (.cells zeroC tState))
  rw [← hw3] at HW
  have HSZ := Lib.hid (show w.heap.size + 3 = w3.heap.size by rw [hw3]; simp)
  have HW3 := Lib.hid (show w3 = ((w.alloc (.cells #[.slice a0 S.files.length c0, .slice a1 S.dir.length c1, .slice a2 S.dur.length c2, .slice a3 S.pend.length c3, .bool S.lim, .int .i64 S.left] tState)).alloc (.cells (opW 1 n A7 c7 ns A8 c8 bs nn A10 c10 cs) tOp21)).alloc (.cells #[.slice none 0 0, .slice none 0 0, .slice none 0 0, .slice none 0 0, .bool false, .int .i64 0] tState) from hw3)
  have HREP := Lib.hid (h.below HW.out.2)
  have HREF := Lib.hid ((hf.mono (ok' := oldOk21 ok w) (fun k h1 h2 => ⟨h1, h2⟩)).below HW.out.2)
  have HS := Lib.hid hs
  have HLT := Lib.hid hlt
  have HAP := Lib.hid hap
  have HLT3 := Lib.hid (fun k (hk : F k) => show k < w3.heap.size from Nat.lt_of_lt_of_le (hlt k hk) HW.out.2.size)
  clear h hf hs hlt hap hw3
  obtain ⟨s0, s1, s2, s3, s4, s5⟩ := six_cells HW.out.1.1
  obtain ⟨o0, o1, o2, o3, o4, o5⟩ := sixW HW.out.1.2.1
  obtain ⟨p, hp⟩ : ∃ p, p = pDelete S ns := ⟨_, rfl⟩
  rw [← hp]
  obtain ⟨S2, cd⟩ := p
  have HQ := Lib.hid hp
  clear hp
  have HBS := Lib.hid ((hbs.mono (ok' := oldOk21 ok w) (fun k h1 h2 => ⟨h1, h2⟩)).below HW.out.2)
  have HBN := Lib.hid (HBS.out.mono (ok' := fun k => ¬ F k) (fun k hk _ => HAP.out k hk.1))
  clear hbs
  go_enter Tryz.func9, Tryz.ntmps9
  go_upto_region 1 with (fail)
  rw [← HW3.out]
  go_upto_region 7 with (first
    | ((go_at_call 26; refine (refDelete_calls w3 (oldOk21 ok w) a0 c0 a1 c1 a2 c2 a3 c3 S B A7 c7 ns HREF.out HS.out (by omega) HBS.out).mono ?_); rw [← HQ.out]; rintro e w4 ⟨v, rfl, ⟨e0, f0, e1, f1, e2, f2, e3, f3, rfl, hr⟩, hb⟩; have HR4 := Lib.hid hr; have HB4 := Lib.hid hb; clear hr hb s0 s1 s2 s3 s4 s5 o0 o1 o2 o3 o4 o5)
    | fail)
  obtain ⟨w5, hw5⟩ : ∃ w5, w5 = w4.alloc (.cells #[.slice e0 S2.files.length f0, .slice e1 S2.dir.length f1, .slice e2 S2.dur.length f2, .slice e3 S2.pend.length f3, .bool S2.lim, .int .i64 S2.left] tState) := ⟨_, rfl⟩
  rw [← hw5]
  have hb45 : Below w4.heap.size w4 w5 := by rw [hw5]; exact Below.of_alloc' w4 _
  have J3 := Lib.hid (show w5.heap[w4.heap.size]? = some (.cells (svC e0 f0 e1 f1 e2 f2 e3 f3 S2) tState (0, 0)) by rw [hw5]; exact heap_alloc_new w4 _)
  have HB5 := Lib.hid (HB4.out.trans (hb45.mono HB4.out.size))
  have HR5 := Lib.hid (show Ref w5 (fun k => (ok k ∧ k < w.heap.size) ∨ w3.heap.size ≤ k) e0 f0 e1 f1 e2 f2 e3 f3 S2 from HR4.out.below hb45)
  have J1 := Lib.hid (blk_below HW.out.1.2.1 HB5.out)
  have J2 := Lib.hid (blk_below HW.out.1.2.2 HB5.out)
  have HREP5 := Lib.hid (HREP.out.below HB5.out)
  have HLT5 := Lib.hid (fun k (hk : F k) => Nat.lt_of_lt_of_le (HLT3.out k hk) HB5.out.size)
  have n1 : ¬ F (w.heap.size + 1) := not_new HLT.out (by omega)
  have n2 : ¬ F (w.heap.size + 1 + 1) := not_new HLT.out (by omega)
  have n3 : ¬ F w4.heap.size := not_new HLT3.out HB4.out.size
  have hne1 : w4.heap.size ≠ w.heap.size + 1 + 1 := by have := HB4.out.size; have := HSZ.out; omega
  clear hw5 hb45 HR4
  have P5 := Lib.hid (And.intro (six_cells (w := w5.drew) (t := tState) (fz := (0, 0)) J3.out) (sixW (w := w5.drew) J1.out))
  go_region_held3 (fun w' => (w'.cell? ⟨w4.heap.size, 0, none⟩ = some (.slice e0 S2.files.length f0) ∧ w'.cell? ⟨w4.heap.size, 1, none⟩ = some (.slice e1 S2.dir.length f1) ∧ w'.cell? ⟨w4.heap.size, 2, none⟩ = some (.slice e2 S2.dur.length f2) ∧ w'.cell? ⟨w4.heap.size, 3, none⟩ = some (.slice e3 S2.pend.length f3) ∧ w'.cell? ⟨w4.heap.size, 4, none⟩ = some (.bool S2.lim) ∧ w'.cell? ⟨w4.heap.size, 5, none⟩ = some (.int .i64 S2.left)) ∧ (w'.cell? ⟨w.heap.size + 1, 0, none⟩ = some (.int .i64 1) ∧ w'.cell? ⟨w.heap.size + 1, 1, none⟩ = some (.string n) ∧ w'.cell? ⟨w.heap.size + 1, 2, none⟩ = some (.slice A7 ns.length c7) ∧ w'.cell? ⟨w.heap.size + 1, 3, none⟩ = some (.slice A8 bs.length c8) ∧ w'.cell? ⟨w.heap.size + 1, 4, none⟩ = some (.int .i64 nn) ∧ w'.cell? ⟨w.heap.size + 1, 5, none⟩ = some (.slice A10 cs.length c10)))
    (first | (with_reducible exact P5.out) | (with_reducible exact P6.out) | exact And.intro (six_cells (set_six_other K3.out hne1 _ _ _ _ _ _)) (sixW (set_six_other K1.out (by omega) _ _ _ _ _ _)))
    (first
      | ((go_at_call 23; refine (Delete_calls w5.drew F d L S B A7 c7 ns (HREP5.out.move (fun _ _ _ => rfl)) HLT5.out HS.out (by omega) ((HBN.out.below HB5.out).move (w' := w5.drew) (fun _ _ _ => rfl))).mono ?_); rw [← HQ.out]; rintro e w6 ⟨rfl, F', L', hr, hc⟩; have hc' : Chg w5 F w6 F' := ⟨((Fr.refl _ w5).drewN 1).trans hc.fr (fun _ => .inl), hc.new, hc.lt⟩; have HR6 := Lib.hid hr; have HC6 := Lib.hid hc'; have K3 := Lib.hid (chg_blk hc' J3.out n3); have K1 := Lib.hid (chg_blk hc' J1.out n1); have K2 := Lib.hid (chg_blk hc' J2.out n2); obtain ⟨z0, z1, z2, z3, z4, z5⟩ := six_cells K2.out; obtain ⟨g0, g1, g2, g3, g4, g5⟩ := six_frozen K2.out; have P6 := Lib.hid (And.intro (six_cells K3.out) (sixW K1.out)); clear hr hc hc'))
  go_wp2_with fail
  obtain ⟨q1, q2, q3⟩ := fin24 HLT.out HAP.out HW.out.2 HSZ.out HB5.out HR5.out HC6.out HR6.out K2.out
  exact bodyPost_ret (results_ct rfl _ _ (w.heap.size + 1 + 1) tState _ (0, 0) _ rfl q1 Tryz.underlying31 rfl (by kernel_rfl)) rfl ⟨_, F', rfl, q2, q3⟩
set_option maxHeartbeats 8000000 in
set_option maxRecDepth 100000 in
theorem step21_rmtmp (w : World) (F ok : Nat → Prop) (d : Nat) (L : Lay) (S : PS) (B m : Nat) (a0 : Option Addr) (c0 : Nat) (a1 : Option Addr) (c1 : Nat) (a2 : Option Addr) (c2 : Nat) (a3 : Option Addr) (c3 : Nat) (n : ByteArray) (A7 : Option Addr) (c7 : Nat) (ns : List ByteArray) (A8 : Option Addr) (c8 : Nat) (bs : List Int) (nn : Int) (A10 : Option Addr) (c10 : Nat) (cs : List Cf)
    (h : Rep w F d L S (Live S)) (hf : Ref w ok a0 c0 a1 c1 a2 c2 a3 c3 S) (hs : Sound S B) (hm : 1200 ≤ m) (hB : B + m * 6 ≤ 549755813888) (hlt : ∀ k, F k → k < w.heap.size) (hap : ∀ k, ok k → ¬ F k) (hbm2 : B + 100 * B + 100 ≤ 549755813888) :
    Calls Tryz.prog 9 #[.pointer (some ⟨d, 0, none⟩), sv a0 c0 a1 c1 a2 c2 a3 c3 S, .agg (opW 2 n A7 c7 ns A8 c8 bs nn A10 c10 cs)] w (Stepped w F ok d (pRemoveAll S (pTmps S)).1) := by
  obtain ⟨w3, hw3⟩ : ∃ w3, w3 = ((w.alloc (.cells (svC a0 c0 a1 c1 a2 c2 a3 c3 S) tState)).alloc (.cells (opW 2 n A7 c7 ns A8 c8 bs nn A10 c10 cs) tOp21)).alloc (.cells zeroC tState) := ⟨_, rfl⟩
  have HW := Lib.hid (three_blks w (.cells (svC a0 c0 a1 c1 a2 c2 a3 c3 S) tState) (.cells (opW 2 n A7 c7 ns A8 c8 bs nn A10 c10 cs) tOp21) (.cells zeroC tState))
  rw [← hw3] at HW
  have HSZ := Lib.hid (show w.heap.size + 3 = w3.heap.size by rw [hw3]; simp)
  have HW3 := Lib.hid (show w3 = ((w.alloc (.cells #[.slice a0 S.files.length c0, .slice a1 S.dir.length c1, .slice a2 S.dur.length c2, .slice a3 S.pend.length c3, .bool S.lim, .int .i64 S.left] tState)).alloc (.cells (opW 2 n A7 c7 ns A8 c8 bs nn A10 c10 cs) tOp21)).alloc (.cells #[.slice none 0 0, .slice none 0 0, .slice none 0 0, .slice none 0 0, .bool false, .int .i64 0] tState) from hw3)
  have HREP := Lib.hid (h.below HW.out.2)
  have HREF := Lib.hid ((hf.mono (ok' := oldOk21 ok w) (fun k h1 h2 => ⟨h1, h2⟩)).below HW.out.2)
  have HS := Lib.hid hs
  have HLT := Lib.hid hlt
  have HAP := Lib.hid hap
  have HLT3 := Lib.hid (fun k (hk : F k) => show k < w3.heap.size from Nat.lt_of_lt_of_le (hlt k hk) HW.out.2.size)
  clear h hf hs hlt hap hw3
  obtain ⟨s0, s1, s2, s3, s4, s5⟩ := six_cells HW.out.1.1
  obtain ⟨o0, o1, o2, o3, o4, o5⟩ := sixW HW.out.1.2.1
  obtain ⟨p, hp⟩ : ∃ p, p = pRemoveAll S (pTmps S) := ⟨_, rfl⟩
  rw [← hp]
  obtain ⟨S2, cd⟩ := p
  have HQ := Lib.hid hp
  clear hp
  have HSD := Lib.hid (own_Sorted HREP.out.cur)
  have hbm : B + 100 * S.dir.length + 100 ≤ 549755813888 := by have := HS.out.good.nDir; omega
  go_enter Tryz.func9, Tryz.ntmps9
  go_upto_region 1 with (fail)
  rw [← HW3.out]
  go_upto_region 10 with (first
    | ((go_at_call 27; refine (refRemTmp_calls w3 (oldOk21 ok w) a0 c0 a1 c1 a2 c2 a3 c3 S B HREF.out HS.out HSD.out hbm).mono ?_); rw [← HQ.out]; rintro e w4 ⟨v, rfl, ⟨e0, f0, e1, f1, e2, f2, e3, f3, rfl, hr⟩, hb⟩; have HR4 := Lib.hid hr; have HB4 := Lib.hid hb; clear hr hb s0 s1 s2 s3 s4 s5 o0 o1 o2 o3 o4 o5)
    | fail)
  obtain ⟨w5, hw5⟩ : ∃ w5, w5 = w4.alloc (.cells #[.slice e0 S2.files.length f0, .slice e1 S2.dir.length f1, .slice e2 S2.dur.length f2, .slice e3 S2.pend.length f3, .bool S2.lim, .int .i64 S2.left] tState) := ⟨_, rfl⟩
  rw [← hw5]
  have hb45 : Below w4.heap.size w4 w5 := by rw [hw5]; exact Below.of_alloc' w4 _
  have J3 := Lib.hid (show w5.heap[w4.heap.size]? = some (.cells (svC e0 f0 e1 f1 e2 f2 e3 f3 S2) tState (0, 0)) by rw [hw5]; exact heap_alloc_new w4 _)
  have HB5 := Lib.hid (HB4.out.trans (hb45.mono HB4.out.size))
  have HR5 := Lib.hid (show Ref w5 (fun k => (ok k ∧ k < w.heap.size) ∨ w3.heap.size ≤ k) e0 f0 e1 f1 e2 f2 e3 f3 S2 from HR4.out.below hb45)
  have J1 := Lib.hid (blk_below HW.out.1.2.1 HB5.out)
  have J2 := Lib.hid (blk_below HW.out.1.2.2 HB5.out)
  have HREP5 := Lib.hid (HREP.out.below HB5.out)
  have HLT5 := Lib.hid (fun k (hk : F k) => Nat.lt_of_lt_of_le (HLT3.out k hk) HB5.out.size)
  have n1 : ¬ F (w.heap.size + 1) := not_new HLT.out (by omega)
  have n2 : ¬ F (w.heap.size + 1 + 1) := not_new HLT.out (by omega)
  have n3 : ¬ F w4.heap.size := not_new HLT3.out HB4.out.size
  have hne1 : w4.heap.size ≠ w.heap.size + 1 + 1 := by have := HB4.out.size; have := HSZ.out; omega
  clear hw5 hb45 HR4
  have P5 := Lib.hid (And.intro (six_cells (w := w5.drew) (t := tState) (fz := (0, 0)) J3.out) (sixW (w := w5.drew) J1.out))
  go_region_held3 (fun w' => (w'.cell? ⟨w4.heap.size, 0, none⟩ = some (.slice e0 S2.files.length f0) ∧ w'.cell? ⟨w4.heap.size, 1, none⟩ = some (.slice e1 S2.dir.length f1) ∧ w'.cell? ⟨w4.heap.size, 2, none⟩ = some (.slice e2 S2.dur.length f2) ∧ w'.cell? ⟨w4.heap.size, 3, none⟩ = some (.slice e3 S2.pend.length f3) ∧ w'.cell? ⟨w4.heap.size, 4, none⟩ = some (.bool S2.lim) ∧ w'.cell? ⟨w4.heap.size, 5, none⟩ = some (.int .i64 S2.left)) ∧ (w'.cell? ⟨w.heap.size + 1, 0, none⟩ = some (.int .i64 2) ∧ w'.cell? ⟨w.heap.size + 1, 1, none⟩ = some (.string n) ∧ w'.cell? ⟨w.heap.size + 1, 2, none⟩ = some (.slice A7 ns.length c7) ∧ w'.cell? ⟨w.heap.size + 1, 3, none⟩ = some (.slice A8 bs.length c8) ∧ w'.cell? ⟨w.heap.size + 1, 4, none⟩ = some (.int .i64 nn) ∧ w'.cell? ⟨w.heap.size + 1, 5, none⟩ = some (.slice A10 cs.length c10)))
    (first | (with_reducible exact P5.out) | (with_reducible exact P6.out) | exact And.intro (six_cells (set_six_other K3.out hne1 _ _ _ _ _ _)) (sixW (set_six_other K1.out (by omega) _ _ _ _ _ _)))
    (first
      | ((go_at_call 21; refine (RemoveTemporary_calls w5.drew F d L S B (HREP5.out.move (fun _ _ _ => rfl)) HLT5.out HS.out (by omega)).mono ?_); rw [← HQ.out]; rintro e w6 ⟨rfl, F', L', hr, hc⟩; have hc' : Chg w5 F w6 F' := ⟨((Fr.refl _ w5).drewN 1).trans hc.fr (fun _ => .inl), hc.new, hc.lt⟩; have HR6 := Lib.hid hr; have HC6 := Lib.hid hc'; have K3 := Lib.hid (chg_blk hc' J3.out n3); have K1 := Lib.hid (chg_blk hc' J1.out n1); have K2 := Lib.hid (chg_blk hc' J2.out n2); obtain ⟨z0, z1, z2, z3, z4, z5⟩ := six_cells K2.out; obtain ⟨g0, g1, g2, g3, g4, g5⟩ := six_frozen K2.out; have P6 := Lib.hid (And.intro (six_cells K3.out) (sixW K1.out)); clear hr hc hc'))
  go_wp2_with fail
  obtain ⟨q1, q2, q3⟩ := fin24 HLT.out HAP.out HW.out.2 HSZ.out HB5.out HR5.out HC6.out HR6.out K2.out
  exact bodyPost_ret (results_ct rfl _ _ (w.heap.size + 1 + 1) tState _ (0, 0) _ rfl q1 Tryz.underlying31 rfl (by kernel_rfl)) rfl ⟨_, F', rfl, q2, q3⟩
end Go.Proofs.YtehhafnjbkbmjaaGreat.Disk

/- The object store: a step on a disk and on the reference's state: the operations 3 and 4, and nothing. -/
namespace Go.Proofs.YtehhafnjbkbmjaaGreat.Disk
open Go Go.RowKit Go.Proofs.YtehhafnjbkbmjaaGreatW.PrintWords Go.Proofs.YtehhafnjbkbmjaaGreatW.PrintLast Go.Proofs.YtehhafnjbkbmjaaGreatW.PrintMore Go.Proofs.YtehhafnjbkbmjaaGreat.PCommitlogSequence
set_option maxHeartbeats 8000000 in
set_option maxRecDepth 100000 in
theorem step21_fail (w : World) (F ok : Nat → Prop) (d : Nat) (L : Lay) (S : PS) (B : Nat) (a0 : Option Addr) (c0 : Nat) (a1 : Option Addr) (c1 : Nat) (a2 : Option Addr) (c2 : Nat) (a3 : Option Addr) (c3 : Nat) (n : ByteArray) (A7 : Option Addr) (c7 : Nat) (ns : List ByteArray) (A8 : Option Addr) (c8 : Nat) (bs : List Int) (nn : Int) (A10 : Option Addr) (c10 : Nat) (cs : List Cf)
    (h : Rep w F d L S (Live S)) (hf : Ref w ok a0 c0 a1 c1 a2 c2 a3 c3 S) (hs : Sound S B) (hlt : ∀ k, F k → k < w.heap.size) (hap : ∀ k, ok k → ¬ F k) :
    Calls Tryz.prog 9 #[.pointer (some ⟨d, 0, none⟩), sv a0 c0 a1 c1 a2 c2 a3 c3 S, .agg (opW 3 n A7 c7 ns A8 c8 bs nn A10 c10 cs)] w (Stepped w F ok d (pFail S nn)) := by
  obtain ⟨w3, hw3⟩ : ∃ w3, w3 = ((w.alloc (.cells (svC a0 c0 a1 c1 a2 c2 a3 c3 S) tState)).alloc (.cells (opW 3 n A7 c7 ns A8 c8 bs nn A10 c10 cs) tOp21)).alloc (.cells zeroC tState) := ⟨_, rfl⟩
  have HW := Lib.hid (three_blks w (.cells (svC a0 c0 a1 c1 a2 c2 a3 c3 S) tState) (.cells (opW 3 n A7 c7 ns A8 c8 bs nn A10 c10 cs) tOp21) (.cells zeroC tState))
  rw [← hw3] at HW
  have HSZ := Lib.hid (show w.heap.size + 3 = w3.heap.size by rw [hw3]; simp)
  have HW3 := Lib.hid (show w3 = ((w.alloc (.cells #[.slice a0 S.files.length c0, .slice a1 S.dir.length c1, .slice a2 S.dur.length c2, .slice a3 S.pend.length c3, .bool S.lim, .int .i64 S.left] tState)).alloc (.cells (opW 3 n A7 c7 ns A8 c8 bs nn A10 c10 cs) tOp21)).alloc (.cells #[.slice none 0 0, .slice none 0 0, .slice none 0 0, .slice none 0 0, .bool false, .int .i64 0] tState) from hw3)
  have HREP := Lib.hid (h.below HW.out.2)
  have HREF := Lib.hid ((hf.mono (ok' := oldOk21 ok w) (fun k h1 h2 => ⟨h1, h2⟩)).below HW.out.2)
  have HS := Lib.hid hs
  have HLT := Lib.hid hlt
  have HAP := Lib.hid hap
  have n0 : ¬ F w.heap.size := not_new hlt (Nat.le_refl _)
  have n1 : ¬ F (w.heap.size + 1) := not_new hlt (by omega)
  have n2 : ¬ F (w.heap.size + 1 + 1) := not_new hlt (by omega)
  clear h hf hs hlt hap hw3
  obtain ⟨s0, s1, s2, s3, s4, s5⟩ := six_cells HW.out.1.1
  obtain ⟨o0, o1, o2, o3, o4, o5⟩ := sixW HW.out.1.2.1
  go_enter Tryz.func9, Tryz.ntmps9
  go_upto_region 1 with (fail)
  rw [← HW3.out]
  go_wp2_with (first
    | ((go_at_call 19; refine (FailAfter_calls w3 F d L S nn HREP.out).mono ?_); rintro e w4 ⟨rfl, F', L', hr, hc⟩; have HR4 := Lib.hid hr; have HC4 := Lib.hid hc; have HREF4 := Lib.hid (HREF.out.chg hc (fun k hk => HAP.out k hk.1)); have K0 := chg_blk hc HW.out.1.1 n0; have K1 := chg_blk hc HW.out.1.2.1 n1; have K2 := Lib.hid (chg_blk hc HW.out.1.2.2 n2); clear s0 s1 s2 s3 s4 s5 o0 o1 o2 o3 o4 o5; obtain ⟨s0, s1, s2, s3, s4, s5⟩ := six_cells K0; obtain ⟨o0, o1, o2, o3, o4, o5⟩ := sixW K1; clear hr hc K0 K1)
    | ((go_at_call 28; refine (refFail2_calls w4 (oldOk21 ok w) a0 c0 a1 c1 a2 c2 a3 c3 S nn HREF4.out).mono ?_); rintro e w5 ⟨v, rfl, ⟨e0, f0, e1, f1, e2, f2, e3, f3, rfl, hr⟩, hb⟩; have HR5 := Lib.hid hr; have HB5 := Lib.hid hb; have K5 := Lib.hid (blk_below K2.out hb); obtain ⟨z0, z1, z2, z3, z4, z5⟩ := six_cells K5.out; obtain ⟨g0, g1, g2, g3, g4, g5⟩ := six_frozen K5.out; clear hr hb)
    | fail)
  obtain ⟨q1, q2, q3⟩ := step_core HLT.out HAP.out HW.out.2 HSZ.out HC4.out HR4.out HB5.out HR5.out (fun _ _ => rfl) rfl (Below.refl _ _) rfl K5.out
  exact bodyPost_ret (results_ct rfl _ _ (w.heap.size + 1 + 1) tState _ (0, 0) _ rfl q1 Tryz.underlying31 rfl (by kernel_rfl)) rfl ⟨_, F', rfl, q2, q3⟩
set_option maxHeartbeats 8000000 in
set_option maxRecDepth 100000 in
theorem step21_crash (w : World) (F ok : Nat → Prop) (d : Nat) (L : Lay) (S : PS) (B : Nat) (a0 : Option Addr) (c0 : Nat) (a1 : Option Addr) (c1 : Nat) (a2 : Option Addr) (c2 : Nat) (a3 : Option Addr) (c3 : Nat) (n : ByteArray) (A7 : Option Addr) (c7 : Nat) (ns : List ByteArray) (A8 : Option Addr) (c8 : Nat) (bs : List Int) (nn : Int) (A10 : Option Addr) (c10 : Nat) (cs : List Cf)
    (h : Rep w F d L S (Live S)) (hf : Ref w ok a0 c0 a1 c1 a2 c2 a3 c3 S) (hs : Sound S B) (hlt : ∀ k, F k → k < w.heap.size) (hap : ∀ k, ok k → ¬ F k) (hB : B ≤ 274877906944) (hcs : Rd kCf w ok A10 c10 cs) :
    Calls Tryz.prog 9 #[.pointer (some ⟨d, 0, none⟩), sv a0 c0 a1 c1 a2 c2 a3 c3 S, .agg (opW 4 n A7 c7 ns A8 c8 bs nn A10 c10 cs)] w (Stepped w F ok d (pCrash S nn cs)) := by
  obtain ⟨w3, hw3⟩ : ∃ w3, w3 = ((w.alloc (.cells (svC a0 c0 a1 c1 a2 c2 a3 c3 S) tState)).alloc (.cells (opW 4 n A7 c7 ns A8 c8 bs nn A10 c10 cs) tOp21)).alloc (.cells zeroC tState) := ⟨_, rfl⟩
  have HW := Lib.hid (three_blks w (.cells (svC a0 c0 a1 c1 a2 c2 a3 c3 S) tState) (.cells (opW 4 n A7 c7 ns A8 c8 bs nn A10 c10 cs) tOp21) (.cells zeroC tState))
  rw [← hw3] at HW
  have HSZ := Lib.hid (show w.heap.size + 3 = w3.heap.size by rw [hw3]; simp)
  have HW3 := Lib.hid (show w3 = ((w.alloc (.cells #[.slice a0 S.files.length c0, .slice a1 S.dir.length c1, .slice a2 S.dur.length c2, .slice a3 S.pend.length c3, .bool S.lim, .int .i64 S.left] tState)).alloc (.cells (opW 4 n A7 c7 ns A8 c8 bs nn A10 c10 cs) tOp21)).alloc (.cells #[.slice none 0 0, .slice none 0 0, .slice none 0 0, .slice none 0 0, .bool false, .int .i64 0] tState) from hw3)
  have HREP := Lib.hid (h.below HW.out.2)
  have HREF := Lib.hid ((hf.mono (ok' := oldOk21 ok w) (fun k h1 h2 => ⟨h1, h2⟩)).below HW.out.2)
  have HS := Lib.hid hs
  have HLT := Lib.hid hlt
  have HAP := Lib.hid hap
  have n0 : ¬ F w.heap.size := not_new hlt (Nat.le_refl _)
  have n1 : ¬ F (w.heap.size + 1) := not_new hlt (by omega)
  have n2 : ¬ F (w.heap.size + 1 + 1) := not_new hlt (by omega)
  have HCS := Lib.hid ((hcs.mono (ok' := oldOk21 ok w) (fun k h1 h2 => ⟨h1, h2⟩)).below HW.out.2)
  clear hcs
  clear h hf hs hlt hap hw3
  obtain ⟨s0, s1, s2, s3, s4, s5⟩ := six_cells HW.out.1.1
  obtain ⟨o0, o1, o2, o3, o4, o5⟩ := sixW HW.out.1.2.1
  go_enter Tryz.func9, Tryz.ntmps9
  go_upto_region 1 with (fail)
  rw [← HW3.out]
  go_wp2_with (first
    | ((go_at_call 20; refine (Crash_calls w3 F d L S B nn A10 c10 cs HCS.out.now HREP.out HS.out.good (by omega)).mono ?_); rintro e w4 ⟨rfl, F', L', hr, hc⟩; have HR4 := Lib.hid hr; have HC4 := Lib.hid hc; have HREF4 := Lib.hid (HREF.out.chg hc (fun k hk => HAP.out k hk.1)); have HCS4 := Lib.hid (HCS.out.move (fun k hk hlt4 => hc.fr.block k hlt4 (HAP.out k hk.1))); have K0 := chg_blk hc HW.out.1.1 n0; have K1 := chg_blk hc HW.out.1.2.1 n1; have K2 := Lib.hid (chg_blk hc HW.out.1.2.2 n2); clear s0 s1 s2 s3 s4 s5 o0 o1 o2 o3 o4 o5; obtain ⟨s0, s1, s2, s3, s4, s5⟩ := six_cells K0; obtain ⟨o0, o1, o2, o3, o4, o5⟩ := sixW K1; clear hr hc K0 K1)
    | ((go_at_call 29; refine (refCrash_calls w4 (oldOk21 ok w) a0 c0 a1 c1 a2 c2 a3 c3 S B nn A10 c10 cs HCS4.out.now HCS4.out.le HREF4.out HS.out.good hB).mono ?_); rintro e w5 ⟨v, rfl, ⟨e0, f0, e1, f1, e2, f2, e3, f3, rfl, hr⟩, hb⟩; have HR5 := Lib.hid hr; have HB5 := Lib.hid hb; have K5 := Lib.hid (blk_below K2.out hb); obtain ⟨z0, z1, z2, z3, z4, z5⟩ := six_cells K5.out; obtain ⟨g0, g1, g2, g3, g4, g5⟩ := six_frozen K5.out; clear hr hb)
    | fail)
  obtain ⟨q1, q2, q3⟩ := step_core HLT.out HAP.out HW.out.2 HSZ.out HC4.out HR4.out HB5.out HR5.out (fun _ _ => rfl) rfl (Below.refl _ _) rfl K5.out
  exact bodyPost_ret (results_ct rfl _ _ (w.heap.size + 1 + 1) tState _ (0, 0) _ rfl q1 Tryz.underlying31 rfl (by kernel_rfl)) rfl ⟨_, F', rfl, q2, q3⟩
set_option maxHeartbeats 8000000 in
set_option maxRecDepth 100000 in
theorem step21_else (w : World) (F ok : Nat → Prop) (d : Nat) (L : Lay) (S : PS) (a0 : Option Addr) (c0 : Nat) (a1 : Option Addr) (c1 : Nat) (a2 : Option Addr) (c2 : Nat) (a3 : Option Addr) (c3 : Nat) (n : ByteArray) (kd : Int) (A7 : Option Addr) (c7 : Nat) (ns : List ByteArray) (A8 : Option Addr) (c8 : Nat) (bs : List Int) (nn : Int) (A10 : Option Addr) (c10 : Nat) (cs : List Cf)
    (h : Rep w F d L S (Live S)) (hf : Ref w ok a0 c0 a1 c1 a2 c2 a3 c3 S) (hlt : ∀ k, F k → k < w.heap.size) (hap : ∀ k, ok k → ¬ F k) (hkd : kd ≠ 0 ∧ kd ≠ 1 ∧ kd ≠ 2 ∧ kd ≠ 3 ∧ kd ≠ 4 ∧ kd ≠ 5) :
    Calls Tryz.prog 9 #[.pointer (some ⟨d, 0, none⟩), sv a0 c0 a1 c1 a2 c2 a3 c3 S, .agg (opW kd n A7 c7 ns A8 c8 bs nn A10 c10 cs)] w (Stepped w F ok d S) := by
  obtain ⟨w3, hw3⟩ : ∃ w3, w3 = ((w.alloc (.cells (svC a0 c0 a1 c1 a2 c2 a3 c3 S) tState)).alloc (.cells (opW kd n A7 c7 ns A8 c8 bs nn A10 c10 cs) tOp21)).alloc (.cells zeroC tState) := ⟨_, rfl⟩
  have HW := Lib.hid (three_blks w (.cells (svC a0 c0 a1 c1 a2 c2 a3 c3 S) tState) (.cells (opW kd n A7 c7 ns A8 c8 bs nn A10 c10 cs) tOp21) (.cells zeroC tState))
  rw [← hw3] at HW
  have HSZ := Lib.hid (show w.heap.size + 3 = w3.heap.size by rw [hw3]; simp)
  have HW3 := Lib.hid (show w3 = ((w.alloc (.cells #[.slice a0 S.files.length c0, .slice a1 S.dir.length c1, .slice a2 S.dur.length c2, .slice a3 S.pend.length c3, .bool S.lim, .int .i64 S.left] tState)).alloc (.cells (opW kd n A7 c7 ns A8 c8 bs nn A10 c10 cs) tOp21)).alloc (.cells #[.slice none 0 0, .slice none 0 0, .slice none 0 0, .slice none 0 0, .bool false, .int .i64 0] tState) from hw3)
  have HREP := Lib.hid (h.below HW.out.2)
  have HREF := Lib.hid ((hf.mono (ok' := oldOk21 ok w) (fun k h1 h2 => ⟨h1, h2⟩)).below HW.out.2)
  have HLT := Lib.hid hlt
  have HAP := Lib.hid hap
  clear h hf hlt hap hw3
  obtain ⟨s0, s1, s2, s3, s4, s5⟩ := six_cells HW.out.1.1
  obtain ⟨o0, o1, o2, o3, o4, o5⟩ := sixW HW.out.1.2.1
  go_enter Tryz.func9, Tryz.ntmps9
  go_upto_region 1 with (fail)
  rw [← HW3.out]
  have e0 : (kd == 0) = false := by simpa using hkd.1
  have e1 : (kd == 1) = false := by simpa using hkd.2.1
  have e2 : (kd == 2) = false := by simpa using hkd.2.2.1
  have e3 : (kd == 3) = false := by simpa using hkd.2.2.2.1
  have e4 : (kd == 4) = false := by simpa using hkd.2.2.2.2.1
  have e5 : (kd == 5) = false := by simpa using hkd.2.2.2.2.2
  have K2 := Lib.hid HW.out.1.2.2
  obtain ⟨z0, z1, z2, z3, z4, z5⟩ := six_cells K2.out
  obtain ⟨g0, g1, g2, g3, g4, g5⟩ := six_frozen K2.out
  go_wp2_with fail
  obtain ⟨q1, q2, q3⟩ := step_core HLT.out HAP.out HW.out.2 HSZ.out (⟨Fr.refl _ _, fun _ hk => .inl hk, fun k hk => Nat.lt_of_lt_of_le (HLT.out k hk) HW.out.2.size⟩ : Chg w3 F w3 F) HREP.out (Below.refl _ _) (HREF.out.mono (fun k hk _ => .inl hk)) (fun _ _ => rfl) rfl (Below.refl _ _) rfl K2.out
  exact bodyPost_ret (results_ct rfl _ _ (w.heap.size + 1 + 1) tState _ (0, 0) _ rfl q1 Tryz.underlying31 rfl (by kernel_rfl)) rfl ⟨_, F, rfl, q2, q3⟩
end Go.Proofs.YtehhafnjbkbmjaaGreat.Disk

/- The object store: a step on a disk and on the reference's state: the operation 5. -/
namespace Go.Proofs.YtehhafnjbkbmjaaGreat.Disk
open Go Go.RowKit Go.Proofs.YtehhafnjbkbmjaaGreatW.PrintWords Go.Proofs.YtehhafnjbkbmjaaGreatW.PrintLast Go.Proofs.YtehhafnjbkbmjaaGreatW.PrintMore Go.Proofs.YtehhafnjbkbmjaaGreat.PCommitlogSequence
/-- The end of a step, whatever the order. -/
theorem fin_core {w w3 w4 w5 : World} {F F' ok P : Nat → Prop} {d : Nat} {L' : Lay} {S S2 : PS} {b0 : Option Addr} {d0 : Nat} {b1 : Option Addr} {d1 : Nat} {b2 : Option Addr} {d2 : Nat} {b3 : Option Addr} {d3 : Nat} {z0 z1 z2 z3 z4 z5 : Value}
    (hlt : ∀ k, F k → k < w.heap.size) (hap : ∀ k, ok k → ¬ F k) (hw : Below w.heap.size w w3) (hw3 : w.heap.size + 3 = w3.heap.size) (hb : Below w3.heap.size w3 w4)
    (h1 : Ref w5 P b0 d0 b1 d1 b2 d2 b3 d3 S2) (hP : ∀ k, P k → k < w5.heap.size → (ok k ∧ k < w.heap.size) ∨ (w3.heap.size ≤ k ∧ ¬ F' k)) (hc : Chg w4 F w5 F') (hr : Rep w5 F' d L' S (Live S))
    (hz : w5.heap[w.heap.size + 1 + 1]? = some (.cells #[z0, z1, z2, z3, z4, z5] tState (0, 0))) :
    ((((((w5.setCell ⟨w.heap.size + 1 + 1, 0, none⟩ (.slice b0 S2.files.length d0)).setCell ⟨w.heap.size + 1 + 1, 1, none⟩ (.slice b1 S2.dir.length d1)).setCell ⟨w.heap.size + 1 + 1, 2, none⟩ (.slice b2 S2.dur.length d2)).setCell ⟨w.heap.size + 1 + 1, 3, none⟩ (.slice b3 S2.pend.length d3)).setCell ⟨w.heap.size + 1 + 1, 4, none⟩ (.bool S2.lim)).setCell ⟨w.heap.size + 1 + 1, 5, none⟩ (.int .i64 S2.left)).heap[w.heap.size + 1 + 1]? = some (.cells (svC b0 d0 b1 d1 b2 d2 b3 d3 S2) tState (0, 0)) ∧
    Pair2 ((((((w5.setCell ⟨w.heap.size + 1 + 1, 0, none⟩ (.slice b0 S2.files.length d0)).setCell ⟨w.heap.size + 1 + 1, 1, none⟩ (.slice b1 S2.dir.length d1)).setCell ⟨w.heap.size + 1 + 1, 2, none⟩ (.slice b2 S2.dur.length d2)).setCell ⟨w.heap.size + 1 + 1, 3, none⟩ (.slice b3 S2.pend.length d3)).setCell ⟨w.heap.size + 1 + 1, 4, none⟩ (.bool S2.lim)).setCell ⟨w.heap.size + 1 + 1, 5, none⟩ (.int .i64 S2.left)) F' (okN ok w F') d (sv b0 d0 b1 d1 b2 d2 b3 d3 S2) S S2 ∧
    Chg w F ((((((w5.setCell ⟨w.heap.size + 1 + 1, 0, none⟩ (.slice b0 S2.files.length d0)).setCell ⟨w.heap.size + 1 + 1, 1, none⟩ (.slice b1 S2.dir.length d1)).setCell ⟨w.heap.size + 1 + 1, 2, none⟩ (.slice b2 S2.dur.length d2)).setCell ⟨w.heap.size + 1 + 1, 3, none⟩ (.slice b3 S2.pend.length d3)).setCell ⟨w.heap.size + 1 + 1, 4, none⟩ (.bool S2.lim)).setCell ⟨w.heap.size + 1 + 1, 5, none⟩ (.int .i64 S2.left)) F' := by
  obtain ⟨w7, h7⟩ : ∃ w7, w7 = ((((((w5.setCell ⟨w.heap.size + 1 + 1, 0, none⟩ (.slice b0 S2.files.length d0)).setCell ⟨w.heap.size + 1 + 1, 1, none⟩ (.slice b1 S2.dir.length d1)).setCell ⟨w.heap.size + 1 + 1, 2, none⟩ (.slice b2 S2.dur.length d2)).setCell ⟨w.heap.size + 1 + 1, 3, none⟩ (.slice b3 S2.pend.length d3)).setCell ⟨w.heap.size + 1 + 1, 4, none⟩ (.bool S2.lim)).setCell ⟨w.heap.size + 1 + 1, 5, none⟩ (.int .i64 S2.left)) := ⟨_, rfl⟩
  rw [← h7]
  have far : ∀ k, k ≠ w.heap.size + 1 + 1 → w7.heap[k]? = w5.heap[k]? := fun k k2 => by rw [h7, other_six k2]
  have hs4 := hb.size
  have hs5 : w4.heap.size ≤ w5.heap.size := hc.fr.size
  have hs7 : w7.heap.size = w5.heap.size := by rw [h7]; simp [World.setCell]
  have hb7 : Below w.heap.size w5 w7 := by rw [h7]; exact below_six (Below.refl _ _) (by omega) _ _ _ _ _ _
  have hz7 : w7.heap[w.heap.size + 1 + 1]? = some (.cells (svC b0 d0 b1 d1 b2 d2 b3 d3 S2) tState (0, 0)) := by rw [h7]; exact set_six _ _ _ _ _ _ hz
  have inF : ∀ k, F' k → k ≠ w.heap.size + 1 + 1 := fun k hk => by
    rcases hc.new k hk with h | h
    · have := hlt k h; omega
    · omega
  clear h7
  refine ⟨hz7, ⟨⟨L', hr.move (fun k hk _ => far k (inF k hk))⟩, ⟨b0, d0, b1, d1, b2, d2, b3, d3, rfl, ?_⟩, fun k hk => ?_, fun k hk hk' => ?_⟩, ?_, fun k hk => ?_, fun k hk => ?_⟩
  · refine ((h1.mono (ok' := fun k => (ok k ∧ k < w.heap.size) ∨ (w3.heap.size ≤ k ∧ ¬ F' k)) hP).move (fun k hk _ => far k ?_)).mono (fun k hk _ => ?_)
    · rcases hk with hk | hk
      · have := hk.2; omega
      · have := hk.1; omega
    · rcases hk with hk | hk
      · exact .inl hk
      · exact .inr ⟨by have := hk.1; omega, hk.2⟩
  · have := hc.lt k hk; omega
  · rcases hk with hk | hk
    · rcases hc.new k hk' with h | h
      · exact hap k hk.1 h
      · have := hk.2; omega
    · exact hk.2 hk'
  · exact
      { os := hb7.os.trans (hc.fr.os.trans (hb.os.trans hw.os))
        tape := hb7.tape.trans (hc.fr.tape.trans (hb.tape.trans hw.tape))
        output := hb7.output.trans (hc.fr.output.trans (hb.output.trans hw.output))
        size := by have := hw.size; omega
        block := fun k hk hF => by
          have h3 := hw.size
          rw [far k (by omega), hc.fr.block k (by omega) hF, hb.block k (by omega), hw.block k hk] }
  · rcases hc.new k hk with h | h
    · exact .inl h
    · exact .inr (by omega)
  · have := hc.lt k hk; omega
/-- The reference, the disk, the reference, the disk. -/
theorem fin21 {w w3 w5 w6 w8 w9 : World} {F F1 F2 ok : Nat → Prop} {d : Nat} {L' : Lay} {S S2 : PS} {b0 : Option Addr} {d0 : Nat} {b1 : Option Addr} {d1 : Nat} {b2 : Option Addr} {d2 : Nat} {b3 : Option Addr} {d3 : Nat} {z0 z1 z2 z3 z4 z5 : Value}
    (hlt : ∀ k, F k → k < w.heap.size) (hap : ∀ k, ok k → ¬ F k) (hw : Below w.heap.size w w3) (hw3 : w.heap.size + 3 = w3.heap.size) (hA : Below w3.heap.size w3 w5) (h1 : Chg w5 F w6 F1) (hB : Below w6.heap.size w6 w8)
    (hf : Ref w8 (fun k => ((ok k ∧ k < w.heap.size) ∨ (w3.heap.size ≤ k ∧ k < w5.heap.size)) ∨ w6.heap.size ≤ k) b0 d0 b1 d1 b2 d2 b3 d3 S2) (h2 : Chg w8 F1 w9 F2) (hr : Rep w9 F2 d L' S (Live S))
    (hz : w9.heap[w.heap.size + 1 + 1]? = some (.cells #[z0, z1, z2, z3, z4, z5] tState (0, 0))) :
    ((((((w9.setCell ⟨w.heap.size + 1 + 1, 0, none⟩ (.slice b0 S2.files.length d0)).setCell ⟨w.heap.size + 1 + 1, 1, none⟩ (.slice b1 S2.dir.length d1)).setCell ⟨w.heap.size + 1 + 1, 2, none⟩ (.slice b2 S2.dur.length d2)).setCell ⟨w.heap.size + 1 + 1, 3, none⟩ (.slice b3 S2.pend.length d3)).setCell ⟨w.heap.size + 1 + 1, 4, none⟩ (.bool S2.lim)).setCell ⟨w.heap.size + 1 + 1, 5, none⟩ (.int .i64 S2.left)).heap[w.heap.size + 1 + 1]? = some (.cells (svC b0 d0 b1 d1 b2 d2 b3 d3 S2) tState (0, 0)) ∧ Pair2 ((((((w9.setCell ⟨w.heap.size + 1 + 1, 0, none⟩ (.slice b0 S2.files.length d0)).setCell ⟨w.heap.size + 1 + 1, 1, none⟩ (.slice b1 S2.dir.length d1)).setCell ⟨w.heap.size + 1 + 1, 2, none⟩ (.slice b2 S2.dur.length d2)).setCell ⟨w.heap.size + 1 + 1, 3, none⟩ (.slice b3 S2.pend.length d3)).setCell ⟨w.heap.size + 1 + 1, 4, none⟩ (.bool S2.lim)).setCell ⟨w.heap.size + 1 + 1, 5, none⟩ (.int .i64 S2.left)) F2 (okN ok w F2) d (sv b0 d0 b1 d1 b2 d2 b3 d3 S2) S S2 ∧ Chg w F ((((((w9.setCell ⟨w.heap.size + 1 + 1, 0, none⟩ (.slice b0 S2.files.length d0)).setCell ⟨w.heap.size + 1 + 1, 1, none⟩ (.slice b1 S2.dir.length d1)).setCell ⟨w.heap.size + 1 + 1, 2, none⟩ (.slice b2 S2.dur.length d2)).setCell ⟨w.heap.size + 1 + 1, 3, none⟩ (.slice b3 S2.pend.length d3)).setCell ⟨w.heap.size + 1 + 1, 4, none⟩ (.bool S2.lim)).setCell ⟨w.heap.size + 1 + 1, 5, none⟩ (.int .i64 S2.left)) F2 := by
  have s5 := hA.size
  have s6 : w5.heap.size ≤ w6.heap.size := h1.fr.size
  have s8 := hB.size
  have no1 : ∀ k, (((ok k ∧ k < w.heap.size) ∨ (w3.heap.size ≤ k ∧ k < w5.heap.size)) ∨ w6.heap.size ≤ k) → ¬ F1 k := fun k hk e => by
    have e2 := h1.lt k e
    rcases h1.new k e with h | h
    · have := hlt k h
      rcases hk with (hk | hk) | hk
      · exact hap k hk.1 h
      · omega
      · omega
    · rcases hk with (hk | hk) | hk
      · have := hk.2; omega
      · omega
      · omega
  have hq := (hf.mono (ok' := fun k => (((ok k ∧ k < w.heap.size) ∨ (w3.heap.size ≤ k ∧ k < w5.heap.size)) ∨ w6.heap.size ≤ k) ∧ k < w8.heap.size) (fun k h3 h4 => ⟨h3, h4⟩)).chg h2 (fun k hk => no1 k hk.1)
  refine fin_core hlt hap hw hw3 hA hq (fun k hk _ => ?_) ((h1.fr2 (Below.toFr hB _)).trans h2) hr hz
  rcases hk.1 with (h | h) | h
  · exact .inl h
  · refine .inr ⟨h.1, fun e => ?_⟩
    rcases h2.new k e with h3 | h3
    · exact no1 k hk.1 h3
    · have := hk.2; omega
  · refine .inr ⟨by omega, fun e => ?_⟩
    rcases h2.new k e with h3 | h3
    · exact no1 k hk.1 h3
    · have := hk.2; omega
set_option linter.unusedVariables false
set_option maxHeartbeats 8000000 in
set_option maxRecDepth 100000 in
theorem step21_file (w : World) (F ok : Nat → Prop) (d : Nat) (L : Lay) (S : PS) (B : Nat) (a0 : Option Addr) (c0 : Nat) (a1 : Option Addr) (c1 : Nat) (a2 : Option Addr) (c2 : Nat) (a3 : Option Addr) (c3 : Nat) (n : ByteArray) (A7 : Option Addr) (c7 : Nat) (ns : List ByteArray) (A8 : Option Addr) (c8 : Nat) (bs : List Int) (nn : Int) (A10 : Option Addr) (c10 : Nat) (cs : List Cf)
    (h : Rep w F d L S (Live S)) (hf : Ref w ok a0 c0 a1 c1 a2 c2 a3 c3 S) (hs : Sound S B) (hB : B + 1000 ≤ 549755813888) (hlt : ∀ k, F k → k < w.heap.size) (hap : ∀ k, ok k → ¬ F k) (hbs : Rd kB w ok A8 c8 bs) (hbl : bs.length ≤ 549755813888) :
    Calls Tryz.prog 9 #[.pointer (some ⟨d, 0, none⟩), sv a0 c0 a1 c1 a2 c2 a3 c3 S, .agg (opW 5 n A7 c7 ns A8 c8 bs nn A10 c10 cs)] w (Stepped w F ok d (pAppend (pCreate S n).1 n bs).1) := by
  obtain ⟨w3, hw3⟩ : ∃ w3, w3 = ((w.alloc (.cells (svC a0 c0 a1 c1 a2 c2 a3 c3 S) tState)).alloc (.cells (opW 5 n A7 c7 ns A8 c8 bs nn A10 c10 cs) tOp21)).alloc (.cells zeroC tState) := ⟨_, rfl⟩
  have HW := Lib.hid (three_blks w (.cells (svC a0 c0 a1 c1 a2 c2 a3 c3 S) tState) (.cells (opW 5 n A7 c7 ns A8 c8 bs nn A10 c10 cs) tOp21) (.cells zeroC tState))
  rw [← hw3] at HW
  have HSZ := Lib.hid (show w.heap.size + 3 = w3.heap.size by rw [hw3]; simp)
  have HW3 := Lib.hid (show w3 = ((w.alloc (.cells #[.slice a0 S.files.length c0, .slice a1 S.dir.length c1, .slice a2 S.dur.length c2, .slice a3 S.pend.length c3, .bool S.lim, .int .i64 S.left] tState)).alloc (.cells (opW 5 n A7 c7 ns A8 c8 bs nn A10 c10 cs) tOp21)).alloc (.cells #[.slice none 0 0, .slice none 0 0, .slice none 0 0, .slice none 0 0, .bool false, .int .i64 0] tState) from hw3)
  have HREP := Lib.hid (h.below HW.out.2)
  have HREF := Lib.hid ((hf.mono (ok' := oldOk21 ok w) (fun k h1 h2 => ⟨h1, h2⟩)).below HW.out.2)
  have HBS := Lib.hid ((hbs.mono (ok' := oldOk21 ok w) (fun k h1 h2 => ⟨h1, h2⟩)).below HW.out.2)
  have HS := Lib.hid hs
  have HLT := Lib.hid hlt
  have HAP := Lib.hid hap
  have HLT3 := Lib.hid (fun k (hk : F k) => show k < w3.heap.size from Nat.lt_of_lt_of_le (hlt k hk) HW.out.2.size)
  clear h hf hs hlt hap hw3 hbs
  obtain ⟨s0, s1, s2, s3, s4, s5⟩ := six_cells HW.out.1.1
  obtain ⟨o0, o1, o2, o3, o4, o5⟩ := sixW HW.out.1.2.1
  obtain ⟨p, hp⟩ : ∃ p, p = pCreate S n := ⟨_, rfl⟩
  have HS1 := Lib.hid (show Sound p.1 (B + 100) by rw [hp]; exact HS.out.create)
  rw [← hp]
  obtain ⟨S1, cd1⟩ := p
  have HQ1 := Lib.hid hp
  obtain ⟨q, hq⟩ : ∃ q, q = pAppend S1 n bs := ⟨_, rfl⟩
  show Calls _ _ _ _ (Stepped w F ok d (pAppend S1 n bs).1)
  rw [← hq]
  obtain ⟨S2, cd2⟩ := q
  have HQ2 := Lib.hid hq
  clear hp hq
  go_enter Tryz.func9, Tryz.ntmps9
  go_upto_region 1 with (fail)
  rw [← HW3.out]
  go_upto_region 19 with (first
    | (go_at_call 30; refine (refCreate_calls w3 (oldOk21 ok w) a0 c0 a1 c1 a2 c2 a3 c3 S B n HREF.out HS.out.good (by omega)).mono ?_; rw [← HQ1.out]; rintro e w4 ⟨v, rfl, ⟨e0, f0, e1, f1, e2, f2, e3, f3, rfl, hr⟩, hb⟩; have HR4 := Lib.hid hr; have HB4 := Lib.hid hb; clear hr hb s0 s1 s2 s3 s4 s5 o0 o1 o2 o3 o4 o5)
    | fail)
  obtain ⟨w5, hw5⟩ : ∃ w5, w5 = w4.alloc (.cells #[.slice e0 S1.files.length f0, .slice e1 S1.dir.length f1, .slice e2 S1.dur.length f2, .slice e3 S1.pend.length f3, .bool S1.lim, .int .i64 S1.left] tState) := ⟨_, rfl⟩
  rw [← hw5]
  have hb45 : Below w4.heap.size w4 w5 := by rw [hw5]; exact Below.of_alloc' w4 _
  have J3 := Lib.hid (show w5.heap[w4.heap.size]? = some (.cells (svC e0 f0 e1 f1 e2 f2 e3 f3 S1) tState (0, 0)) by rw [hw5]; exact heap_alloc_new w4 _)
  have HB5 := Lib.hid (HB4.out.trans (hb45.mono HB4.out.size))
  have HR5 := Lib.hid (show Ref w5 (fun k => (ok k ∧ k < w.heap.size) ∨ w3.heap.size ≤ k) e0 f0 e1 f1 e2 f2 e3 f3 S1 from HR4.out.below hb45)
  have J1 := Lib.hid (blk_below HW.out.1.2.1 HB5.out)
  have J2 := Lib.hid (blk_below HW.out.1.2.2 HB5.out)
  have HREP5 := Lib.hid (HREP.out.below HB5.out)
  have n1 : ¬ F (w.heap.size + 1) := not_new HLT.out (by omega)
  have n2 : ¬ F (w.heap.size + 1 + 1) := not_new HLT.out (by omega)
  have n3 : ¬ F w4.heap.size := not_new HLT3.out HB4.out.size
  obtain ⟨o0, o1, o2, o3, o4, o5⟩ := sixW J1.out
  clear hw5 hb45 HR4
  go_upto_region 21 with (first
    | (go_at_call 31; refine (Create_calls w5 F d L S B n HREP5.out HS.out.good (by omega)).mono ?_; rw [← HQ1.out]; rintro e w6 ⟨rfl, F1, L1, hr, hc⟩; have HR6 := Lib.hid hr; have HC6 := Lib.hid hc; have K3 := Lib.hid (chg_blk hc J3.out n3); have K1 := Lib.hid (chg_blk hc J1.out n1); have K2 := Lib.hid (chg_blk hc J2.out n2); have HRF6 := Lib.hid ((HR5.out.mono (ok' := fun k => (ok k ∧ k < w.heap.size) ∨ (w3.heap.size ≤ k ∧ k < w5.heap.size)) (fun k h3 h4 => by rcases h3 with h3 | h3; exact .inl h3; exact .inr ⟨h3, h4⟩)).chg hc (fun k hk e => by rcases hk with hk | hk; exact HAP.out k hk.1 e; have := HLT3.out k e; omega)); have HBS6 := Lib.hid (((HBS.out.below HB5.out).mono (ok' := fun k => (ok k ∧ k < w.heap.size) ∨ (w3.heap.size ≤ k ∧ k < w5.heap.size)) (fun k h3 _ => .inl h3)).move (fun k hk hlt5 => hc.fr.block k hlt5 (fun e => by rcases hk with hk | hk; exact HAP.out k hk.1 e; have := HLT3.out k e; omega))); have HLT6 := Lib.hid hc.lt; clear hr hc o0 o1 o2 o3 o4 o5; obtain ⟨o0, o1, o2, o3, o4, o5⟩ := sixW K1.out; obtain ⟨s0, s1, s2, s3, s4, s5⟩ := six_cells K3.out)
    | fail)
  go_upto_region 22 with (first
    | (go_at_call 32; refine (refAppend_calls w6 (fun k => (ok k ∧ k < w.heap.size) ∨ (w3.heap.size ≤ k ∧ k < w5.heap.size)) e0 f0 e1 f1 e2 f2 e3 f3 S1 (B + 100) n A8 c8 bs HRF6.out HS1.out.good (by omega) HBS6.out hbl).mono ?_; rw [← HQ2.out]; rintro e w7 ⟨v, rfl, ⟨g0, h0, g1, h1, g2, h2, g3, h3, rfl, hr⟩, hb⟩; have HR7 := Lib.hid hr; have HB7 := Lib.hid hb; clear hr hb s0 s1 s2 s3 s4 s5 o0 o1 o2 o3 o4 o5)
    | fail)
  obtain ⟨w8, hw8⟩ : ∃ w8, w8 = w7.alloc (.cells #[.slice g0 S2.files.length h0, .slice g1 S2.dir.length h1, .slice g2 S2.dur.length h2, .slice g3 S2.pend.length h3, .bool S2.lim, .int .i64 S2.left] tState) := ⟨_, rfl⟩
  rw [← hw8]
  have hb78 : Below w7.heap.size w7 w8 := by rw [hw8]; exact Below.of_alloc' w7 _
  have M3 := Lib.hid (show w8.heap[w7.heap.size]? = some (.cells (svC g0 h0 g1 h1 g2 h2 g3 h3 S2) tState (0, 0)) by rw [hw8]; exact heap_alloc_new w7 _)
  have HB8 := Lib.hid (HB7.out.trans (hb78.mono HB7.out.size))
  have HR8 := Lib.hid (show Ref w8 (fun k => ((ok k ∧ k < w.heap.size) ∨ (w3.heap.size ≤ k ∧ k < w5.heap.size)) ∨ w6.heap.size ≤ k) g0 h0 g1 h1 g2 h2 g3 h3 S2 from HR7.out.below hb78)
  have M1 := Lib.hid (blk_below K1.out HB8.out)
  have M2 := Lib.hid (blk_below K2.out HB8.out)
  have HREP8 := Lib.hid (HR6.out.below HB8.out)
  have l1 := lt_blk J1.out
  have l2 := lt_blk J2.out
  have m1 : ¬ F1 (w.heap.size + 1) := fun e => by rcases HC6.out.new _ e with h3 | h3; exact n1 h3; omega
  have m2 : ¬ F1 (w.heap.size + 1 + 1) := fun e => by rcases HC6.out.new _ e with h3 | h3; exact n2 h3; omega
  have m3 : ¬ F1 w7.heap.size := fun e => by have := HLT6.out _ e; have := HB7.out.size; omega
  have hne1 : w7.heap.size ≠ w.heap.size + 1 + 1 := by have := HB7.out.size; have := HC6.out.fr.size; omega
  have hne2 : w.heap.size + 1 ≠ w.heap.size + 1 + 1 := by omega
  clear hw8 hb78 HR7 n1 n2 n3
  have P5 := Lib.hid (And.intro (six_cells (w := w8.drew) (t := tState) (fz := (0, 0)) M3.out) (sixW (w := w8.drew) M1.out))
  have P6 := Lib.hid True.intro
  have CA := Lib.hid (Append_calls w8.drew F1 d L1 S1 (B + 100) n A8 bs c8 ((HBS6.out.below HB8.out).move (w' := w8.drew) (fun _ _ _ => rfl)).now (by omega) (HREP8.out.move (fun _ _ _ => rfl)) HS1.out.good (by omega))
  rw [← HQ2.out] at CA
  go_region_held3 (fun w' => (w'.cell? ⟨w7.heap.size, 0, none⟩ = some (.slice g0 S2.files.length h0) ∧ w'.cell? ⟨w7.heap.size, 1, none⟩ = some (.slice g1 S2.dir.length h1) ∧ w'.cell? ⟨w7.heap.size, 2, none⟩ = some (.slice g2 S2.dur.length h2) ∧ w'.cell? ⟨w7.heap.size, 3, none⟩ = some (.slice g3 S2.pend.length h3) ∧ w'.cell? ⟨w7.heap.size, 4, none⟩ = some (.bool S2.lim) ∧ w'.cell? ⟨w7.heap.size, 5, none⟩ = some (.int .i64 S2.left)) ∧ (w'.cell? ⟨w.heap.size + 1, 0, none⟩ = some (.int .i64 5) ∧ w'.cell? ⟨w.heap.size + 1, 1, none⟩ = some (.string n) ∧ w'.cell? ⟨w.heap.size + 1, 2, none⟩ = some (.slice A7 ns.length c7) ∧ w'.cell? ⟨w.heap.size + 1, 3, none⟩ = some (.slice A8 bs.length c8) ∧ w'.cell? ⟨w.heap.size + 1, 4, none⟩ = some (.int .i64 nn) ∧ w'.cell? ⟨w.heap.size + 1, 5, none⟩ = some (.slice A10 cs.length c10)))
    (first | (with_reducible exact P5.out) | (with_reducible exact P6.out) | exact And.intro (six_cells (set_six_other N3.out hne1 _ _ _ _ _ _)) (sixW (set_six_other N1.out hne2 _ _ _ _ _ _)))
    (first
      | (go_at_call 33; refine CA.out.mono ?_; rintro e w9 ⟨rfl, F2, L2, hr, hc⟩; have hc' : Chg w8 F1 w9 F2 := ⟨((Fr.refl _ w8).drewN 1).trans hc.fr (fun _ => .inl), hc.new, hc.lt⟩; have HR9 := Lib.hid hr; have HC9 := Lib.hid hc'; have N3 := Lib.hid (chg_blk hc' M3.out m3); have N1 := Lib.hid (chg_blk hc' M1.out m1); have N2 := Lib.hid (chg_blk hc' M2.out m2); obtain ⟨z0, z1, z2, z3, z4, z5⟩ := six_cells N2.out; obtain ⟨y0, y1, y2, y3, y4, y5⟩ := six_frozen N2.out; have P6 := Lib.hid (And.intro (six_cells N3.out) (sixW N1.out)); clear hr hc hc'))
  go_wp2_with fail
  obtain ⟨q1, q2, q3⟩ := fin21 HLT.out HAP.out HW.out.2 HSZ.out HB5.out HC6.out HB8.out HR8.out HC9.out HR9.out N2.out
  exact bodyPost_ret (results_ct rfl _ _ (w.heap.size + 1 + 1) tState _ (0, 0) _ rfl q1 Tryz.underlying31 rfl (by kernel_rfl)) rfl ⟨_, F2, rfl, q2, q3⟩
end Go.Proofs.YtehhafnjbkbmjaaGreat.Disk
