/- The reference's log, a step on both. -/
import Derived.Test.YtehhafnjbkbmjaaGreatY8
import Derived.Test.YtehhafnjbkbmjaaGreatY4
import Derived.Test.YtehhafnjbkbmjaaGreatQh
import Derived.Test.YtehhafnjbkbmjaaGreatY7
import Derived.Deep.RegionHeld3
/- The reference: Read, List, FailAfter, Has. -/
namespace Go.Proofs.YtehhafnjbkbmjaaGreat.Disk
open Go Go.RowKit Go.Proofs.YtehhafnjbkbmjaaGreatW.PrintWords Go.Proofs.YtehhafnjbkbmjaaGreatW.PrintLast Go.Proofs.YtehhafnjbkbmjaaGreatW.PrintMore Go.Proofs.YtehhafnjbkbmjaaGreat.PCommitlogSequence
theorem read_f (S : PS) (B : Nat) (n : ByteArray) (hg : Good S B) (hB : B ≤ 549755813888) : laminaref20_Read.f (S.dir.length + 68) S.files S.dir S.dur S.pend S.lim S.left n = some (pRead S n) := by
  have hd := hg.nDir
  unfold laminaref20_Read.f pRead
  rw [ValidName_f n _ (by omega)]
  simp only [Option.bind_some]
  by_cases hn : okName n = true
  · rw [if_pos hn, if_pos hn]
    cases hp : pLook S.dir n with
    | none =>
      rw [find_none S.dir n _ (by omega) (by omega) hp]
      simp
    | some x =>
      obtain ⟨t, h1, h2, h3⟩ := find_some S.dir n (S.dir.length + 68) (by omega) (by omega) hp
      have hr := hg.range x (live_look hp)
      have hb := hg.nBytes _ (fileAt_mem hr)
      rw [h1]
      simp only [Option.bind_some]
      rw [if_neg (by omega), if_pos (by omega), if_pos (by omega), h3, if_pos hr.1, if_pos hr.2]
      have e : (rd_T107 S.files x) = fileAt S x := rfl
      rw [e, if_pos (by simp only [List.length_nil]; omega)]
      simp
  · rw [if_neg hn, if_neg hn]
theorem refRead_calls (w : World) (ok : Nat → Prop) (a0 : Option Addr) (c0 : Nat) (a1 : Option Addr) (c1 : Nat) (a2 : Option Addr) (c2 : Nat) (a3 : Option Addr) (c3 : Nat) (S : PS) (B : Nat) (n : ByteArray) (h : Ref w ok a0 c0 a1 c1 a2 c2 a3 c3 S) (hg : Good S B) (hB : B ≤ 549755813888) :
    Calls Tryz.prog 15 #[sv a0 c0 a1 c1 a2 c2 a3 c3 S, .string n] w fun e w' => ∃ A c, e = .returned (.tuple #[.slice A (pRead S n).1.length c, .int .i64 (pRead S n).2]) ∧ Rd kB w' (fun k => w.heap.size ≤ k) A c (pRead S n).1 ∧ Below w.heap.size w w' :=
  (laminaref20_Read.calls (S.dir.length + 68) _ _ _ _ _ _ _ _ _ _ _ _ _ _ n (pRead S n).1 (pRead S n).2 w h.files.now h.files.le h.dir.now h.dir.le h.dur.now h.dur.le h.pend.now h.pend.le (read_f S B n hg hB)).mono fun e w' hq => by
    obtain ⟨v, q1, q2, q3⟩ := hq
    obtain ⟨A, c, rfl, hr⟩ := Rd.ofR q2
    exact ⟨A, c, q1, hr.mono (fun k hk _ => hk.1), q3⟩
theorem refList_calls (w : World) (ok : Nat → Prop) (a0 : Option Addr) (c0 : Nat) (a1 : Option Addr) (c1 : Nat) (a2 : Option Addr) (c2 : Nat) (a3 : Option Addr) (c3 : Nat) (S : PS) (B : Nat) (h : Ref w ok a0 c0 a1 c1 a2 c2 a3 c3 S) (hg : Good S B) (hB : B ≤ 549755813888) :
    Calls Tryz.prog 38 #[sv a0 c0 a1 c1 a2 c2 a3 c3 S] w fun e w' => ∃ A c, e = .returned (.slice A (S.dir.map (·.f0)).length c) ∧ Rd Kd.string w' (fun k => w.heap.size ≤ k) A c (S.dir.map (·.f0)) ∧ Below w.heap.size w w' :=
  (laminaref20_List.calls (S.dir.length + 1) _ _ _ _ _ _ _ _ _ _ _ _ _ _ (S.dir.map (·.f0)) w h.files.now h.files.le h.dir.now h.dir.le h.dur.now h.dur.le h.pend.now h.pend.le (List_f _ _ _ _ _ _ _ (by have := hg.nDir; omega) (by omega))).mono fun e w' hq => by
    obtain ⟨v, q1, q2, q3⟩ := hq
    obtain ⟨A, c, rfl, hr⟩ := Rd.ofR q2
    exact ⟨A, c, q1, hr.mono (fun k hk _ => hk.1), q3⟩
/-- The disk's Read, in the same words. -/
theorem Read2_calls (w : World) (F : Nat → Prop) (d : Nat) (L : Lay) (S : PS) (B : Nat) (n : ByteArray) (h : Rep w F d L S (Live S)) (hg : Good S B) (hB : B ≤ 549755813888) :
    Calls Tryz.prog 14 #[.pointer (some ⟨d, 0, none⟩), .string n] w fun e w' => ∃ A c, e = .returned (.tuple #[.slice A (pRead S n).1.length c, .int .i64 (pRead S n).2]) ∧ Rd kB w' (fun k => w.heap.size ≤ k) A c (pRead S n).1 ∧ Fr (fun _ => False) w w' :=
  (Read_calls w F d L S B n h hg hB).mono fun e w' hq => by
    obtain ⟨v, q1, q2, q3⟩ := hq
    obtain ⟨A, m, c, rfl, rfl, _⟩ := data_form (own_weaken q2 (Nat.zero_le _))
    exact ⟨A, c, q1, Rd.ofOwn q2, q3⟩
theorem refFail2_calls (w : World) (ok : Nat → Prop) (a0 : Option Addr) (c0 : Nat) (a1 : Option Addr) (c1 : Nat) (a2 : Option Addr) (c2 : Nat) (a3 : Option Addr) (c3 : Nat) (S : PS) (n : Int) (h : Ref w ok a0 c0 a1 c1 a2 c2 a3 c3 S) :
    Calls Tryz.prog 28 #[sv a0 c0 a1 c1 a2 c2 a3 c3 S, .int .i64 n] w (RefE w ok (pFail S n)) :=
  (refFail_calls w a0 a1 a2 a3 _ c0 _ c1 _ c2 _ c3 S.lim S.left n).mono fun _ _ ⟨q1, q2⟩ => ⟨_, q1, ⟨a0, c0, a1, c1, a2, c2, a3, c3, rfl, ((⟨h.files, h.dir, h.dur, h.pend⟩ : Ref w ok a0 c0 a1 c1 a2 c2 a3 c3 (pFail S n)).below q2).mono (fun _ hk _ => .inl hk)⟩, q2⟩
theorem has_l0 (l : List ByteArray) (n : ByteArray) (hl : l.length ≤ 1099511627776) : ∀ (d k i : Nat), l.length - i = d → i ≤ l.length → d < k → laminaref21_Has.l0 k n l i = some ((l.drop i).any fun y => decide (y = n))
  | 0, k, i, hd, hi, hk => by
    obtain ⟨k, rfl⟩ : ∃ m, k = m + 1 := ⟨k - 1, by omega⟩
    have hn : l.drop i = [] := List.drop_eq_nil_of_le (by omega)
    simp only [laminaref21_Has.l0]
    rw [if_neg (by omega), hn]
    rfl
  | d + 1, k, i, hd, hi, hk => by
    obtain ⟨k, rfl⟩ : ∃ m, k = m + 1 := ⟨k - 1, by omega⟩
    have hlt : i < l.length := by omega
    have e : wrap64 ((i : Int) + 1) = ((i + 1 : Nat) : Int) := by unfold wrap64; omega
    have hr : rdOf ByteArray.empty l (i : Int) = l[i] := by simp [rdOf, List.getD, hlt]
    simp only [laminaref21_Has.l0, hr, e]
    rw [if_pos (by omega), if_pos (by omega), List.drop_eq_getElem_cons hlt, List.any_cons]
    by_cases hq : l[i] = n
    · rw [if_pos (by rw [hq]), decide_eq_true hq, Bool.true_or]
    · rw [if_neg (fun h => hq ((toList_eq_iff _ _).1 h)), decide_eq_false hq, Bool.false_or]
      exact has_l0 l n hl d k (i + 1) (by omega) (by omega) (by omega)
theorem refHas_calls (w : World) (ok : Nat → Prop) (a0 : Option Addr) (c0 : Nat) (a1 : Option Addr) (c1 : Nat) (a2 : Option Addr) (c2 : Nat) (a3 : Option Addr) (c3 : Nat) (S : PS) (B : Nat) (n : ByteArray) (h : Ref w ok a0 c0 a1 c1 a2 c2 a3 c3 S) (hg : Good S B) (hB : B ≤ 549755813888) :
    Calls Tryz.prog 92 #[sv a0 c0 a1 c1 a2 c2 a3 c3 S, .string n] w fun e w' => e = .returned (.bool (pHas S n)) ∧ Below w.heap.size w w' := by
  have hd := hg.nDir
  refine laminaref21_Has.calls (S.dir.length + 1) _ _ _ _ _ _ _ _ _ _ _ _ _ _ n (pHas S n) w h.files.now h.files.le h.dir.now h.dir.le h.dur.now h.dur.le h.pend.now h.pend.le ?_
  unfold laminaref21_Has.f
  rw [List_f _ _ _ _ _ _ _ (by omega) (by omega), Option.bind_some]
  exact has_l0 _ n (by simp; omega) (S.dir.map (·.f0)).length _ 0 (by omega) (by omega) (by simp)
end Go.Proofs.YtehhafnjbkbmjaaGreat.Disk

/- The reference: Replace. -/
namespace Go.Proofs.YtehhafnjbkbmjaaGreat.Disk
open Go Go.RowKit Go.Proofs.YtehhafnjbkbmjaaGreatW.PrintWords Go.Proofs.YtehhafnjbkbmjaaGreatW.PrintLast Go.Proofs.YtehhafnjbkbmjaaGreatW.PrintMore Go.Proofs.YtehhafnjbkbmjaaGreat.PCommitlogSequence
abbrev OkR (w : World) (ok : Nat → Prop) : Nat → Prop := fun k => (ok k ∧ k < w.heap.size) ∨ w.heap.size + 2 ≤ k
/-- The state in its box, the result's block behind it. -/
structure RS (w wn : World) (ok : Nat → Prop) (a0 : Option Addr) (c0 : Nat) (a1 : Option Addr) (c1 : Nat) (a2 : Option Addr) (c2 : Nat) (a3 : Option Addr) (c3 : Nat) (S : PS) : Prop where
  b0 : wn.heap[w.heap.size]? = some (.cells (svC a0 c0 a1 c1 a2 c2 a3 c3 S) tState (0, 0))
  b1 : wn.heap[w.heap.size + 1]? = some (.cells zeroC tState (0, 0))
  bl : Below w.heap.size w wn
  rf : Ref wn (OkR w ok) a0 c0 a1 c1 a2 c2 a3 c3 S
theorem RS.below {w wn wk : World} {ok : Nat → Prop} {a0 c0 a1 c1 a2 c2 a3 c3} {S : PS} (h : RS w wn ok a0 c0 a1 c1 a2 c2 a3 c3 S) (hb : Below wn.heap.size wn wk) : RS w wk ok a0 c0 a1 c1 a2 c2 a3 c3 S :=
  ⟨blk_below h.b0 hb, blk_below h.b1 hb, h.bl.trans (hb.mono h.bl.size), h.rf.below hb⟩
theorem RS.put {w wn wk : World} {ok : Nat → Prop} {a0 c0 a1 c1 a2 c2 a3 c3} {e0 f0 e1 f1 e2 f2 e3 f3} {S S' : PS} (h : RS w wn ok a0 c0 a1 c1 a2 c2 a3 c3 S) (hb : Below wn.heap.size wn wk) (hr : Ref wk (fun k => OkR w ok k ∨ wn.heap.size ≤ k) e0 f0 e1 f1 e2 f2 e3 f3 S') :
    RS w ((((((wk.setCell ⟨w.heap.size, 0, none⟩ (.slice e0 S'.files.length f0)).setCell ⟨w.heap.size, 1, none⟩ (.slice e1 S'.dir.length f1)).setCell ⟨w.heap.size, 2, none⟩ (.slice e2 S'.dur.length f2)).setCell ⟨w.heap.size, 3, none⟩ (.slice e3 S'.pend.length f3)).setCell ⟨w.heap.size, 4, none⟩ (.bool S'.lim)).setCell ⟨w.heap.size, 5, none⟩ (.int .i64 S'.left)) ok e0 f0 e1 f1 e2 f2 e3 f3 S' := by
  have h1 := blk_below h.b0 hb
  have h2 := blk_below h.b1 hb
  have hs := lt_blk h.b1
  refine ⟨set_six _ _ _ _ _ _ h1, (other_six (by omega) _ _ _ _ _ _).trans h2, below_six (h.bl.trans (hb.mono h.bl.size)) (Nat.le_refl _) _ _ _ _ _ _, ?_⟩
  have hm := hr.mono (ok' := OkR w ok) (fun k hk _ => by
    rcases hk with hk | hk
    · exact hk
    · exact .inr (by omega))
  exact hm.move (fun k hk _ => other_six (by rcases hk with hk | hk; have := hk.2; omega; omega) _ _ _ _ _ _)
theorem okR_below {w wn wk : World} {ok : Nat → Prop} {A : Option Addr} {c : Nat} {bs : List Int} {y0 y1 y2 y3 y4 y5 : Value} (h : Rd kB wn (OkR w ok) A c bs) (hb : Below wn.heap.size wn wk) : Rd kB ((((((wk.setCell ⟨w.heap.size, 0, none⟩ y0).setCell ⟨w.heap.size, 1, none⟩ y1).setCell ⟨w.heap.size, 2, none⟩ y2).setCell ⟨w.heap.size, 3, none⟩ y3).setCell ⟨w.heap.size, 4, none⟩ y4).setCell ⟨w.heap.size, 5, none⟩ y5) (OkR w ok) A c bs :=
  (h.below hb).move (fun k hk _ => other_six (by rcases hk with hk | hk; have := hk.2; omega; omega) _ _ _ _ _ _)
set_option maxHeartbeats 16000000 in
set_option maxRecDepth 100000 in
theorem refReplace_calls (w : World) (ok : Nat → Prop) (a0 : Option Addr) (c0 : Nat) (a1 : Option Addr) (c1 : Nat) (a2 : Option Addr) (c2 : Nat) (a3 : Option Addr) (c3 : Nat) (S : PS) (B m : Nat) (n : ByteArray) (Ab : Option Addr) (cb : Nat) (bs : List Int) (h : Ref w ok a0 c0 a1 c1 a2 c2 a3 c3 S) (hs : Sound S B) (hm : 100 ≤ m) (hB : B + m * 6 ≤ 549755813888) (hb : Rd kB w ok Ab cb bs) (hbl : bs.length ≤ m) (hwb : ∀ x ∈ bs, 0 ≤ x ∧ x ≤ 255) (hn : n.size ≤ 1000000) :
    Calls Tryz.prog 78 #[sv a0 c0 a1 c1 a2 c2 a3 c3 S, .string n, .slice Ab bs.length cb] w (RefE2 w ok (pReplace S (tmpOf n) n bs)) := by
  obtain ⟨t, ht⟩ : ∃ t, t = tmpOf n := ⟨_, rfl⟩
  have HT := Lib.hid (show t = (⟨#[116, 109, 112, 45]⟩ : ByteArray) ++ n by rw [ht]; rfl)
  rw [← ht]
  have HSO := Lib.hid (fun j => hs.runTo (t := t) (n := n) hm hbl hwb j)
  have hsj : ∀ j, j ≤ 6 → B + m * j ≤ 549755813888 := fun j hj => Nat.le_trans (Nat.add_le_add_left (Nat.mul_le_mul_left m hj) B) hB
  have HSJ := Lib.hid hsj
  have hbl2 : bs.length ≤ 549755813888 := by omega
  obtain ⟨w1, hw1⟩ : ∃ w1, w1 = (w.alloc (.cells (svC a0 c0 a1 c1 a2 c2 a3 c3 S) tState)).alloc (.cells zeroC tState) := ⟨_, rfl⟩
  have hk := two_blks w (.cells (svC a0 c0 a1 c1 a2 c2 a3 c3 S) tState) (.cells zeroC tState)
  rw [← hw1] at hk
  have R1 := Lib.hid (show RS w w1 ok a0 c0 a1 c1 a2 c2 a3 c3 S from ⟨hk.1.1, hk.1.2, hk.2, (h.mono (ok' := OkR w ok) (fun k h1 h2 => .inl ⟨h1, h2⟩)).below hk.2⟩)
  have X1 := Lib.hid ((hb.mono (ok' := OkR w ok) (fun k h1 h2 => .inl ⟨h1, h2⟩)).below hk.2)
  have HW1 := Lib.hid (show w1 = (w.alloc (.cells #[.slice a0 S.files.length c0, .slice a1 S.dir.length c1, .slice a2 S.dur.length c2, .slice a3 S.pend.length c3, .bool S.lim, .int .i64 S.left] tState)).alloc (.cells #[.slice none 0 0, .slice none 0 0, .slice none 0 0, .slice none 0 0, .bool false, .int .i64 0] tState) from hw1)
  clear h hs hb hwb ht hw1 hk hsj
  obtain ⟨s0, s1, s2, s3, s4, s5⟩ := six_cells R1.out.b0
  go_enter Tryz.func78, Tryz.ntmps78
  go_upto_region 2 with (fail)
  rw [← HT.out, ← HW1.out]
  cases hh : pHas S t
  · have HH := Lib.hid hh
    have HJ0 := Lib.hid (show runTo S t n bs 1 = (S, 0) by show pClear S t = _; unfold pClear; rw [hh]; rfl)
    clear hh
    go_upto_region 5 with (first | (go_at_call 92; refine (refHas_calls _ (OkR w ok) a0 c0 a1 c1 a2 c2 a3 c3 S B t R1.out.rf (HSO.out 0).good (by omega)).mono ?_; rw [HH.out]; rintro e w2 ⟨rfl, hb⟩; have R2 := Lib.hid (R1.out.below hb); have X2 := Lib.hid (X1.out.below hb); clear hb R1 X1 s0 s1 s2 s3 s4 s5; obtain ⟨s0, s1, s2, s3, s4, s5⟩ := six_cells R2.out.b0) | fail)
    have HG := Lib.hid (show Good S (B + m * 1) by have h1 := HSO.out 1; rw [HJ0.out] at h1; exact h1.good)
    obtain ⟨p11, hp11⟩ : ∃ p, p = pCreate S t := ⟨_, rfl⟩
    obtain ⟨S11, cd11⟩ := p11
    have HQ11 := Lib.hid hp11
    have HJ11 := Lib.hid (show runTo S t n bs 2 = (S11, cd11) by rw [runTo_go (by rw [HJ0.out]), HJ0.out]; exact hp11.symm)
    clear hp11
    go_upto_region 7 with (first | (go_at_call 30; refine (refCreate_calls _ (OkR w ok) a0 c0 a1 c1 a2 c2 a3 c3 S (B + m * 1) t R2.out.rf HG.out (HSJ.out 1 (by decide))).mono ?_; rw [← HQ11.out]; rintro e wk11 ⟨v, rfl, ⟨e0, f0, e1, f1, e2, f2, e3, f3, rfl, hr⟩, hb⟩; have HR11 := Lib.hid hr; have HB11 := Lib.hid hb; have k0 := blk_below R2.out.b0 hb; obtain ⟨z0, z1, z2, z3, z4, z5⟩ := six_cells k0; obtain ⟨g0, g1, g2, g3, g4, g5⟩ := six_frozen k0; clear hr hb k0 s0 s1 s2 s3 s4 s5) | fail)
    obtain ⟨wn11, hwn11⟩ : ∃ wn, wn = ((((((wk11.setCell ⟨w.heap.size, 0, none⟩ (.slice e0 S11.files.length f0)).setCell ⟨w.heap.size, 1, none⟩ (.slice e1 S11.dir.length f1)).setCell ⟨w.heap.size, 2, none⟩ (.slice e2 S11.dur.length f2)).setCell ⟨w.heap.size, 3, none⟩ (.slice e3 S11.pend.length f3)).setCell ⟨w.heap.size, 4, none⟩ (.bool S11.lim)).setCell ⟨w.heap.size, 5, none⟩ (.int .i64 S11.left)) := ⟨_, rfl⟩
    rw [← hwn11]
    have RN11 := Lib.hid (show RS w wn11 ok e0 f0 e1 f1 e2 f2 e3 f3 S11 by rw [hwn11]; exact R2.out.put HB11.out HR11.out)
    have XN11 := Lib.hid (show Rd kB wn11 (OkR w ok) Ab cb bs by rw [hwn11]; exact okR_below X2.out HB11.out)
    clear hwn11 HB11 HR11 R2 X2 HG HQ11 z0 z1 z2 z3 z4 z5 g0 g1 g2 g3 g4 g5
    obtain ⟨s0, s1, s2, s3, s4, s5⟩ := six_cells RN11.out.b0
    by_cases hz11 : cd11 = 0
    · subst hz11
      have HG := Lib.hid (show Good S11 (B + m * 2) by have h1 := HSO.out 2; rw [HJ11.out] at h1; exact h1.good)
      obtain ⟨p2, hp2⟩ : ∃ p, p = pAppend S11 t bs := ⟨_, rfl⟩
      obtain ⟨S2, cd2⟩ := p2
      have HQ2 := Lib.hid hp2
      have HJ2 := Lib.hid (show runTo S t n bs 3 = (S2, cd2) by rw [runTo_go (by rw [HJ11.out]), HJ11.out]; exact hp2.symm)
      clear hp2
      go_upto_region 9 with (first | (go_at_call 32; refine (refAppend_calls _ (OkR w ok) e0 f0 e1 f1 e2 f2 e3 f3 S11 (B + m * 2) t Ab cb bs RN11.out.rf HG.out (HSJ.out 2 (by decide)) XN11.out hbl2).mono ?_; rw [← HQ2.out]; rintro e wk2 ⟨v, rfl, ⟨e0, f0, e1, f1, e2, f2, e3, f3, rfl, hr⟩, hb⟩; have HR2 := Lib.hid hr; have HB2 := Lib.hid hb; have k0 := blk_below RN11.out.b0 hb; obtain ⟨z0, z1, z2, z3, z4, z5⟩ := six_cells k0; obtain ⟨g0, g1, g2, g3, g4, g5⟩ := six_frozen k0; clear hr hb k0 s0 s1 s2 s3 s4 s5) | fail)
      obtain ⟨wn2, hwn2⟩ : ∃ wn, wn = ((((((wk2.setCell ⟨w.heap.size, 0, none⟩ (.slice e0 S2.files.length f0)).setCell ⟨w.heap.size, 1, none⟩ (.slice e1 S2.dir.length f1)).setCell ⟨w.heap.size, 2, none⟩ (.slice e2 S2.dur.length f2)).setCell ⟨w.heap.size, 3, none⟩ (.slice e3 S2.pend.length f3)).setCell ⟨w.heap.size, 4, none⟩ (.bool S2.lim)).setCell ⟨w.heap.size, 5, none⟩ (.int .i64 S2.left)) := ⟨_, rfl⟩
      rw [← hwn2]
      have RN2 := Lib.hid (show RS w wn2 ok e0 f0 e1 f1 e2 f2 e3 f3 S2 by rw [hwn2]; exact RN11.out.put HB2.out HR2.out)
      have XN2 := Lib.hid (show Rd kB wn2 (OkR w ok) Ab cb bs by rw [hwn2]; exact okR_below XN11.out HB2.out)
      clear hwn2 HB2 HR2 RN11 XN11 HG HQ2 z0 z1 z2 z3 z4 z5 g0 g1 g2 g3 g4 g5
      obtain ⟨s0, s1, s2, s3, s4, s5⟩ := six_cells RN2.out.b0
      by_cases hz2 : cd2 = 0
      · subst hz2
        have HG := Lib.hid (show Good S2 (B + m * 3) by have h1 := HSO.out 3; rw [HJ2.out] at h1; exact h1.good)
        obtain ⟨p3, hp3⟩ : ∃ p, p = pSync S2 t := ⟨_, rfl⟩
        obtain ⟨S3, cd3⟩ := p3
        have HQ3 := Lib.hid hp3
        have HJ3 := Lib.hid (show runTo S t n bs 4 = (S3, cd3) by rw [runTo_go (by rw [HJ2.out]), HJ2.out]; exact hp3.symm)
        clear hp3
        go_upto_region 11 with (first | (go_at_call 107; refine (refSync_calls _ (OkR w ok) e0 f0 e1 f1 e2 f2 e3 f3 S2 (B + m * 3) t RN2.out.rf HG.out (HSJ.out 3 (by decide))).mono ?_; rw [← HQ3.out]; rintro e wk3 ⟨v, rfl, ⟨e0, f0, e1, f1, e2, f2, e3, f3, rfl, hr⟩, hb⟩; have HR3 := Lib.hid hr; have HB3 := Lib.hid hb; have k0 := blk_below RN2.out.b0 hb; obtain ⟨z0, z1, z2, z3, z4, z5⟩ := six_cells k0; obtain ⟨g0, g1, g2, g3, g4, g5⟩ := six_frozen k0; clear hr hb k0 s0 s1 s2 s3 s4 s5) | fail)
        obtain ⟨wn3, hwn3⟩ : ∃ wn, wn = ((((((wk3.setCell ⟨w.heap.size, 0, none⟩ (.slice e0 S3.files.length f0)).setCell ⟨w.heap.size, 1, none⟩ (.slice e1 S3.dir.length f1)).setCell ⟨w.heap.size, 2, none⟩ (.slice e2 S3.dur.length f2)).setCell ⟨w.heap.size, 3, none⟩ (.slice e3 S3.pend.length f3)).setCell ⟨w.heap.size, 4, none⟩ (.bool S3.lim)).setCell ⟨w.heap.size, 5, none⟩ (.int .i64 S3.left)) := ⟨_, rfl⟩
        rw [← hwn3]
        have RN3 := Lib.hid (show RS w wn3 ok e0 f0 e1 f1 e2 f2 e3 f3 S3 by rw [hwn3]; exact RN2.out.put HB3.out HR3.out)
        have XN3 := Lib.hid (show Rd kB wn3 (OkR w ok) Ab cb bs by rw [hwn3]; exact okR_below XN2.out HB3.out)
        clear hwn3 HB3 HR3 RN2 XN2 HG HQ3 z0 z1 z2 z3 z4 z5 g0 g1 g2 g3 g4 g5
        obtain ⟨s0, s1, s2, s3, s4, s5⟩ := six_cells RN3.out.b0
        by_cases hz3 : cd3 = 0
        · subst hz3
          have HG := Lib.hid (show Good S3 (B + m * 4) by have h1 := HSO.out 4; rw [HJ3.out] at h1; exact h1.good)
          obtain ⟨p4, hp4⟩ : ∃ p, p = pRename S3 t n := ⟨_, rfl⟩
          obtain ⟨S4, cd4⟩ := p4
          have HQ4 := Lib.hid hp4
          have HJ4 := Lib.hid (show runTo S t n bs 5 = (S4, cd4) by rw [runTo_go (by rw [HJ3.out]), HJ3.out]; exact hp4.symm)
          clear hp4
          go_upto_region 13 with (first | (go_at_call 113; refine (refRename_calls _ (OkR w ok) e0 f0 e1 f1 e2 f2 e3 f3 S3 (B + m * 4) t n RN3.out.rf HG.out (HSJ.out 4 (by decide))).mono ?_; rw [← HQ4.out]; rintro e wk4 ⟨v, rfl, ⟨e0, f0, e1, f1, e2, f2, e3, f3, rfl, hr⟩, hb⟩; have HR4 := Lib.hid hr; have HB4 := Lib.hid hb; have k0 := blk_below RN3.out.b0 hb; obtain ⟨z0, z1, z2, z3, z4, z5⟩ := six_cells k0; obtain ⟨g0, g1, g2, g3, g4, g5⟩ := six_frozen k0; clear hr hb k0 s0 s1 s2 s3 s4 s5) | fail)
          obtain ⟨wn4, hwn4⟩ : ∃ wn, wn = ((((((wk4.setCell ⟨w.heap.size, 0, none⟩ (.slice e0 S4.files.length f0)).setCell ⟨w.heap.size, 1, none⟩ (.slice e1 S4.dir.length f1)).setCell ⟨w.heap.size, 2, none⟩ (.slice e2 S4.dur.length f2)).setCell ⟨w.heap.size, 3, none⟩ (.slice e3 S4.pend.length f3)).setCell ⟨w.heap.size, 4, none⟩ (.bool S4.lim)).setCell ⟨w.heap.size, 5, none⟩ (.int .i64 S4.left)) := ⟨_, rfl⟩
          rw [← hwn4]
          have RN4 := Lib.hid (show RS w wn4 ok e0 f0 e1 f1 e2 f2 e3 f3 S4 by rw [hwn4]; exact RN3.out.put HB4.out HR4.out)
          have XN4 := Lib.hid (show Rd kB wn4 (OkR w ok) Ab cb bs by rw [hwn4]; exact okR_below XN3.out HB4.out)
          clear hwn4 HB4 HR4 RN3 XN3 HG HQ4 z0 z1 z2 z3 z4 z5 g0 g1 g2 g3 g4 g5
          obtain ⟨s0, s1, s2, s3, s4, s5⟩ := six_cells RN4.out.b0
          by_cases hz4 : cd4 = 0
          · subst hz4
            have HG := Lib.hid (show Good S4 (B + m * 5) by have h1 := HSO.out 5; rw [HJ4.out] at h1; exact h1.good)
            obtain ⟨p5, hp5⟩ : ∃ p, p = pSyncDir S4  := ⟨_, rfl⟩
            obtain ⟨S5, cd5⟩ := p5
            have HQ5 := Lib.hid hp5
            have HJ5 := Lib.hid (show runTo S t n bs 6 = (S5, cd5) by rw [runTo_go (by rw [HJ4.out]), HJ4.out]; exact hp5.symm)
            clear hp5
            go_upto_region 15 with (first | (go_at_call 114; refine (refSyncDir_calls _ (OkR w ok) e0 f0 e1 f1 e2 f2 e3 f3 S4 (B + m * 5)  RN4.out.rf HG.out (HSJ.out 5 (by decide))).mono ?_; rw [← HQ5.out]; rintro e wk5 ⟨v, rfl, ⟨e0, f0, e1, f1, e2, f2, e3, f3, rfl, hr⟩, hb⟩; have HR5 := Lib.hid hr; have HB5 := Lib.hid hb; have k0 := blk_below RN4.out.b0 hb; obtain ⟨z0, z1, z2, z3, z4, z5⟩ := six_cells k0; obtain ⟨g0, g1, g2, g3, g4, g5⟩ := six_frozen k0; clear hr hb k0 s0 s1 s2 s3 s4 s5) | fail)
            obtain ⟨wn5, hwn5⟩ : ∃ wn, wn = ((((((wk5.setCell ⟨w.heap.size, 0, none⟩ (.slice e0 S5.files.length f0)).setCell ⟨w.heap.size, 1, none⟩ (.slice e1 S5.dir.length f1)).setCell ⟨w.heap.size, 2, none⟩ (.slice e2 S5.dur.length f2)).setCell ⟨w.heap.size, 3, none⟩ (.slice e3 S5.pend.length f3)).setCell ⟨w.heap.size, 4, none⟩ (.bool S5.lim)).setCell ⟨w.heap.size, 5, none⟩ (.int .i64 S5.left)) := ⟨_, rfl⟩
            rw [← hwn5]
            have RN5 := Lib.hid (show RS w wn5 ok e0 f0 e1 f1 e2 f2 e3 f3 S5 by rw [hwn5]; exact RN4.out.put HB5.out HR5.out)
            have XN5 := Lib.hid (show Rd kB wn5 (OkR w ok) Ab cb bs by rw [hwn5]; exact okR_below XN4.out HB5.out)
            clear hwn5 HB5 HR5 RN4 XN4 HG HQ5 z0 z1 z2 z3 z4 z5 g0 g1 g2 g3 g4 g5
            obtain ⟨s0, s1, s2, s3, s4, s5⟩ := six_cells RN5.out.b0
            have HP := Lib.hid (show pReplace S t n bs = (S5, cd5) from HJ5.out)
            obtain ⟨y0, y1, y2, y3, y4, y5⟩ := six_cells RN5.out.b1
            obtain ⟨x0, x1, x2, x3, x4, x5⟩ := six_frozen RN5.out.b1
            go_wp2_with fail
            rw [HP.out]
            obtain ⟨q1, q2, q3⟩ := fin_ref (ok := ok) (S := S5) RN5.out.bl RN5.out.b1 RN5.out.rf
            exact bodyPost_ret (results_ct rfl _ _ (w.heap.size + 1) tState _ (0, 0) _ rfl q1 Tryz.underlying31 rfl (by kernel_rfl)) rfl ⟨_, rfl, ⟨e0, f0, e1, f1, e2, f2, e3, f3, rfl, q3⟩, q2⟩
          · have HP := Lib.hid (show pReplace S t n bs = (S4, cd4) by
              have h1 := runTo_stop (S := S) (t := t) (n := n) (bs := bs) (j := 5) (by rw [HJ4.out]; exact hz4) 1
              exact h1.trans HJ4.out)
            have hne : (cd4 == 0) = false := by simpa using hz4
            obtain ⟨y0, y1, y2, y3, y4, y5⟩ := six_cells RN4.out.b1
            obtain ⟨x0, x1, x2, x3, x4, x5⟩ := six_frozen RN4.out.b1
            go_wp2_with fail
            rw [HP.out]
            obtain ⟨q1, q2, q3⟩ := fin_ref (ok := ok) (S := S4) RN4.out.bl RN4.out.b1 RN4.out.rf
            exact bodyPost_ret (results_ct rfl _ _ (w.heap.size + 1) tState _ (0, 0) _ rfl q1 Tryz.underlying31 rfl (by kernel_rfl)) rfl ⟨_, rfl, ⟨e0, f0, e1, f1, e2, f2, e3, f3, rfl, q3⟩, q2⟩
        · have HP := Lib.hid (show pReplace S t n bs = (S3, cd3) by
            have h1 := runTo_stop (S := S) (t := t) (n := n) (bs := bs) (j := 4) (by rw [HJ3.out]; exact hz3) 2
            exact h1.trans HJ3.out)
          have hne : (cd3 == 0) = false := by simpa using hz3
          obtain ⟨y0, y1, y2, y3, y4, y5⟩ := six_cells RN3.out.b1
          obtain ⟨x0, x1, x2, x3, x4, x5⟩ := six_frozen RN3.out.b1
          go_wp2_with fail
          rw [HP.out]
          obtain ⟨q1, q2, q3⟩ := fin_ref (ok := ok) (S := S3) RN3.out.bl RN3.out.b1 RN3.out.rf
          exact bodyPost_ret (results_ct rfl _ _ (w.heap.size + 1) tState _ (0, 0) _ rfl q1 Tryz.underlying31 rfl (by kernel_rfl)) rfl ⟨_, rfl, ⟨e0, f0, e1, f1, e2, f2, e3, f3, rfl, q3⟩, q2⟩
      · have HP := Lib.hid (show pReplace S t n bs = (S2, cd2) by
          have h1 := runTo_stop (S := S) (t := t) (n := n) (bs := bs) (j := 3) (by rw [HJ2.out]; exact hz2) 3
          exact h1.trans HJ2.out)
        have hne : (cd2 == 0) = false := by simpa using hz2
        obtain ⟨y0, y1, y2, y3, y4, y5⟩ := six_cells RN2.out.b1
        obtain ⟨x0, x1, x2, x3, x4, x5⟩ := six_frozen RN2.out.b1
        go_wp2_with fail
        rw [HP.out]
        obtain ⟨q1, q2, q3⟩ := fin_ref (ok := ok) (S := S2) RN2.out.bl RN2.out.b1 RN2.out.rf
        exact bodyPost_ret (results_ct rfl _ _ (w.heap.size + 1) tState _ (0, 0) _ rfl q1 Tryz.underlying31 rfl (by kernel_rfl)) rfl ⟨_, rfl, ⟨e0, f0, e1, f1, e2, f2, e3, f3, rfl, q3⟩, q2⟩
    · have HP := Lib.hid (show pReplace S t n bs = (S11, cd11) by
        have h1 := runTo_stop (S := S) (t := t) (n := n) (bs := bs) (j := 2) (by rw [HJ11.out]; exact hz11) 4
        exact h1.trans HJ11.out)
      have hne : (cd11 == 0) = false := by simpa using hz11
      obtain ⟨y0, y1, y2, y3, y4, y5⟩ := six_cells RN11.out.b1
      obtain ⟨x0, x1, x2, x3, x4, x5⟩ := six_frozen RN11.out.b1
      go_wp2_with fail
      rw [HP.out]
      obtain ⟨q1, q2, q3⟩ := fin_ref (ok := ok) (S := S11) RN11.out.bl RN11.out.b1 RN11.out.rf
      exact bodyPost_ret (results_ct rfl _ _ (w.heap.size + 1) tState _ (0, 0) _ rfl q1 Tryz.underlying31 rfl (by kernel_rfl)) rfl ⟨_, rfl, ⟨e0, f0, e1, f1, e2, f2, e3, f3, rfl, q3⟩, q2⟩
  · have HH := Lib.hid hh
    have HJ0 := Lib.hid (show runTo S t n bs 1 = pRemove S t by show pClear S t = _; unfold pClear; rw [hh]; rfl)
    clear hh
    obtain ⟨p20, hp20⟩ : ∃ p, p = pRemove S t := ⟨_, rfl⟩
    obtain ⟨S20, cd20⟩ := p20
    have HQ20 := Lib.hid hp20
    have HJ20 := Lib.hid (show runTo S t n bs 1 = (S20, cd20) by rw [HJ0.out]; exact hp20.symm)
    clear hp20 HJ0
    go_upto_region 5 with (first
      | (go_at_call 92; refine (refHas_calls _ (OkR w ok) a0 c0 a1 c1 a2 c2 a3 c3 S B t R1.out.rf (HSO.out 0).good (by omega)).mono ?_; rw [HH.out]; rintro e w2 ⟨rfl, hb⟩; have R2 := Lib.hid (R1.out.below hb); have X2 := Lib.hid (X1.out.below hb); clear hb R1 X1 s0 s1 s2 s3 s4 s5; obtain ⟨s0, s1, s2, s3, s4, s5⟩ := six_cells R2.out.b0)
      | (go_at_call 112; refine (refRemove_calls _ (OkR w ok) a0 c0 a1 c1 a2 c2 a3 c3 S B t R2.out.rf (HSO.out 0).good (by omega)).mono ?_; rw [← HQ20.out]; rintro e wk20 ⟨v, rfl, ⟨e0, f0, e1, f1, e2, f2, e3, f3, rfl, hr⟩, hb⟩; have HR20 := Lib.hid hr; have HB20 := Lib.hid hb; have k0 := blk_below R2.out.b0 hb; obtain ⟨z0, z1, z2, z3, z4, z5⟩ := six_cells k0; obtain ⟨g0, g1, g2, g3, g4, g5⟩ := six_frozen k0; clear hr hb k0 s0 s1 s2 s3 s4 s5)
      | fail)
    obtain ⟨wn20, hwn20⟩ : ∃ wn, wn = ((((((wk20.setCell ⟨w.heap.size, 0, none⟩ (.slice e0 S20.files.length f0)).setCell ⟨w.heap.size, 1, none⟩ (.slice e1 S20.dir.length f1)).setCell ⟨w.heap.size, 2, none⟩ (.slice e2 S20.dur.length f2)).setCell ⟨w.heap.size, 3, none⟩ (.slice e3 S20.pend.length f3)).setCell ⟨w.heap.size, 4, none⟩ (.bool S20.lim)).setCell ⟨w.heap.size, 5, none⟩ (.int .i64 S20.left)) := ⟨_, rfl⟩
    rw [← hwn20]
    have RN20 := Lib.hid (show RS w wn20 ok e0 f0 e1 f1 e2 f2 e3 f3 S20 by rw [hwn20]; exact R2.out.put HB20.out HR20.out)
    have XN20 := Lib.hid (show Rd kB wn20 (OkR w ok) Ab cb bs by rw [hwn20]; exact okR_below X2.out HB20.out)
    clear hwn20 HB20 HR20 R2 X2 HQ20 z0 z1 z2 z3 z4 z5 g0 g1 g2 g3 g4 g5
    obtain ⟨s0, s1, s2, s3, s4, s5⟩ := six_cells RN20.out.b0
    by_cases hz20 : cd20 = 0
    · subst hz20
      have HG := Lib.hid (show Good S20 (B + m * 1) by have h1 := HSO.out 1; rw [HJ20.out] at h1; exact h1.good)
      obtain ⟨p1, hp1⟩ : ∃ p, p = pCreate S20 t := ⟨_, rfl⟩
      obtain ⟨S1, cd1⟩ := p1
      have HQ1 := Lib.hid hp1
      have HJ1 := Lib.hid (show runTo S t n bs 2 = (S1, cd1) by rw [runTo_go (by rw [HJ20.out]), HJ20.out]; exact hp1.symm)
      clear hp1
      go_upto_region 7 with (first | (go_at_call 30; refine (refCreate_calls _ (OkR w ok) e0 f0 e1 f1 e2 f2 e3 f3 S20 (B + m * 1) t RN20.out.rf HG.out (HSJ.out 1 (by decide))).mono ?_; rw [← HQ1.out]; rintro e wk1 ⟨v, rfl, ⟨e0, f0, e1, f1, e2, f2, e3, f3, rfl, hr⟩, hb⟩; have HR1 := Lib.hid hr; have HB1 := Lib.hid hb; have k0 := blk_below RN20.out.b0 hb; obtain ⟨z0, z1, z2, z3, z4, z5⟩ := six_cells k0; obtain ⟨g0, g1, g2, g3, g4, g5⟩ := six_frozen k0; clear hr hb k0 s0 s1 s2 s3 s4 s5) | fail)
      obtain ⟨wn1, hwn1⟩ : ∃ wn, wn = ((((((wk1.setCell ⟨w.heap.size, 0, none⟩ (.slice e0 S1.files.length f0)).setCell ⟨w.heap.size, 1, none⟩ (.slice e1 S1.dir.length f1)).setCell ⟨w.heap.size, 2, none⟩ (.slice e2 S1.dur.length f2)).setCell ⟨w.heap.size, 3, none⟩ (.slice e3 S1.pend.length f3)).setCell ⟨w.heap.size, 4, none⟩ (.bool S1.lim)).setCell ⟨w.heap.size, 5, none⟩ (.int .i64 S1.left)) := ⟨_, rfl⟩
      rw [← hwn1]
      have RN1 := Lib.hid (show RS w wn1 ok e0 f0 e1 f1 e2 f2 e3 f3 S1 by rw [hwn1]; exact RN20.out.put HB1.out HR1.out)
      have XN1 := Lib.hid (show Rd kB wn1 (OkR w ok) Ab cb bs by rw [hwn1]; exact okR_below XN20.out HB1.out)
      clear hwn1 HB1 HR1 RN20 XN20 HG HQ1 z0 z1 z2 z3 z4 z5 g0 g1 g2 g3 g4 g5
      obtain ⟨s0, s1, s2, s3, s4, s5⟩ := six_cells RN1.out.b0
      by_cases hz1 : cd1 = 0
      · subst hz1
        have HG := Lib.hid (show Good S1 (B + m * 2) by have h1 := HSO.out 2; rw [HJ1.out] at h1; exact h1.good)
        obtain ⟨p2, hp2⟩ : ∃ p, p = pAppend S1 t bs := ⟨_, rfl⟩
        obtain ⟨S2, cd2⟩ := p2
        have HQ2 := Lib.hid hp2
        have HJ2 := Lib.hid (show runTo S t n bs 3 = (S2, cd2) by rw [runTo_go (by rw [HJ1.out]), HJ1.out]; exact hp2.symm)
        clear hp2
        go_upto_region 9 with (first | (go_at_call 32; refine (refAppend_calls _ (OkR w ok) e0 f0 e1 f1 e2 f2 e3 f3 S1 (B + m * 2) t Ab cb bs RN1.out.rf HG.out (HSJ.out 2 (by decide)) XN1.out hbl2).mono ?_; rw [← HQ2.out]; rintro e wk2 ⟨v, rfl, ⟨e0, f0, e1, f1, e2, f2, e3, f3, rfl, hr⟩, hb⟩; have HR2 := Lib.hid hr; have HB2 := Lib.hid hb; have k0 := blk_below RN1.out.b0 hb; obtain ⟨z0, z1, z2, z3, z4, z5⟩ := six_cells k0; obtain ⟨g0, g1, g2, g3, g4, g5⟩ := six_frozen k0; clear hr hb k0 s0 s1 s2 s3 s4 s5) | fail)
        obtain ⟨wn2, hwn2⟩ : ∃ wn, wn = ((((((wk2.setCell ⟨w.heap.size, 0, none⟩ (.slice e0 S2.files.length f0)).setCell ⟨w.heap.size, 1, none⟩ (.slice e1 S2.dir.length f1)).setCell ⟨w.heap.size, 2, none⟩ (.slice e2 S2.dur.length f2)).setCell ⟨w.heap.size, 3, none⟩ (.slice e3 S2.pend.length f3)).setCell ⟨w.heap.size, 4, none⟩ (.bool S2.lim)).setCell ⟨w.heap.size, 5, none⟩ (.int .i64 S2.left)) := ⟨_, rfl⟩
        rw [← hwn2]
        have RN2 := Lib.hid (show RS w wn2 ok e0 f0 e1 f1 e2 f2 e3 f3 S2 by rw [hwn2]; exact RN1.out.put HB2.out HR2.out)
        have XN2 := Lib.hid (show Rd kB wn2 (OkR w ok) Ab cb bs by rw [hwn2]; exact okR_below XN1.out HB2.out)
        clear hwn2 HB2 HR2 RN1 XN1 HG HQ2 z0 z1 z2 z3 z4 z5 g0 g1 g2 g3 g4 g5
        obtain ⟨s0, s1, s2, s3, s4, s5⟩ := six_cells RN2.out.b0
        by_cases hz2 : cd2 = 0
        · subst hz2
          have HG := Lib.hid (show Good S2 (B + m * 3) by have h1 := HSO.out 3; rw [HJ2.out] at h1; exact h1.good)
          obtain ⟨p3, hp3⟩ : ∃ p, p = pSync S2 t := ⟨_, rfl⟩
          obtain ⟨S3, cd3⟩ := p3
          have HQ3 := Lib.hid hp3
          have HJ3 := Lib.hid (show runTo S t n bs 4 = (S3, cd3) by rw [runTo_go (by rw [HJ2.out]), HJ2.out]; exact hp3.symm)
          clear hp3
          go_upto_region 11 with (first | (go_at_call 107; refine (refSync_calls _ (OkR w ok) e0 f0 e1 f1 e2 f2 e3 f3 S2 (B + m * 3) t RN2.out.rf HG.out (HSJ.out 3 (by decide))).mono ?_; rw [← HQ3.out]; rintro e wk3 ⟨v, rfl, ⟨e0, f0, e1, f1, e2, f2, e3, f3, rfl, hr⟩, hb⟩; have HR3 := Lib.hid hr; have HB3 := Lib.hid hb; have k0 := blk_below RN2.out.b0 hb; obtain ⟨z0, z1, z2, z3, z4, z5⟩ := six_cells k0; obtain ⟨g0, g1, g2, g3, g4, g5⟩ := six_frozen k0; clear hr hb k0 s0 s1 s2 s3 s4 s5) | fail)
          obtain ⟨wn3, hwn3⟩ : ∃ wn, wn = ((((((wk3.setCell ⟨w.heap.size, 0, none⟩ (.slice e0 S3.files.length f0)).setCell ⟨w.heap.size, 1, none⟩ (.slice e1 S3.dir.length f1)).setCell ⟨w.heap.size, 2, none⟩ (.slice e2 S3.dur.length f2)).setCell ⟨w.heap.size, 3, none⟩ (.slice e3 S3.pend.length f3)).setCell ⟨w.heap.size, 4, none⟩ (.bool S3.lim)).setCell ⟨w.heap.size, 5, none⟩ (.int .i64 S3.left)) := ⟨_, rfl⟩
          rw [← hwn3]
          have RN3 := Lib.hid (show RS w wn3 ok e0 f0 e1 f1 e2 f2 e3 f3 S3 by rw [hwn3]; exact RN2.out.put HB3.out HR3.out)
          have XN3 := Lib.hid (show Rd kB wn3 (OkR w ok) Ab cb bs by rw [hwn3]; exact okR_below XN2.out HB3.out)
          clear hwn3 HB3 HR3 RN2 XN2 HG HQ3 z0 z1 z2 z3 z4 z5 g0 g1 g2 g3 g4 g5
          obtain ⟨s0, s1, s2, s3, s4, s5⟩ := six_cells RN3.out.b0
          by_cases hz3 : cd3 = 0
          · subst hz3
            have HG := Lib.hid (show Good S3 (B + m * 4) by have h1 := HSO.out 4; rw [HJ3.out] at h1; exact h1.good)
            obtain ⟨p4, hp4⟩ : ∃ p, p = pRename S3 t n := ⟨_, rfl⟩
            obtain ⟨S4, cd4⟩ := p4
            have HQ4 := Lib.hid hp4
            have HJ4 := Lib.hid (show runTo S t n bs 5 = (S4, cd4) by rw [runTo_go (by rw [HJ3.out]), HJ3.out]; exact hp4.symm)
            clear hp4
            go_upto_region 13 with (first | (go_at_call 113; refine (refRename_calls _ (OkR w ok) e0 f0 e1 f1 e2 f2 e3 f3 S3 (B + m * 4) t n RN3.out.rf HG.out (HSJ.out 4 (by decide))).mono ?_; rw [← HQ4.out]; rintro e wk4 ⟨v, rfl, ⟨e0, f0, e1, f1, e2, f2, e3, f3, rfl, hr⟩, hb⟩; have HR4 := Lib.hid hr; have HB4 := Lib.hid hb; have k0 := blk_below RN3.out.b0 hb; obtain ⟨z0, z1, z2, z3, z4, z5⟩ := six_cells k0; obtain ⟨g0, g1, g2, g3, g4, g5⟩ := six_frozen k0; clear hr hb k0 s0 s1 s2 s3 s4 s5) | fail)
            obtain ⟨wn4, hwn4⟩ : ∃ wn, wn = ((((((wk4.setCell ⟨w.heap.size, 0, none⟩ (.slice e0 S4.files.length f0)).setCell ⟨w.heap.size, 1, none⟩ (.slice e1 S4.dir.length f1)).setCell ⟨w.heap.size, 2, none⟩ (.slice e2 S4.dur.length f2)).setCell ⟨w.heap.size, 3, none⟩ (.slice e3 S4.pend.length f3)).setCell ⟨w.heap.size, 4, none⟩ (.bool S4.lim)).setCell ⟨w.heap.size, 5, none⟩ (.int .i64 S4.left)) := ⟨_, rfl⟩
            rw [← hwn4]
            have RN4 := Lib.hid (show RS w wn4 ok e0 f0 e1 f1 e2 f2 e3 f3 S4 by rw [hwn4]; exact RN3.out.put HB4.out HR4.out)
            have XN4 := Lib.hid (show Rd kB wn4 (OkR w ok) Ab cb bs by rw [hwn4]; exact okR_below XN3.out HB4.out)
            clear hwn4 HB4 HR4 RN3 XN3 HG HQ4 z0 z1 z2 z3 z4 z5 g0 g1 g2 g3 g4 g5
            obtain ⟨s0, s1, s2, s3, s4, s5⟩ := six_cells RN4.out.b0
            by_cases hz4 : cd4 = 0
            · subst hz4
              have HG := Lib.hid (show Good S4 (B + m * 5) by have h1 := HSO.out 5; rw [HJ4.out] at h1; exact h1.good)
              obtain ⟨p5, hp5⟩ : ∃ p, p = pSyncDir S4  := ⟨_, rfl⟩
              obtain ⟨S5, cd5⟩ := p5
              have HQ5 := Lib.hid hp5
              have HJ5 := Lib.hid (show runTo S t n bs 6 = (S5, cd5) by rw [runTo_go (by rw [HJ4.out]), HJ4.out]; exact hp5.symm)
              clear hp5
              go_upto_region 15 with (first | (go_at_call 114; refine (refSyncDir_calls _ (OkR w ok) e0 f0 e1 f1 e2 f2 e3 f3 S4 (B + m * 5)  RN4.out.rf HG.out (HSJ.out 5 (by decide))).mono ?_; rw [← HQ5.out]; rintro e wk5 ⟨v, rfl, ⟨e0, f0, e1, f1, e2, f2, e3, f3, rfl, hr⟩, hb⟩; have HR5 := Lib.hid hr; have HB5 := Lib.hid hb; have k0 := blk_below RN4.out.b0 hb; obtain ⟨z0, z1, z2, z3, z4, z5⟩ := six_cells k0; obtain ⟨g0, g1, g2, g3, g4, g5⟩ := six_frozen k0; clear hr hb k0 s0 s1 s2 s3 s4 s5) | fail)
              obtain ⟨wn5, hwn5⟩ : ∃ wn, wn = ((((((wk5.setCell ⟨w.heap.size, 0, none⟩ (.slice e0 S5.files.length f0)).setCell ⟨w.heap.size, 1, none⟩ (.slice e1 S5.dir.length f1)).setCell ⟨w.heap.size, 2, none⟩ (.slice e2 S5.dur.length f2)).setCell ⟨w.heap.size, 3, none⟩ (.slice e3 S5.pend.length f3)).setCell ⟨w.heap.size, 4, none⟩ (.bool S5.lim)).setCell ⟨w.heap.size, 5, none⟩ (.int .i64 S5.left)) := ⟨_, rfl⟩
              rw [← hwn5]
              have RN5 := Lib.hid (show RS w wn5 ok e0 f0 e1 f1 e2 f2 e3 f3 S5 by rw [hwn5]; exact RN4.out.put HB5.out HR5.out)
              have XN5 := Lib.hid (show Rd kB wn5 (OkR w ok) Ab cb bs by rw [hwn5]; exact okR_below XN4.out HB5.out)
              clear hwn5 HB5 HR5 RN4 XN4 HG HQ5 z0 z1 z2 z3 z4 z5 g0 g1 g2 g3 g4 g5
              obtain ⟨s0, s1, s2, s3, s4, s5⟩ := six_cells RN5.out.b0
              have HP := Lib.hid (show pReplace S t n bs = (S5, cd5) from HJ5.out)
              obtain ⟨y0, y1, y2, y3, y4, y5⟩ := six_cells RN5.out.b1
              obtain ⟨x0, x1, x2, x3, x4, x5⟩ := six_frozen RN5.out.b1
              go_wp2_with fail
              rw [HP.out]
              obtain ⟨q1, q2, q3⟩ := fin_ref (ok := ok) (S := S5) RN5.out.bl RN5.out.b1 RN5.out.rf
              exact bodyPost_ret (results_ct rfl _ _ (w.heap.size + 1) tState _ (0, 0) _ rfl q1 Tryz.underlying31 rfl (by kernel_rfl)) rfl ⟨_, rfl, ⟨e0, f0, e1, f1, e2, f2, e3, f3, rfl, q3⟩, q2⟩
            · have HP := Lib.hid (show pReplace S t n bs = (S4, cd4) by
                have h1 := runTo_stop (S := S) (t := t) (n := n) (bs := bs) (j := 5) (by rw [HJ4.out]; exact hz4) 1
                exact h1.trans HJ4.out)
              have hne : (cd4 == 0) = false := by simpa using hz4
              obtain ⟨y0, y1, y2, y3, y4, y5⟩ := six_cells RN4.out.b1
              obtain ⟨x0, x1, x2, x3, x4, x5⟩ := six_frozen RN4.out.b1
              go_wp2_with fail
              rw [HP.out]
              obtain ⟨q1, q2, q3⟩ := fin_ref (ok := ok) (S := S4) RN4.out.bl RN4.out.b1 RN4.out.rf
              exact bodyPost_ret (results_ct rfl _ _ (w.heap.size + 1) tState _ (0, 0) _ rfl q1 Tryz.underlying31 rfl (by kernel_rfl)) rfl ⟨_, rfl, ⟨e0, f0, e1, f1, e2, f2, e3, f3, rfl, q3⟩, q2⟩
          · have HP := Lib.hid (show pReplace S t n bs = (S3, cd3) by
              have h1 := runTo_stop (S := S) (t := t) (n := n) (bs := bs) (j := 4) (by rw [HJ3.out]; exact hz3) 2
              exact h1.trans HJ3.out)
            have hne : (cd3 == 0) = false := by simpa using hz3
            obtain ⟨y0, y1, y2, y3, y4, y5⟩ := six_cells RN3.out.b1
            obtain ⟨x0, x1, x2, x3, x4, x5⟩ := six_frozen RN3.out.b1
            go_wp2_with fail
            rw [HP.out]
            obtain ⟨q1, q2, q3⟩ := fin_ref (ok := ok) (S := S3) RN3.out.bl RN3.out.b1 RN3.out.rf
            exact bodyPost_ret (results_ct rfl _ _ (w.heap.size + 1) tState _ (0, 0) _ rfl q1 Tryz.underlying31 rfl (by kernel_rfl)) rfl ⟨_, rfl, ⟨e0, f0, e1, f1, e2, f2, e3, f3, rfl, q3⟩, q2⟩
        · have HP := Lib.hid (show pReplace S t n bs = (S2, cd2) by
            have h1 := runTo_stop (S := S) (t := t) (n := n) (bs := bs) (j := 3) (by rw [HJ2.out]; exact hz2) 3
            exact h1.trans HJ2.out)
          have hne : (cd2 == 0) = false := by simpa using hz2
          obtain ⟨y0, y1, y2, y3, y4, y5⟩ := six_cells RN2.out.b1
          obtain ⟨x0, x1, x2, x3, x4, x5⟩ := six_frozen RN2.out.b1
          go_wp2_with fail
          rw [HP.out]
          obtain ⟨q1, q2, q3⟩ := fin_ref (ok := ok) (S := S2) RN2.out.bl RN2.out.b1 RN2.out.rf
          exact bodyPost_ret (results_ct rfl _ _ (w.heap.size + 1) tState _ (0, 0) _ rfl q1 Tryz.underlying31 rfl (by kernel_rfl)) rfl ⟨_, rfl, ⟨e0, f0, e1, f1, e2, f2, e3, f3, rfl, q3⟩, q2⟩
      · have HP := Lib.hid (show pReplace S t n bs = (S1, cd1) by
          have h1 := runTo_stop (S := S) (t := t) (n := n) (bs := bs) (j := 2) (by rw [HJ1.out]; exact hz1) 4
          exact h1.trans HJ1.out)
        have hne : (cd1 == 0) = false := by simpa using hz1
        obtain ⟨y0, y1, y2, y3, y4, y5⟩ := six_cells RN1.out.b1
        obtain ⟨x0, x1, x2, x3, x4, x5⟩ := six_frozen RN1.out.b1
        go_wp2_with fail
        rw [HP.out]
        obtain ⟨q1, q2, q3⟩ := fin_ref (ok := ok) (S := S1) RN1.out.bl RN1.out.b1 RN1.out.rf
        exact bodyPost_ret (results_ct rfl _ _ (w.heap.size + 1) tState _ (0, 0) _ rfl q1 Tryz.underlying31 rfl (by kernel_rfl)) rfl ⟨_, rfl, ⟨e0, f0, e1, f1, e2, f2, e3, f3, rfl, q3⟩, q2⟩
    · have HP := Lib.hid (show pReplace S t n bs = (S20, cd20) by
        have h1 := runTo_stop (S := S) (t := t) (n := n) (bs := bs) (j := 1) (by rw [HJ20.out]; exact hz20) 5
        exact h1.trans HJ20.out)
      have hne : (cd20 == 0) = false := by simpa using hz20
      obtain ⟨y0, y1, y2, y3, y4, y5⟩ := six_cells RN20.out.b1
      obtain ⟨x0, x1, x2, x3, x4, x5⟩ := six_frozen RN20.out.b1
      go_wp2_with fail
      rw [HP.out]
      obtain ⟨q1, q2, q3⟩ := fin_ref (ok := ok) (S := S20) RN20.out.bl RN20.out.b1 RN20.out.rf
      exact bodyPost_ret (results_ct rfl _ _ (w.heap.size + 1) tState _ (0, 0) _ rfl q1 Tryz.underlying31 rfl (by kernel_rfl)) rfl ⟨_, rfl, ⟨e0, f0, e1, f1, e2, f2, e3, f3, rfl, q3⟩, q2⟩
end Go.Proofs.YtehhafnjbkbmjaaGreat.Disk

/- The reference's log: Append, Rewrite. -/
namespace Go.Proofs.YtehhafnjbkbmjaaGreat.Disk
open Go Go.RowKit Go.Proofs.YtehhafnjbkbmjaaGreatW.PrintWords Go.Proofs.YtehhafnjbkbmjaaGreatW.PrintLast Go.Proofs.YtehhafnjbkbmjaaGreatW.PrintMore Go.Proofs.YtehhafnjbkbmjaaGreat.PCommitlogSequence
/-- The state is laid in the result's block, wherever that lies. -/
theorem fin_any {w w4 : World} {ok ok' : Nat → Prop} {b : Nat} {b0 : Option Addr} {d0 : Nat} {b1 : Option Addr} {d1 : Nat} {b2 : Option Addr} {d2 : Nat} {b3 : Option Addr} {d3 : Nat} {S : PS} {x0 x1 x2 x3 x4 x5 : Value} (hb : Below w.heap.size w w4) (hbw : w.heap.size ≤ b) (h1 : w4.heap[b]? = some (.cells #[x0, x1, x2, x3, x4, x5] tState (0, 0))) (hr : Ref w4 ok' b0 d0 b1 d1 b2 d2 b3 d3 S) (hok : ∀ k, ok' k → k ≠ b ∧ (ok k ∨ w.heap.size ≤ k)) :
    ((((((w4.setCell ⟨b, 0, none⟩ (.slice b0 S.files.length d0)).setCell ⟨b, 1, none⟩ (.slice b1 S.dir.length d1)).setCell ⟨b, 2, none⟩ (.slice b2 S.dur.length d2)).setCell ⟨b, 3, none⟩ (.slice b3 S.pend.length d3)).setCell ⟨b, 4, none⟩ (.bool S.lim)).setCell ⟨b, 5, none⟩ (.int .i64 S.left)).heap[b]? = some (.cells (svC b0 d0 b1 d1 b2 d2 b3 d3 S) tState (0, 0)) ∧
    Below w.heap.size w ((((((w4.setCell ⟨b, 0, none⟩ (.slice b0 S.files.length d0)).setCell ⟨b, 1, none⟩ (.slice b1 S.dir.length d1)).setCell ⟨b, 2, none⟩ (.slice b2 S.dur.length d2)).setCell ⟨b, 3, none⟩ (.slice b3 S.pend.length d3)).setCell ⟨b, 4, none⟩ (.bool S.lim)).setCell ⟨b, 5, none⟩ (.int .i64 S.left)) ∧
    Ref ((((((w4.setCell ⟨b, 0, none⟩ (.slice b0 S.files.length d0)).setCell ⟨b, 1, none⟩ (.slice b1 S.dir.length d1)).setCell ⟨b, 2, none⟩ (.slice b2 S.dur.length d2)).setCell ⟨b, 3, none⟩ (.slice b3 S.pend.length d3)).setCell ⟨b, 4, none⟩ (.bool S.lim)).setCell ⟨b, 5, none⟩ (.int .i64 S.left)) (fun k => ok k ∨ w.heap.size ≤ k) b0 d0 b1 d1 b2 d2 b3 d3 S :=
  ⟨set_six _ _ _ _ _ _ h1, below_six hb hbw _ _ _ _ _ _, (hr.move (fun k hk _ => other_six (hok k hk).1 _ _ _ _ _ _)).mono (fun k hk _ => (hok k hk).2)⟩
abbrev OkA3 (w : World) (ok : Nat → Prop) : Nat → Prop := fun k => (ok k ∧ k < w.heap.size) ∨ w.heap.size + 3 ≤ k
theorem OkA3.ok {w : World} {ok : Nat → Prop} {k : Nat} (h : OkA3 w ok k) : k ≠ w.heap.size + 1 + 1 ∧ (ok k ∨ w.heap.size ≤ k) := by
  rcases h with ⟨h1, h2⟩ | h
  · exact ⟨by omega, .inl h1⟩
  · exact ⟨by omega, .inr (by omega)⟩
set_option maxHeartbeats 8000000 in
set_option maxRecDepth 100000 in
theorem refLogAppend_calls (w : World) (ok : Nat → Prop) (a0 : Option Addr) (c0 : Nat) (a1 : Option Addr) (c1 : Nat) (a2 : Option Addr) (c2 : Nat) (a3 : Option Addr) (c3 : Nat) (S : PS) (B : Nat) (n : ByteArray) (x : LE) (h : Ref w ok a0 c0 a1 c1 a2 c2 a3 c3 S) (hs : Sound S B) (hB : B + 1200 ≤ 549755813888) (hw : WfLE x) :
    Calls Tryz.prog 47 #[sv a0 c0 a1 c1 a2 c2 a3 c3 S, .string n, .agg (leC x)] w (RefE2 w ok (pLogAppend S n x)) := by
  obtain ⟨w1, hw1⟩ : ∃ w1, w1 = ((w.alloc (.cells (svC a0 c0 a1 c1 a2 c2 a3 c3 S) tState)).alloc (.cells (leC x) tLE)).alloc (.cells zeroC tState) := ⟨_, rfl⟩
  obtain ⟨⟨k0, k1, k2⟩, kb⟩ := three_blks w (.cells (svC a0 c0 a1 c1 a2 c2 a3 c3 S) tState) (.cells (leC x) tLE) (.cells zeroC tState)
  rw [← hw1] at k0 k1 k2 kb
  have K0 := Lib.hid k0
  have K2 := Lib.hid k2
  have KB := Lib.hid kb
  have HR := Lib.hid ((h.mono (ok' := OkA3 w ok) (fun k h1 h2 => .inl ⟨h1, h2⟩)).below kb)
  have HS := Lib.hid hs
  have HW := Lib.hid hw
  have HW1 := Lib.hid (show w1 = ((w.alloc (.cells #[.slice a0 S.files.length c0, .slice a1 S.dir.length c1, .slice a2 S.dur.length c2, .slice a3 S.pend.length c3, .bool S.lim, .int .i64 S.left] tState)).alloc (.cells (leC x) tLE)).alloc (.cells #[.slice none 0 0, .slice none 0 0, .slice none 0 0, .slice none 0 0, .bool false, .int .i64 0] tState) from hw1)
  have HSZ := Lib.hid (show w1.heap.size = w.heap.size + 3 by rw [hw1]; simp)
  obtain ⟨p0, p1, p2, p3, p4, p5⟩ := six_le (x := x) k1
  obtain ⟨s0, s1, s2, s3, s4, s5⟩ := six_cells k0
  clear h hs hw hw1 k0 k1 k2 kb
  cases hvx : validB x
  · have HP := Lib.hid (show pLogAppend S n x = (S, 1) by unfold pLogAppend; rw [hvx]; rfl)
    have HEN := Lib.hid (enc_no hvx)
    clear hvx
    go_enter Tryz.func47, Tryz.ntmps47
    go_upto_region 1 with (fail)
    rw [← HW1.out]
    go_wp2_with (first | (go_at_call 106; refine (rEnc_calls _ x HW.out).mono ?_; rw [HEN.out]; rintro e w2 ⟨A1, d1, rfl, -, hb⟩; have B2 := Lib.hid (KB.out.trans (hb.mono KB.out.size)); have J0 := Lib.hid (blk_below K0.out hb); have J2 := Lib.hid (blk_below K2.out hb); have R2 := Lib.hid (HR.out.below hb); obtain ⟨s0, s1, s2, s3, s4, s5⟩ := six_cells J0.out; obtain ⟨y0, y1, y2, y3, y4, y5⟩ := six_cells J2.out; obtain ⟨x0, x1, x2, x3, x4, x5⟩ := six_frozen J2.out; clear hb) | fail)
    rw [HP.out]
    obtain ⟨q1, q2, q3⟩ := fin_any (ok := ok) (S := S) B2.out (by omega) J2.out R2.out (fun k hk => hk.ok)
    exact bodyPost_ret (results_ct rfl _ _ (w.heap.size + 1 + 1) tState _ (0, 0) _ rfl q1 Tryz.underlying31 rfl (by kernel_rfl)) rfl ⟨_, rfl, ⟨a0, c0, a1, c1, a2, c2, a3, c3, rfl, q3⟩, q2⟩
  · have HEN := Lib.hid (enc_yes hvx)
    have HRL := Lib.hid (recF_length hvx)
    obtain ⟨r, hr⟩ : ∃ r, r = pAppend S n (recF x) := ⟨_, rfl⟩
    obtain ⟨S1, cd⟩ := r
    have HP := Lib.hid (show pLogAppend S n x = if cd = 0 then pSync S1 n else (S1, cd) by unfold pLogAppend; rw [hvx, ← hr]; rfl)
    have HRR := Lib.hid hr
    have HS1 := Lib.hid (show Sound S1 (B + 1100) by have h1 := HS.out.append_any (n := n) HRL.out (recF_bytes x); rw [← hr] at h1; exact h1)
    clear hvx hr
    by_cases hcd : cd = 0
    · subst hcd
      obtain ⟨q, hq⟩ : ∃ q, q = pSync S1 n := ⟨_, rfl⟩
      obtain ⟨S2, cq⟩ := q
      have HQ := Lib.hid hq
      clear hq
      go_enter Tryz.func47, Tryz.ntmps47
      go_upto_region 1 with (fail)
      rw [← HW1.out]
      go_wp2_with (first
        | (go_at_call 106; refine (rEnc_calls _ x HW.out).mono ?_; rw [HEN.out]; rintro e w2 ⟨A1, d1, rfl, hrd, hb⟩; have X2 := Lib.hid (hrd.mono (ok' := OkA3 w ok) (fun k hk _ => .inr (by have := HSZ.out; omega))); have B2 := Lib.hid (KB.out.trans (hb.mono KB.out.size)); have J0 := Lib.hid (blk_below K0.out hb); have J2 := Lib.hid (blk_below K2.out hb); have R2 := Lib.hid (HR.out.below hb); obtain ⟨s0, s1, s2, s3, s4, s5⟩ := six_cells J0.out; clear hb hrd)
        | (go_at_call 32; refine (refAppend_calls _ (OkA3 w ok) a0 c0 a1 c1 a2 c2 a3 c3 S B n A1 d1 (recF x) R2.out HS.out.good (by omega) X2.out (Nat.le_trans HRL.out (by decide))).mono ?_; rw [← HRR.out]; rintro e w3 ⟨v, rfl, ⟨e0, f0, e1, f1, e2, f2, e3, f3, rfl, hr⟩, hb⟩; have hb' := Below.of_alloc' w3 (.cells #[.slice e0 S1.files.length f0, .slice e1 S1.dir.length f1, .slice e2 S1.dur.length f2, .slice e3 S1.pend.length f3, .bool S1.lim, .int .i64 S1.left] tState); have hb2 := hb.trans (hb'.mono hb.size); have B3 := Lib.hid (B2.out.trans (hb2.mono B2.out.size)); have J3 := Lib.hid (blk_below J2.out hb2); have R3 := Lib.hid ((hr.mono (ok' := OkA3 w ok) (fun k hk _ => by rcases hk with hk | hk; exact hk; exact .inr (by have := B2.out.size; have := lt_blk J2.out; omega))).below hb'); obtain ⟨t0, t1, t2, t3, t4, t5⟩ := six_cells (heap_alloc_new w3 (.cells #[.slice e0 S1.files.length f0, .slice e1 S1.dir.length f1, .slice e2 S1.dur.length f2, .slice e3 S1.pend.length f3, .bool S1.lim, .int .i64 S1.left] tState)); clear hb hb' hb2 hr)
        | (go_at_call 107; refine (refSync_calls _ (OkA3 w ok) e0 f0 e1 f1 e2 f2 e3 f3 S1 (B + 1100) n R3.out HS1.out.good (by omega)).mono ?_; rw [← HQ.out]; rintro e w4 ⟨v, rfl, ⟨g0, h0, g1, h1, g2, h2, g3, h3, rfl, hr⟩, hb⟩; have B4 := Lib.hid (B3.out.trans (hb.mono B3.out.size)); have J4 := Lib.hid (blk_below J3.out hb); have R4 := Lib.hid (hr.mono (ok' := OkA3 w ok) (fun k hk _ => by rcases hk with hk | hk; exact hk; exact .inr (by have := B3.out.size; have := lt_blk J3.out; omega))); obtain ⟨y0, y1, y2, y3, y4, y5⟩ := six_cells J4.out; obtain ⟨x0, x1, x2, x3, x4, x5⟩ := six_frozen J4.out; clear hb hr)
        | fail)
      first | rw [HP.out, if_pos rfl, ← HQ.out] | rw [HP.out, if_pos trivial, ← HQ.out]
      obtain ⟨q1, q2, q3⟩ := fin_any (ok := ok) (S := S2) B4.out (by omega) J4.out R4.out (fun k hk => hk.ok)
      exact bodyPost_ret (results_ct rfl _ _ (w.heap.size + 1 + 1) tState _ (0, 0) _ rfl q1 Tryz.underlying31 rfl (by kernel_rfl)) rfl ⟨_, rfl, ⟨g0, h0, g1, h1, g2, h2, g3, h3, rfl, q3⟩, q2⟩
    · have hne : (cd != 0) = true := by simpa using hcd
      go_enter Tryz.func47, Tryz.ntmps47
      go_upto_region 1 with (fail)
      rw [← HW1.out]
      go_wp2_with (first
        | (go_at_call 106; refine (rEnc_calls _ x HW.out).mono ?_; rw [HEN.out]; rintro e w2 ⟨A1, d1, rfl, hrd, hb⟩; have X2 := Lib.hid (hrd.mono (ok' := OkA3 w ok) (fun k hk _ => .inr (by have := HSZ.out; omega))); have B2 := Lib.hid (KB.out.trans (hb.mono KB.out.size)); have J0 := Lib.hid (blk_below K0.out hb); have J2 := Lib.hid (blk_below K2.out hb); have R2 := Lib.hid (HR.out.below hb); obtain ⟨s0, s1, s2, s3, s4, s5⟩ := six_cells J0.out; clear hb hrd)
        | (go_at_call 32; refine (refAppend_calls _ (OkA3 w ok) a0 c0 a1 c1 a2 c2 a3 c3 S B n A1 d1 (recF x) R2.out HS.out.good (by omega) X2.out (Nat.le_trans HRL.out (by decide))).mono ?_; rw [← HRR.out]; rintro e w3 ⟨v, rfl, ⟨e0, f0, e1, f1, e2, f2, e3, f3, rfl, hr⟩, hb⟩; have hb' := Below.of_alloc' w3 (.cells #[.slice e0 S1.files.length f0, .slice e1 S1.dir.length f1, .slice e2 S1.dur.length f2, .slice e3 S1.pend.length f3, .bool S1.lim, .int .i64 S1.left] tState); have hb2 := hb.trans (hb'.mono hb.size); have B3 := Lib.hid (B2.out.trans (hb2.mono B2.out.size)); have J3 := Lib.hid (blk_below J2.out hb2); have R3 := Lib.hid ((hr.mono (ok' := OkA3 w ok) (fun k hk _ => by rcases hk with hk | hk; exact hk; exact .inr (by have := B2.out.size; have := lt_blk J2.out; omega))).below hb'); obtain ⟨t0, t1, t2, t3, t4, t5⟩ := six_cells (heap_alloc_new w3 (.cells #[.slice e0 S1.files.length f0, .slice e1 S1.dir.length f1, .slice e2 S1.dur.length f2, .slice e3 S1.pend.length f3, .bool S1.lim, .int .i64 S1.left] tState)); obtain ⟨y0, y1, y2, y3, y4, y5⟩ := six_cells J3.out; obtain ⟨x0, x1, x2, x3, x4, x5⟩ := six_frozen J3.out; clear hb hb' hb2 hr)
        | fail)
      rw [HP.out, if_neg hcd]
      obtain ⟨q1, q2, q3⟩ := fin_any (ok := ok) (S := S1) B3.out (by omega) J3.out R3.out (fun k hk => hk.ok)
      exact bodyPost_ret (results_ct rfl _ _ (w.heap.size + 1 + 1) tState _ (0, 0) _ rfl q1 Tryz.underlying31 rfl (by kernel_rfl)) rfl ⟨_, rfl, ⟨e0, f0, e1, f1, e2, f2, e3, f3, rfl, q3⟩, q2⟩
end Go.Proofs.YtehhafnjbkbmjaaGreat.Disk

/- The reference's log: Rewrite. -/
namespace Go.Proofs.YtehhafnjbkbmjaaGreat.Disk
open Go Go.RowKit Go.Proofs.YtehhafnjbkbmjaaGreatW.PrintWords Go.Proofs.YtehhafnjbkbmjaaGreatW.PrintLast Go.Proofs.YtehhafnjbkbmjaaGreatW.PrintMore Go.Proofs.YtehhafnjbkbmjaaGreat.PCommitlogSequence
def RwRel (w1 : World) (xs : List LE) (i v : Value) (wx : World) : Prop :=
  ∃ j : Nat, j ≤ xs.length ∧ i = .int .i64 j ∧ (∀ x ∈ xs.take j, validB x = true) ∧ Kd.R kB 5 wx w1.heap.size (fun _ => True) v (recsF (xs.take j)) ∧ Below w1.heap.size w1 wx
set_option maxHeartbeats 8000000 in
set_option maxRecDepth 100000 in
theorem refRewrite_calls (w : World) (ok : Nat → Prop) (a0 : Option Addr) (c0 : Nat) (a1 : Option Addr) (c1 : Nat) (a2 : Option Addr) (c2 : Nat) (a3 : Option Addr) (c3 : Nat) (S : PS) (B m : Nat) (n : ByteArray) (A : Option Addr) (c : Nat) (xs : List LE) (h : Ref w ok a0 c0 a1 c1 a2 c2 a3 c3 S) (hs : Sound S B) (hm : 100 ≤ m) (hbm : 1100 * xs.length ≤ m) (hB : B + m * 6 ≤ 549755813888)
    (hC : Rd kLE w ok A c xs) (hwf : ∀ x ∈ xs, WfLE x) (hlx : xs.length ≤ 65536) (hn : n.size ≤ 1000000) :
    Calls Tryz.prog 49 #[sv a0 c0 a1 c1 a2 c2 a3 c3 S, .string n, .slice A xs.length c] w (RefE2 w ok (pRewrite S n xs)) := by
  have hlx' : decide ((65536 : Int) < (xs.length : Int)) = false := by simp; omega
  obtain ⟨w1, hw1⟩ : ∃ w1, w1 = (w.alloc (.cells (svC a0 c0 a1 c1 a2 c2 a3 c3 S) tState)).alloc (.cells zeroC tState) := ⟨_, rfl⟩
  have hk := two_blks w (.cells (svC a0 c0 a1 c1 a2 c2 a3 c3 S) tState) (.cells zeroC tState)
  rw [← hw1] at hk
  have R1 := Lib.hid (show RS w w1 ok a0 c0 a1 c1 a2 c2 a3 c3 S from ⟨hk.1.1, hk.1.2, hk.2, (h.mono (ok' := OkR w ok) (fun k h1 h2 => .inl ⟨h1, h2⟩)).below hk.2⟩)
  have X1 := Lib.hid ((hC.mono (ok' := OkR w ok) (fun k h1 h2 => .inl ⟨h1, h2⟩)).below hk.2)
  have HSZ := Lib.hid (show w1.heap.size = w.heap.size + 2 by rw [hw1]; simp)
  have HW1 := Lib.hid (show w1 = (w.alloc (.cells #[.slice a0 S.files.length c0, .slice a1 S.dir.length c1, .slice a2 S.dur.length c2, .slice a3 S.pend.length c3, .bool S.lim, .int .i64 S.left] tState)).alloc (.cells #[.slice none 0 0, .slice none 0 0, .slice none 0 0, .slice none 0 0, .bool false, .int .i64 0] tState) from hw1)
  have HS := Lib.hid hs
  have HWF := Lib.hid hwf
  clear h hs hC hwf hw1 hk
  go_enter Tryz.func49, Tryz.ntmps49
  go_upto_region 1 with (fail)
  rw [← HW1.out]
  go_wp2_with fail
  go_loopw [9, 8] (fun i v wx => RwRel w1 xs i v wx) (fun i _ _ => xs.length - (intOf i).toNat)
  case atStart => exact ⟨0, Nat.zero_le _, rfl, by simp, Kd.R_nil _ _ _ _ _, Below.refl _ _⟩
  case round =>
    obtain ⟨j, hj, rfl, hval, hr, hb⟩ := hrel
    have HV := Lib.hid hval
    have HR := Lib.hid hr
    have HB := Lib.hid hb
    have RJ := Lib.hid (R1.out.below hb)
    have XJ := Lib.hid (X1.out.below hb)
    clear hval hr hb
    by_cases hlt : j < xs.length
    · have hltI : (j : Int) < (xs.length : Int) := by omega
      have h0I : (0 : Int) ≤ (j : Int) := by omega
      obtain ⟨ad, hA, q0, q1, q2, q3, q4, q5⟩ := at_T46 XJ.out.now (j : Int) h0I hltI
      subst hA
      rw [Int.toNat_natCast] at q0 q1 q2 q3 q4 q5
      obtain ⟨x, hx⟩ : ∃ x, x = rd_T46 xs (j : Int) := ⟨_, rfl⟩
      rw [← hx] at q0 q1 q2 q3 q4 q5
      rw [rd_le hlt] at hx
      have HX := Lib.hid hx
      have HXW := Lib.hid (show WfLE x by rw [hx]; exact HWF.out _ (List.getElem_mem hlt))
      have HTK := Lib.hid (show xs.take (j + 1) = xs.take j ++ [x] by rw [hx, List.take_add_one, List.getElem?_eq_getElem hlt]; rfl)
      clear hx
      obtain ⟨Av, cv, rfl⟩ := Kd.R_slice HR.out
      cases hvx : validB x
      · have HP := Lib.hid (show pRewrite S n xs = (S, 1) by
          have e : xs.all validB = false := by
            rw [List.all_eq_false]
            exact ⟨x, by rw [HX.out]; exact List.getElem_mem hlt, by rw [hvx]; exact Bool.false_ne_true⟩
          unfold pRewrite
          rw [e]
          rfl)
        have HEN := Lib.hid (enc_no hvx)
        clear hvx
        go_wp2_with (first
          | (go_at_call 106; refine (rEnc_calls _ x HXW.out).mono ?_; rw [HEN.out]; rintro e w3 ⟨A1, d1, rfl, -, hb3⟩; have R3 := Lib.hid (RJ.out.below hb3); obtain ⟨s0, s1, s2, s3, s4, s5⟩ := six_cells R3.out.b0; obtain ⟨y0, y1, y2, y3, y4, y5⟩ := six_cells R3.out.b1; obtain ⟨x0, x1, x2, x3, x4, x5⟩ := six_frozen R3.out.b1; clear hb3)
          | fail)
        rw [HP.out]
        obtain ⟨z1, z2, z3⟩ := fin_ref (ok := ok) (S := S) R3.out.bl R3.out.b1 R3.out.rf
        exact bodyPost_ret (results_ct rfl _ _ (w.heap.size + 1) tState _ (0, 0) _ rfl z1 Tryz.underlying31 rfl (by kernel_rfl)) rfl ⟨_, rfl, ⟨a0, c0, a1, c1, a2, c2, a3, c3, rfl, z3⟩, z2⟩
      · have HEN := Lib.hid (enc_yes hvx)
        have HVX := Lib.hid hvx
        have HRL := Lib.hid (recF_length hvx)
        have HRS := Lib.hid (recsF_length HV.out)
        have hjl : (xs.take j).length = j := by simp; omega
        clear hvx
        go_wp2_with (first
          | (go_at_call 106; refine (rEnc_calls _ x HXW.out).mono ?_; rw [HEN.out]; rintro e w3 ⟨A1, d1, rfl, hrd, hb3⟩; have HRD := Lib.hid hrd; have HB3 := Lib.hid hb3; have HR3 := Lib.hid (Kd.R_below HR.out hb3); clear hrd hb3)
          | ((with_reducible refine gate_builtin (b := .append) (xs := #[.tmp 34, .tmp 35]) rfl ?_); (at_builtin; refine Kd.R_append_row (Value.int .u8) (0 : Int) (w0 := w1) w1.heap.size rfl (.tmp 34) (.tmp 35) 36 5 (.int .u8 0) 1 rfl Tryz.underlying36 infoB rfl (by decide) (.slice Av (recsF (xs.take j)).length cv) (recsF (xs.take j)) (recF x) A1 (recF x).length d1 (fun _ => True) rfl rfl (fun _ _ => trivial) HR3.out HRD.out.now (HB.out.trans (HB3.out.mono HB.out.size)) (Nat.le_trans HB.out.size HB3.out.size) (by have := HRL.out; have := HRS.out; omega) ?_; intro v1 w4 hr4 hb4 hg4 hat4; have HR4 := Lib.hid hr4; have HB4 := Lib.hid hb4; clear hr4 hb4 hg4 hat4))
          | fail)
        go_roundw
        case rel =>
          refine ⟨j + 1, by omega, by simp, fun y hy => ?_, ?_, HB4.out⟩
          · rw [HTK.out] at hy
            rcases List.mem_append.1 hy with hy | hy
            · exact HV.out y hy
            · simp at hy
              rw [hy]
              exact HVX.out
          · rw [HTK.out, recsF_snoc]
            exact HR4.out
        case measure => simp [intOf]; omega
    · obtain rfl : j = xs.length := by omega
      have hva := HV.out
      rw [List.take_length] at hva
      obtain ⟨l, hl⟩ : ∃ l, l = recsF xs := ⟨_, rfl⟩
      have hlen := recsF_length hva
      rw [← hl] at hlen
      have HWL := Lib.hid (show ∀ y ∈ l, 0 ≤ y ∧ y ≤ 255 by rw [hl]; exact recsF_bytes xs)
      have hlm : l.length ≤ m := Nat.le_trans hlen hbm
      have hr := HR.out
      rw [List.take_length, ← hl] at hr
      obtain ⟨Al, cl, rfl, hrd⟩ := Rd.ofR hr
      have XL := Lib.hid (hrd.mono (ok' := OkR w ok) (fun k hk _ => .inr (by have := HSZ.out; have := hk.1; omega)))
      obtain ⟨p, hp⟩ : ∃ p, p = pReplace S (tmpOf n) n l := ⟨_, rfl⟩
      obtain ⟨S2, cd⟩ := p
      have HQ := Lib.hid hp
      have HP := Lib.hid (show pRewrite S n xs = (S2, cd) by
        unfold pRewrite
        rw [if_pos (by rw [List.all_eq_true]; exact hva), ← hl]
        exact hp.symm)
      obtain ⟨s0, s1, s2, s3, s4, s5⟩ := six_cells RJ.out.b0
      clear hr hrd hp hva hl HR HV
      go_wp2_with (first
        | (go_at_call 78; refine (refReplace_calls _ (OkR w ok) a0 c0 a1 c1 a2 c2 a3 c3 S B m n Al cl l RJ.out.rf HS.out hm hB XL.out hlm HWL.out hn).mono ?_; rw [← HQ.out]; rintro e w5 ⟨v, rfl, ⟨e0, f0, e1, f1, e2, f2, e3, f3, rfl, hr⟩, hb⟩; have B5 := Lib.hid (RJ.out.bl.trans (hb.mono RJ.out.bl.size)); have J5 := Lib.hid (blk_below RJ.out.b1 hb); have R5 := Lib.hid (hr.mono (ok' := OkR w ok) (fun k hk _ => by rcases hk with hk | hk; exact hk; exact .inr (by have := lt_blk RJ.out.b1; omega))); obtain ⟨y0, y1, y2, y3, y4, y5⟩ := six_cells J5.out; obtain ⟨x0, x1, x2, x3, x4, x5⟩ := six_frozen J5.out; clear hr hb)
        | fail)
      rw [HP.out]
      obtain ⟨z1, z2, z3⟩ := fin_ref (ok := ok) (S := S2) B5.out J5.out R5.out
      exact bodyPost_ret (results_ct rfl _ _ (w.heap.size + 1) tState _ (0, 0) _ rfl z1 Tryz.underlying31 rfl (by kernel_rfl)) rfl ⟨_, rfl, ⟨e0, f0, e1, f1, e2, f2, e3, f3, rfl, z3⟩, z2⟩
end Go.Proofs.YtehhafnjbkbmjaaGreat.Disk

/- The reference's log: Open. -/
namespace Go.Proofs.YtehhafnjbkbmjaaGreat.Disk
open Go Go.RowKit Go.Proofs.YtehhafnjbkbmjaaGreatW.PrintWords Go.Proofs.YtehhafnjbkbmjaaGreatW.PrintLast Go.Proofs.YtehhafnjbkbmjaaGreatW.PrintMore Go.Proofs.YtehhafnjbkbmjaaGreat.PCommitlogSequence
/-- What the reference's Open gives: a state, in blocks of ok or new ones, the entries in new ones, the error. -/
def RefE3 (w : World) (ok : Nat → Prop) (p : PS × List LE × Int) (e : Ending) (w' : World) : Prop :=
  ∃ (v : Value) (A : Option Addr) (c : Nat), e = .returned (.tuple #[v, .slice A p.2.1.length c, .int .i64 p.2.2]) ∧ RefV w' (fun k => ok k ∨ w.heap.size ≤ k) v p.1 ∧ Rd kLE w' (fun k => w.heap.size ≤ k) A c p.2.1 ∧ Below w.heap.size w w'
theorem Rd.six {w w4 : World} {A : Option Addr} {c : Nat} {xs : List LE} {y0 y1 y2 y3 y4 y5 : Value} (h : Rd kLE w4 (fun k => w.heap.size + 2 ≤ k) A c xs) : Rd kLE ((((((w4.setCell ⟨w.heap.size + 1, 0, none⟩ y0).setCell ⟨w.heap.size + 1, 1, none⟩ y1).setCell ⟨w.heap.size + 1, 2, none⟩ y2).setCell ⟨w.heap.size + 1, 3, none⟩ y3).setCell ⟨w.heap.size + 1, 4, none⟩ y4).setCell ⟨w.heap.size + 1, 5, none⟩ y5) (fun k => w.heap.size ≤ k) A c xs :=
  (h.move (fun k hk _ => other_six (by omega) _ _ _ _ _ _)).mono (fun k hk _ => by omega)
set_option maxHeartbeats 8000000 in
set_option maxRecDepth 100000 in
theorem refOpen_calls (w : World) (ok : Nat → Prop) (a0 : Option Addr) (c0 : Nat) (a1 : Option Addr) (c1 : Nat) (a2 : Option Addr) (c2 : Nat) (a3 : Option Addr) (c3 : Nat) (S : PS) (B m : Nat) (n : ByteArray) (h : Ref w ok a0 c0 a1 c1 a2 c2 a3 c3 S) (hs : Sound S B) (hm : 100 ≤ m) (hB : B + m * 6 ≤ 549755813888) (hn : n.size ≤ 1000000) (hl : (pRead S n).1.length ≤ 65535) (hbm : 1100 * (scanF (pRead S n).1).1.length ≤ m) :
    Calls Tryz.prog 48 #[sv a0 c0 a1 c1 a2 c2 a3 c3 S, .string n] w (RefE3 w ok (pOpen S n)) := by
  obtain ⟨w1, hw1⟩ : ∃ w1, w1 = (w.alloc (.cells (svC a0 c0 a1 c1 a2 c2 a3 c3 S) tState)).alloc (.cells zeroC tState) := ⟨_, rfl⟩
  have hk := two_blks w (.cells (svC a0 c0 a1 c1 a2 c2 a3 c3 S) tState) (.cells zeroC tState)
  rw [← hw1] at hk
  have R1 := Lib.hid (show RS w w1 ok a0 c0 a1 c1 a2 c2 a3 c3 S from ⟨hk.1.1, hk.1.2, hk.2, (h.mono (ok' := OkR w ok) (fun k h1 h2 => .inl ⟨h1, h2⟩)).below hk.2⟩)
  have HSZ := Lib.hid (show w1.heap.size = w.heap.size + 2 by rw [hw1]; simp)
  have HW1 := Lib.hid (show w1 = (w.alloc (.cells #[.slice a0 S.files.length c0, .slice a1 S.dir.length c1, .slice a2 S.dur.length c2, .slice a3 S.pend.length c3, .bool S.lim, .int .i64 S.left] tState)).alloc (.cells #[.slice none 0 0, .slice none 0 0, .slice none 0 0, .slice none 0 0, .bool false, .int .i64 0] tState) from hw1)
  have HS := Lib.hid hs
  have HRW := Lib.hid (pRead_ok hs.good n).2
  obtain ⟨s0, s1, s2, s3, s4, s5⟩ := six_cells R1.out.b0
  clear h hs hw1 hk
  cases hh : pHas S n
  · have HH := Lib.hid hh
    obtain ⟨r, hr⟩ : ∃ r, r = pRewrite S n [] := ⟨_, rfl⟩
    obtain ⟨S2, cd⟩ := r
    have HQ := Lib.hid hr
    have HP := Lib.hid (show pOpen S n = (S2, [], cd) by unfold pOpen; rw [hh, ← hr]; rfl)
    clear hh hr
    go_enter Tryz.func48, Tryz.ntmps48
    go_upto_region 1 with (fail)
    rw [← HW1.out]
    go_wp2_with (first
      | (go_at_call 92; refine (refHas_calls _ (OkR w ok) a0 c0 a1 c1 a2 c2 a3 c3 S B n R1.out.rf HS.out.good (by omega)).mono ?_; rw [HH.out]; rintro e w2 ⟨rfl, hb⟩; have R2 := Lib.hid (R1.out.below hb); obtain ⟨s0, s1, s2, s3, s4, s5⟩ := six_cells R2.out.b0; clear hb R1)
      | (go_at_call 49; refine (refRewrite_calls _ (OkR w ok) a0 c0 a1 c1 a2 c2 a3 c3 S B m n none 0 [] R2.out.rf HS.out hm (by simp) hB (Rd.nil _ _ _) (by simp) (by simp) hn).mono ?_; rw [← HQ.out]; rintro e w3 ⟨v, rfl, ⟨e0, f0, e1, f1, e2, f2, e3, f3, rfl, hr⟩, hb⟩; have hb' := Below.of_alloc' w3 (.cells #[.slice e0 S2.files.length f0, .slice e1 S2.dir.length f1, .slice e2 S2.dur.length f2, .slice e3 S2.pend.length f3, .bool S2.lim, .int .i64 S2.left] tState); have hb2 := hb.trans (hb'.mono hb.size); have B3 := Lib.hid (R2.out.bl.trans (hb2.mono R2.out.bl.size)); have J3 := Lib.hid (blk_below R2.out.b1 hb2); have R3 := Lib.hid ((hr.mono (ok' := OkR w ok) (fun k hk _ => by rcases hk with hk | hk; exact hk; exact .inr (by have := lt_blk R2.out.b1; omega))).below hb'); obtain ⟨t0, t1, t2, t3, t4, t5⟩ := six_cells (heap_alloc_new w3 (.cells #[.slice e0 S2.files.length f0, .slice e1 S2.dir.length f1, .slice e2 S2.dur.length f2, .slice e3 S2.pend.length f3, .bool S2.lim, .int .i64 S2.left] tState)); obtain ⟨y0, y1, y2, y3, y4, y5⟩ := six_cells J3.out; obtain ⟨x0, x1, x2, x3, x4, x5⟩ := six_frozen J3.out; clear hb hb' hb2 hr)
      | fail)
    rw [HP.out]
    obtain ⟨z1, z2, z3⟩ := fin_ref (ok := ok) (S := S2) B3.out J3.out R3.out
    exact bodyPost_ret (results_ctt rfl _ _ (w.heap.size + 1) tState _ (0, 0) _ rfl z1 Tryz.underlying31 rfl (by kernel_rfl)) rfl ⟨_, none, 0, rfl, ⟨e0, f0, e1, f1, e2, f2, e3, f3, rfl, z3⟩, Rd.nil _ _ _, z2⟩
  · have HH := Lib.hid hh
    obtain ⟨q, hq⟩ : ∃ q, q = pRead S n := ⟨_, rfl⟩
    obtain ⟨bl, rc⟩ := q
    have HQ := Lib.hid hq
    rw [← hq] at hl hbm HRW
    replace hl : bl.length ≤ 65535 := hl
    replace hbm : 1100 * (scanF bl).1.length ≤ m := hbm
    by_cases hc : rc = 0
    · subst hc
      have HSO := Lib.hid (scanF_ok bl)
      obtain ⟨sc, hsc⟩ : ∃ sc, sc = scanF bl := ⟨_, rfl⟩
      obtain ⟨out, at'⟩ := sc
      have HSC := Lib.hid hsc
      rw [← hsc] at hbm HSO
      replace hbm : 1100 * out.length ≤ m := hbm
      have hno : (out.length : Int) ≤ 65535 := by have h1 : (out.length : Int) ≤ at' ∧ at' ≤ bl.length := HSO.out.2; omega
      by_cases ha : at' = bl.length
      · have HP := Lib.hid (show pOpen S n = (S, out, 0) by unfold pOpen; rw [hh, ← hq]; simp only [← hsc]; simp [ha])
        clear hh hq hsc
        subst ha
        go_enter Tryz.func48, Tryz.ntmps48
        go_upto_region 1 with (fail)
        rw [← HW1.out]
        go_wp2_with (first
          | (go_at_call 92; refine (refHas_calls _ (OkR w ok) a0 c0 a1 c1 a2 c2 a3 c3 S B n R1.out.rf HS.out.good (by omega)).mono ?_; rw [HH.out]; rintro e w2 ⟨rfl, hb⟩; have R2 := Lib.hid (R1.out.below hb); obtain ⟨s0, s1, s2, s3, s4, s5⟩ := six_cells R2.out.b0; clear hb R1)
          | (go_at_call 15; refine (refRead_calls _ (OkR w ok) a0 c0 a1 c1 a2 c2 a3 c3 S B n R2.out.rf HS.out.good (by omega)).mono ?_; rw [← HQ.out]; rintro e w3 ⟨A3, d3, rfl, hr, hb⟩; have V3 := Lib.hid hr; have R3 := Lib.hid (R2.out.below hb); obtain ⟨s0, s1, s2, s3, s4, s5⟩ := six_cells R3.out.b0; clear hb hr R2)
          | (go_at_call 108; refine (rScan_calls _ A3 d3 bl V3.out.now V3.out.le hl HRW.out).mono ?_; rw [← HSC.out]; rintro e w4 ⟨A4, d4, rfl, hr, hb⟩; have V4 := Lib.hid (hr.mono (ok' := fun k => w.heap.size + 2 ≤ k) (fun k hk _ => by have := lt_blk R3.out.b1; omega)); have R4 := Lib.hid (R3.out.below hb); obtain ⟨s0, s1, s2, s3, s4, s5⟩ := six_cells R4.out.b0; obtain ⟨y0, y1, y2, y3, y4, y5⟩ := six_cells R4.out.b1; obtain ⟨x0, x1, x2, x3, x4, x5⟩ := six_frozen R4.out.b1; clear hb hr R3 V3)
          | fail)
        rw [HP.out]
        obtain ⟨z1, z2, z3⟩ := fin_ref (ok := ok) (S := S) R4.out.bl R4.out.b1 R4.out.rf
        exact bodyPost_ret (results_ctt rfl _ _ (w.heap.size + 1) tState _ (0, 0) _ rfl z1 Tryz.underlying31 rfl (by kernel_rfl)) rfl ⟨_, A4, d4, rfl, ⟨a0, c0, a1, c1, a2, c2, a3, c3, rfl, z3⟩, V4.out.six, z2⟩
      · obtain ⟨r, hr⟩ : ∃ r, r = pRewrite S n out := ⟨_, rfl⟩
        obtain ⟨S2, cd⟩ := r
        have HRR := Lib.hid hr
        have HP := Lib.hid (show pOpen S n = if cd = 0 then (S2, out, 0) else (S2, [], cd) by unfold pOpen; rw [hh, ← hq]; simp only [← hsc]; simp [ha, ← hr])
        have hat : decide (at' = (bl.length : Int)) = false := by simpa using ha
        have hcn : decide ((out.length : Int) = 65536) = false := by simp; omega
        clear hh hq hsc hr
        by_cases hcd : cd = 0
        · subst hcd
          go_enter Tryz.func48, Tryz.ntmps48
          go_upto_region 1 with (fail)
          rw [← HW1.out]
          go_wp2_with (first
            | (go_at_call 92; refine (refHas_calls _ (OkR w ok) a0 c0 a1 c1 a2 c2 a3 c3 S B n R1.out.rf HS.out.good (by omega)).mono ?_; rw [HH.out]; rintro e w2 ⟨rfl, hb⟩; have R2 := Lib.hid (R1.out.below hb); obtain ⟨s0, s1, s2, s3, s4, s5⟩ := six_cells R2.out.b0; clear hb R1)
            | (go_at_call 15; refine (refRead_calls _ (OkR w ok) a0 c0 a1 c1 a2 c2 a3 c3 S B n R2.out.rf HS.out.good (by omega)).mono ?_; rw [← HQ.out]; rintro e w3 ⟨A3, d3, rfl, hr, hb⟩; have V3 := Lib.hid hr; have R3 := Lib.hid (R2.out.below hb); obtain ⟨s0, s1, s2, s3, s4, s5⟩ := six_cells R3.out.b0; clear hb hr R2)
            | (go_at_call 108; refine (rScan_calls _ A3 d3 bl V3.out.now V3.out.le hl HRW.out).mono ?_; rw [← HSC.out]; rintro e w4 ⟨A4, d4, rfl, hr, hb⟩; have V4 := Lib.hid (hr.mono (ok' := fun k => w.heap.size + 2 ≤ k) (fun k hk _ => by have := lt_blk R3.out.b1; omega)); have R4 := Lib.hid (R3.out.below hb); obtain ⟨s0, s1, s2, s3, s4, s5⟩ := six_cells R4.out.b0; clear hb hr R3 V3)
            | (go_at_call 49; refine (refRewrite_calls _ (OkR w ok) a0 c0 a1 c1 a2 c2 a3 c3 S B m n A4 d4 out R4.out.rf HS.out hm hbm hB (V4.out.mono (ok' := OkR w ok) (fun k hk _ => .inr hk)) (fun x hx => (HSO.out.1 x hx).2) (by omega) hn).mono ?_; rw [← HRR.out]; rintro e w5 ⟨v, rfl, ⟨e0, f0, e1, f1, e2, f2, e3, f3, rfl, hr⟩, hb⟩; have hb' := Below.of_alloc' w5 (.cells #[.slice e0 S2.files.length f0, .slice e1 S2.dir.length f1, .slice e2 S2.dur.length f2, .slice e3 S2.pend.length f3, .bool S2.lim, .int .i64 S2.left] tState); have hb2 := hb.trans (hb'.mono hb.size); have B5 := Lib.hid (R4.out.bl.trans (hb2.mono R4.out.bl.size)); have J5 := Lib.hid (blk_below R4.out.b1 hb2); have V5 := Lib.hid (V4.out.below hb2); have R5 := Lib.hid ((hr.mono (ok' := OkR w ok) (fun k hk _ => by rcases hk with hk | hk; exact hk; exact .inr (by have := lt_blk R4.out.b1; omega))).below hb'); obtain ⟨t0, t1, t2, t3, t4, t5⟩ := six_cells (heap_alloc_new w5 (.cells #[.slice e0 S2.files.length f0, .slice e1 S2.dir.length f1, .slice e2 S2.dur.length f2, .slice e3 S2.pend.length f3, .bool S2.lim, .int .i64 S2.left] tState)); obtain ⟨y0, y1, y2, y3, y4, y5⟩ := six_cells J5.out; obtain ⟨x0, x1, x2, x3, x4, x5⟩ := six_frozen J5.out; clear hb hb' hb2 hr V4)
            | fail)
          first | rw [HP.out, if_pos rfl] | rw [HP.out, if_pos trivial]
          obtain ⟨z1, z2, z3⟩ := fin_ref (ok := ok) (S := S2) B5.out J5.out R5.out
          exact bodyPost_ret (results_ctt rfl _ _ (w.heap.size + 1) tState _ (0, 0) _ rfl z1 Tryz.underlying31 rfl (by kernel_rfl)) rfl ⟨_, A4, d4, rfl, ⟨e0, f0, e1, f1, e2, f2, e3, f3, rfl, z3⟩, V5.out.six, z2⟩
        · have hne : (cd != 0) = true := by simpa using hcd
          go_enter Tryz.func48, Tryz.ntmps48
          go_upto_region 1 with (fail)
          rw [← HW1.out]
          go_wp2_with (first
            | (go_at_call 92; refine (refHas_calls _ (OkR w ok) a0 c0 a1 c1 a2 c2 a3 c3 S B n R1.out.rf HS.out.good (by omega)).mono ?_; rw [HH.out]; rintro e w2 ⟨rfl, hb⟩; have R2 := Lib.hid (R1.out.below hb); obtain ⟨s0, s1, s2, s3, s4, s5⟩ := six_cells R2.out.b0; clear hb R1)
            | (go_at_call 15; refine (refRead_calls _ (OkR w ok) a0 c0 a1 c1 a2 c2 a3 c3 S B n R2.out.rf HS.out.good (by omega)).mono ?_; rw [← HQ.out]; rintro e w3 ⟨A3, d3, rfl, hr, hb⟩; have V3 := Lib.hid hr; have R3 := Lib.hid (R2.out.below hb); obtain ⟨s0, s1, s2, s3, s4, s5⟩ := six_cells R3.out.b0; clear hb hr R2)
            | (go_at_call 108; refine (rScan_calls _ A3 d3 bl V3.out.now V3.out.le hl HRW.out).mono ?_; rw [← HSC.out]; rintro e w4 ⟨A4, d4, rfl, hr, hb⟩; have V4 := Lib.hid (hr.mono (ok' := fun k => w.heap.size + 2 ≤ k) (fun k hk _ => by have := lt_blk R3.out.b1; omega)); have R4 := Lib.hid (R3.out.below hb); obtain ⟨s0, s1, s2, s3, s4, s5⟩ := six_cells R4.out.b0; clear hb hr R3 V3)
            | (go_at_call 49; refine (refRewrite_calls _ (OkR w ok) a0 c0 a1 c1 a2 c2 a3 c3 S B m n A4 d4 out R4.out.rf HS.out hm hbm hB (V4.out.mono (ok' := OkR w ok) (fun k hk _ => .inr hk)) (fun x hx => (HSO.out.1 x hx).2) (by omega) hn).mono ?_; rw [← HRR.out]; rintro e w5 ⟨v, rfl, ⟨e0, f0, e1, f1, e2, f2, e3, f3, rfl, hr⟩, hb⟩; have hb' := Below.of_alloc' w5 (.cells #[.slice e0 S2.files.length f0, .slice e1 S2.dir.length f1, .slice e2 S2.dur.length f2, .slice e3 S2.pend.length f3, .bool S2.lim, .int .i64 S2.left] tState); have hb2 := hb.trans (hb'.mono hb.size); have B5 := Lib.hid (R4.out.bl.trans (hb2.mono R4.out.bl.size)); have J5 := Lib.hid (blk_below R4.out.b1 hb2); have V5 := Lib.hid (V4.out.below hb2); have R5 := Lib.hid ((hr.mono (ok' := OkR w ok) (fun k hk _ => by rcases hk with hk | hk; exact hk; exact .inr (by have := lt_blk R4.out.b1; omega))).below hb'); obtain ⟨t0, t1, t2, t3, t4, t5⟩ := six_cells (heap_alloc_new w5 (.cells #[.slice e0 S2.files.length f0, .slice e1 S2.dir.length f1, .slice e2 S2.dur.length f2, .slice e3 S2.pend.length f3, .bool S2.lim, .int .i64 S2.left] tState)); obtain ⟨y0, y1, y2, y3, y4, y5⟩ := six_cells J5.out; obtain ⟨x0, x1, x2, x3, x4, x5⟩ := six_frozen J5.out; clear hb hb' hb2 hr V4)
            | fail)
          rw [HP.out, if_neg hcd]
          obtain ⟨z1, z2, z3⟩ := fin_ref (ok := ok) (S := S2) B5.out J5.out R5.out
          exact bodyPost_ret (results_ctt rfl _ _ (w.heap.size + 1) tState _ (0, 0) _ rfl z1 Tryz.underlying31 rfl (by kernel_rfl)) rfl ⟨_, none, 0, rfl, ⟨e0, f0, e1, f1, e2, f2, e3, f3, rfl, z3⟩, Rd.nil _ _ _, z2⟩
    · have HP := Lib.hid (show pOpen S n = (S, [], rc) by unfold pOpen; rw [hh, ← hq]; simp [hc])
      have hne : (rc != 0) = true := by simpa using hc
      clear hh hq
      go_enter Tryz.func48, Tryz.ntmps48
      go_upto_region 1 with (fail)
      rw [← HW1.out]
      go_wp2_with (first
        | (go_at_call 92; refine (refHas_calls _ (OkR w ok) a0 c0 a1 c1 a2 c2 a3 c3 S B n R1.out.rf HS.out.good (by omega)).mono ?_; rw [HH.out]; rintro e w2 ⟨rfl, hb⟩; have R2 := Lib.hid (R1.out.below hb); obtain ⟨s0, s1, s2, s3, s4, s5⟩ := six_cells R2.out.b0; clear hb R1)
        | (go_at_call 15; refine (refRead_calls _ (OkR w ok) a0 c0 a1 c1 a2 c2 a3 c3 S B n R2.out.rf HS.out.good (by omega)).mono ?_; rw [← HQ.out]; rintro e w3 ⟨A3, d3, rfl, hr, hb⟩; have V3 := Lib.hid hr; have R3 := Lib.hid (R2.out.below hb); obtain ⟨s0, s1, s2, s3, s4, s5⟩ := six_cells R3.out.b0; obtain ⟨y0, y1, y2, y3, y4, y5⟩ := six_cells R3.out.b1; obtain ⟨x0, x1, x2, x3, x4, x5⟩ := six_frozen R3.out.b1; clear hb hr R2)
        | fail)
      rw [HP.out]
      obtain ⟨z1, z2, z3⟩ := fin_ref (ok := ok) (S := S) R3.out.bl R3.out.b1 R3.out.rf
      exact bodyPost_ret (results_ctt rfl _ _ (w.heap.size + 1) tState _ (0, 0) _ rfl z1 Tryz.underlying31 rfl (by kernel_rfl)) rfl ⟨_, none, 0, rfl, ⟨a0, c0, a1, c1, a2, c2, a3, c3, rfl, z3⟩, Rd.nil _ _ _, z2⟩
end Go.Proofs.YtehhafnjbkbmjaaGreat.Disk

/- The commit log: a disk and a state of the reference, side by side; the end of a step. -/
namespace Go.Proofs.YtehhafnjbkbmjaaGreat.Disk
open Go Go.RowKit Go.Proofs.YtehhafnjbkbmjaaGreatW.PrintWords Go.Proofs.YtehhafnjbkbmjaaGreatW.PrintLast Go.Proofs.YtehhafnjbkbmjaaGreatW.PrintMore Go.Proofs.YtehhafnjbkbmjaaGreat.PCommitlogSequence
/-- A disk that stands as S and a state of the reference that is S2; the disk lies in F, the state's rows in ok. -/
structure Pair2 (w : World) (F ok : Nat → Prop) (d : Nat) (v : Value) (S S2 : PS) : Prop where
  rep : ∃ L, Rep w F d L S (Live S)
  ref : RefV w ok v S2
  lt : ∀ k, F k → k < w.heap.size
  apart : ∀ k, ok k → ¬ F k
abbrev Pair (w : World) (F ok : Nat → Prop) (d : Nat) (v : Value) (S : PS) : Prop := Pair2 w F ok d v S S
def okN (ok : Nat → Prop) (w : World) (F' : Nat → Prop) (k : Nat) : Prop := (ok k ∧ k < w.heap.size) ∨ (w.heap.size ≤ k ∧ ¬ F' k)
/-- What a step leaves. -/
def Stepped (w : World) (F ok : Nat → Prop) (d : Nat) (S : PS) (e : Ending) (w' : World) : Prop := ∃ v F', e = .returned (.tuple #[v, .bool true]) ∧ Pair w' F' (okN ok w F') d v S ∧ Chg w F w' F'
theorem chg_blk {w3 w4 : World} {F F' : Nat → Prop} {b : Nat} {o : Obj} (h : Chg w3 F w4 F') (hb : w3.heap[b]? = some o) (hF : ¬ F b) : w4.heap[b]? = some o := (h.fr.block b (lt_blk hb) hF).trans hb
theorem not_new {F : Nat → Prop} {n k : Nat} (h : ∀ k, F k → k < n) (hk : n ≤ k) : ¬ F k := fun e => by have := h k e; omega
theorem Ref.chg {w w' : World} {F F' ok : Nat → Prop} {a0 c0 a1 c1 a2 c2 a3 c3} {S : PS} (h : Ref w ok a0 c0 a1 c1 a2 c2 a3 c3 S) (hc : Chg w F w' F') (ha : ∀ k, ok k → ¬ F k) : Ref w' ok a0 c0 a1 c1 a2 c2 a3 c3 S := h.move (fun k hk hlt => hc.fr.block k hlt (ha k hk))
theorem set_six_other {w : World} {b n : Nat} {o : Obj} (h : w.heap[b]? = some o) (hb : b ≠ n) (y0 y1 y2 y3 y4 y5 : Value) :
    ((((((w.setCell ⟨n, 0, none⟩ y0).setCell ⟨n, 1, none⟩ y1).setCell ⟨n, 2, none⟩ y2).setCell ⟨n, 3, none⟩ y3).setCell ⟨n, 4, none⟩ y4).setCell ⟨n, 5, none⟩ y5).heap[b]? = some o := (other_six hb y0 y1 y2 y3 y4 y5).trans h
theorem step_core {w w3 w4 w5 w6 w7 : World} {F F' ok : Nat → Prop} {d : Nat} {L' : Lay} {S S2 : PS} {b0 : Option Addr} {d0 : Nat} {b1 : Option Addr} {d1 : Nat} {b2 : Option Addr} {d2 : Nat} {b3 : Option Addr} {d3 : Nat} {x0 x1 x2 x3 x4 x5 z0 z1 z2 z3 z4 z5 : Value}
    (hlt : ∀ k, F k → k < w.heap.size) (hap : ∀ k, ok k → ¬ F k) (hw : Below w.heap.size w w3) (hw3 : w.heap.size + 3 = w3.heap.size) (hc : Chg w3 F w4 F') (hr : Rep w4 F' d L' S (Live S)) (hb : Below w4.heap.size w4 w5)
    (hf : Ref w5 (fun k => (ok k ∧ k < w.heap.size) ∨ w4.heap.size ≤ k) b0 d0 b1 d1 b2 d2 b3 d3 S2)
    (far6 : ∀ k, k ≠ w.heap.size → w6.heap[k]? = w5.heap[k]?) (hs6 : w6.heap.size = w5.heap.size) (hb6 : Below w.heap.size w5 w6)
    (h7 : w7 = ((((((w6.setCell ⟨w.heap.size + 1 + 1, 0, none⟩ x0).setCell ⟨w.heap.size + 1 + 1, 1, none⟩ x1).setCell ⟨w.heap.size + 1 + 1, 2, none⟩ x2).setCell ⟨w.heap.size + 1 + 1, 3, none⟩ x3).setCell ⟨w.heap.size + 1 + 1, 4, none⟩ x4).setCell ⟨w.heap.size + 1 + 1, 5, none⟩ x5))
    (hz : w5.heap[w.heap.size + 1 + 1]? = some (.cells #[z0, z1, z2, z3, z4, z5] tState (0, 0))) :
    w7.heap[w.heap.size + 1 + 1]? = some (.cells #[x0, x1, x2, x3, x4, x5] tState (0, 0)) ∧ Pair2 w7 F' (okN ok w F') d (sv b0 d0 b1 d1 b2 d2 b3 d3 S2) S S2 ∧ Chg w F w7 F' := by
  have far : ∀ k, k ≠ w.heap.size → k ≠ w.heap.size + 1 + 1 → w7.heap[k]? = w5.heap[k]? := fun k k1 k2 => by
    rw [h7, other_six k2, far6 k k1]
  have hs4 : w3.heap.size ≤ w4.heap.size := hc.fr.size
  have hs5 := hb.size
  have hs7 : w7.heap.size = w5.heap.size := by rw [h7, ← hs6]; simp [World.setCell]
  have hb7 : Below w.heap.size w5 w7 := by rw [h7]; exact below_six hb6 (by omega) _ _ _ _ _ _
  have inF : ∀ k, F' k → k ≠ w.heap.size ∧ k ≠ w.heap.size + 1 + 1 := fun k hk => by
    rcases hc.new k hk with h | h
    · have := hlt k h; omega
    · omega
  have hz7 : w7.heap[w.heap.size + 1 + 1]? = some (.cells #[x0, x1, x2, x3, x4, x5] tState (0, 0)) := by
    rw [h7]
    exact set_six _ _ _ _ _ _ ((far6 _ (by omega)).trans hz)
  clear h7 hb6
  refine ⟨?_, ⟨⟨L', ?_⟩, ⟨b0, d0, b1, d1, b2, d2, b3, d3, rfl, ?_⟩, fun k hk => ?_, fun k hk hk' => ?_⟩, ?_, fun k hk => ?_, fun k hk => ?_⟩
  · exact hz7
  · exact (hr.below hb).move (fun k hk _ => far k (inF k hk).1 (inF k hk).2)
  · refine (hf.move (fun k hk _ => ?_)).mono (fun k hk _ => ?_)
    · have : k ≠ w.heap.size ∧ k ≠ w.heap.size + 1 + 1 := by rcases hk with hk | hk; have := hk.2; omega; omega
      exact far k this.1 this.2
    · rcases hk with hk | hk
      · exact .inl hk
      · exact .inr ⟨by omega, fun e => by have := hc.lt k e; omega⟩
  · have := hc.lt k hk; omega
  · rcases hk with hk | hk
    · rcases hc.new k hk' with h | h
      · exact hap k hk.1 h
      · have := hk.2; omega
    · exact hk.2 hk'
  · exact
      { os := hb7.os.trans (hb.os.trans (hc.fr.os.trans hw.os))
        tape := hb7.tape.trans (hb.tape.trans (hc.fr.tape.trans hw.tape))
        output := hb7.output.trans (hb.output.trans (hc.fr.output.trans hw.output))
        size := by have := hw.size; omega
        block := fun k hk hF => by
          have h3 := hw.size
          rw [far k (by omega) (by omega), hb.block k (by omega), hc.fr.block k (by omega) hF, hw.block k hk] }
  · rcases hc.new k hk with h | h
    · exact .inl h
    · exact .inr (by omega)
  · have := hc.lt k hk; omega
/-- The end of a step: the reference has gone first, then the disk. -/
theorem fin24 {w w3 w4 w5 : World} {F F' ok : Nat → Prop} {d : Nat} {L' : Lay} {S S2 : PS} {b0 : Option Addr} {d0 : Nat} {b1 : Option Addr} {d1 : Nat} {b2 : Option Addr} {d2 : Nat} {b3 : Option Addr} {d3 : Nat} {z0 z1 z2 z3 z4 z5 : Value}
    (hlt : ∀ k, F k → k < w.heap.size) (hap : ∀ k, ok k → ¬ F k) (hw : Below w.heap.size w w3) (hw3 : w.heap.size + 3 = w3.heap.size) (hb : Below w3.heap.size w3 w4)
    (hf : Ref w4 (fun k => (ok k ∧ k < w.heap.size) ∨ w3.heap.size ≤ k) b0 d0 b1 d1 b2 d2 b3 d3 S2) (hc : Chg w4 F w5 F') (hr : Rep w5 F' d L' S (Live S))
    (hz : w5.heap[w.heap.size + 1 + 1]? = some (.cells #[z0, z1, z2, z3, z4, z5] tState (0, 0))) :
    ((((((w5.setCell ⟨w.heap.size + 1 + 1, 0, none⟩ (.slice b0 S2.files.length d0)).setCell ⟨w.heap.size + 1 + 1, 1, none⟩ (.slice b1 S2.dir.length d1)).setCell ⟨w.heap.size + 1 + 1, 2, none⟩ (.slice b2 S2.dur.length d2)).setCell ⟨w.heap.size + 1 + 1, 3, none⟩ (.slice b3 S2.pend.length d3)).setCell ⟨w.heap.size + 1 + 1, 4, none⟩ (.bool S2.lim)).setCell ⟨w.heap.size + 1 + 1, 5, none⟩ (.int .i64 S2.left)).heap[w.heap.size + 1 + 1]? = some (.cells (svC b0 d0 b1 d1 b2 d2 b3 d3 S2) tState (0, 0)) ∧
    Pair2 ((((((w5.setCell ⟨w.heap.size + 1 + 1, 0, none⟩ (.slice b0 S2.files.length d0)).setCell ⟨w.heap.size + 1 + 1, 1, none⟩ (.slice b1 S2.dir.length d1)).setCell ⟨w.heap.size + 1 + 1, 2, none⟩ (.slice b2 S2.dur.length d2)).setCell ⟨w.heap.size + 1 + 1, 3, none⟩ (.slice b3 S2.pend.length d3)).setCell ⟨w.heap.size + 1 + 1, 4, none⟩ (.bool S2.lim)).setCell ⟨w.heap.size + 1 + 1, 5, none⟩ (.int .i64 S2.left)) F' (okN ok w F') d (sv b0 d0 b1 d1 b2 d2 b3 d3 S2) S S2 ∧
    Chg w F ((((((w5.setCell ⟨w.heap.size + 1 + 1, 0, none⟩ (.slice b0 S2.files.length d0)).setCell ⟨w.heap.size + 1 + 1, 1, none⟩ (.slice b1 S2.dir.length d1)).setCell ⟨w.heap.size + 1 + 1, 2, none⟩ (.slice b2 S2.dur.length d2)).setCell ⟨w.heap.size + 1 + 1, 3, none⟩ (.slice b3 S2.pend.length d3)).setCell ⟨w.heap.size + 1 + 1, 4, none⟩ (.bool S2.lim)).setCell ⟨w.heap.size + 1 + 1, 5, none⟩ (.int .i64 S2.left)) F' := by
  obtain ⟨w7, h7⟩ : ∃ w7, w7 = ((((((w5.setCell ⟨w.heap.size + 1 + 1, 0, none⟩ (.slice b0 S2.files.length d0)).setCell ⟨w.heap.size + 1 + 1, 1, none⟩ (.slice b1 S2.dir.length d1)).setCell ⟨w.heap.size + 1 + 1, 2, none⟩ (.slice b2 S2.dur.length d2)).setCell ⟨w.heap.size + 1 + 1, 3, none⟩ (.slice b3 S2.pend.length d3)).setCell ⟨w.heap.size + 1 + 1, 4, none⟩ (.bool S2.lim)).setCell ⟨w.heap.size + 1 + 1, 5, none⟩ (.int .i64 S2.left)) := ⟨_, rfl⟩
  rw [← h7]
  have far : ∀ k, k ≠ w.heap.size + 1 + 1 → w7.heap[k]? = w5.heap[k]? := fun k k2 => by rw [h7, other_six k2]
  have hs4 := hb.size
  have hs5 : w4.heap.size ≤ w5.heap.size := hc.fr.size
  have hs7 : w7.heap.size = w5.heap.size := by rw [h7]; simp [World.setCell]
  have hb7 : Below w.heap.size w5 w7 := by rw [h7]; exact below_six (Below.refl _ _) (by omega) _ _ _ _ _ _
  have hz7 : w7.heap[w.heap.size + 1 + 1]? = some (.cells (svC b0 d0 b1 d1 b2 d2 b3 d3 S2) tState (0, 0)) := by rw [h7]; exact set_six _ _ _ _ _ _ hz
  have inF : ∀ k, F' k → k ≠ w.heap.size + 1 + 1 := fun k hk => by
    rcases hc.new k hk with h | h
    · have := hlt k h; omega
    · omega
  clear h7
  refine ⟨hz7, ⟨⟨L', hr.move (fun k hk _ => far k (inF k hk))⟩, ⟨b0, d0, b1, d1, b2, d2, b3, d3, rfl, ?_⟩, fun k hk => ?_, fun k hk hk' => ?_⟩, ?_, fun k hk => ?_, fun k hk => ?_⟩
  · have h1 : Ref w5 (fun k => (ok k ∧ k < w.heap.size) ∨ (w3.heap.size ≤ k ∧ k < w4.heap.size)) b0 d0 b1 d1 b2 d2 b3 d3 S2 := (hf.mono (ok' := fun k => (ok k ∧ k < w.heap.size) ∨ (w3.heap.size ≤ k ∧ k < w4.heap.size)) (fun k hk hlt4 => by
        rcases hk with hk | hk
        · exact .inl hk
        · exact .inr ⟨hk, hlt4⟩)).chg hc (fun k hk hF => by
      rcases hk with hk | hk
      · exact hap k hk.1 hF
      · have := hlt k hF; omega)
    refine (h1.move (fun k hk _ => far k ?_)).mono (fun k hk _ => ?_)
    · rcases hk with hk | hk
      · have := hk.2; omega
      · omega
    · rcases hk with hk | hk
      · exact .inl hk
      · refine .inr ⟨by omega, fun e => ?_⟩
        rcases hc.new k e with h | h
        · have := hlt k h; omega
        · omega
  · have := hc.lt k hk; omega
  · rcases hk with hk | hk
    · rcases hc.new k hk' with h | h
      · exact hap k hk.1 h
      · have := hk.2; omega
    · exact hk.2 hk'
  · exact
      { os := hb7.os.trans (hc.fr.os.trans (hb.os.trans hw.os))
        tape := hb7.tape.trans (hc.fr.tape.trans (hb.tape.trans hw.tape))
        output := hb7.output.trans (hc.fr.output.trans (hb.output.trans hw.output))
        size := by have := hw.size; omega
        block := fun k hk hF => by
          have h3 := hw.size
          rw [far k (by omega), hc.fr.block k (by omega) hF, hb.block k (by omega), hw.block k hk] }
  · rcases hc.new k hk with h | h
    · exact .inl h
    · exact .inr (by omega)
  · have := hc.lt k hk; omega
end Go.Proofs.YtehhafnjbkbmjaaGreat.Disk

/- The commit log: a step on a disk and on the reference's state: the operations 0, 2 and 5. -/
namespace Go.Proofs.YtehhafnjbkbmjaaGreat.Disk
open Go Go.RowKit Go.Proofs.YtehhafnjbkbmjaaGreatW.PrintWords Go.Proofs.YtehhafnjbkbmjaaGreatW.PrintLast Go.Proofs.YtehhafnjbkbmjaaGreatW.PrintMore Go.Proofs.YtehhafnjbkbmjaaGreat.PCommitlogSequence
abbrev tOp24 : Nat := 49
abbrev opV (k : Int) (x : LE) (A7 : Option Addr) (c7 : Nat) (es : List LE) (A8 : Option Addr) (c8 : Nat) (bs : List Int) (nn : Int) (A10 : Option Addr) (c10 : Nat) (cs : List Cf) : Array Value :=
  #[.int .i64 k, .int .i64 x.f0, .int .i64 x.f1, .int .i64 x.f2, .int .i64 x.f3, .int .i64 x.f4, .string x.f5, .slice A7 es.length c7, .slice A8 bs.length c8, .int .i64 nn, .slice A10 cs.length c10]
theorem eleven {w : World} {b : Nat} {k nn : Int} {x : LE} {A7 A8 A10 : Option Addr} {c7 c8 c10 : Nat} {es : List LE} {bs : List Int} {cs : List Cf} (h : w.heap[b]? = some (.cells (opV k x A7 c7 es A8 c8 bs nn A10 c10 cs) tOp24 (0, 0))) :
    w.cell? ⟨b, 0, none⟩ = some (.int .i64 k) ∧ w.cell? ⟨b, 1, none⟩ = some (.int .i64 x.f0) ∧ w.cell? ⟨b, 2, none⟩ = some (.int .i64 x.f1) ∧ w.cell? ⟨b, 3, none⟩ = some (.int .i64 x.f2) ∧ w.cell? ⟨b, 4, none⟩ = some (.int .i64 x.f3) ∧ w.cell? ⟨b, 5, none⟩ = some (.int .i64 x.f4) ∧ w.cell? ⟨b, 6, none⟩ = some (.string x.f5) ∧ w.cell? ⟨b, 7, none⟩ = some (.slice A7 es.length c7) ∧ w.cell? ⟨b, 8, none⟩ = some (.slice A8 bs.length c8) ∧ w.cell? ⟨b, 9, none⟩ = some (.int .i64 nn) ∧ w.cell? ⟨b, 10, none⟩ = some (.slice A10 cs.length c10) :=
  ⟨cell_blk h 0, cell_blk h 1, cell_blk h 2, cell_blk h 3, cell_blk h 4, cell_blk h 5, cell_blk h 6, cell_blk h 7, cell_blk h 8, cell_blk h 9, cell_blk h 10⟩
abbrev oldOk (ok : Nat → Prop) (w : World) : Nat → Prop := fun k => ok k ∧ k < w.heap.size
set_option maxHeartbeats 8000000 in
set_option maxRecDepth 100000 in
theorem step24_append (w : World) (F ok : Nat → Prop) (d : Nat) (L : Lay) (S : PS) (B m : Nat) (a0 : Option Addr) (c0 : Nat) (a1 : Option Addr) (c1 : Nat) (a2 : Option Addr) (c2 : Nat) (a3 : Option Addr) (c3 : Nat) (n : ByteArray) (x : LE) (A7 : Option Addr) (c7 : Nat) (es : List LE) (A8 : Option Addr) (c8 : Nat) (bs : List Int) (nn : Int) (A10 : Option Addr) (c10 : Nat) (cs : List Cf)
    (h : Rep w F d L S (Live S)) (hf : Ref w ok a0 c0 a1 c1 a2 c2 a3 c3 S) (hs : Sound S B) (hm : 1200 ≤ m) (hB : B + m * 6 ≤ 549755813888) (hlt : ∀ k, F k → k < w.heap.size) (hap : ∀ k, ok k → ¬ F k) (hx : WfLE x) :
    Calls Tryz.prog 13 #[.pointer (some ⟨d, 0, none⟩), sv a0 c0 a1 c1 a2 c2 a3 c3 S, .agg (opV 0 x A7 c7 es A8 c8 bs nn A10 c10 cs), .string n] w (Stepped w F ok d (pLogAppend S n x).1) := by
  obtain ⟨w3, hw3⟩ : ∃ w3, w3 = ((w.alloc (.cells (svC a0 c0 a1 c1 a2 c2 a3 c3 S) tState)).alloc (.cells (opV 0 x A7 c7 es A8 c8 bs nn A10 c10 cs) tOp24)).alloc (.cells zeroC tState) := ⟨_, rfl⟩
  have HW := Lib.hid (three_blks w (.cells (svC a0 c0 a1 c1 a2 c2 a3 c3 S) tState) (.cells (opV 0 x A7 c7 es A8 c8 bs nn A10 c10 cs) tOp24) (.cells zeroC tState))
  rw [← hw3] at HW
  have HSZ := Lib.hid (show w.heap.size + 3 = w3.heap.size by rw [hw3]; simp)
  have HW3 := Lib.hid (show w3 = ((w.alloc (.cells #[.slice a0 S.files.length c0, .slice a1 S.dir.length c1, .slice a2 S.dur.length c2, .slice a3 S.pend.length c3, .bool S.lim, .int .i64 S.left] tState)).alloc (.cells (opV 0 x A7 c7 es A8 c8 bs nn A10 c10 cs) tOp24)).alloc (.cells #[.slice none 0 0, .slice none 0 0, .slice none 0 0, .slice none 0 0, .bool false, .int .i64 0] tState) from hw3)
  have HREP := Lib.hid (h.below HW.out.2)
  have HREF := Lib.hid ((hf.mono (ok' := oldOk ok w) (fun k h1 h2 => ⟨h1, h2⟩)).below HW.out.2)
  have HS := Lib.hid hs
  have HLT := Lib.hid hlt
  have HAP := Lib.hid hap
  have HLT3 := Lib.hid (fun k (hk : F k) => show k < w3.heap.size from Nat.lt_of_lt_of_le (hlt k hk) HW.out.2.size)
  clear h hf hs hlt hap hw3
  obtain ⟨s0, s1, s2, s3, s4, s5⟩ := six_cells HW.out.1.1
  obtain ⟨o0, o1, o2, o3, o4, o5, o6, o7, o8, o9, o10⟩ := eleven HW.out.1.2.1
  obtain ⟨p, hp⟩ : ∃ p, p = pLogAppend S n x := ⟨_, rfl⟩
  rw [← hp]
  obtain ⟨S2, cd⟩ := p
  have HQ := Lib.hid hp
  clear hp
  go_enter Tryz.func13, Tryz.ntmps13
  go_upto_region 1 with (fail)
  rw [← HW3.out]
  go_upto_region 4 with (first
    | ((go_at_call 47; refine (refLogAppend_calls w3 (oldOk ok w) a0 c0 a1 c1 a2 c2 a3 c3 S B n x HREF.out HS.out (by omega) hx).mono ?_); rw [← HQ.out]; rintro e w4 ⟨v, rfl, ⟨e0, f0, e1, f1, e2, f2, e3, f3, rfl, hr⟩, hb⟩; have HR4 := Lib.hid hr; have HB4 := Lib.hid hb; clear hr hb s0 s1 s2 s3 s4 s5 o0 o1 o2 o3 o4 o5 o6 o7 o8 o9 o10)
    | fail)
  obtain ⟨w5, hw5⟩ : ∃ w5, w5 = w4.alloc (.cells #[.slice e0 S2.files.length f0, .slice e1 S2.dir.length f1, .slice e2 S2.dur.length f2, .slice e3 S2.pend.length f3, .bool S2.lim, .int .i64 S2.left] tState) := ⟨_, rfl⟩
  rw [← hw5]
  have hb45 : Below w4.heap.size w4 w5 := by rw [hw5]; exact Below.of_alloc' w4 _
  have J3 := Lib.hid (show w5.heap[w4.heap.size]? = some (.cells (svC e0 f0 e1 f1 e2 f2 e3 f3 S2) tState (0, 0)) by rw [hw5]; exact heap_alloc_new w4 _)
  have HB5 := Lib.hid (HB4.out.trans (hb45.mono HB4.out.size))
  have HR5 := Lib.hid (show Ref w5 (fun k => (ok k ∧ k < w.heap.size) ∨ w3.heap.size ≤ k) e0 f0 e1 f1 e2 f2 e3 f3 S2 from HR4.out.below hb45)
  have J1 := Lib.hid (blk_below HW.out.1.2.1 HB5.out)
  have J2 := Lib.hid (blk_below HW.out.1.2.2 HB5.out)
  have HREP5 := Lib.hid (HREP.out.below HB5.out)
  have HLT5 := Lib.hid (fun k (hk : F k) => Nat.lt_of_lt_of_le (HLT3.out k hk) HB5.out.size)
  have n1 : ¬ F (w.heap.size + 1) := not_new HLT.out (by omega)
  have n2 : ¬ F (w.heap.size + 1 + 1) := not_new HLT.out (by omega)
  have n3 : ¬ F w4.heap.size := not_new HLT3.out HB4.out.size
  have hne1 : w4.heap.size ≠ w.heap.size + 1 + 1 := by have := HB4.out.size; have := HSZ.out; omega
  clear hw5 hb45 HR4
  have P5 := Lib.hid (And.intro (six_cells (w := w5.drew) (t := tState) (fz := (0, 0)) J3.out) (eleven (w := w5.drew) J1.out))
  go_region_held3 (fun w' => (w'.cell? ⟨w4.heap.size, 0, none⟩ = some (.slice e0 S2.files.length f0) ∧ w'.cell? ⟨w4.heap.size, 1, none⟩ = some (.slice e1 S2.dir.length f1) ∧ w'.cell? ⟨w4.heap.size, 2, none⟩ = some (.slice e2 S2.dur.length f2) ∧ w'.cell? ⟨w4.heap.size, 3, none⟩ = some (.slice e3 S2.pend.length f3) ∧ w'.cell? ⟨w4.heap.size, 4, none⟩ = some (.bool S2.lim) ∧ w'.cell? ⟨w4.heap.size, 5, none⟩ = some (.int .i64 S2.left)) ∧ (w'.cell? ⟨w.heap.size + 1, 0, none⟩ = some (.int .i64 0) ∧ w'.cell? ⟨w.heap.size + 1, 1, none⟩ = some (.int .i64 x.f0) ∧ w'.cell? ⟨w.heap.size + 1, 2, none⟩ = some (.int .i64 x.f1) ∧ w'.cell? ⟨w.heap.size + 1, 3, none⟩ = some (.int .i64 x.f2) ∧ w'.cell? ⟨w.heap.size + 1, 4, none⟩ = some (.int .i64 x.f3) ∧ w'.cell? ⟨w.heap.size + 1, 5, none⟩ = some (.int .i64 x.f4) ∧ w'.cell? ⟨w.heap.size + 1, 6, none⟩ = some (.string x.f5) ∧ w'.cell? ⟨w.heap.size + 1, 7, none⟩ = some (.slice A7 es.length c7) ∧ w'.cell? ⟨w.heap.size + 1, 8, none⟩ = some (.slice A8 bs.length c8) ∧ w'.cell? ⟨w.heap.size + 1, 9, none⟩ = some (.int .i64 nn) ∧ w'.cell? ⟨w.heap.size + 1, 10, none⟩ = some (.slice A10 cs.length c10)))
    (first | (with_reducible exact P5.out) | (with_reducible exact P6.out) | exact And.intro (six_cells (set_six_other K3.out hne1 _ _ _ _ _ _)) (eleven (set_six_other K1.out (by omega) _ _ _ _ _ _)))
    (first
      | ((go_at_call 44; refine (LogAppend_calls w5.drew F d L S B n x (HREP5.out.move (fun _ _ _ => rfl)) HLT5.out HS.out (by omega) hx).mono ?_); rw [← HQ.out]; rintro e w6 ⟨rfl, F', L', hr, hc⟩; have hc' : Chg w5 F w6 F' := ⟨((Fr.refl _ w5).drewN 1).trans hc.fr (fun _ => .inl), hc.new, hc.lt⟩; have HR6 := Lib.hid hr; have HC6 := Lib.hid hc'; have K3 := Lib.hid (chg_blk hc' J3.out n3); have K1 := Lib.hid (chg_blk hc' J1.out n1); have K2 := Lib.hid (chg_blk hc' J2.out n2); obtain ⟨z0, z1, z2, z3, z4, z5⟩ := six_cells K2.out; obtain ⟨g0, g1, g2, g3, g4, g5⟩ := six_frozen K2.out; have P6 := Lib.hid (And.intro (six_cells K3.out) (eleven K1.out)); clear hr hc hc'))
  go_wp2_with fail
  obtain ⟨q1, q2, q3⟩ := fin24 HLT.out HAP.out HW.out.2 HSZ.out HB5.out HR5.out HC6.out HR6.out K2.out
  exact bodyPost_ret (results_ct rfl _ _ (w.heap.size + 1 + 1) tState _ (0, 0) _ rfl q1 Tryz.underlying31 rfl (by kernel_rfl)) rfl ⟨_, F', rfl, q2, q3⟩
set_option maxHeartbeats 8000000 in
set_option maxRecDepth 100000 in
theorem step24_rewrite (w : World) (F ok : Nat → Prop) (d : Nat) (L : Lay) (S : PS) (B m : Nat) (a0 : Option Addr) (c0 : Nat) (a1 : Option Addr) (c1 : Nat) (a2 : Option Addr) (c2 : Nat) (a3 : Option Addr) (c3 : Nat) (n : ByteArray) (x : LE) (A7 : Option Addr) (c7 : Nat) (es : List LE) (A8 : Option Addr) (c8 : Nat) (bs : List Int) (nn : Int) (A10 : Option Addr) (c10 : Nat) (cs : List Cf)
    (h : Rep w F d L S (Live S)) (hf : Ref w ok a0 c0 a1 c1 a2 c2 a3 c3 S) (hs : Sound S B) (hm : 1200 ≤ m) (hB : B + m * 6 ≤ 549755813888) (hlt : ∀ k, F k → k < w.heap.size) (hap : ∀ k, ok k → ¬ F k) (hes : Rd kLE w ok A7 c7 es) (hwes : ∀ y ∈ es, WfLE y) (hel : 1100 * es.length ≤ m) (hel2 : es.length ≤ 65536) (hn : n.size ≤ 1000000) :
    Calls Tryz.prog 13 #[.pointer (some ⟨d, 0, none⟩), sv a0 c0 a1 c1 a2 c2 a3 c3 S, .agg (opV 2 x A7 c7 es A8 c8 bs nn A10 c10 cs), .string n] w (Stepped w F ok d (pRewrite S n es).1) := by
  obtain ⟨w3, hw3⟩ : ∃ w3, w3 = ((w.alloc (.cells (svC a0 c0 a1 c1 a2 c2 a3 c3 S) tState)).alloc (.cells (opV 2 x A7 c7 es A8 c8 bs nn A10 c10 cs) tOp24)).alloc (.cells zeroC tState) := ⟨_, rfl⟩
  have HW := Lib.hid (three_blks w (.cells (svC a0 c0 a1 c1 a2 c2 a3 c3 S) tState) (.cells (opV 2 x A7 c7 es A8 c8 bs nn A10 c10 cs) tOp24) (.cells zeroC tState))
  rw [← hw3] at HW
  have HSZ := Lib.hid (show w.heap.size + 3 = w3.heap.size by rw [hw3]; simp)
  have HW3 := Lib.hid (show w3 = ((w.alloc (.cells #[.slice a0 S.files.length c0, .slice a1 S.dir.length c1, .slice a2 S.dur.length c2, .slice a3 S.pend.length c3, .bool S.lim, .int .i64 S.left] tState)).alloc (.cells (opV 2 x A7 c7 es A8 c8 bs nn A10 c10 cs) tOp24)).alloc (.cells #[.slice none 0 0, .slice none 0 0, .slice none 0 0, .slice none 0 0, .bool false, .int .i64 0] tState) from hw3)
  have HREP := Lib.hid (h.below HW.out.2)
  have HREF := Lib.hid ((hf.mono (ok' := oldOk ok w) (fun k h1 h2 => ⟨h1, h2⟩)).below HW.out.2)
  have HS := Lib.hid hs
  have HLT := Lib.hid hlt
  have HAP := Lib.hid hap
  have HLT3 := Lib.hid (fun k (hk : F k) => show k < w3.heap.size from Nat.lt_of_lt_of_le (hlt k hk) HW.out.2.size)
  clear h hf hs hlt hap hw3
  obtain ⟨s0, s1, s2, s3, s4, s5⟩ := six_cells HW.out.1.1
  obtain ⟨o0, o1, o2, o3, o4, o5, o6, o7, o8, o9, o10⟩ := eleven HW.out.1.2.1
  obtain ⟨p, hp⟩ : ∃ p, p = pRewrite S n es := ⟨_, rfl⟩
  rw [← hp]
  obtain ⟨S2, cd⟩ := p
  have HQ := Lib.hid hp
  clear hp
  have HES := Lib.hid ((hes.mono (ok' := oldOk ok w) (fun k h1 h2 => ⟨h1, h2⟩)).below HW.out.2)
  have HWE := Lib.hid hwes
  clear hes hwes
  go_enter Tryz.func13, Tryz.ntmps13
  go_upto_region 1 with (fail)
  rw [← HW3.out]
  go_upto_region 11 with (first
    | ((go_at_call 49; refine (refRewrite_calls w3 (oldOk ok w) a0 c0 a1 c1 a2 c2 a3 c3 S B m n A7 c7 es HREF.out HS.out (by omega) hel hB HES.out HWE.out hel2 hn).mono ?_); rw [← HQ.out]; rintro e w4 ⟨v, rfl, ⟨e0, f0, e1, f1, e2, f2, e3, f3, rfl, hr⟩, hb⟩; have HR4 := Lib.hid hr; have HB4 := Lib.hid hb; clear hr hb s0 s1 s2 s3 s4 s5 o0 o1 o2 o3 o4 o5 o6 o7 o8 o9 o10)
    | fail)
  obtain ⟨w5, hw5⟩ : ∃ w5, w5 = w4.alloc (.cells #[.slice e0 S2.files.length f0, .slice e1 S2.dir.length f1, .slice e2 S2.dur.length f2, .slice e3 S2.pend.length f3, .bool S2.lim, .int .i64 S2.left] tState) := ⟨_, rfl⟩
  rw [← hw5]
  have hb45 : Below w4.heap.size w4 w5 := by rw [hw5]; exact Below.of_alloc' w4 _
  have J3 := Lib.hid (show w5.heap[w4.heap.size]? = some (.cells (svC e0 f0 e1 f1 e2 f2 e3 f3 S2) tState (0, 0)) by rw [hw5]; exact heap_alloc_new w4 _)
  have HB5 := Lib.hid (HB4.out.trans (hb45.mono HB4.out.size))
  have HR5 := Lib.hid (show Ref w5 (fun k => (ok k ∧ k < w.heap.size) ∨ w3.heap.size ≤ k) e0 f0 e1 f1 e2 f2 e3 f3 S2 from HR4.out.below hb45)
  have J1 := Lib.hid (blk_below HW.out.1.2.1 HB5.out)
  have J2 := Lib.hid (blk_below HW.out.1.2.2 HB5.out)
  have HREP5 := Lib.hid (HREP.out.below HB5.out)
  have HLT5 := Lib.hid (fun k (hk : F k) => Nat.lt_of_lt_of_le (HLT3.out k hk) HB5.out.size)
  have n1 : ¬ F (w.heap.size + 1) := not_new HLT.out (by omega)
  have n2 : ¬ F (w.heap.size + 1 + 1) := not_new HLT.out (by omega)
  have n3 : ¬ F w4.heap.size := not_new HLT3.out HB4.out.size
  have hne1 : w4.heap.size ≠ w.heap.size + 1 + 1 := by have := HB4.out.size; have := HSZ.out; omega
  clear hw5 hb45 HR4
  have P5 := Lib.hid (And.intro (six_cells (w := w5.drew) (t := tState) (fz := (0, 0)) J3.out) (eleven (w := w5.drew) J1.out))
  go_region_held3 (fun w' => (w'.cell? ⟨w4.heap.size, 0, none⟩ = some (.slice e0 S2.files.length f0) ∧ w'.cell? ⟨w4.heap.size, 1, none⟩ = some (.slice e1 S2.dir.length f1) ∧ w'.cell? ⟨w4.heap.size, 2, none⟩ = some (.slice e2 S2.dur.length f2) ∧ w'.cell? ⟨w4.heap.size, 3, none⟩ = some (.slice e3 S2.pend.length f3) ∧ w'.cell? ⟨w4.heap.size, 4, none⟩ = some (.bool S2.lim) ∧ w'.cell? ⟨w4.heap.size, 5, none⟩ = some (.int .i64 S2.left)) ∧ (w'.cell? ⟨w.heap.size + 1, 0, none⟩ = some (.int .i64 2) ∧ w'.cell? ⟨w.heap.size + 1, 1, none⟩ = some (.int .i64 x.f0) ∧ w'.cell? ⟨w.heap.size + 1, 2, none⟩ = some (.int .i64 x.f1) ∧ w'.cell? ⟨w.heap.size + 1, 3, none⟩ = some (.int .i64 x.f2) ∧ w'.cell? ⟨w.heap.size + 1, 4, none⟩ = some (.int .i64 x.f3) ∧ w'.cell? ⟨w.heap.size + 1, 5, none⟩ = some (.int .i64 x.f4) ∧ w'.cell? ⟨w.heap.size + 1, 6, none⟩ = some (.string x.f5) ∧ w'.cell? ⟨w.heap.size + 1, 7, none⟩ = some (.slice A7 es.length c7) ∧ w'.cell? ⟨w.heap.size + 1, 8, none⟩ = some (.slice A8 bs.length c8) ∧ w'.cell? ⟨w.heap.size + 1, 9, none⟩ = some (.int .i64 nn) ∧ w'.cell? ⟨w.heap.size + 1, 10, none⟩ = some (.slice A10 cs.length c10)))
    (first | (with_reducible exact P5.out) | (with_reducible exact P6.out) | exact And.intro (six_cells (set_six_other K3.out hne1 _ _ _ _ _ _)) (eleven (set_six_other K1.out (by omega) _ _ _ _ _ _)))
    (first
      | ((go_at_call 46; refine (Rewrite_calls w5.drew F d L S B m n A7 c7 es (HREP5.out.move (fun _ _ _ => rfl)) HLT5.out HS.out (by omega) hel hB ((HES.out.below HB5.out).move (w' := w5.drew) (fun _ _ _ => rfl)).now HWE.out hel2 hn).mono ?_); rw [← HQ.out]; rintro e w6 ⟨rfl, F', L', hr, hc⟩; have hc' : Chg w5 F w6 F' := ⟨((Fr.refl _ w5).drewN 1).trans hc.fr (fun _ => .inl), hc.new, hc.lt⟩; have HR6 := Lib.hid hr; have HC6 := Lib.hid hc'; have K3 := Lib.hid (chg_blk hc' J3.out n3); have K1 := Lib.hid (chg_blk hc' J1.out n1); have K2 := Lib.hid (chg_blk hc' J2.out n2); obtain ⟨z0, z1, z2, z3, z4, z5⟩ := six_cells K2.out; obtain ⟨g0, g1, g2, g3, g4, g5⟩ := six_frozen K2.out; have P6 := Lib.hid (And.intro (six_cells K3.out) (eleven K1.out)); clear hr hc hc'))
  go_wp2_with fail
  obtain ⟨q1, q2, q3⟩ := fin24 HLT.out HAP.out HW.out.2 HSZ.out HB5.out HR5.out HC6.out HR6.out K2.out
  exact bodyPost_ret (results_ct rfl _ _ (w.heap.size + 1 + 1) tState _ (0, 0) _ rfl q1 Tryz.underlying31 rfl (by kernel_rfl)) rfl ⟨_, F', rfl, q2, q3⟩
set_option maxHeartbeats 8000000 in
set_option maxRecDepth 100000 in
theorem step24_raw (w : World) (F ok : Nat → Prop) (d : Nat) (L : Lay) (S : PS) (B m : Nat) (a0 : Option Addr) (c0 : Nat) (a1 : Option Addr) (c1 : Nat) (a2 : Option Addr) (c2 : Nat) (a3 : Option Addr) (c3 : Nat) (n : ByteArray) (x : LE) (A7 : Option Addr) (c7 : Nat) (es : List LE) (A8 : Option Addr) (c8 : Nat) (bs : List Int) (nn : Int) (A10 : Option Addr) (c10 : Nat) (cs : List Cf)
    (h : Rep w F d L S (Live S)) (hf : Ref w ok a0 c0 a1 c1 a2 c2 a3 c3 S) (hs : Sound S B) (hm : 1200 ≤ m) (hB : B + m * 6 ≤ 549755813888) (hlt : ∀ k, F k → k < w.heap.size) (hap : ∀ k, ok k → ¬ F k) (hbs : Rd kB w ok A8 c8 bs) (hbl : bs.length ≤ 549755813888) :
    Calls Tryz.prog 13 #[.pointer (some ⟨d, 0, none⟩), sv a0 c0 a1 c1 a2 c2 a3 c3 S, .agg (opV 5 x A7 c7 es A8 c8 bs nn A10 c10 cs), .string n] w (Stepped w F ok d (pAppend S n bs).1) := by
  obtain ⟨w3, hw3⟩ : ∃ w3, w3 = ((w.alloc (.cells (svC a0 c0 a1 c1 a2 c2 a3 c3 S) tState)).alloc (.cells (opV 5 x A7 c7 es A8 c8 bs nn A10 c10 cs) tOp24)).alloc (.cells zeroC tState) := ⟨_, rfl⟩
  have HW := Lib.hid (three_blks w (.cells (svC a0 c0 a1 c1 a2 c2 a3 c3 S) tState) (.cells (opV 5 x A7 c7 es A8 c8 bs nn A10 c10 cs) tOp24) (.cells zeroC tState))
  rw [← hw3] at HW
  have HSZ := Lib.hid (show w.heap.size + 3 = w3.heap.size by rw [hw3]; simp)
  have HW3 := Lib.hid (show w3 = ((w.alloc (.cells #[.slice a0 S.files.length c0, .slice a1 S.dir.length c1, .slice a2 S.dur.length c2, .slice a3 S.pend.length c3, .bool S.lim, .int .i64 S.left] tState)).alloc (.cells (opV 5 x A7 c7 es A8 c8 bs nn A10 c10 cs) tOp24)).alloc (.cells #[.slice none 0 0, .slice none 0 0, .slice none 0 0, .slice none 0 0, .bool false, .int .i64 0] tState) from hw3)
  have HREP := Lib.hid (h.below HW.out.2)
  have HREF := Lib.hid ((hf.mono (ok' := oldOk ok w) (fun k h1 h2 => ⟨h1, h2⟩)).below HW.out.2)
  have HS := Lib.hid hs
  have HLT := Lib.hid hlt
  have HAP := Lib.hid hap
  have HLT3 := Lib.hid (fun k (hk : F k) => show k < w3.heap.size from Nat.lt_of_lt_of_le (hlt k hk) HW.out.2.size)
  clear h hf hs hlt hap hw3
  obtain ⟨s0, s1, s2, s3, s4, s5⟩ := six_cells HW.out.1.1
  obtain ⟨o0, o1, o2, o3, o4, o5, o6, o7, o8, o9, o10⟩ := eleven HW.out.1.2.1
  obtain ⟨p, hp⟩ : ∃ p, p = pAppend S n bs := ⟨_, rfl⟩
  rw [← hp]
  obtain ⟨S2, cd⟩ := p
  have HQ := Lib.hid hp
  clear hp
  have HBS := Lib.hid ((hbs.mono (ok' := oldOk ok w) (fun k h1 h2 => ⟨h1, h2⟩)).below HW.out.2)
  clear hbs
  go_enter Tryz.func13, Tryz.ntmps13
  go_upto_region 1 with (fail)
  rw [← HW3.out]
  go_upto_region 20 with (first
    | ((go_at_call 32; refine (refAppend_calls w3 (oldOk ok w) a0 c0 a1 c1 a2 c2 a3 c3 S B n A8 c8 bs HREF.out HS.out.good (by omega) HBS.out hbl).mono ?_); rw [← HQ.out]; rintro e w4 ⟨v, rfl, ⟨e0, f0, e1, f1, e2, f2, e3, f3, rfl, hr⟩, hb⟩; have HR4 := Lib.hid hr; have HB4 := Lib.hid hb; clear hr hb s0 s1 s2 s3 s4 s5 o0 o1 o2 o3 o4 o5 o6 o7 o8 o9 o10)
    | fail)
  obtain ⟨w5, hw5⟩ : ∃ w5, w5 = w4.alloc (.cells #[.slice e0 S2.files.length f0, .slice e1 S2.dir.length f1, .slice e2 S2.dur.length f2, .slice e3 S2.pend.length f3, .bool S2.lim, .int .i64 S2.left] tState) := ⟨_, rfl⟩
  rw [← hw5]
  have hb45 : Below w4.heap.size w4 w5 := by rw [hw5]; exact Below.of_alloc' w4 _
  have J3 := Lib.hid (show w5.heap[w4.heap.size]? = some (.cells (svC e0 f0 e1 f1 e2 f2 e3 f3 S2) tState (0, 0)) by rw [hw5]; exact heap_alloc_new w4 _)
  have HB5 := Lib.hid (HB4.out.trans (hb45.mono HB4.out.size))
  have HR5 := Lib.hid (show Ref w5 (fun k => (ok k ∧ k < w.heap.size) ∨ w3.heap.size ≤ k) e0 f0 e1 f1 e2 f2 e3 f3 S2 from HR4.out.below hb45)
  have J1 := Lib.hid (blk_below HW.out.1.2.1 HB5.out)
  have J2 := Lib.hid (blk_below HW.out.1.2.2 HB5.out)
  have HREP5 := Lib.hid (HREP.out.below HB5.out)
  have HLT5 := Lib.hid (fun k (hk : F k) => Nat.lt_of_lt_of_le (HLT3.out k hk) HB5.out.size)
  have n1 : ¬ F (w.heap.size + 1) := not_new HLT.out (by omega)
  have n2 : ¬ F (w.heap.size + 1 + 1) := not_new HLT.out (by omega)
  have n3 : ¬ F w4.heap.size := not_new HLT3.out HB4.out.size
  have hne1 : w4.heap.size ≠ w.heap.size + 1 + 1 := by have := HB4.out.size; have := HSZ.out; omega
  clear hw5 hb45 HR4
  have P5 := Lib.hid (And.intro (six_cells (w := w5.drew) (t := tState) (fz := (0, 0)) J3.out) (eleven (w := w5.drew) J1.out))
  go_region_held3 (fun w' => (w'.cell? ⟨w4.heap.size, 0, none⟩ = some (.slice e0 S2.files.length f0) ∧ w'.cell? ⟨w4.heap.size, 1, none⟩ = some (.slice e1 S2.dir.length f1) ∧ w'.cell? ⟨w4.heap.size, 2, none⟩ = some (.slice e2 S2.dur.length f2) ∧ w'.cell? ⟨w4.heap.size, 3, none⟩ = some (.slice e3 S2.pend.length f3) ∧ w'.cell? ⟨w4.heap.size, 4, none⟩ = some (.bool S2.lim) ∧ w'.cell? ⟨w4.heap.size, 5, none⟩ = some (.int .i64 S2.left)) ∧ (w'.cell? ⟨w.heap.size + 1, 0, none⟩ = some (.int .i64 5) ∧ w'.cell? ⟨w.heap.size + 1, 1, none⟩ = some (.int .i64 x.f0) ∧ w'.cell? ⟨w.heap.size + 1, 2, none⟩ = some (.int .i64 x.f1) ∧ w'.cell? ⟨w.heap.size + 1, 3, none⟩ = some (.int .i64 x.f2) ∧ w'.cell? ⟨w.heap.size + 1, 4, none⟩ = some (.int .i64 x.f3) ∧ w'.cell? ⟨w.heap.size + 1, 5, none⟩ = some (.int .i64 x.f4) ∧ w'.cell? ⟨w.heap.size + 1, 6, none⟩ = some (.string x.f5) ∧ w'.cell? ⟨w.heap.size + 1, 7, none⟩ = some (.slice A7 es.length c7) ∧ w'.cell? ⟨w.heap.size + 1, 8, none⟩ = some (.slice A8 bs.length c8) ∧ w'.cell? ⟨w.heap.size + 1, 9, none⟩ = some (.int .i64 nn) ∧ w'.cell? ⟨w.heap.size + 1, 10, none⟩ = some (.slice A10 cs.length c10)))
    (first | (with_reducible exact P5.out) | (with_reducible exact P6.out) | exact And.intro (six_cells (set_six_other K3.out hne1 _ _ _ _ _ _)) (eleven (set_six_other K1.out (by omega) _ _ _ _ _ _)))
    (first
      | ((go_at_call 33; refine (Append_calls w5.drew F d L S B n A8 bs c8 ((HBS.out.below HB5.out).move (w' := w5.drew) (fun _ _ _ => rfl)).now (by omega) (HREP5.out.move (fun _ _ _ => rfl)) HS.out.good (by omega)).mono ?_); rw [← HQ.out]; rintro e w6 ⟨rfl, F', L', hr, hc⟩; have hc' : Chg w5 F w6 F' := ⟨((Fr.refl _ w5).drewN 1).trans hc.fr (fun _ => .inl), hc.new, hc.lt⟩; have HR6 := Lib.hid hr; have HC6 := Lib.hid hc'; have K3 := Lib.hid (chg_blk hc' J3.out n3); have K1 := Lib.hid (chg_blk hc' J1.out n1); have K2 := Lib.hid (chg_blk hc' J2.out n2); obtain ⟨z0, z1, z2, z3, z4, z5⟩ := six_cells K2.out; obtain ⟨g0, g1, g2, g3, g4, g5⟩ := six_frozen K2.out; have P6 := Lib.hid (And.intro (six_cells K3.out) (eleven K1.out)); clear hr hc hc'))
  go_wp2_with fail
  obtain ⟨q1, q2, q3⟩ := fin24 HLT.out HAP.out HW.out.2 HSZ.out HB5.out HR5.out HC6.out HR6.out K2.out
  exact bodyPost_ret (results_ct rfl _ _ (w.heap.size + 1 + 1) tState _ (0, 0) _ rfl q1 Tryz.underlying31 rfl (by kernel_rfl)) rfl ⟨_, F', rfl, q2, q3⟩
end Go.Proofs.YtehhafnjbkbmjaaGreat.Disk

/- The commit log: a step on a disk and on the reference's state: the operations 3 and 4. -/
namespace Go.Proofs.YtehhafnjbkbmjaaGreat.Disk
open Go Go.RowKit Go.Proofs.YtehhafnjbkbmjaaGreatW.PrintWords Go.Proofs.YtehhafnjbkbmjaaGreatW.PrintLast Go.Proofs.YtehhafnjbkbmjaaGreatW.PrintMore Go.Proofs.YtehhafnjbkbmjaaGreat.PCommitlogSequence
set_option maxHeartbeats 8000000 in
set_option maxRecDepth 100000 in
theorem step24_fail (w : World) (F ok : Nat → Prop) (d : Nat) (L : Lay) (S : PS) (B : Nat) (a0 : Option Addr) (c0 : Nat) (a1 : Option Addr) (c1 : Nat) (a2 : Option Addr) (c2 : Nat) (a3 : Option Addr) (c3 : Nat) (n : ByteArray) (x : LE) (A7 : Option Addr) (c7 : Nat) (es : List LE) (A8 : Option Addr) (c8 : Nat) (bs : List Int) (nn : Int) (A10 : Option Addr) (c10 : Nat) (cs : List Cf)
    (h : Rep w F d L S (Live S)) (hf : Ref w ok a0 c0 a1 c1 a2 c2 a3 c3 S) (hs : Sound S B) (hlt : ∀ k, F k → k < w.heap.size) (hap : ∀ k, ok k → ¬ F k) :
    Calls Tryz.prog 13 #[.pointer (some ⟨d, 0, none⟩), sv a0 c0 a1 c1 a2 c2 a3 c3 S, .agg (opV 3 x A7 c7 es A8 c8 bs nn A10 c10 cs), .string n] w (Stepped w F ok d (pFail S nn)) := by
  obtain ⟨w3, hw3⟩ : ∃ w3, w3 = ((w.alloc (.cells (svC a0 c0 a1 c1 a2 c2 a3 c3 S) tState)).alloc (.cells (opV 3 x A7 c7 es A8 c8 bs nn A10 c10 cs) tOp24)).alloc (.cells zeroC tState) := ⟨_, rfl⟩
  have HW := Lib.hid (three_blks w (.cells (svC a0 c0 a1 c1 a2 c2 a3 c3 S) tState) (.cells (opV 3 x A7 c7 es A8 c8 bs nn A10 c10 cs) tOp24) (.cells zeroC tState))
  rw [← hw3] at HW
  have HSZ := Lib.hid (show w.heap.size + 3 = w3.heap.size by rw [hw3]; simp)
  have HW3 := Lib.hid (show w3 = ((w.alloc (.cells #[.slice a0 S.files.length c0, .slice a1 S.dir.length c1, .slice a2 S.dur.length c2, .slice a3 S.pend.length c3, .bool S.lim, .int .i64 S.left] tState)).alloc (.cells (opV 3 x A7 c7 es A8 c8 bs nn A10 c10 cs) tOp24)).alloc (.cells #[.slice none 0 0, .slice none 0 0, .slice none 0 0, .slice none 0 0, .bool false, .int .i64 0] tState) from hw3)
  have HREP := Lib.hid (h.below HW.out.2)
  have HREF := Lib.hid ((hf.mono (ok' := oldOk ok w) (fun k h1 h2 => ⟨h1, h2⟩)).below HW.out.2)
  have HS := Lib.hid hs
  have HLT := Lib.hid hlt
  have HAP := Lib.hid hap
  have n0 : ¬ F w.heap.size := not_new hlt (Nat.le_refl _)
  have n1 : ¬ F (w.heap.size + 1) := not_new hlt (by omega)
  have n2 : ¬ F (w.heap.size + 1 + 1) := not_new hlt (by omega)
  clear h hf hs hlt hap hw3
  obtain ⟨s0, s1, s2, s3, s4, s5⟩ := six_cells HW.out.1.1
  obtain ⟨o0, o1, o2, o3, o4, o5, o6, o7, o8, o9, o10⟩ := eleven HW.out.1.2.1
  go_enter Tryz.func13, Tryz.ntmps13
  go_upto_region 1 with (fail)
  rw [← HW3.out]
  go_wp2_with (first
    | ((go_at_call 19; refine (FailAfter_calls w3 F d L S nn HREP.out).mono ?_); rintro e w4 ⟨rfl, F', L', hr, hc⟩; have HR4 := Lib.hid hr; have HC4 := Lib.hid hc; have HREF4 := Lib.hid (HREF.out.chg hc (fun k hk => HAP.out k hk.1)); have K0 := chg_blk hc HW.out.1.1 n0; have K1 := chg_blk hc HW.out.1.2.1 n1; have K2 := Lib.hid (chg_blk hc HW.out.1.2.2 n2); clear s0 s1 s2 s3 s4 s5 o0 o1 o2 o3 o4 o5 o6 o7 o8 o9 o10; obtain ⟨s0, s1, s2, s3, s4, s5⟩ := six_cells K0; obtain ⟨o0, o1, o2, o3, o4, o5, o6, o7, o8, o9, o10⟩ := eleven K1; clear hr hc K0 K1)
    | ((go_at_call 28; refine (refFail2_calls w4 (oldOk ok w) a0 c0 a1 c1 a2 c2 a3 c3 S nn HREF4.out).mono ?_); rintro e w5 ⟨v, rfl, ⟨e0, f0, e1, f1, e2, f2, e3, f3, rfl, hr⟩, hb⟩; have HR5 := Lib.hid hr; have HB5 := Lib.hid hb; have K5 := Lib.hid (blk_below K2.out hb); obtain ⟨z0, z1, z2, z3, z4, z5⟩ := six_cells K5.out; obtain ⟨g0, g1, g2, g3, g4, g5⟩ := six_frozen K5.out; clear hr hb)
    | fail)
  obtain ⟨q1, q2, q3⟩ := step_core HLT.out HAP.out HW.out.2 HSZ.out HC4.out HR4.out HB5.out HR5.out (fun _ _ => rfl) rfl (Below.refl _ _) rfl K5.out
  exact bodyPost_ret (results_ct rfl _ _ (w.heap.size + 1 + 1) tState _ (0, 0) _ rfl q1 Tryz.underlying31 rfl (by kernel_rfl)) rfl ⟨_, F', rfl, q2, q3⟩
set_option maxHeartbeats 8000000 in
set_option maxRecDepth 100000 in
theorem step24_crash (w : World) (F ok : Nat → Prop) (d : Nat) (L : Lay) (S : PS) (B : Nat) (a0 : Option Addr) (c0 : Nat) (a1 : Option Addr) (c1 : Nat) (a2 : Option Addr) (c2 : Nat) (a3 : Option Addr) (c3 : Nat) (n : ByteArray) (x : LE) (A7 : Option Addr) (c7 : Nat) (es : List LE) (A8 : Option Addr) (c8 : Nat) (bs : List Int) (nn : Int) (A10 : Option Addr) (c10 : Nat) (cs : List Cf)
    (h : Rep w F d L S (Live S)) (hf : Ref w ok a0 c0 a1 c1 a2 c2 a3 c3 S) (hs : Sound S B) (hlt : ∀ k, F k → k < w.heap.size) (hap : ∀ k, ok k → ¬ F k) (hB : B ≤ 274877906944) (hcs : Rd kCf w ok A10 c10 cs) :
    Calls Tryz.prog 13 #[.pointer (some ⟨d, 0, none⟩), sv a0 c0 a1 c1 a2 c2 a3 c3 S, .agg (opV 4 x A7 c7 es A8 c8 bs nn A10 c10 cs), .string n] w (Stepped w F ok d (pCrash S nn cs)) := by
  obtain ⟨w3, hw3⟩ : ∃ w3, w3 = ((w.alloc (.cells (svC a0 c0 a1 c1 a2 c2 a3 c3 S) tState)).alloc (.cells (opV 4 x A7 c7 es A8 c8 bs nn A10 c10 cs) tOp24)).alloc (.cells zeroC tState) := ⟨_, rfl⟩
  have HW := Lib.hid (three_blks w (.cells (svC a0 c0 a1 c1 a2 c2 a3 c3 S) tState) (.cells (opV 4 x A7 c7 es A8 c8 bs nn A10 c10 cs) tOp24) (.cells zeroC tState))
  rw [← hw3] at HW
  have HSZ := Lib.hid (show w.heap.size + 3 = w3.heap.size by rw [hw3]; simp)
  have HW3 := Lib.hid (show w3 = ((w.alloc (.cells #[.slice a0 S.files.length c0, .slice a1 S.dir.length c1, .slice a2 S.dur.length c2, .slice a3 S.pend.length c3, .bool S.lim, .int .i64 S.left] tState)).alloc (.cells (opV 4 x A7 c7 es A8 c8 bs nn A10 c10 cs) tOp24)).alloc (.cells #[.slice none 0 0, .slice none 0 0, .slice none 0 0, .slice none 0 0, .bool false, .int .i64 0] tState) from hw3)
  have HREP := Lib.hid (h.below HW.out.2)
  have HREF := Lib.hid ((hf.mono (ok' := oldOk ok w) (fun k h1 h2 => ⟨h1, h2⟩)).below HW.out.2)
  have HS := Lib.hid hs
  have HLT := Lib.hid hlt
  have HAP := Lib.hid hap
  have n0 : ¬ F w.heap.size := not_new hlt (Nat.le_refl _)
  have n1 : ¬ F (w.heap.size + 1) := not_new hlt (by omega)
  have n2 : ¬ F (w.heap.size + 1 + 1) := not_new hlt (by omega)
  have HCS := Lib.hid ((hcs.mono (ok' := oldOk ok w) (fun k h1 h2 => ⟨h1, h2⟩)).below HW.out.2)
  clear hcs
  clear h hf hs hlt hap hw3
  obtain ⟨s0, s1, s2, s3, s4, s5⟩ := six_cells HW.out.1.1
  obtain ⟨o0, o1, o2, o3, o4, o5, o6, o7, o8, o9, o10⟩ := eleven HW.out.1.2.1
  go_enter Tryz.func13, Tryz.ntmps13
  go_upto_region 1 with (fail)
  rw [← HW3.out]
  go_wp2_with (first
    | ((go_at_call 20; refine (Crash_calls w3 F d L S B nn A10 c10 cs HCS.out.now HREP.out HS.out.good (by omega)).mono ?_); rintro e w4 ⟨rfl, F', L', hr, hc⟩; have HR4 := Lib.hid hr; have HC4 := Lib.hid hc; have HREF4 := Lib.hid (HREF.out.chg hc (fun k hk => HAP.out k hk.1)); have HCS4 := Lib.hid (HCS.out.move (fun k hk hlt4 => hc.fr.block k hlt4 (HAP.out k hk.1))); have K0 := chg_blk hc HW.out.1.1 n0; have K1 := chg_blk hc HW.out.1.2.1 n1; have K2 := Lib.hid (chg_blk hc HW.out.1.2.2 n2); clear s0 s1 s2 s3 s4 s5 o0 o1 o2 o3 o4 o5 o6 o7 o8 o9 o10; obtain ⟨s0, s1, s2, s3, s4, s5⟩ := six_cells K0; obtain ⟨o0, o1, o2, o3, o4, o5, o6, o7, o8, o9, o10⟩ := eleven K1; clear hr hc K0 K1)
    | ((go_at_call 29; refine (refCrash_calls w4 (oldOk ok w) a0 c0 a1 c1 a2 c2 a3 c3 S B nn A10 c10 cs HCS4.out.now HCS4.out.le HREF4.out HS.out.good hB).mono ?_); rintro e w5 ⟨v, rfl, ⟨e0, f0, e1, f1, e2, f2, e3, f3, rfl, hr⟩, hb⟩; have HR5 := Lib.hid hr; have HB5 := Lib.hid hb; have K5 := Lib.hid (blk_below K2.out hb); obtain ⟨z0, z1, z2, z3, z4, z5⟩ := six_cells K5.out; obtain ⟨g0, g1, g2, g3, g4, g5⟩ := six_frozen K5.out; clear hr hb)
    | fail)
  obtain ⟨q1, q2, q3⟩ := step_core HLT.out HAP.out HW.out.2 HSZ.out HC4.out HR4.out HB5.out HR5.out (fun _ _ => rfl) rfl (Below.refl _ _) rfl K5.out
  exact bodyPost_ret (results_ct rfl _ _ (w.heap.size + 1 + 1) tState _ (0, 0) _ rfl q1 Tryz.underlying31 rfl (by kernel_rfl)) rfl ⟨_, F', rfl, q2, q3⟩
end Go.Proofs.YtehhafnjbkbmjaaGreat.Disk

/- The commit log: a step on a disk and on the reference's state: an operation that does nothing. -/
namespace Go.Proofs.YtehhafnjbkbmjaaGreat.Disk
open Go Go.RowKit Go.Proofs.YtehhafnjbkbmjaaGreatW.PrintWords Go.Proofs.YtehhafnjbkbmjaaGreatW.PrintLast Go.Proofs.YtehhafnjbkbmjaaGreatW.PrintMore Go.Proofs.YtehhafnjbkbmjaaGreat.PCommitlogSequence
set_option maxHeartbeats 8000000 in
set_option maxRecDepth 100000 in
theorem step24_else (w : World) (F ok : Nat → Prop) (d : Nat) (L : Lay) (S : PS) (a0 : Option Addr) (c0 : Nat) (a1 : Option Addr) (c1 : Nat) (a2 : Option Addr) (c2 : Nat) (a3 : Option Addr) (c3 : Nat) (n : ByteArray) (kd : Int) (x : LE) (A7 : Option Addr) (c7 : Nat) (es : List LE) (A8 : Option Addr) (c8 : Nat) (bs : List Int) (nn : Int) (A10 : Option Addr) (c10 : Nat) (cs : List Cf)
    (h : Rep w F d L S (Live S)) (hf : Ref w ok a0 c0 a1 c1 a2 c2 a3 c3 S) (hlt : ∀ k, F k → k < w.heap.size) (hap : ∀ k, ok k → ¬ F k) (hkd : kd ≠ 0 ∧ kd ≠ 1 ∧ kd ≠ 2 ∧ kd ≠ 3 ∧ kd ≠ 4 ∧ kd ≠ 5) :
    Calls Tryz.prog 13 #[.pointer (some ⟨d, 0, none⟩), sv a0 c0 a1 c1 a2 c2 a3 c3 S, .agg (opV kd x A7 c7 es A8 c8 bs nn A10 c10 cs), .string n] w (Stepped w F ok d S) := by
  obtain ⟨w3, hw3⟩ : ∃ w3, w3 = ((w.alloc (.cells (svC a0 c0 a1 c1 a2 c2 a3 c3 S) tState)).alloc (.cells (opV kd x A7 c7 es A8 c8 bs nn A10 c10 cs) tOp24)).alloc (.cells zeroC tState) := ⟨_, rfl⟩
  have HW := Lib.hid (three_blks w (.cells (svC a0 c0 a1 c1 a2 c2 a3 c3 S) tState) (.cells (opV kd x A7 c7 es A8 c8 bs nn A10 c10 cs) tOp24) (.cells zeroC tState))
  rw [← hw3] at HW
  have HSZ := Lib.hid (show w.heap.size + 3 = w3.heap.size by rw [hw3]; simp)
  have HW3 := Lib.hid (show w3 = ((w.alloc (.cells #[.slice a0 S.files.length c0, .slice a1 S.dir.length c1, .slice a2 S.dur.length c2, .slice a3 S.pend.length c3, .bool S.lim, .int .i64 S.left] tState)).alloc (.cells (opV kd x A7 c7 es A8 c8 bs nn A10 c10 cs) tOp24)).alloc (.cells #[.slice none 0 0, .slice none 0 0, .slice none 0 0, .slice none 0 0, .bool false, .int .i64 0] tState) from hw3)
  have HREP := Lib.hid (h.below HW.out.2)
  have HREF := Lib.hid ((hf.mono (ok' := oldOk ok w) (fun k h1 h2 => ⟨h1, h2⟩)).below HW.out.2)
  have HLT := Lib.hid hlt
  have HAP := Lib.hid hap
  clear h hf hlt hap hw3
  obtain ⟨s0, s1, s2, s3, s4, s5⟩ := six_cells HW.out.1.1
  obtain ⟨o0, o1, o2, o3, o4, o5, o6, o7, o8, o9, o10⟩ := eleven HW.out.1.2.1
  go_enter Tryz.func13, Tryz.ntmps13
  go_upto_region 1 with (fail)
  rw [← HW3.out]
  have e0 : (kd == 0) = false := by simpa using hkd.1
  have e1 : (kd == 1) = false := by simpa using hkd.2.1
  have e2 : (kd == 2) = false := by simpa using hkd.2.2.1
  have e3 : (kd == 3) = false := by simpa using hkd.2.2.2.1
  have e4 : (kd == 4) = false := by simpa using hkd.2.2.2.2.1
  have e5 : (kd == 5) = false := by simpa using hkd.2.2.2.2.2
  have K2 := Lib.hid HW.out.1.2.2
  obtain ⟨z0, z1, z2, z3, z4, z5⟩ := six_cells K2.out
  obtain ⟨g0, g1, g2, g3, g4, g5⟩ := six_frozen K2.out
  go_wp2_with fail
  obtain ⟨q1, q2, q3⟩ := step_core HLT.out HAP.out HW.out.2 HSZ.out (⟨Fr.refl _ _, fun _ hk => .inl hk, fun k hk => Nat.lt_of_lt_of_le (HLT.out k hk) HW.out.2.size⟩ : Chg w3 F w3 F) HREP.out (Below.refl _ _) (HREF.out.mono (fun k hk _ => .inl hk)) (fun _ _ => rfl) rfl (Below.refl _ _) rfl K2.out
  exact bodyPost_ret (results_ct rfl _ _ (w.heap.size + 1 + 1) tState _ (0, 0) _ rfl q1 Tryz.underlying31 rfl (by kernel_rfl)) rfl ⟨_, F, rfl, q2, q3⟩
end Go.Proofs.YtehhafnjbkbmjaaGreat.Disk

/- The commit log: a step on a disk and on the reference's state: the operation 1. -/
namespace Go.Proofs.YtehhafnjbkbmjaaGreat.Disk
open Go Go.RowKit Go.Proofs.YtehhafnjbkbmjaaGreatW.PrintWords Go.Proofs.YtehhafnjbkbmjaaGreatW.PrintLast Go.Proofs.YtehhafnjbkbmjaaGreatW.PrintMore Go.Proofs.YtehhafnjbkbmjaaGreat.PCommitlogSequence
set_option maxHeartbeats 8000000 in
set_option maxRecDepth 100000 in
theorem step24_open (w : World) (F ok : Nat → Prop) (d : Nat) (L : Lay) (S : PS) (B m : Nat) (a0 : Option Addr) (c0 : Nat) (a1 : Option Addr) (c1 : Nat) (a2 : Option Addr) (c2 : Nat) (a3 : Option Addr) (c3 : Nat) (n : ByteArray) (x : LE) (A7 : Option Addr) (c7 : Nat) (es : List LE) (A8 : Option Addr) (c8 : Nat) (bs : List Int) (nn : Int) (A10 : Option Addr) (c10 : Nat) (cs : List Cf)
    (h : Rep w F d L S (Live S)) (hf : Ref w ok a0 c0 a1 c1 a2 c2 a3 c3 S) (hs : Sound S B) (hm : 1200 ≤ m) (hB : B + m * 6 ≤ 549755813888) (hlt : ∀ k, F k → k < w.heap.size) (hap : ∀ k, ok k → ¬ F k) (hn : n.size ≤ 1000000) (hl : (pRead S n).1.length ≤ 65535) (hbm : 1100 * (scanF (pRead S n).1).1.length ≤ m) (hyl : (pOpen S n).2.1.length ≤ 1000000) :
    Calls Tryz.prog 13 #[.pointer (some ⟨d, 0, none⟩), sv a0 c0 a1 c1 a2 c2 a3 c3 S, .agg (opV 1 x A7 c7 es A8 c8 bs nn A10 c10 cs), .string n] w (Stepped w F ok d (pOpen S n).1) := by
  obtain ⟨w3, hw3⟩ : ∃ w3, w3 = ((w.alloc (.cells (svC a0 c0 a1 c1 a2 c2 a3 c3 S) tState)).alloc (.cells (opV 1 x A7 c7 es A8 c8 bs nn A10 c10 cs) tOp24)).alloc (.cells zeroC tState) := ⟨_, rfl⟩
  have HW := Lib.hid (three_blks w (.cells (svC a0 c0 a1 c1 a2 c2 a3 c3 S) tState) (.cells (opV 1 x A7 c7 es A8 c8 bs nn A10 c10 cs) tOp24) (.cells zeroC tState))
  rw [← hw3] at HW
  have HSZ := Lib.hid (show w.heap.size + 3 = w3.heap.size by rw [hw3]; simp)
  have HW3 := Lib.hid (show w3 = ((w.alloc (.cells #[.slice a0 S.files.length c0, .slice a1 S.dir.length c1, .slice a2 S.dur.length c2, .slice a3 S.pend.length c3, .bool S.lim, .int .i64 S.left] tState)).alloc (.cells (opV 1 x A7 c7 es A8 c8 bs nn A10 c10 cs) tOp24)).alloc (.cells #[.slice none 0 0, .slice none 0 0, .slice none 0 0, .slice none 0 0, .bool false, .int .i64 0] tState) from hw3)
  have HREP := Lib.hid (h.below HW.out.2)
  have HREF := Lib.hid ((hf.mono (ok' := oldOk ok w) (fun k h1 h2 => ⟨h1, h2⟩)).below HW.out.2)
  have HS := Lib.hid hs
  have HLT := Lib.hid hlt
  have HAP := Lib.hid hap
  have HLT3 := Lib.hid (fun k (hk : F k) => show k < w3.heap.size from Nat.lt_of_lt_of_le (hlt k hk) HW.out.2.size)
  clear h hf hs hlt hap hw3
  obtain ⟨s0, s1, s2, s3, s4, s5⟩ := six_cells HW.out.1.1
  obtain ⟨o0, o1, o2, o3, o4, o5, o6, o7, o8, o9, o10⟩ := eleven HW.out.1.2.1
  obtain ⟨p, hp⟩ : ∃ p, p = pOpen S n := ⟨_, rfl⟩
  rw [← hp] at hyl ⊢
  obtain ⟨S2, ys, cd⟩ := p
  replace hyl : ys.length ≤ 1000000 := hyl
  have HQ := Lib.hid hp
  clear hp
  go_enter Tryz.func13, Tryz.ntmps13
  go_upto_region 1 with (fail)
  rw [← HW3.out]
  go_upto_region 7 with (first
    | (go_at_call 48; refine (refOpen_calls w3 (oldOk ok w) a0 c0 a1 c1 a2 c2 a3 c3 S B m n HREF.out HS.out (by omega) hB hn hl hbm).mono ?_; rw [← HQ.out]; rintro e w4 ⟨v, A4, d4, rfl, ⟨e0, f0, e1, f1, e2, f2, e3, f3, rfl, hr⟩, hv, hb⟩; have HR4 := Lib.hid hr; have HV4 := Lib.hid hv; have HB4 := Lib.hid hb; clear hr hv hb s0 s1 s2 s3 s4 s5 o0 o1 o2 o3 o4 o5 o6 o7 o8 o9 o10)
    | fail)
  obtain ⟨w5, hw5⟩ : ∃ w5, w5 = w4.alloc (.cells #[.slice e0 S2.files.length f0, .slice e1 S2.dir.length f1, .slice e2 S2.dur.length f2, .slice e3 S2.pend.length f3, .bool S2.lim, .int .i64 S2.left] tState) := ⟨_, rfl⟩
  rw [← hw5]
  have hb45 : Below w4.heap.size w4 w5 := by rw [hw5]; exact Below.of_alloc' w4 _
  have J3 := Lib.hid (show w5.heap[w4.heap.size]? = some (.cells (svC e0 f0 e1 f1 e2 f2 e3 f3 S2) tState (0, 0)) by rw [hw5]; exact heap_alloc_new w4 _)
  have HB5 := Lib.hid (HB4.out.trans (hb45.mono HB4.out.size))
  have HR5 := Lib.hid (show Ref w5 (fun k => (ok k ∧ k < w.heap.size) ∨ w3.heap.size ≤ k) e0 f0 e1 f1 e2 f2 e3 f3 S2 from HR4.out.below hb45)
  have J1 := Lib.hid (blk_below HW.out.1.2.1 HB5.out)
  have J2 := Lib.hid (blk_below HW.out.1.2.2 HB5.out)
  have HREP5 := Lib.hid (HREP.out.below HB5.out)
  have HLT5 := Lib.hid (fun k (hk : F k) => Nat.lt_of_lt_of_le (HLT3.out k hk) HB5.out.size)
  have n1 : ¬ F (w.heap.size + 1) := not_new HLT.out (by omega)
  have n2 : ¬ F (w.heap.size + 1 + 1) := not_new HLT.out (by omega)
  have n3 : ¬ F w4.heap.size := not_new HLT3.out HB4.out.size
  have hne1 : w4.heap.size ≠ w.heap.size + 1 + 1 := by have := HB4.out.size; have := HSZ.out; omega
  have HV5 := Lib.hid (HV4.out.below hb45)
  clear hw5 hb45 HR4 HV4
  go_upto_region 8 with (first
    | (go_at_call 43; refine (LogOpen_calls w5 F d L S B m n HREP5.out HLT5.out HS.out (by omega) hB hn hl hbm).mono ?_; rw [← HQ.out]; rintro e w6 ⟨A6, d6, F', L', rfl, hr, hc, hv⟩; have HR6 := Lib.hid hr; have HC6 := Lib.hid hc; have HV6 := Lib.hid hv; have HU6 := Lib.hid (HV5.out.move (fun k hk hlt5 => hc.fr.block k hlt5 (fun e => by have := HLT3.out k e; omega))); have K3 := Lib.hid (chg_blk hc J3.out n3); have K2 := Lib.hid (chg_blk hc J2.out n2); clear hr hc hv)
    | fail)
  have P5 := Lib.hid (six_cells (w := w6.drew) (t := tState) (fz := (0, 0)) K3.out)
  go_region_held3 (fun w' => w'.cell? ⟨w4.heap.size, 0, none⟩ = some (.slice e0 S2.files.length f0) ∧ w'.cell? ⟨w4.heap.size, 1, none⟩ = some (.slice e1 S2.dir.length f1) ∧ w'.cell? ⟨w4.heap.size, 2, none⟩ = some (.slice e2 S2.dur.length f2) ∧ w'.cell? ⟨w4.heap.size, 3, none⟩ = some (.slice e3 S2.pend.length f3) ∧ w'.cell? ⟨w4.heap.size, 4, none⟩ = some (.bool S2.lim) ∧ w'.cell? ⟨w4.heap.size, 5, none⟩ = some (.int .i64 S2.left))
    (first | (with_reducible exact P5.out) | (with_reducible exact P7.out) | exact six_cells (set_six_other M3.out hne1 _ _ _ _ _ _))
    (first
      | (go_at_call 45; refine (rEq_calls w6.drew A4 d4 A6 d6 ys (HU6.out.move (w' := w6.drew) (fun _ _ _ => rfl)).now HU6.out.le (HV6.out.move (w' := w6.drew) (fun _ _ _ => rfl)).now HV6.out.le hyl).mono ?_; rintro e w7 ⟨rfl, hb⟩; have hb7 : Below w6.heap.size w6 w7 := ((Below.refl _ w6).drew).trans hb; have HR7 := Lib.hid (HR6.out.below hb7); have HC7 := Lib.hid (HC6.out.fr2 (Below.toFr hb7 _)); have M3 := Lib.hid (blk_below K3.out hb7); have M2 := Lib.hid (blk_below K2.out hb7); obtain ⟨z0, z1, z2, z3, z4, z5⟩ := six_cells M2.out; obtain ⟨g0, g1, g2, g3, g4, g5⟩ := six_frozen M2.out; have P7 := Lib.hid (six_cells M3.out); clear hb hb7))
  go_wp2_with fail
  obtain ⟨q1, q2, q3⟩ := fin24 HLT.out HAP.out HW.out.2 HSZ.out HB5.out HR5.out HC7.out HR7.out M2.out
  exact bodyPost_ret (results_ct rfl _ _ (w.heap.size + 1 + 1) tState _ (0, 0) _ rfl q1 Tryz.underlying31 rfl (by kernel_rfl)) rfl ⟨_, F', rfl, q2, q3⟩
end Go.Proofs.YtehhafnjbkbmjaaGreat.Disk
