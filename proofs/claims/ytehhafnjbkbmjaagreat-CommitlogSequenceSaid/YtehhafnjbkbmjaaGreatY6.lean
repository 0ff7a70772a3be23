/- Decode, Scan, the reference's. -/
import Derived.Test.YtehhafnjbkbmjaaGreatY5
import Derived.Deep.RegionHeld3
import Derived.Outline
import Derived.WalkMore
import Derived.IntWalk
import Derived.Deep.RegionWith
/- commitlog: what Decode and Scan give, plain. -/
namespace Go.Proofs.YtehhafnjbkbmjaaGreat.Disk
open Go Go.RowKit Go.Proofs.YtehhafnjbkbmjaaGreatW.PrintWords Go.Proofs.YtehhafnjbkbmjaaGreatW.PrintLast Go.Proofs.YtehhafnjbkbmjaaGreatW.PrintMore Go.Proofs.YtehhafnjbkbmjaaGreat.PCommitlogSequence
def zLE : LE := ⟨0, 0, 0, 0, 0, ⟨#[]⟩⟩
/-- The k numbers that come next: the numbers, the place behind them, the error. -/
def fldGo (l : List Int) : Nat → Int → List Nat → List Nat × Int × Int
  | 0, a, ns => (ns, a, 0)
  | k + 1, a, ns => if (decV l a).2.2 ≠ 0 then ([], 0, (decV l a).2.2) else if 9223372036854775807 < (decV l a).1 then ([], 0, 6) else fldGo l k (decV l a).2.1 (ns ++ [(decV l a).1])
def fldF (l : List Int) : List Nat × Int × Int := fldGo l 6 0 []
def leOf (ns : List Nat) (s : ByteArray) : LE := ⟨(ns.getD 0 0 : Nat), (ns.getD 1 0 : Nat), (ns.getD 2 0 : Nat), (ns.getD 3 0 : Nat), (ns.getD 4 0 : Nat), s⟩
/-- The entry of a body. -/
def entE (l : List Int) : LE × Int :=
  if (fldF l).2.2 ≠ 0 then (zLE, (fldF l).2.2)
  else if (l.length : Int) - (fldF l).2.1 < ((fldF l).1.getD 5 0 : Nat) then (zLE, 2)
  else if ((fldF l).1.getD 5 0 : Nat) < (l.length : Int) - (fldF l).2.1 then (zLE, 3)
  else if validB (leOf (fldF l).1 (strOfNums (l.drop (fldF l).2.1.toNat))) then (leOf (fldF l).1 (strOfNums (l.drop (fldF l).2.1.toNat)), 0) else (zLE, 4)
/-- The record at a place. -/
def decE (b : List Int) (off : Int) : LE × Int × Int :=
  if (decV b off).2.2 ≠ 0 then (zLE, 0, (decV b off).2.2)
  else if 256 < (decV b off).1 then (zLE, 0, 3)
  else if (b.length : Int) - (decV b off).2.1 < ((decV b off).1 : Int) + 4 then (zLE, 0, 2)
  else if crcF ((b.drop (decV b off).2.1.toNat).take (decV b off).1) ≠ valN b ((decV b off).2.1.toNat + (decV b off).1) 4 then (zLE, 0, 5)
  else if (entE ((b.drop (decV b off).2.1.toNat).take (decV b off).1)).2 ≠ 0 then (zLE, 0, (entE ((b.drop (decV b off).2.1.toNat).take (decV b off).1)).2)
  else ((entE ((b.drop (decV b off).2.1.toNat).take (decV b off).1)).1, (decV b off).2.1 + (decV b off).1 + 4, 0)
def scanGo (b : List Int) : Nat → Int → List LE → List LE × Int
  | 0, a, out => (out, a)
  | k + 1, a, out => if a < b.length then (if (decE b a).2.2 ≠ 0 then (out, a) else scanGo b k (decE b a).2.1 (out ++ [(decE b a).1])) else (out, a)
def scanF (b : List Int) : List LE × Int := scanGo b (b.length + 1) 0 []
theorem decGo_ok : ∀ (l : List Int) (i n : Nat), (decGo l i n).2.2 = 0 → i < (decGo l i n).2.1 ∧ (decGo l i n).2.1 ≤ i + l.length
  | [], i, n, h => by simp [decGo] at h
  | c :: r, i, n, h => by
    unfold decGo at h ⊢
    split at h
    · simp at h
    · rename_i h1
      rw [if_neg h1]
      split at h
      · rename_i h2
        rw [if_pos h2]
        simp
      · rename_i h2
        rw [if_neg h2]
        have := decGo_ok r (i + 1) _ h
        simp only [List.length_cons]
        omega
theorem decV_ok {b : List Int} {off : Int} (h : (decV b off).2.2 = 0) : 0 ≤ off ∧ off < (decV b off).2.1 ∧ (decV b off).2.1 ≤ b.length := by
  unfold decV at h ⊢
  split at h
  · simp at h
  · rename_i h1
    rw [if_neg h1]
    split at h
    · rename_i h2
      rw [if_pos h2]
      have := decGo_ok _ _ _ h2
      simp only [List.length_drop] at this
      simp only
      omega
    · rename_i h2
      exact absurd h h2
theorem decE_ok {b : List Int} {off : Int} (h : (decE b off).2.2 = 0) : 0 ≤ off ∧ off < (decE b off).2.1 ∧ (decE b off).2.1 ≤ b.length := by
  unfold decE at h ⊢
  split at h
  · rename_i h1
    exact absurd h h1
  · rename_i h1
    rw [if_neg h1]
    have h1' : (decV b off).2.2 = 0 := by omega
    have := decV_ok h1'
    split at h
    · simp at h
    · rename_i h2
      rw [if_neg h2]
      split at h
      · simp at h
      · rename_i h3
        rw [if_neg h3]
        split at h
        · simp at h
        · rename_i h4
          rw [if_neg h4]
          split at h
          · rename_i h5
            exact absurd h h5
          · rename_i h5
            rw [if_neg h5]
            simp only
            omega
theorem fldGo_ok (l : List Int) : ∀ (k : Nat) (a : Int) (ns : List Nat), 0 ≤ a → a ≤ l.length → (fldGo l k a ns).2.2 = 0 → 0 ≤ (fldGo l k a ns).2.1 ∧ (fldGo l k a ns).2.1 ≤ l.length ∧ (fldGo l k a ns).1.length = ns.length + k
  | 0, a, ns, h0, h1, h => ⟨h0, h1, rfl⟩
  | k + 1, a, ns, h0, h1, h => by
    unfold fldGo at h ⊢
    split at h
    · rename_i h2
      exact absurd h h2
    · rename_i h2
      rw [if_neg h2]
      have hd := decV_ok (b := l) (off := a) (by omega)
      split at h
      · simp at h
      · rename_i h3
        rw [if_neg h3]
        have := fldGo_ok l k _ _ (by omega) hd.2.2 h
        simp only [List.length_append, List.length_cons, List.length_nil] at this
        omega
theorem fldF_ok {l : List Int} (h : (fldF l).2.2 = 0) : 0 ≤ (fldF l).2.1 ∧ (fldF l).2.1 ≤ l.length ∧ (fldF l).1.length = 6 := fldGo_ok l 6 0 [] (by omega) (by omega) h
theorem fldGo_small (l : List Int) : ∀ (k : Nat) (a : Int) (ns : List Nat), (∀ n ∈ ns, n ≤ 9223372036854775807) → ∀ n ∈ (fldGo l k a ns).1, n ≤ 9223372036854775807
  | 0, a, ns, h => h
  | k + 1, a, ns, h => by
    unfold fldGo
    split
    · simp
    · split
      · simp
      · rename_i h3
        refine fldGo_small l k _ _ (fun n hn => ?_)
        rcases List.mem_append.1 hn with hn | hn
        · exact h n hn
        · simp at hn
          omega
theorem entE_wf (l : List Int) : WfLE (entE l).1 := by
  have hs : ∀ j, (fldF l).1.getD j 0 ≤ 9223372036854775807 := fun j => by
    by_cases hj : j < (fldF l).1.length
    · have := fldGo_small l 6 0 [] (by simp) _ (List.getElem_mem hj)
      simpa [List.getD, hj] using this
    · simp [List.getD, hj]
  have hz : WfLE zLE := ⟨by decide, by decide, by decide, by decide⟩
  unfold entE
  split
  · exact hz
  · split
    · exact hz
    · split
      · exact hz
      · split
        · have h1 := hs 1
          have h2 := hs 2
          have h3 := hs 3
          have h4 := hs 4
          exact ⟨by simp only [leOf]; omega, by simp only [leOf]; omega, by simp only [leOf]; omega, by simp only [leOf]; omega⟩
        · exact hz
end Go.Proofs.YtehhafnjbkbmjaaGreat.Disk

/- commitlog: fields, the walk. -/
namespace Go.Proofs.YtehhafnjbkbmjaaGreat.Disk
open Go Go.RowKit Go.Proofs.YtehhafnjbkbmjaaGreatW.PrintWords Go.Proofs.YtehhafnjbkbmjaaGreatW.PrintLast Go.Proofs.YtehhafnjbkbmjaaGreatW.PrintMore Go.Proofs.YtehhafnjbkbmjaaGreat.PCommitlogSequence
def arr6 (ns : List Nat) : Array Value := #[.int .i64 (ns.getD 0 0 : Nat), .int .i64 (ns.getD 1 0 : Nat), .int .i64 (ns.getD 2 0 : Nat), .int .i64 (ns.getD 3 0 : Nat), .int .i64 (ns.getD 4 0 : Nat), .int .i64 (ns.getD 5 0 : Nat)]
theorem arr6_set (ns : List Nat) (n : Nat) (h : ns.length < 6) : (arr6 ns).setIfInBounds ns.length (.int .i64 n) = arr6 (ns ++ [n]) := by
  match ns, h with
  | [], _ => rfl
  | [_], _ => rfl
  | [_, _], _ => rfl
  | [_, _, _], _ => rfl
  | [_, _, _, _], _ => rfl
  | [_, _, _, _, _], _ => rfl
theorem drawn_blk {a b : World} {k : Nat} {o : Obj} (hd : Drawn0 a b) (h : a.heap[k]? = some o) : b.heap[k]? = some o := by
  obtain ⟨m, rfl⟩ := hd.out
  exact h
/-- A struct of six cells, stored cell by cell. -/
def set6 (w : World) (b : Nat) (v0 v1 v2 v3 v4 v5 : Value) : World := (((((w.setCell ⟨b, 0, none⟩ v0).setCell ⟨b, 1, none⟩ v1).setCell ⟨b, 2, none⟩ v2).setCell ⟨b, 3, none⟩ v3).setCell ⟨b, 4, none⟩ v4).setCell ⟨b, 5, none⟩ v5
theorem set6_blk {w : World} {b t : Nat} {x0 x1 x2 x3 x4 x5 : Value} {fz : Nat × Nat} (h : w.heap[b]? = some (.cells #[x0, x1, x2, x3, x4, x5] t fz)) (v0 v1 v2 v3 v4 v5 : Value) : (set6 w b v0 v1 v2 v3 v4 v5).heap[b]? = some (.cells #[v0, v1, v2, v3, v4, v5] t fz) :=
  blk_set (blk_set (blk_set (blk_set (blk_set (blk_set h 0 v0) 1 v1) 2 v2) 3 v3) 4 v4) 5 v5
theorem set6_below {w w' : World} {B b : Nat} (h : Below B w w') (hb : B ≤ b) (v0 v1 v2 v3 v4 v5 : Value) : Below B w (set6 w' b v0 v1 v2 v3 v4 v5) :=
  (((((h.setCell hb v0).setCell hb v1).setCell hb v2).setCell hb v3).setCell hb v4).setCell hb v5
def FldRel (w : World) (b g : Nat) (l : List Int) (i a : Value) (wx : World) : Prop :=
  ∃ (ns : List Nat) (at' : Nat), ns.length ≤ 6 ∧ i = .int .i64 ns.length ∧ a = .int .i64 at' ∧ at' ≤ l.length ∧ fldGo l (6 - ns.length) at' ns = fldF l ∧ wx.heap[b]? = some (.cells (leC zLE) tLE (0, 0)) ∧ wx.heap[g]? = some (.cells (arr6 ns) 162 (0, 0)) ∧ Below w.heap.size w wx
set_option maxHeartbeats 4000000 in
set_option maxRecDepth 100000 in
theorem fields_calls (w : World) (A : Option Addr) (c : Nat) (l : List Int) (h : Kd.C kB w A l.length l) (hc : l.length ≤ c) (hl : l.length ≤ 1000000) (hw : ∀ x ∈ l, 0 ≤ x ∧ x ≤ 255) :
    Calls Tryz.prog 100 #[.slice A l.length c] w fun e w' => e = .returned (.tuple #[.agg (leC (entE l).1), .int .i64 (entE l).2]) ∧ Below w.heap.size w w' := by
  have H := Lib.hid h
  have HW := Lib.hid hw
  clear h hw
  go_enter Tryz.func100, Tryz.ntmps100
  go_wp2_with fail
  go_loopw [12, 5] (fun i a wx => FldRel w w.heap.size (w.heap.size + 1) l i a wx) (fun i _ _ => 6 - (intOf i).toNat)
  case atStart => exact ⟨[], 0, by decide, rfl, rfl, Nat.zero_le _, rfl, (Below.heap_alloc _ _ _ (by simp)).trans (heap_alloc_new w _), (by have := heap_alloc_new (w.alloc (.cells (leC zLE) tLE)) (.cells (arr6 []) 162); rwa [show (w.alloc (.cells (leC zLE) tLE)).heap.size = w.heap.size + 1 by simp] at this), (Below.of_alloc' w _).trans ((Below.of_alloc' _ _).mono (by simp))⟩
  case round =>
    obtain ⟨ns, at', hj, rfl, rfl, hat, hgo, hb, hg, hbel⟩ := hrel
    have HGO := Lib.hid hgo
    have HBB := Lib.hid hb
    have HGG := Lib.hid hg
    have HBE := Lib.hid hbel
    clear hgo hb hg hbel
    by_cases hlt : ns.length < 6
    · obtain ⟨r, hr⟩ : ∃ r, r = decV l at' := ⟨_, rfl⟩
      have HR := Lib.hid hr
      have HDF := Lib.hid (dec_f l (by omega) HW.out at' 31 (by decide))
      rw [← hr] at HDF
      clear hr
      obtain ⟨v1, v2, v3⟩ := r
      have HC := Lib.hid (Kd.C_below H.out HBE.out)
      by_cases h3 : v3 = 0
      · subst h3
        have hok := decV_ok (b := l) (off := at') (by rw [← HR.out])
        rw [← HR.out] at hok
        simp only at hok
        by_cases h63 : 9223372036854775807 < v1
        · have e63 : decide ((9223372036854775807 : Int) < (v1 : Int)) = true := by simp; omega
          have HEQ := Lib.hid (show entE l = (zLE, 6) by
            have : fldF l = ([], 0, 6) := by
              rw [← HGO.out, show 6 - ns.length = (5 - ns.length) + 1 by omega]
              unfold fldGo
              rw [← HR.out, if_neg (by simp), if_pos h63]
            unfold entE
            rw [this, if_pos (by simp)])
          clear h63 hok
          go_wp2_with (first
            | (go_at_call 98; refine (varint_Decode.calls 31 A c l at' v1 v2 0 _ HC.out hc HDF.out).mono ?_; rintro e w2 ⟨rfl, hd⟩; have HD := Lib.hid hd; have hz := drawn_blk hd HBB.out; have HZ := Lib.hid hz; obtain ⟨z0, z1, z2, z3, z4, z5⟩ := six_le hz; have hfz := fun j => frozen_blk hz j; clear hd hz)
            | fail)
          have hE : (entE l) = (zLE, 6) := HEQ.out
          rw [hE]
          exact bodyPost_ret (results_ct rfl _ _ w.heap.size tLE _ (0, 0) _ rfl (set6_blk HZ.out _ _ _ _ _ _) Tryz.underlying46 rfl (by kernel_rfl)) rfl ⟨rfl, set6_below (HBE.out.trans ((fr_below ((Fr.refl (fun _ => False) _).drawn HD.out)).mono HBE.out.size)) (Nat.le_refl _) _ _ _ _ _ _⟩
        · have e63 : decide ((9223372036854775807 : Int) < (v1 : Int)) = false := by simp; omega
          have hv1 : (v1 : Int) ≤ 9223372036854775807 := by omega
          obtain ⟨n2, hn2⟩ : ∃ n2 : Nat, v2 = n2 := ⟨v2.toNat, by omega⟩
          subst hn2
          have HNX := Lib.hid (show fldGo l (6 - (ns ++ [v1]).length) n2 (ns ++ [v1]) = fldF l by
            rw [← HGO.out, show 6 - ns.length = (5 - ns.length) + 1 by omega]
            conv => rhs; unfold fldGo
            rw [← HR.out, if_neg (by simp), if_neg h63, List.length_append, List.length_singleton, show 6 - (ns.length + 1) = 5 - ns.length by omega])
          have hn2l : n2 ≤ l.length := by omega
          have HSET := Lib.hid (arr6_set ns v1 hlt)
          have HSZ := Lib.hid (show (arr6 ns).size = 6 from rfl)
          have hlt6 : (ns.length : Int) < 6 := by omega
          clear h63 hok
          go_wp2_with (first
            | (go_at_call 98; refine (varint_Decode.calls 31 A c l at' v1 n2 0 _ HC.out hc HDF.out).mono ?_; rintro e w2 ⟨rfl, hd⟩; have HD := Lib.hid hd; have HZ := Lib.hid (drawn_blk hd HBB.out); have hg2 := drawn_blk hd HGG.out; have HG2 := Lib.hid hg2; have hgf := frozen_blk hg2 ns.length; obtain ⟨old, hgc⟩ : ∃ old, w2.cell? ⟨w.heap.size + 1, ns.length, none⟩ = some old := ⟨(arr6 ns)[ns.length]'(by rw [HSZ.out]; exact hlt), by rw [cell_blk hg2]; exact Array.getElem?_eq_getElem _⟩; clear hd hg2)
            | fail)
          go_roundw
          case rel => exact ⟨ns ++ [v1], n2, by simp; omega, by simp, rfl, hn2l, HNX.out, blk_set_other HZ.out (p := ⟨w.heap.size + 1, ns.length, none⟩) (by simp) _, by rw [← HSET.out]; exact blk_set HG2.out ns.length _, (HBE.out.trans ((fr_below ((Fr.refl (fun _ => False) _).drawn HD.out)).mono HBE.out.size)).setCell (by simp) _⟩
          case measure => simp [intOf]; omega
      · have e3 : (v3 != 0) = true := by rw [bne_iff_ne]; exact h3
        have HEQ := Lib.hid (show entE l = (zLE, v3) by
          have : fldF l = ([], 0, v3) := by
            rw [← HGO.out, show 6 - ns.length = (5 - ns.length) + 1 by omega]
            unfold fldGo
            rw [← HR.out, if_pos h3]
          unfold entE
          rw [this, if_pos h3])
        clear h3
        go_wp2_with (first
          | (go_at_call 98; refine (varint_Decode.calls 31 A c l at' v1 v2 v3 _ HC.out hc HDF.out).mono ?_; rintro e w2 ⟨rfl, hd⟩; have HD := Lib.hid hd; have hz := drawn_blk hd HBB.out; have HZ := Lib.hid hz; obtain ⟨z0, z1, z2, z3, z4, z5⟩ := six_le hz; have hfz := fun j => frozen_blk hz j; clear hd hz)
          | fail)
        have hE : (entE l) = (zLE, v3) := HEQ.out
        rw [hE]
        exact bodyPost_ret (results_ct rfl _ _ w.heap.size tLE _ (0, 0) _ rfl (set6_blk HZ.out _ _ _ _ _ _) Tryz.underlying46 rfl (by kernel_rfl)) rfl ⟨rfl, set6_below (HBE.out.trans ((fr_below ((Fr.refl (fun _ => False) _).drawn HD.out)).mono HBE.out.size)) (Nat.le_refl _) _ _ _ _ _ _⟩
    · have hns : ns.length = 6 := by omega
      have HF := Lib.hid (show fldF l = (ns, (at' : Int), 0) by rw [← HGO.out, hns]; rfl)
      obtain ⟨n0, n1, n2, n3, n4, n5, rfl⟩ : ∃ n0 n1 n2 n3 n4 n5, ns = [n0, n1, n2, n3, n4, n5] := by
        match ns, hns with
        | [a, b, c, d, e, f], _ => exact ⟨a, b, c, d, e, f, rfl⟩
      clear hlt hns hj
      obtain ⟨z0, z1, z2, z3, z4, z5⟩ := six_le HBB.out
      have hfz := fun j => frozen_blk HBB.out j
      have g0 : wr.cell? ⟨w.heap.size + 1, 0, none⟩ = some (.int .i64 n0) := cell_blk HGG.out 0
      have g1 : wr.cell? ⟨w.heap.size + 1, 1, none⟩ = some (.int .i64 n1) := cell_blk HGG.out 1
      have g2 : wr.cell? ⟨w.heap.size + 1, 2, none⟩ = some (.int .i64 n2) := cell_blk HGG.out 2
      have g3 : wr.cell? ⟨w.heap.size + 1, 3, none⟩ = some (.int .i64 n3) := cell_blk HGG.out 3
      have g4 : wr.cell? ⟨w.heap.size + 1, 4, none⟩ = some (.int .i64 n4) := cell_blk HGG.out 4
      have g5 : wr.cell? ⟨w.heap.size + 1, 5, none⟩ = some (.int .i64 n5) := cell_blk HGG.out 5
      by_cases hs : (l.length : Int) - (at' : Int) < (n5 : Int)
      · have t5 : decide ((l.length : Int) - (at' : Int) < (n5 : Int)) = true := by simpa using hs
        have HEQ := Lib.hid (show entE l = (zLE, 2) by
          unfold entE
          rw [HF.out, if_neg (by simp), if_pos (by exact hs)])
        clear hs
        go_wp2_with fail
        have hE : (entE l) = (zLE, 2) := HEQ.out
        rw [hE]
        exact bodyPost_ret (results_ct rfl _ _ w.heap.size tLE _ (0, 0) _ rfl (set6_blk HBB.out _ _ _ _ _ _) Tryz.underlying46 rfl (by kernel_rfl)) rfl ⟨rfl, set6_below HBE.out (Nat.le_refl _) _ _ _ _ _ _⟩
      · have t5 : decide ((l.length : Int) - (at' : Int) < (n5 : Int)) = false := by simpa using hs
        by_cases hs2 : (n5 : Int) < (l.length : Int) - (at' : Int)
        · have t6 : decide ((n5 : Int) < (l.length : Int) - (at' : Int)) = true := by simpa using hs2
          have HEQ := Lib.hid (show entE l = (zLE, 3) by
            unfold entE
            rw [HF.out, if_neg (by simp), if_neg (by exact hs), if_pos (by exact hs2)])
          clear hs hs2
          go_wp2_with fail
          have hE : (entE l) = (zLE, 3) := HEQ.out
          rw [hE]
          exact bodyPost_ret (results_ct rfl _ _ w.heap.size tLE _ (0, 0) _ rfl (set6_blk HBB.out _ _ _ _ _ _) Tryz.underlying46 rfl (by kernel_rfl)) rfl ⟨rfl, set6_below HBE.out (Nat.le_refl _) _ _ _ _ _ _⟩
        · have t6 : decide ((n5 : Int) < (l.length : Int) - (at' : Int)) = false := by simpa using hs2
          obtain ⟨s, hs5⟩ : ∃ s, s = strOfNums (l.drop at') := ⟨_, rfl⟩
          have HEQ := Lib.hid (show entE l = if validB ⟨n0, n1, n2, n3, n4, s⟩ then (⟨n0, n1, n2, n3, n4, s⟩, 0) else (zLE, 4) by
            unfold entE
            rw [HF.out, if_neg (by simp), if_neg (by exact hs), if_neg (by exact hs2), hs5]
            rfl)
          have HC := Lib.hid (Kd.C_below H.out HBE.out)
          obtain ⟨i0, hi, hz0, hz1, hz2⟩ := info_parts infoB
          obtain ⟨A5, hsl, hrd, hcap⟩ := print_drop_of (P := Tryz.prog) (Value.int .u8) (0 : Int) 36 5 .i64 Tryz.underlying36 hi hz1 A c l at' (by omega) (by omega) hc
          rw [Int.toNat_natCast] at hsl hrd hcap
          have hcvb : ∀ w2 : World, Below wr.heap.size wr w2 → (convert 36 9 (.slice A5 (l.drop at').length (c - at'))).run Tryz.prog w2 = .ok (.string s) w2 := fun w2 hbb => by
            rw [hs5]
            exact Kd.C_string Tryz.underlying36 Tryz.underlying5 Tryz.underlying9 (Kd.C_below (C_of_reads (hrd _ (reads_of_C HC.out))) hbb)
          rw [List.length_drop] at hcvb
          have hS : ∀ w2 : World, Below wr.heap.size wr w2 → (convert 36 9 (.slice A5 (l.length - at') (c - at'))).run Tryz.prog w2 = .ok (.string s) w2 ∧ w2.cell? ⟨w.heap.size + 1, 1, none⟩ = some (.int .i64 n1) ∧ w2.cell? ⟨w.heap.size + 1, 2, none⟩ = some (.int .i64 n2) ∧ w2.cell? ⟨w.heap.size + 1, 3, none⟩ = some (.int .i64 n3) ∧ w2.cell? ⟨w.heap.size + 1, 4, none⟩ = some (.int .i64 n4) := fun w2 hbb => ⟨hcvb w2 hbb, cell_below hbb g1, cell_below hbb g2, cell_below hbb g3, cell_below hbb g4⟩
          have hS0 := hS _ (Below.refl _ wr)
          have hS1 := fun m => hS _ (fr_below ((Fr.refl (fun _ => False) wr).drewN m))
          have hS2 := fun o => hS _ ((Below.of_alloc' wr o).trans ((fr_below ((Fr.refl (fun _ => False) (wr.alloc o)).drewN 1)).mono (Below.of_alloc' wr o).size))
          rw [List.length_drop] at hsl
          clear hs hs2 hs5 hrd hi hz0 hz1 hz2
          go_upto_region 18 with (fail)
          go_outline
          go_region_held3 (fun w' => (convert 36 9 (.slice A5 (l.length - at') (c - at'))).run Tryz.prog w' = .ok (.string s) w' ∧ w'.cell? ⟨w.heap.size + 1, 1, none⟩ = some (.int .i64 n1) ∧ w'.cell? ⟨w.heap.size + 1, 2, none⟩ = some (.int .i64 n2) ∧ w'.cell? ⟨w.heap.size + 1, 3, none⟩ = some (.int .i64 n3) ∧ w'.cell? ⟨w.heap.size + 1, 4, none⟩ = some (.int .i64 n4))
            (first | exact hS0 | exact hS1 _ | exact hS2 _) (fail)
          clear hS hS0 hS1 hS2 hcvb hsl
          generalize hwz : (wr.alloc (.cells #[.int .i64 0, .int .i64 n1, .int .i64 n2, .int .i64 n3, .int .i64 n4, .string s] tLE)).drew = wz
          have hbz : Below wr.heap.size wr wz := by
            rw [← hwz]
            exact (Below.of_alloc' wr _).trans ((fr_below ((Fr.refl (fun _ => False) (wr.alloc (.cells #[.int .i64 0, .int .i64 n1, .int .i64 n2, .int .i64 n3, .int .i64 n4, .string s] tLE))).drewN 1)).mono (Below.of_alloc' wr _).size)
          have hnz : wz.heap[wr.heap.size]? = some (.cells #[.int .i64 0, .int .i64 n1, .int .i64 n2, .int .i64 n3, .int .i64 n4, .string s] tLE (0, 0)) := by
            rw [← hwz]
            exact heap_alloc_new wr _
          have HWB := Lib.hid ((HBE.out.trans (hbz.mono HBE.out.size)))
          have HZB := Lib.hid (show wz.heap[w.heap.size]? = some (.cells (leC zLE) tLE (0, 0)) from (hbz.block _ (lt_blk HBB.out)).trans HBB.out)
          have HNB := Lib.hid hnz
          have hne : w.heap.size ≠ wr.heap.size := by have := lt_blk HBB.out; omega
          replace g0 := cell_below hbz g0
          clear z0 z1 z2 z3 z4 z5 hfz g1 g2 g3 g4 g5 hwz hbz hnz t5 t6 hat
          obtain ⟨z0, z1, z2, z3, z4, z5⟩ := six_le HZB.out
          have hfz := fun j => frozen_blk HZB.out j
          have y0 := cell_blk HNB.out 0
          have y1 := cell_blk HNB.out 1
          have y2 := cell_blk HNB.out 2
          have y3 := cell_blk HNB.out 3
          have y4 := cell_blk HNB.out 4
          have y5 := cell_blk HNB.out 5
          have yf := fun j => frozen_blk HNB.out j
          simp at y0 y1 y2 y3 y4 y5
          by_cases h7 : (7 : Int) < n0
          · have t7 : decide ((7 : Int) < (n0 : Int)) = true := by simpa using h7
            have hE : (entE l) = (zLE, 4) := by
              rw [HEQ.out, if_neg]
              intro h
              simp only [validB, rangeB, Bool.and_eq_true, decide_eq_true_eq] at h
              omega
            clear h7 HEQ
            go_wp2_with fail
            rw [hE]
            exact bodyPost_ret (results_ct rfl _ _ w.heap.size tLE _ (0, 0) _ rfl (set6_blk HZB.out _ _ _ _ _ _) Tryz.underlying46 rfl (by kernel_rfl)) rfl ⟨rfl, set6_below HWB.out (Nat.le_refl _) _ _ _ _ _ _⟩
          · have t7 : decide ((7 : Int) < (n0 : Int)) = false := by simpa using h7
            clear h7
            have hws : wz.setCell ⟨wr.heap.size, 0, none⟩ (.int .i64 n0) = wz.setCell ⟨wr.heap.size, 0, none⟩ (.int .i64 n0) := rfl
            have HZS := Lib.hid (show (wz.setCell ⟨wr.heap.size, 0, none⟩ (.int .i64 n0)).heap[w.heap.size]? = some (.cells (leC zLE) tLE (0, 0)) from blk_set_other HZB.out (p := ⟨wr.heap.size, 0, none⟩) hne _)
            have HNS := Lib.hid (show (wz.setCell ⟨wr.heap.size, 0, none⟩ (.int .i64 n0)).heap[wr.heap.size]? = some (.cells (leC ⟨n0, n1, n2, n3, n4, s⟩) tLE (0, 0)) from blk_set HNB.out 0 _)
            have HBS := Lib.hid (show Below w.heap.size w (wz.setCell ⟨wr.heap.size, 0, none⟩ (.int .i64 n0)) from HWB.out.setCell HBE.out.size _)
            clear hws
            by_cases hv : validB ⟨n0, n1, n2, n3, n4, s⟩ = true
            · have HE := Lib.hid (show entE l = (⟨n0, n1, n2, n3, n4, s⟩, 0) by rw [HEQ.out, if_pos hv])
              clear HEQ
              go_wp2_with (first
                | (go_at_call 93; refine (valid_calls _ n0 n1 n2 n3 n4 s).mono ?_; rintro e w2 ⟨rfl, hb2⟩; rw [hv]; have HWE := Lib.hid (HBS.out.trans (hb2.mono HBS.out.size)); have hz := (hb2.block _ (lt_blk HZS.out)).trans HZS.out; have hn := (hb2.block _ (lt_blk HNS.out)).trans HNS.out; have HZ2 := Lib.hid hz; obtain ⟨x0, x1, x2, x3, x4, x5⟩ := six_le hz; obtain ⟨p0, p1, p2, p3, p4, p5⟩ := six_le hn; have xf := fun j => frozen_blk hz j; clear hb2 hz hn)
                | fail)
              rw [HE.out]
              exact bodyPost_ret (results_ct rfl _ _ w.heap.size tLE _ (0, 0) _ rfl (set6_blk HZ2.out _ _ _ _ _ _) Tryz.underlying46 rfl (by kernel_rfl)) rfl ⟨rfl, set6_below HWE.out (Nat.le_refl _) _ _ _ _ _ _⟩
            · have hv' : validB ⟨n0, n1, n2, n3, n4, s⟩ = false := by simpa using hv
              have HE := Lib.hid (show (entE l) = (zLE, 4) by
                rw [HEQ.out, if_neg hv])
              clear HEQ hv
              go_wp2_with (first
                | (go_at_call 93; refine (valid_calls _ n0 n1 n2 n3 n4 s).mono ?_; rintro e w2 ⟨rfl, hb2⟩; rw [hv']; have HWE := Lib.hid (HBS.out.trans (hb2.mono HBS.out.size)); have hz := (hb2.block _ (lt_blk HZS.out)).trans HZS.out; have HZ2 := Lib.hid hz; obtain ⟨x0, x1, x2, x3, x4, x5⟩ := six_le hz; have xf := fun j => frozen_blk hz j; clear hb2 hz)
                | fail)
              rw [HE.out]
              exact bodyPost_ret (results_ct rfl _ _ w.heap.size tLE _ (0, 0) _ rfl (set6_blk HZ2.out _ _ _ _ _ _) Tryz.underlying46 rfl (by kernel_rfl)) rfl ⟨rfl, set6_below HWE.out (Nat.le_refl _) _ _ _ _ _ _⟩
end Go.Proofs.YtehhafnjbkbmjaaGreat.Disk

/- commitlog: Decode, the walk. -/
namespace Go.Proofs.YtehhafnjbkbmjaaGreat.Disk
open Go Go.RowKit Go.Proofs.YtehhafnjbkbmjaaGreatW.PrintWords Go.Proofs.YtehhafnjbkbmjaaGreatW.PrintLast Go.Proofs.YtehhafnjbkbmjaaGreatW.PrintMore Go.Proofs.YtehhafnjbkbmjaaGreat.PCommitlogSequence
theorem blk_alloc {w : World} {b : Nat} {o o' : Obj} (h : w.heap[b]? = some o) : (w.alloc o').heap[b]? = some o := ((Below.of_alloc' w o').block _ (lt_blk h)).trans h
set_option maxHeartbeats 1000000 in
set_option maxRecDepth 100000 in
theorem ReadFixed_at (w : World) (A : Option Addr) (c : Nat) (l : List Int) (o : Nat) (h : Kd.C kB w A l.length l) (hl : l.length ≤ 1099511627776) (hw : ∀ x ∈ l, 0 ≤ x ∧ x ≤ 255) (ho : o + 4 ≤ l.length) :
    Calls Tryz.prog 99 #[.slice A l.length c, .int .i64 o, .int .i64 4] w fun e w' => e = .returned (.tuple #[.int .u64 (valN l o 4), .int .i64 0]) ∧ w = w' := by
  have H := Lib.hid h
  have HW := Lib.hid hw
  have HBY := Lib.hid (byteN_lt hw)
  clear h hw
  go_enter Tryz.func99, Tryz.ntmps99
  go_wp2
  go_loopw [33, 8] (fun i v wx => RfRel w l o i v wx) (fun i _ _ => 4 - (intOf i).toNat)
  case atStart => exact ⟨0, by omega, rfl, rfl, rfl⟩
  case round =>
    obtain ⟨j, hj, rfl, rfl, rfl⟩ := hrel
    by_cases hlt : j < 4
    · have hol : o + j < l.length := by omega
      obtain ⟨ad, hA, q0⟩ := byte_cell H.out (o + j) hol
      subst hA
      have hx := HW.out _ (List.getElem_mem hol)
      obtain ⟨x, hxe⟩ : ∃ x : Nat, l[o + j] = (x : Int) := ⟨l[o + j].toNat, by omega⟩
      have hB : byteN l (o + j) = x := by simp [byteN, List.getD, hol, hxe]
      rw [hxe] at q0 hx
      have HB := Lib.hid hB
      clear hxe hB
      obtain rfl | rfl | rfl | rfl : j = 0 ∨ j = 1 ∨ j = 2 ∨ j = 3 := by omega
      · rw [Nat.add_zero] at q0 HB
        go_wp2
        go_roundw
        case rel => exact ⟨1, by omega, rfl, by congr 1; have e := or_step 0 (valN l o 0) x (valN_lt HBY.out 0 (by omega)) (by omega) (by omega); simp only [Nat.pow_zero, Nat.mul_one] at e; rw [e, valN_succ l o 0 (by omega), Nat.add_zero, HB.out]; simp, rfl⟩
        case measure => simp [intOf]
      · rw [Addr.add_succ'] at q0
        go_wp2
        go_roundw
        case rel => exact ⟨2, by omega, rfl, by congr 1; exact (or_step3 8 256 (valN l o 1) x (by decide) (valN_lt HBY.out 1 (by omega)) (by omega) (by omega)).trans (by rw [valN_succ l o 1 (by omega), HB.out]), rfl⟩
        case measure => simp [intOf]
      · rw [show o + 2 = (o + 1) + 1 from rfl, Addr.add_succ'] at q0
        go_wp2
        go_roundw
        case rel => exact ⟨3, by omega, rfl, by congr 1; exact (or_step3 16 65536 (valN l o 2) x (by decide) (valN_lt HBY.out 2 (by omega)) (by omega) (by omega)).trans (by rw [valN_succ l o 2 (by omega), HB.out]), rfl⟩
        case measure => simp [intOf]
      · rw [show o + 3 = (o + 2) + 1 from rfl, Addr.add_succ'] at q0
        go_wp2
        go_roundw
        case rel => exact ⟨4, by omega, rfl, by congr 1; exact (or_step3 24 16777216 (valN l o 3) x (by decide) (valN_lt HBY.out 3 (by omega)) (by omega) (by omega)).trans (by rw [valN_succ l o 3 (by omega), HB.out]), rfl⟩
        case measure => simp [intOf]
    · obtain rfl : j = 4 := by omega
      go_wp2
      go_ret2
      exact ⟨rfl, rfl⟩

set_option maxHeartbeats 4000000 in
set_option maxRecDepth 100000 in
theorem Dec_calls (w : World) (A : Option Addr) (c : Nat) (l : List Int) (off : Int) (h : Kd.C kB w A l.length l) (hc : l.length ≤ c) (hl : l.length ≤ 1000000) (hw : ∀ x ∈ l, 0 ≤ x ∧ x ≤ 255) :
    Calls Tryz.prog 41 #[.slice A l.length c, .int .i64 off] w fun e w' => e = .returned (.tuple #[.agg (leC (decE l off).1), .int .i64 (decE l off).2.1, .int .i64 (decE l off).2.2]) ∧ Below w.heap.size w w' := by
  have HC := Lib.hid (Kd.C_below h (Below.of_alloc' w (.cells (leC zLE) tLE)))
  have HW := Lib.hid hw
  have H0 := Lib.hid (heap_alloc_new w (.cells (leC zLE) tLE))
  have HDF := Lib.hid (dec_f l (by omega) hw off 31 (by decide))
  have HD := Lib.hid (show decE l off = decE l off from rfl)
  obtain ⟨d, hd⟩ : ∃ d, d = decE l off := ⟨_, rfl⟩
  rw [← hd]
  have HE := Lib.hid hd
  unfold decE at hd
  obtain ⟨r, hr⟩ : ∃ r, r = decV l off := ⟨_, rfl⟩
  have HOK := Lib.hid (show r.2.2 = 0 → 0 ≤ off ∧ off < r.2.1 ∧ r.2.1 ≤ l.length by rw [hr]; exact decV_ok)
  rw [← hr] at hd HDF
  clear hr HD HE h hw
  obtain ⟨v1, v2, v3⟩ := r
  simp only at hd HDF
  by_cases h3 : v3 = 0
  · subst h3
    rw [if_neg (by simp)] at hd
    obtain ⟨o1, o2, o3⟩ := HOK.out rfl
    simp only at o2 o3
    obtain ⟨a, rfl⟩ : ∃ a : Nat, v2 = a := ⟨v2.toNat, by omega⟩
    clear HOK
    by_cases h256 : 256 < v1
    · rw [if_pos h256] at hd
      subst hd
      have t256 : decide ((256 : Int) < (v1 : Int)) = true := by simp; omega
      clear h256
      go_enter Tryz.func41, Tryz.ntmps41
      go_wp2_with (first
        | (go_at_call 98; refine (varint_Decode.calls 31 A c l off v1 a 0 _ HC.out hc HDF.out).mono ?_; rintro e w2 ⟨rfl, hd⟩; have HBD := Lib.hid (fr_below ((Fr.refl (fun _ => False) _).drawn hd)); have HBE := Lib.hid ((Below.of_alloc' w _).trans (HBD.out.mono (by simp))); have hz := drawn_blk hd H0.out; have HZ := Lib.hid hz; obtain ⟨z0, z1, z2, z3, z4, z5⟩ := six_le hz; have hfz := fun j => frozen_blk hz j; clear hd hz)
        | fail)
      exact bodyPost_ret (results_ctt rfl _ _ w.heap.size tLE _ (0, 0) _ rfl (set6_blk HZ.out _ _ _ _ _ _) Tryz.underlying46 rfl (by kernel_rfl)) rfl ⟨rfl, set6_below HBE.out (Nat.le_refl _) _ _ _ _ _ _⟩
    · rw [if_neg h256] at hd
      have t256 : decide ((256 : Int) < (v1 : Int)) = false := by simp; omega
      have v1n : v1 ≤ 256 := by omega
      have c1 : (v1 : Int) ≤ 9223372036854775807 := by omega
      clear h256
      by_cases hsh : (l.length : Int) - (a : Int) < (v1 : Int) + 4
      · rw [if_pos hsh] at hd
        subst hd
        have tsh : decide ((l.length : Int) - (a : Int) < (v1 : Int) + 4) = true := by simpa using hsh
        clear hsh
        go_enter Tryz.func41, Tryz.ntmps41
        go_wp2_with (first
          | (go_at_call 98; refine (varint_Decode.calls 31 A c l off v1 a 0 _ HC.out hc HDF.out).mono ?_; rintro e w2 ⟨rfl, hd⟩; have HBD := Lib.hid (fr_below ((Fr.refl (fun _ => False) _).drawn hd)); have HBE := Lib.hid ((Below.of_alloc' w _).trans (HBD.out.mono (by simp))); have hz := drawn_blk hd H0.out; have HZ := Lib.hid hz; obtain ⟨z0, z1, z2, z3, z4, z5⟩ := six_le hz; have hfz := fun j => frozen_blk hz j; clear hd hz)
          | fail)
        exact bodyPost_ret (results_ctt rfl _ _ w.heap.size tLE _ (0, 0) _ rfl (set6_blk HZ.out _ _ _ _ _ _) Tryz.underlying46 rfl (by kernel_rfl)) rfl ⟨rfl, set6_below HBE.out (Nat.le_refl _) _ _ _ _ _ _⟩
      · rw [if_neg hsh] at hd
        have tsh : decide ((l.length : Int) - (a : Int) < (v1 : Int) + 4) = false := by simpa using hsh
        have hle : a + v1 + 4 ≤ l.length := by omega
        have HLE := Lib.hid hle
        simp only [Int.toNat_natCast] at hd
        obtain ⟨m, hm⟩ : ∃ m, m = (l.drop a).take v1 := ⟨_, rfl⟩
        rw [← hm] at hd
        have hm2 : (l.take (a + v1)).drop a = m := by rw [hm, List.drop_take, Nat.add_sub_cancel_left]
        have hml : m.length = v1 := by rw [hm]; simp; omega
        have HMW := Lib.hid (show ∀ x ∈ m, 0 ≤ x ∧ x ≤ 255 from fun x hx => HW.out x (by rw [hm] at hx; exact List.mem_of_mem_drop (List.mem_of_mem_take hx)))
        obtain ⟨i0, hi, hz0, hz1, hz2⟩ := info_parts infoB
        obtain ⟨A5, hsl, hrd, hcap⟩ := print_mid_of (P := Tryz.prog) (Value.int .u8) (0 : Int) 36 5 .i64 .i64 Tryz.underlying36 hi hz1 A c l a (a + v1 : Nat) (by omega) (by omega) (by omega) hc
        simp only [Int.toNat_natCast] at hsl hrd hcap
        rw [hm2] at hsl hrd hcap
        rw [Int.natCast_add] at hsl
        have HRD := Lib.hid hrd
        have HML := Lib.hid hml
        have HRF := Lib.hid (show ∀ wx : World, Kd.C kB wx A l.length l → Calls Tryz.prog 99 #[.slice A l.length c, .int .i64 ((a : Int) + (v1 : Int)), .int .i64 4] wx fun e w' => e = .returned (.tuple #[.int .u64 (valN l (a + v1) 4), .int .i64 0]) ∧ wx = w' from fun wx hx => by
          have := ReadFixed_at wx A c l (a + v1) hx (by omega) HW.out HLE.out
          rw [Int.natCast_add] at this
          exact this)
        obtain ⟨n1, hn1⟩ : ∃ n1, n1 = crcF m := ⟨_, rfl⟩
        obtain ⟨n2, hn2⟩ : ∃ n2, n2 = valN l (a + v1) 4 := ⟨_, rfl⟩
        rw [← hn1, ← hn2] at hd
        have HN1 := Lib.hid hn1
        have HN2 := Lib.hid hn2
        have hn32 : n1 < 4294967296 := by rw [hn1]; exact crcF_lt HMW.out
        have hwr : IntKind.u64.wrap (n1 : Int) = (n1 : Int) := by rw [IntKind.wrap_u64]; omega
        clear hn1 hn2 hm hm2 hml hrd hi hz0 hz1 hz2 hle hsh
        by_cases hq : n1 ≠ n2
        · rw [if_pos hq] at hd
          subst hd
          have hbb : ((n1 : Int) != (n2 : Int)) = true := by simp; omega
          clear hq
          go_enter Tryz.func41, Tryz.ntmps41
          go_wp2_with (first
            | (go_at_call 98; refine (varint_Decode.calls 31 A c l off v1 a 0 _ HC.out hc HDF.out).mono ?_; rintro e w2 ⟨rfl, hd⟩; have HBD := Lib.hid (fr_below ((Fr.refl (fun _ => False) _).drawn hd)); have HBE := Lib.hid ((Below.of_alloc' w _).trans (HBD.out.mono (by simp))); have hz := drawn_blk hd H0.out; have HZ := Lib.hid hz; obtain ⟨z0, z1, z2, z3, z4, z5⟩ := six_le hz; have hfz := fun j => frozen_blk hz j; clear hd hz)
            | (go_at_call 99; refine (HRF.out _ (Kd.C_below HC.out HBD.out)).mono ?_; rw [← HN2.out]; rintro e w3 ⟨rfl, rfl⟩)
            | (go_at_call 97; refine (CRC_calls _ w2.heap.size 1 A5 (c - a) m (cell_blk (heap_alloc_new w2 _) 0) (Kd.C_below (C_of_reads (HRD.out _ (reads_of_C (Kd.C_below HC.out HBD.out)))) (Below.of_alloc' w2 _)) (by rw [HML.out]; omega) HMW.out).mono ?_; rw [← HN1.out]; rintro e w4 ⟨rfl, hb⟩; have hb4 := (Below.of_alloc' w2 _).trans (hb.mono (by simp)); have HB4 := Lib.hid (HBE.out.trans (hb4.mono HBE.out.size)); have HC4 := Lib.hid (Kd.C_below (Kd.C_below HC.out HBD.out) hb4); have hz := (hb4.block _ (lt_blk HZ.out)).trans HZ.out; have HZ4 := Lib.hid hz; clear z0 z1 z2 z3 z4 z5 hfz; obtain ⟨z0, z1, z2, z3, z4, z5⟩ := six_le hz; have hfz := fun j => frozen_blk hz j; clear hb hb4 hz)
            | fail)
          exact bodyPost_ret (results_ctt rfl _ _ w.heap.size tLE _ (0, 0) _ rfl (set6_blk HZ4.out _ _ _ _ _ _) Tryz.underlying46 rfl (by kernel_rfl)) rfl ⟨rfl, set6_below HB4.out (Nat.le_refl _) _ _ _ _ _ _⟩
        · rw [if_neg hq] at hd
          have hbb : ((n1 : Int) != (n2 : Int)) = false := by simp; omega
          clear hq
          obtain ⟨en, hen⟩ : ∃ en, en = entE m := ⟨_, rfl⟩
          rw [← hen] at hd
          have HEN := Lib.hid hen.symm
          clear hen
          obtain ⟨⟨e0, e1, e2, e3, e4, e5⟩, er⟩ := en
          simp only at hd
          have HLX := Lib.hid (show leC (((⟨e0, e1, e2, e3, e4, e5⟩ : LE), er) : LE × Int).1 = #[.int .i64 e0, .int .i64 e1, .int .i64 e2, .int .i64 e3, .int .i64 e4, .string e5] from rfl)
          by_cases her : er ≠ 0
          · rw [if_pos her] at hd
            subst hd
            have ter : (er != 0) = true := by rw [bne_iff_ne]; exact her
            clear her
            go_enter Tryz.func41, Tryz.ntmps41
            go_wp2_with (first
              | (go_at_call 98; refine (varint_Decode.calls 31 A c l off v1 a 0 _ HC.out hc HDF.out).mono ?_; rintro e w2 ⟨rfl, hd⟩; have HBD := Lib.hid (fr_below ((Fr.refl (fun _ => False) _).drawn hd)); have HBE := Lib.hid ((Below.of_alloc' w _).trans (HBD.out.mono (by simp))); have hz := drawn_blk hd H0.out; have HZ := Lib.hid hz; obtain ⟨z0, z1, z2, z3, z4, z5⟩ := six_le hz; have hfz := fun j => frozen_blk hz j; clear hd hz)
              | (go_at_call 99; refine (HRF.out _ (Kd.C_below HC.out HBD.out)).mono ?_; rw [← HN2.out]; rintro e w3 ⟨rfl, rfl⟩)
              | (go_at_call 97; refine (CRC_calls _ w2.heap.size 1 A5 (c - a) m (cell_blk (heap_alloc_new w2 _) 0) (Kd.C_below (C_of_reads (HRD.out _ (reads_of_C (Kd.C_below HC.out HBD.out)))) (Below.of_alloc' w2 _)) (by rw [HML.out]; omega) HMW.out).mono ?_; rw [← HN1.out]; rintro e w4 ⟨rfl, hb⟩; have hb4 := (Below.of_alloc' w2 _).trans (hb.mono (by simp)); have HB4 := Lib.hid (HBE.out.trans (hb4.mono HBE.out.size)); have HC4 := Lib.hid (Kd.C_below (Kd.C_below HC.out HBD.out) hb4); have hz := (hb4.block _ (lt_blk HZ.out)).trans HZ.out; have HZ4 := Lib.hid hz; clear z0 z1 z2 z3 z4 z5 hfz; obtain ⟨z0, z1, z2, z3, z4, z5⟩ := six_le hz; have hfz := fun j => frozen_blk hz j; clear hb hb4 hz)
              | (go_at_call 100; refine (fields_calls _ A5 (c - a) m (C_of_reads (HRD.out _ (reads_of_C HC4.out))) (by omega) (by rw [HML.out]; omega) HMW.out).mono ?_; rw [HEN.out, HLX.out]; rintro e w5 ⟨rfl, hb⟩; have hlt5 := Nat.lt_of_lt_of_le (lt_blk HZ4.out) hb.size; have HB5 := Lib.hid (HB4.out.trans (hb.mono HB4.out.size)); have hz := (hb.block _ (lt_blk HZ4.out)).trans HZ4.out; have HZ5 := Lib.hid hz; clear z0 z1 z2 z3 z4 z5 hfz; obtain ⟨z0, z1, z2, z3, z4, z5⟩ := six_le hz; have hfz := fun j => frozen_blk hz j; clear hb hz)
              | fail)
            have hb5 := blk_alloc (o' := .cells #[.int .i64 e0, .int .i64 e1, .int .i64 e2, .int .i64 e3, .int .i64 e4, .string e5] tLE) (set6_blk HZ5.out (.int .i64 0) (.int .i64 0) (.int .i64 0) (.int .i64 0) (.int .i64 0) (.string ⟨#[]⟩))
            have hbb5 := set6_below HB5.out (Nat.le_refl _) (.int .i64 0) (.int .i64 0) (.int .i64 0) (.int .i64 0) (.int .i64 0) (.string ⟨#[]⟩)
            exact bodyPost_ret (results_ctt rfl _ _ w.heap.size tLE _ (0, 0) _ rfl hb5 Tryz.underlying46 rfl (by kernel_rfl)) rfl ⟨rfl, hbb5.trans ((Below.of_alloc' _ _).mono hbb5.size)⟩
          · rw [if_neg her] at hd
            subst hd
            have ter : (er != 0) = false := by rw [bne_eq_false_iff_eq]; omega
            clear her
            go_enter Tryz.func41, Tryz.ntmps41
            go_wp2_with (first
              | (go_at_call 98; refine (varint_Decode.calls 31 A c l off v1 a 0 _ HC.out hc HDF.out).mono ?_; rintro e w2 ⟨rfl, hd⟩; have HBD := Lib.hid (fr_below ((Fr.refl (fun _ => False) _).drawn hd)); have HBE := Lib.hid ((Below.of_alloc' w _).trans (HBD.out.mono (by simp))); have hz := drawn_blk hd H0.out; have HZ := Lib.hid hz; obtain ⟨z0, z1, z2, z3, z4, z5⟩ := six_le hz; have hfz := fun j => frozen_blk hz j; clear hd hz)
              | (go_at_call 99; refine (HRF.out _ (Kd.C_below HC.out HBD.out)).mono ?_; rw [← HN2.out]; rintro e w3 ⟨rfl, rfl⟩)
              | (go_at_call 97; refine (CRC_calls _ w2.heap.size 1 A5 (c - a) m (cell_blk (heap_alloc_new w2 _) 0) (Kd.C_below (C_of_reads (HRD.out _ (reads_of_C (Kd.C_below HC.out HBD.out)))) (Below.of_alloc' w2 _)) (by rw [HML.out]; omega) HMW.out).mono ?_; rw [← HN1.out]; rintro e w4 ⟨rfl, hb⟩; have hb4 := (Below.of_alloc' w2 _).trans (hb.mono (by simp)); have HB4 := Lib.hid (HBE.out.trans (hb4.mono HBE.out.size)); have HC4 := Lib.hid (Kd.C_below (Kd.C_below HC.out HBD.out) hb4); have hz := (hb4.block _ (lt_blk HZ.out)).trans HZ.out; have HZ4 := Lib.hid hz; clear z0 z1 z2 z3 z4 z5 hfz; obtain ⟨z0, z1, z2, z3, z4, z5⟩ := six_le hz; have hfz := fun j => frozen_blk hz j; clear hb hb4 hz)
              | (go_at_call 100; refine (fields_calls _ A5 (c - a) m (C_of_reads (HRD.out _ (reads_of_C HC4.out))) (by omega) (by rw [HML.out]; omega) HMW.out).mono ?_; rw [HEN.out, HLX.out]; rintro e w5 ⟨rfl, hb⟩; have hlt5 := Nat.lt_of_lt_of_le (lt_blk HZ4.out) hb.size; have HB5 := Lib.hid (HB4.out.trans (hb.mono HB4.out.size)); have hz := (hb.block _ (lt_blk HZ4.out)).trans HZ4.out; have HZ5 := Lib.hid hz; clear z0 z1 z2 z3 z4 z5 hfz; obtain ⟨z0, z1, z2, z3, z4, z5⟩ := six_le hz; have hfz := fun j => frozen_blk hz j; clear hb hz)
              | fail)
            have hb5 := blk_alloc (o' := .cells #[.int .i64 e0, .int .i64 e1, .int .i64 e2, .int .i64 e3, .int .i64 e4, .string e5] tLE) (set6_blk HZ5.out (.int .i64 e0) (.int .i64 e1) (.int .i64 e2) (.int .i64 e3) (.int .i64 e4) (.string e5))
            have hbb5 := set6_below HB5.out (Nat.le_refl _) (.int .i64 e0) (.int .i64 e1) (.int .i64 e2) (.int .i64 e3) (.int .i64 e4) (.string e5)
            exact bodyPost_ret (results_ctt rfl _ _ w.heap.size tLE _ (0, 0) _ rfl hb5 Tryz.underlying46 rfl (by kernel_rfl)) rfl ⟨rfl, hbb5.trans ((Below.of_alloc' _ _).mono hbb5.size)⟩
  · rw [if_pos h3] at hd
    subst hd
    have e3 : (v3 != 0) = true := by rw [bne_iff_ne]; exact h3
    clear HOK h3
    go_enter Tryz.func41, Tryz.ntmps41
    go_wp2_with (first
      | (go_at_call 98; refine (varint_Decode.calls 31 A c l off v1 v2 v3 _ HC.out hc HDF.out).mono ?_; rintro e w2 ⟨rfl, hd⟩; have HBD := Lib.hid (fr_below ((Fr.refl (fun _ => False) _).drawn hd)); have HBE := Lib.hid ((Below.of_alloc' w _).trans (HBD.out.mono (by simp))); have hz := drawn_blk hd H0.out; have HZ := Lib.hid hz; obtain ⟨z0, z1, z2, z3, z4, z5⟩ := six_le hz; have hfz := fun j => frozen_blk hz j; clear hd hz)
      | fail)
    exact bodyPost_ret (results_ctt rfl _ _ w.heap.size tLE _ (0, 0) _ rfl (set6_blk HZ.out _ _ _ _ _ _) Tryz.underlying46 rfl (by kernel_rfl)) rfl ⟨rfl, set6_below HBE.out (Nat.le_refl _) _ _ _ _ _ _⟩
end Go.Proofs.YtehhafnjbkbmjaaGreat.Disk

/- commitlog: Scan, the walk. -/
namespace Go.Proofs.YtehhafnjbkbmjaaGreat.Disk
open Go Go.RowKit Go.Proofs.YtehhafnjbkbmjaaGreatW.PrintWords Go.Proofs.YtehhafnjbkbmjaaGreatW.PrintLast Go.Proofs.YtehhafnjbkbmjaaGreatW.PrintMore Go.Proofs.YtehhafnjbkbmjaaGreat.PCommitlogSequence
abbrev kLE := k46
theorem infoLE : (Tryz.prog.info? 46).map (fun i => (i.zero, i.size, i.bytes)) = some (some (.agg #[.int .i64 0, .int .i64 0, .int .i64 0, .int .i64 0, .int .i64 0, .string ⟨#[]⟩]), 6, 56) := by kernel_rfl
def ScanRel (w : World) (l : List Int) (i v : Value) (wx : World) : Prop :=
  ∃ (out : List LE) (at' k : Nat), i = .int .i64 at' ∧ Kd.R kLE tLE wx w.heap.size (fun _ => True) v out ∧ scanGo l k at' out = scanF l ∧ l.length < at' + k ∧ out.length ≤ at' ∧ at' ≤ l.length ∧ Below w.heap.size w wx
set_option maxHeartbeats 4000000 in
set_option maxRecDepth 100000 in
theorem Scan_calls (w : World) (A : Option Addr) (c : Nat) (l : List Int) (h : Kd.C kB w A l.length l) (hc : l.length ≤ c) (hl : l.length ≤ 65535) (hw : ∀ x ∈ l, 0 ≤ x ∧ x ≤ 255) :
    Calls Tryz.prog 42 #[.slice A l.length c] w fun e w' => ∃ A' c', e = .returned (.tuple #[.slice A' (scanF l).1.length c', .int .i64 (scanF l).2]) ∧ Rd kLE w' (fun k => w.heap.size ≤ k) A' c' (scanF l).1 ∧ Below w.heap.size w w' := by
  have H := Lib.hid h
  have HW := Lib.hid hw
  clear h hw
  go_enter Tryz.func42, Tryz.ntmps42
  go_wp2_with fail
  go_step3
  go_wp2_with fail
  go_step3
  go_wp2_with fail
  go_loopw [5, 4] (fun i v wx => ScanRel w l i v wx) (fun i _ _ => l.length - (intOf i).toNat)
  case atStart => exact ⟨[], 0, l.length + 1, rfl, Kd.R_nil _ _ _ _ _, rfl, by omega, Nat.le_refl _, Nat.zero_le _, Below.refl _ _⟩
  case round =>
    obtain ⟨out, at', k, rfl, hr, hgo, hk, ho, hat, hb⟩ := hrel
    have HR := Lib.hid hr
    have HGO := Lib.hid hgo
    have HB := Lib.hid hb
    have HC := Lib.hid (Kd.C_below H.out hb)
    clear hr hgo hb
    by_cases hlt : at' < l.length
    · have hltI : (at' : Int) < (l.length : Int) := by omega
      obtain ⟨k, rfl⟩ : ∃ k', k = k' + 1 := ⟨k - 1, by omega⟩
      obtain ⟨d, hd⟩ : ∃ d, d = decE l at' := ⟨_, rfl⟩
      have HOK := Lib.hid (show d.2.2 = 0 → 0 ≤ (at' : Int) ∧ (at' : Int) < d.2.1 ∧ d.2.1 ≤ l.length by rw [hd]; exact decE_ok)
      have HD := Lib.hid hd.symm
      obtain ⟨⟨e0, e1, e2, e3, e4, e5⟩, nx, er⟩ := d
      clear hd
      have HLX := Lib.hid (show leC (((⟨e0, e1, e2, e3, e4, e5⟩ : LE), nx, er) : LE × Int × Int).1 = #[.int .i64 e0, .int .i64 e1, .int .i64 e2, .int .i64 e3, .int .i64 e4, .string e5] from rfl)
      by_cases her : er = 0
      · subst her
        obtain ⟨-, o2, o3⟩ := HOK.out rfl
        simp only at o2 o3
        obtain ⟨n, rfl⟩ : ∃ n : Nat, nx = n := ⟨nx.toNat, by omega⟩
        have HNX := Lib.hid (show scanGo l k n (out ++ [⟨e0, e1, e2, e3, e4, e5⟩]) = scanF l by
          rw [← HGO.out]
          conv => rhs; unfold scanGo
          rw [if_pos hltI, HD.out, if_neg (by simp)])
        have hm : ((out.length : Int) == 65536) = false := by rw [beq_eq_false_iff_ne]; omega
        obtain ⟨A1, c1, rfl, hc1, hC1⟩ := Kd.R_reads HR.out
        clear HOK hC1
        go_wp2_with (first
          | (go_at_call 41; refine (Dec_calls _ A c l at' HC.out hc (by omega) HW.out).mono ?_; rw [HD.out, HLX.out]; rintro e w2 ⟨rfl, hb2⟩; have HBA := Lib.hid (hb2.trans ((Below.of_alloc' w2 (.cells #[.int .i64 e0, .int .i64 e1, .int .i64 e2, .int .i64 e3, .int .i64 e4, .string e5] tLE)).mono hb2.size)); obtain ⟨q0, q1, q2, q3, q4, q5⟩ := six_le (x := ⟨e0, e1, e2, e3, e4, e5⟩) (heap_alloc_new w2 _); have HRA := Lib.hid (Kd.R_below HR.out HBA.out); clear hb2)
          | ((with_reducible refine gate_builtin (b := .append) (xs := #[.tmp 26, .tmp 28]) rfl ?_); at_builtin; refine Kd.R_append kLE (w0 := w) w.heap.size rfl (.tmp 26) (.tmp 28) 47 tLE (.agg #[.int .i64 0, .int .i64 0, .int .i64 0, .int .i64 0, .int .i64 0, .string ⟨#[]⟩]) 56 rfl Tryz.underlying47 infoLE rfl (by decide) (by decide) (.slice A1 out.length c1) out ⟨e0, e1, e2, e3, e4, e5⟩ [.int .i64 e0, .int .i64 e1, .int .i64 e2, .int .i64 e3, .int .i64 e4, .string e5] (fun _ => True) (fun _ => False) rfl (by rw [show ∀ o, (w2.alloc o).heap.size = w2.heap.size + 1 from fun o => by simp]; rfl) (k46_mkM _ _ _ ⟨e0, e1, e2, e3, e4, e5⟩) (fun _ hk => hk.elim) (fun _ _ => trivial) HRA.out (HB.out.trans (HBA.out.mono HB.out.size)) (Nat.le_trans HB.out.size HBA.out.size) (by omega) ?_; intro v1 w3 hr3 hb3 hg3 hat3; have HR3 := Lib.hid hr3; have HB3 := Lib.hid hb3; clear hr3 hb3 hg3 hat3)
          | fail)
        go_roundw
        case rel => exact ⟨out ++ [⟨e0, e1, e2, e3, e4, e5⟩], n, k, rfl, HR3.out, HNX.out, by omega, by simp; omega, by omega, HB3.out⟩
        case measure => simp [intOf]; omega
      · have ter : (er != 0) = true := by rw [bne_iff_ne]; exact her
        have HF := Lib.hid (show scanF l = (out, (at' : Int)) by
          rw [← HGO.out]
          unfold scanGo
          rw [if_pos hltI, HD.out, if_pos her])
        clear HOK her
        obtain ⟨A1, c1, rfl, hRd⟩ := Rd.ofR HR.out
        have HRD := Lib.hid hRd
        clear hRd
        go_wp2_with (first
          | (go_at_call 41; refine (Dec_calls _ A c l at' HC.out hc (by omega) HW.out).mono ?_; rw [HD.out, HLX.out]; rintro e w2 ⟨rfl, hb2⟩; have HB2 := Lib.hid hb2; clear hb2)
          | fail)
        rw [Exit.noGoto_ret]
        go_ret2
        rw [HF.out]
        have hba := HB2.out.trans ((Below.of_alloc' w2 (.cells #[.int .i64 e0, .int .i64 e1, .int .i64 e2, .int .i64 e3, .int .i64 e4, .string e5] tLE)).mono HB2.out.size)
        exact ⟨A1, c1, rfl, (HRD.out.mono (fun k hk _ => hk.1)).below hba, HB.out.trans (hba.mono HB.out.size)⟩
    · have hltI : ¬ (at' : Int) < (l.length : Int) := by omega
      have HF := Lib.hid (show scanF l = (out, (at' : Int)) by
        rw [← HGO.out]
        cases k with
        | zero => rfl
        | succ k => unfold scanGo; rw [if_neg hltI])
      obtain ⟨A1, c1, rfl, hRd⟩ := Rd.ofR HR.out
      have HRD := Lib.hid hRd
      clear hRd
      go_wp2_with fail
      go_ret2
      rw [HF.out]
      exact ⟨A1, c1, rfl, HRD.out.mono (fun k hk _ => hk.1), HB.out⟩
end Go.Proofs.YtehhafnjbkbmjaaGreat.Disk

/- commitlog: the reference's fields, plain. -/
namespace Go.Proofs.YtehhafnjbkbmjaaGreat.Disk
open Go Go.RowKit Go.Proofs.YtehhafnjbkbmjaaGreatW.PrintWords Go.Proofs.YtehhafnjbkbmjaaGreatW.PrintLast Go.Proofs.YtehhafnjbkbmjaaGreatW.PrintMore Go.Proofs.YtehhafnjbkbmjaaGreat.PCommitlogSequence
abbrev asI (ns : List Nat) : List Int := ns.map fun n : Nat => (n : Int)
theorem wrap64_nat {n : Nat} (h : n ≤ 9223372036854775807) : wrap64 (n : Int) = (n : Int) := by unfold wrap64; omega
theorem rfld_l0 (l : List Int) (hb : l.length ≤ 1099511627776) (hw : ∀ x ∈ l, 0 ≤ x ∧ x ≤ 255) : ∀ (d k : Nat) (a : Int) (ns : List Nat), ns.length + d = 6 → 31 + d < k →
    laminaref24_fields.l0 k l (asI ns) a (ns.length : Int) = some (asI (fldGo l d a ns).1, (fldGo l d a ns).2.1, (fldGo l d a ns).2.2)
  | 0, k, a, ns, hn, hk => by
    obtain ⟨k, rfl⟩ : ∃ k', k = k' + 1 := ⟨k - 1, by omega⟩
    unfold laminaref24_fields.l0 fldGo
    rw [if_neg (by omega)]
  | d + 1, k, a, ns, hn, hk => by
    obtain ⟨k, rfl⟩ : ∃ k', k = k' + 1 := ⟨k - 1, by omega⟩
    have ih := fun a ns => rfld_l0 l hb hw d k a ns
    unfold laminaref24_fields.l0 fldGo
    rw [if_pos (by omega), rdec_f l hb hw a k (by omega)]
    simp only [Option.bind_some]
    by_cases h3 : (decV l a).2.2 = 0
    · have hR : ¬ (decV l a).2.2 ≠ 0 := by omega
      rw [if_pos h3, if_neg hR]
      by_cases h63 : 9223372036854775807 < (decV l a).1
      · have hL : ((decV l a).1 : Int) > 9223372036854775807 := by omega
        rw [if_pos hL, if_pos h63]
        rfl
      · have hL : ¬ ((decV l a).1 : Int) > 9223372036854775807 := by omega
        have hS : (asI ns).length < 17592186044416 := by simp; omega
        rw [if_neg hL, if_neg h63, if_pos hS, wrap64_nat (by omega)]
        have := ih (decV l a).2.1 (ns ++ [(decV l a).1]) (by simp; omega) (by omega)
        rw [show wrap64 ((ns.length : Int) + 1) = (((ns ++ [(decV l a).1]).length : Nat) : Int) by unfold wrap64; simp; omega, show asI ns ++ [((decV l a).1 : Int)] = asI (ns ++ [(decV l a).1]) by simp [asI]]
        exact this
    · rw [if_neg h3, if_pos h3]
      rfl
theorem rfld_f (l : List Int) (hb : l.length ≤ 1099511627776) (hw : ∀ x ∈ l, 0 ≤ x ∧ x ≤ 255) (k : Nat) (hk : 37 < k) : laminaref24_fields.f k l = some (asI (fldF l).1, (fldF l).2.1, (fldF l).2.2) := by
  unfold laminaref24_fields.f fldF
  exact rfld_l0 l hb hw 6 k 0 [] (by simp) (by omega)
end Go.Proofs.YtehhafnjbkbmjaaGreat.Disk

/- commitlog: the reference's entry, the walk. -/
namespace Go.Proofs.YtehhafnjbkbmjaaGreat.Disk
open Go Go.RowKit Go.Proofs.YtehhafnjbkbmjaaGreatW.PrintWords Go.Proofs.YtehhafnjbkbmjaaGreatW.PrintLast Go.Proofs.YtehhafnjbkbmjaaGreatW.PrintMore Go.Proofs.YtehhafnjbkbmjaaGreat.PCommitlogSequence
set_option maxHeartbeats 4000000 in
set_option maxRecDepth 100000 in
theorem rent_calls (w : World) (A : Option Addr) (c : Nat) (l : List Int) (h : Kd.C kB w A l.length l) (hc : l.length ≤ c) (hl : l.length ≤ 1000000) (hw : ∀ x ∈ l, 0 ≤ x ∧ x ≤ 255) :
    Calls Tryz.prog 136 #[.slice A l.length c] w fun e w' => e = .returned (.tuple #[.agg (leC (entE l).1), .int .i64 (entE l).2]) ∧ Below w.heap.size w w' := by
  have HC := Lib.hid (Kd.C_below h (Below.of_alloc' w (.cells (leC zLE) tLE)))
  have H0 := Lib.hid (heap_alloc_new w (.cells (leC zLE) tLE))
  have HFF := Lib.hid (rfld_f l (by omega) hw 38 (by decide))
  have HWF := Lib.hid (entE_wf l)
  obtain ⟨f, hf⟩ : ∃ f, f = fldF l := ⟨_, rfl⟩
  have HOK := Lib.hid (show f.2.2 = 0 → 0 ≤ f.2.1 ∧ f.2.1 ≤ l.length ∧ f.1.length = 6 by rw [hf]; exact fldF_ok)
  rw [← hf] at HFF
  have HF := Lib.hid hf.symm
  clear hf h hw
  obtain ⟨ns, a, er⟩ := f
  simp only at HFF
  by_cases her : er = 0
  · subst her
    obtain ⟨o1, o2, o3⟩ := HOK.out rfl
    simp only at o1 o2 o3
    obtain ⟨at', rfl⟩ : ∃ at' : Nat, a = at' := ⟨a.toNat, by omega⟩
    obtain ⟨n0, n1, n2, n3, n4, n5, rfl⟩ : ∃ n0 n1 n2 n3 n4 n5, ns = [n0, n1, n2, n3, n4, n5] := by
      match ns, o3 with
      | [a, b, c, d, e, f], _ => exact ⟨a, b, c, d, e, f, rfl⟩
    clear o3 HOK
    by_cases hs : (l.length : Int) - (at' : Int) < (n5 : Int)
    · have t5 : decide ((l.length : Int) - (at' : Int) < (n5 : Int)) = true := by simpa using hs
      have HEQ := Lib.hid (show entE l = (zLE, 2) by
        unfold entE
        rw [HF.out, if_neg (by simp), if_pos (by exact hs)])
      clear hs
      go_enter Tryz.func136, Tryz.ntmps136
      go_wp2_with (first
        | (go_at_call 150; refine (laminaref24_fields.calls 38 A c l _ _ _ _ HC.out hc HFF.out).mono ?_; rintro e w2 ⟨v2, rfl, hr, hb⟩; have HBE := Lib.hid ((Below.of_alloc' w (.cells (leC zLE) tLE)).trans (hb.mono (by simp))); have HBW := Lib.hid hb; have hz := (hb.block _ (lt_blk H0.out)).trans H0.out; have HZ := Lib.hid hz; obtain ⟨z0, z1, z2, z3, z4, z5⟩ := six_le hz; have hfz := fun j => frozen_blk hz j; obtain ⟨g, cap, rfl, hg1, hg2, hg3⟩ := Kd.R_form hr (by simp); have g0 := (Kd.R_cell (0 : Int) hr 0 (by decide) (by simp)).1; have g1 := (Kd.R_cell (0 : Int) hr 1 (by decide) (by simp)).1; have g2 := (Kd.R_cell (0 : Int) hr 2 (by decide) (by simp)).1; have g3 := (Kd.R_cell (0 : Int) hr 3 (by decide) (by simp)).1; have g4 := (Kd.R_cell (0 : Int) hr 4 (by decide) (by simp)).1; have g5 := (Kd.R_cell (0 : Int) hr 5 (by decide) (by simp)).1; simp [rdOf] at g0 g1 g2 g3 g4 g5; clear hr hg3; clear hb hz)
        | fail)
      rw [HEQ.out]
      exact bodyPost_ret (results_ct rfl _ _ w.heap.size tLE _ (0, 0) _ rfl (set6_blk HZ.out _ _ _ _ _ _) Tryz.underlying46 rfl (by kernel_rfl)) rfl ⟨rfl, set6_below HBE.out (Nat.le_refl _) _ _ _ _ _ _⟩
    · have t5 : decide ((l.length : Int) - (at' : Int) < (n5 : Int)) = false := by simpa using hs
      by_cases hs2 : (n5 : Int) < (l.length : Int) - (at' : Int)
      · have t6 : decide ((n5 : Int) < (l.length : Int) - (at' : Int)) = true := by simpa using hs2
        have HEQ := Lib.hid (show entE l = (zLE, 3) by
          unfold entE
          rw [HF.out, if_neg (by simp), if_neg (by exact hs), if_pos (by exact hs2)])
        clear hs hs2
        go_enter Tryz.func136, Tryz.ntmps136
        go_wp2_with (first
          | (go_at_call 150; refine (laminaref24_fields.calls 38 A c l _ _ _ _ HC.out hc HFF.out).mono ?_; rintro e w2 ⟨v2, rfl, hr, hb⟩; have HBE := Lib.hid ((Below.of_alloc' w (.cells (leC zLE) tLE)).trans (hb.mono (by simp))); have HBW := Lib.hid hb; have hz := (hb.block _ (lt_blk H0.out)).trans H0.out; have HZ := Lib.hid hz; obtain ⟨z0, z1, z2, z3, z4, z5⟩ := six_le hz; have hfz := fun j => frozen_blk hz j; obtain ⟨g, cap, rfl, hg1, hg2, hg3⟩ := Kd.R_form hr (by simp); have g0 := (Kd.R_cell (0 : Int) hr 0 (by decide) (by simp)).1; have g1 := (Kd.R_cell (0 : Int) hr 1 (by decide) (by simp)).1; have g2 := (Kd.R_cell (0 : Int) hr 2 (by decide) (by simp)).1; have g3 := (Kd.R_cell (0 : Int) hr 3 (by decide) (by simp)).1; have g4 := (Kd.R_cell (0 : Int) hr 4 (by decide) (by simp)).1; have g5 := (Kd.R_cell (0 : Int) hr 5 (by decide) (by simp)).1; simp [rdOf] at g0 g1 g2 g3 g4 g5; clear hr hg3; clear hb hz)
          | fail)
        rw [HEQ.out]
        exact bodyPost_ret (results_ct rfl _ _ w.heap.size tLE _ (0, 0) _ rfl (set6_blk HZ.out _ _ _ _ _ _) Tryz.underlying46 rfl (by kernel_rfl)) rfl ⟨rfl, set6_below HBE.out (Nat.le_refl _) _ _ _ _ _ _⟩
      · have t6 : decide ((n5 : Int) < (l.length : Int) - (at' : Int)) = false := by simpa using hs2
        obtain ⟨s, hs5⟩ : ∃ s, s = strOfNums (l.drop at') := ⟨_, rfl⟩
        have HEQ := Lib.hid (show entE l = if validB ⟨n0, n1, n2, n3, n4, s⟩ then (⟨n0, n1, n2, n3, n4, s⟩, 0) else (zLE, 4) by
          unfold entE
          rw [HF.out, if_neg (by simp), if_neg (by exact hs), if_neg (by exact hs2), hs5]
          rfl)
        by_cases h100 : (100 : Int) < n0
        · have t100 : decide ((100 : Int) < (n0 : Int)) = true := by simpa using h100
          have hE : entE l = (zLE, 4) := by
            rw [HEQ.out, if_neg]
            intro h
            simp only [validB, rangeB, Bool.and_eq_true, decide_eq_true_eq] at h
            omega
          have HE := Lib.hid hE
          clear hs hs2 h100 hE hs5
          go_enter Tryz.func136, Tryz.ntmps136
          go_wp2_with (first
            | (go_at_call 150; refine (laminaref24_fields.calls 38 A c l _ _ _ _ HC.out hc HFF.out).mono ?_; rintro e w2 ⟨v2, rfl, hr, hb⟩; have HBE := Lib.hid ((Below.of_alloc' w (.cells (leC zLE) tLE)).trans (hb.mono (by simp))); have HBW := Lib.hid hb; have hz := (hb.block _ (lt_blk H0.out)).trans H0.out; have HZ := Lib.hid hz; obtain ⟨z0, z1, z2, z3, z4, z5⟩ := six_le hz; have hfz := fun j => frozen_blk hz j; obtain ⟨g, cap, rfl, hg1, hg2, hg3⟩ := Kd.R_form hr (by simp); have g0 := (Kd.R_cell (0 : Int) hr 0 (by decide) (by simp)).1; have g1 := (Kd.R_cell (0 : Int) hr 1 (by decide) (by simp)).1; have g2 := (Kd.R_cell (0 : Int) hr 2 (by decide) (by simp)).1; have g3 := (Kd.R_cell (0 : Int) hr 3 (by decide) (by simp)).1; have g4 := (Kd.R_cell (0 : Int) hr 4 (by decide) (by simp)).1; have g5 := (Kd.R_cell (0 : Int) hr 5 (by decide) (by simp)).1; simp [rdOf] at g0 g1 g2 g3 g4 g5; clear hr hg3; clear hb hz)
            | fail)
          rw [HE.out]
          exact bodyPost_ret (results_ct rfl _ _ w.heap.size tLE _ (0, 0) _ rfl (set6_blk HZ.out _ _ _ _ _ _) Tryz.underlying46 rfl (by kernel_rfl)) rfl ⟨rfl, set6_below HBE.out (Nat.le_refl _) _ _ _ _ _ _⟩
        · have t100 : decide ((100 : Int) < (n0 : Int)) = false := by simpa using h100
          obtain ⟨i0, hi, hz0, hz1, hz2⟩ := info_parts infoB
          obtain ⟨A5, hsl, hrd, hcap⟩ := print_drop_of (P := Tryz.prog) (Value.int .u8) (0 : Int) 36 5 .i64 Tryz.underlying36 hi hz1 A c l at' (by omega) (by omega) hc
          rw [Int.toNat_natCast] at hsl hrd hcap
          have HCV := Lib.hid (show ∀ w2 : World, Below (w.alloc (.cells (leC zLE) tLE)).heap.size (w.alloc (.cells (leC zLE) tLE)) w2 → (convert 36 9 (.slice A5 (l.drop at').length (c - at'))).run Tryz.prog w2 = .ok (.string s) w2 from fun w2 hbb => by
            rw [hs5]
            exact Kd.C_string Tryz.underlying36 Tryz.underlying5 Tryz.underlying9 (Kd.C_below (C_of_reads (hrd _ (reads_of_C HC.out))) hbb))
          rw [List.length_drop] at hsl HCV
          clear hs hs2 h100 hs5 hrd hi hz0 hz1 hz2
          go_enter Tryz.func136, Tryz.ntmps136
          go_upto_region 10 with (first
            | (go_at_call 150; refine (laminaref24_fields.calls 38 A c l _ _ _ _ HC.out hc HFF.out).mono ?_; rintro e w2 ⟨v2, rfl, hr, hb⟩; have HBE := Lib.hid ((Below.of_alloc' w (.cells (leC zLE) tLE)).trans (hb.mono (by simp))); have HBW := Lib.hid hb; have hz := (hb.block _ (lt_blk H0.out)).trans H0.out; have HZ := Lib.hid hz; obtain ⟨z0, z1, z2, z3, z4, z5⟩ := six_le hz; have hfz := fun j => frozen_blk hz j; obtain ⟨g, cap, rfl, hg1, hg2, hg3⟩ := Kd.R_form hr (by simp); have g0 := (Kd.R_cell (0 : Int) hr 0 (by decide) (by simp)).1; have g1 := (Kd.R_cell (0 : Int) hr 1 (by decide) (by simp)).1; have g2 := (Kd.R_cell (0 : Int) hr 2 (by decide) (by simp)).1; have g3 := (Kd.R_cell (0 : Int) hr 3 (by decide) (by simp)).1; have g4 := (Kd.R_cell (0 : Int) hr 4 (by decide) (by simp)).1; have g5 := (Kd.R_cell (0 : Int) hr 5 (by decide) (by simp)).1; simp [rdOf] at g0 g1 g2 g3 g4 g5; clear hr hg3; clear hb hz)
            | fail)
          have hS : ∀ w3 : World, Below w2.heap.size w2 w3 → (convert 36 9 (.slice A5 (l.length - at') (c - at'))).run Tryz.prog w3 = .ok (.string s) w3 ∧ w3.cell? ⟨g, 0, none⟩ = some (.int .i64 n0) ∧ w3.cell? ⟨g, 1, none⟩ = some (.int .i64 n1) ∧ w3.cell? ⟨g, 2, none⟩ = some (.int .i64 n2) ∧ w3.cell? ⟨g, 3, none⟩ = some (.int .i64 n3) ∧ w3.cell? ⟨g, 4, none⟩ = some (.int .i64 n4) := fun w3 hbb => ⟨HCV.out w3 (HBW.out.trans (hbb.mono HBW.out.size)), cell_below hbb g0, cell_below hbb g1, cell_below hbb g2, cell_below hbb g3, cell_below hbb g4⟩
          have hS0 := hS _ (Below.refl _ w2)
          have hS1 := fun m => hS _ (fr_below ((Fr.refl (fun _ => False) w2).drewN m))
          have hS2 := fun o => hS _ ((Below.of_alloc' w2 o).trans ((fr_below ((Fr.refl (fun _ => False) (w2.alloc o)).drewN 1)).mono (Below.of_alloc' w2 o).size))
          go_region_held3 (fun w' => (convert 36 9 (.slice A5 (l.length - at') (c - at'))).run Tryz.prog w' = .ok (.string s) w' ∧ w'.cell? ⟨g, 0, none⟩ = some (.int .i64 n0) ∧ w'.cell? ⟨g, 1, none⟩ = some (.int .i64 n1) ∧ w'.cell? ⟨g, 2, none⟩ = some (.int .i64 n2) ∧ w'.cell? ⟨g, 3, none⟩ = some (.int .i64 n3) ∧ w'.cell? ⟨g, 4, none⟩ = some (.int .i64 n4))
            (first | exact hS0 | exact hS1 _ | exact hS2 _) (fail)
          clear hS hS0 hS1 hS2 hsl
          generalize hwz : (w2.alloc (.cells #[.int .i64 n0, .int .i64 n1, .int .i64 n2, .int .i64 n3, .int .i64 n4, .string s] tLE)).drew = wz
          have hbz : Below w2.heap.size w2 wz := by
            rw [← hwz]
            exact (Below.of_alloc' w2 _).trans ((fr_below ((Fr.refl (fun _ => False) (w2.alloc (.cells #[.int .i64 n0, .int .i64 n1, .int .i64 n2, .int .i64 n3, .int .i64 n4, .string s] tLE))).drewN 1)).mono (Below.of_alloc' w2 _).size)
          have hnz : wz.heap[w2.heap.size]? = some (.cells #[.int .i64 n0, .int .i64 n1, .int .i64 n2, .int .i64 n3, .int .i64 n4, .string s] tLE (0, 0)) := by
            rw [← hwz]
            exact heap_alloc_new w2 _
          have HWB := Lib.hid ((HBE.out.trans (hbz.mono HBE.out.size)))
          have HZB := Lib.hid (show wz.heap[w.heap.size]? = some (.cells (leC zLE) tLE (0, 0)) from (hbz.block _ (lt_blk HZ.out)).trans HZ.out)
          have HNB := Lib.hid (show wz.heap[w2.heap.size]? = some (.cells (leC ⟨n0, n1, n2, n3, n4, s⟩) tLE (0, 0)) from hnz)
          clear z0 z1 z2 z3 z4 z5 hfz g0 g1 g2 g3 g4 g5 hwz hbz hnz t5 t6
          obtain ⟨y0, y1, y2, y3, y4, y5⟩ := six_le HNB.out
          by_cases hv : validB ⟨n0, n1, n2, n3, n4, s⟩ = true
          · have HE := Lib.hid (show entE l = (⟨n0, n1, n2, n3, n4, s⟩, 0) by rw [HEQ.out, if_pos hv])
            have hwf := HWF.out
            rw [HE.out] at hwf
            have HVF := Lib.hid (rvalid_f (⟨n0, n1, n2, n3, n4, s⟩ : LE) 61 (by decide))
            rw [hv] at HVF
            clear HEQ HWF hwf hv
            go_wp2_with (first
              | (go_at_call 124; refine (laminaref24_Valid.calls 61 _ _ _ _ _ _ _ _ HVF.out).mono ?_; rintro e w3 ⟨rfl, hb2⟩; have HWE := Lib.hid (HWB.out.trans (hb2.mono HWB.out.size)); have hz := (hb2.block _ (lt_blk HZB.out)).trans HZB.out; have hn := (hb2.block _ (lt_blk HNB.out)).trans HNB.out; have HZ2 := Lib.hid hz; obtain ⟨x0, x1, x2, x3, x4, x5⟩ := six_le hz; obtain ⟨p0, p1, p2, p3, p4, p5⟩ := six_le hn; have xf := fun j => frozen_blk hz j; clear hb2 hz hn)
              | fail)
            rw [HE.out]
            exact bodyPost_ret (results_ct rfl _ _ w.heap.size tLE _ (0, 0) _ rfl (set6_blk HZ2.out _ _ _ _ _ _) Tryz.underlying46 rfl (by kernel_rfl)) rfl ⟨rfl, set6_below HWE.out (Nat.le_refl _) _ _ _ _ _ _⟩
          · have hv' : validB ⟨n0, n1, n2, n3, n4, s⟩ = false := by simpa using hv
            have HE := Lib.hid (show (entE l) = (zLE, 4) by
              rw [HEQ.out, if_neg hv])
            have HVF := Lib.hid (rvalid_f (⟨n0, n1, n2, n3, n4, s⟩ : LE) 61 (by decide))
            rw [hv'] at HVF
            clear HEQ hv hv' HWF
            go_wp2_with (first
              | (go_at_call 124; refine (laminaref24_Valid.calls 61 _ _ _ _ _ _ _ _ HVF.out).mono ?_; rintro e w3 ⟨rfl, hb2⟩; have HWE := Lib.hid (HWB.out.trans (hb2.mono HWB.out.size)); have hz := (hb2.block _ (lt_blk HZB.out)).trans HZB.out; have HZ2 := Lib.hid hz; obtain ⟨x0, x1, x2, x3, x4, x5⟩ := six_le hz; have xf := fun j => frozen_blk hz j; clear hb2 hz)
              | fail)
            rw [HE.out]
            exact bodyPost_ret (results_ct rfl _ _ w.heap.size tLE _ (0, 0) _ rfl (set6_blk HZ2.out _ _ _ _ _ _) Tryz.underlying46 rfl (by kernel_rfl)) rfl ⟨rfl, set6_below HWE.out (Nat.le_refl _) _ _ _ _ _ _⟩
  · have ter : (er != 0) = true := by rw [bne_iff_ne]; exact her
    have HEQ := Lib.hid (show entE l = (zLE, er) by
      unfold entE
      rw [HF.out, if_pos her])
    clear HOK her
    go_enter Tryz.func136, Tryz.ntmps136
    go_wp2_with (first
      | (go_at_call 150; refine (laminaref24_fields.calls 38 A c l _ _ _ _ HC.out hc HFF.out).mono ?_; rintro e w2 ⟨v2, rfl, hr, hb⟩; have HBE := Lib.hid ((Below.of_alloc' w (.cells (leC zLE) tLE)).trans (hb.mono (by simp))); have HBW := Lib.hid hb; have hz := (hb.block _ (lt_blk H0.out)).trans H0.out; have HZ := Lib.hid hz; obtain ⟨z0, z1, z2, z3, z4, z5⟩ := six_le hz; have hfz := fun j => frozen_blk hz j; clear hr; clear hb hz)
      | fail)
    rw [HEQ.out]
    exact bodyPost_ret (results_ct rfl _ _ w.heap.size tLE _ (0, 0) _ rfl (set6_blk HZ.out _ _ _ _ _ _) Tryz.underlying46 rfl (by kernel_rfl)) rfl ⟨rfl, set6_below HBE.out (Nat.le_refl _) _ _ _ _ _ _⟩
end Go.Proofs.YtehhafnjbkbmjaaGreat.Disk

/- commitlog: checksums as strings, plain. -/
namespace Go.Proofs.YtehhafnjbkbmjaaGreat.Disk
open Go Go.RowKit Go.Proofs.YtehhafnjbkbmjaaGreatW.PrintWords Go.Proofs.YtehhafnjbkbmjaaGreatW.PrintLast Go.Proofs.YtehhafnjbkbmjaaGreatW.PrintMore Go.Proofs.YtehhafnjbkbmjaaGreat.PCommitlogSequence
theorem map_u8_inj : ∀ (xs ys : List Int), (∀ x ∈ xs, 0 ≤ x ∧ x ≤ 255) → (∀ x ∈ ys, 0 ≤ x ∧ x ≤ 255) → xs.map (fun n => UInt8.ofNat n.toNat) = ys.map (fun n => UInt8.ofNat n.toNat) → xs = ys
  | [], [], _, _, _ => rfl
  | [], _ :: _, _, _, h => by simp at h
  | _ :: _, [], _, _, h => by simp at h
  | x :: xs, y :: ys, hx, hy, h => by
    simp only [List.map_cons, List.cons.injEq] at h
    have e := map_u8_inj xs ys (fun a ha => hx a (List.mem_cons_of_mem _ ha)) (fun a ha => hy a (List.mem_cons_of_mem _ ha)) h.2
    have h1 := congrArg UInt8.toNat h.1
    have hx := hx x List.mem_cons_self
    have hy := hy y List.mem_cons_self
    rw [UInt8.toNat_ofNat', UInt8.toNat_ofNat'] at h1
    rw [e, show x = y by omega]
theorem strOf_inj {xs ys : List Int} (hx : ∀ x ∈ xs, 0 ≤ x ∧ x ≤ 255) (hy : ∀ x ∈ ys, 0 ≤ x ∧ x ≤ 255) (h : strOfNums xs = strOfNums ys) : xs = ys := by
  have := congrArg (fun s : ByteArray => s.data.toList) h
  simp only [strOfNums_data] at this
  exact map_u8_inj xs ys hx hy this
theorem le4_of (l : List Int) (hl : l.length = 4) (hw : ∀ x ∈ l, 0 ≤ x ∧ x ≤ 255) : le4 (valN l 0 4) = l := by
  match l, hl with
  | [a, b, c, d], _ =>
    have ha := hw a (by simp)
    have hb := hw b (by simp)
    have hc := hw c (by simp)
    have hd := hw d (by simp)
    simp [le4, valN, byteN]
    omega
theorem valN_part (l : List Int) (o : Nat) : valN ((l.take (o + 4)).drop o) 0 4 = valN l o 4 := by
  have e : ∀ j, j < 4 → byteN ((l.take (o + 4)).drop o) j = byteN l (o + j) := fun j hj => by
    unfold byteN
    simp only [List.getD, List.getElem?_drop, List.getElem?_take]
    rw [if_pos (by omega)]
  simp only [valN, Nat.zero_add, Nat.add_zero, e 0 (by decide), e 1 (by decide), e 2 (by decide), e 3 (by decide)]
theorem le4_inj {n m : Nat} (hn : n < 4294967296) (hm : m < 4294967296) (h : le4 n = le4 m) : n = m := by
  simp only [le4, List.cons.injEq, and_true] at h
  omega
theorem crc_str (l : List Int) (hw : ∀ x ∈ l, 0 ≤ x ∧ x ≤ 255) (o n : Nat) (h : o + 4 ≤ l.length) (hn : n < 4294967296) : strOfNums (le4 n) = strOfNums ((l.take (o + 4)).drop o) ↔ n = valN l o 4 := by
  have hq : ∀ x ∈ (l.take (o + 4)).drop o, 0 ≤ x ∧ x ≤ 255 := fun x hx => hw x (List.mem_of_mem_take (List.mem_of_mem_drop hx))
  have hlen : ((l.take (o + 4)).drop o).length = 4 := by simp; omega
  have he := le4_of _ hlen hq
  rw [valN_part l o] at he
  have hv : valN l o 4 < 4294967296 := by
    have := valN_lt (l := l) (o := o) (fun j => byteN_lt hw j) 4 (by omega)
    simpa using this
  constructor
  · intro hs
    have := strOf_inj (le4_ok n) hq hs
    rw [← he] at this
    exact le4_inj hn hv this
  · rintro rfl
    rw [he]
end Go.Proofs.YtehhafnjbkbmjaaGreat.Disk

/- commitlog: the reference's Decode, the walk. -/
namespace Go.Proofs.YtehhafnjbkbmjaaGreat.Disk
open Go Go.RowKit Go.Proofs.YtehhafnjbkbmjaaGreatW.PrintWords Go.Proofs.YtehhafnjbkbmjaaGreatW.PrintLast Go.Proofs.YtehhafnjbkbmjaaGreatW.PrintMore Go.Proofs.YtehhafnjbkbmjaaGreat.PCommitlogSequence
theorem toList_ne {s t : ByteArray} (h : s ≠ t) : (s.toList == t.toList) = false := by
  rw [beq_eq_false_iff_ne]
  intro e
  apply h
  rw [ByteArray.toList_eq, ByteArray.toList_eq] at e
  cases s
  cases t
  simpa using e
set_option maxHeartbeats 4000000 in
set_option maxRecDepth 100000 in
theorem rDec_calls (w : World) (A : Option Addr) (c : Nat) (l : List Int) (off : Int) (h : Kd.C kB w A l.length l) (hc : l.length ≤ c) (hl : l.length ≤ 1000000) (hw : ∀ x ∈ l, 0 ≤ x ∧ x ≤ 255) :
    Calls Tryz.prog 128 #[.slice A l.length c, .int .i64 off] w fun e w' => e = .returned (.tuple #[.agg (leC (decE l off).1), .int .i64 (decE l off).2.1, .int .i64 (decE l off).2.2]) ∧ Below w.heap.size w w' := by
  have HC := Lib.hid (Kd.C_below h (Below.of_alloc' w (.cells (leC zLE) tLE)))
  have HW := Lib.hid hw
  have H0 := Lib.hid (heap_alloc_new w (.cells (leC zLE) tLE))
  have HDF := Lib.hid (rdec_f l (by omega) hw off 31 (by decide))
  obtain ⟨d, hd⟩ : ∃ d, d = decE l off := ⟨_, rfl⟩
  rw [← hd]
  unfold decE at hd
  obtain ⟨r, hr⟩ : ∃ r, r = decV l off := ⟨_, rfl⟩
  have HOK := Lib.hid (show r.2.2 = 0 → 0 ≤ off ∧ off < r.2.1 ∧ r.2.1 ≤ l.length by rw [hr]; exact decV_ok)
  rw [← hr] at hd HDF
  clear hr h hw
  obtain ⟨v1, v2, v3⟩ := r
  simp only at hd HDF
  by_cases h3 : v3 = 0
  · subst h3
    rw [if_neg (by simp)] at hd
    obtain ⟨o1, o2, o3⟩ := HOK.out rfl
    simp only at o2 o3
    obtain ⟨a, rfl⟩ : ∃ a : Nat, v2 = a := ⟨v2.toNat, by omega⟩
    clear HOK
    by_cases h256 : 256 < v1
    · rw [if_pos h256] at hd
      subst hd
      have t256 : decide ((256 : Int) < (v1 : Int)) = true := by simp; omega
      clear h256
      go_enter Tryz.func128, Tryz.ntmps128
      go_wp2_with (first
        | (go_at_call 135; refine (laminaref01_Decode.calls 31 A c l off v1 a 0 _ HC.out hc HDF.out).mono ?_; rintro e w2 ⟨rfl, hd⟩; have HBD := Lib.hid (fr_below ((Fr.refl (fun _ => False) _).drawn hd)); have HBE := Lib.hid ((Below.of_alloc' w _).trans (HBD.out.mono (by simp))); have hz := drawn_blk hd H0.out; have HZ := Lib.hid hz; obtain ⟨z0, z1, z2, z3, z4, z5⟩ := six_le hz; have hfz := fun j => frozen_blk hz j; clear hd hz)
        | fail)
      exact bodyPost_ret (results_ctt rfl _ _ w.heap.size tLE _ (0, 0) _ rfl (set6_blk HZ.out _ _ _ _ _ _) Tryz.underlying46 rfl (by kernel_rfl)) rfl ⟨rfl, set6_below HBE.out (Nat.le_refl _) _ _ _ _ _ _⟩
    · rw [if_neg h256] at hd
      have t256 : decide ((256 : Int) < (v1 : Int)) = false := by simp; omega
      have v1n : v1 ≤ 256 := by omega
      have c1 : (v1 : Int) ≤ 9223372036854775807 := by omega
      clear h256
      by_cases hsh : (l.length : Int) - (a : Int) < (v1 : Int) + 4
      · rw [if_pos hsh] at hd
        subst hd
        have tsh : decide ((l.length : Int) - (a : Int) < (v1 : Int) + 4) = true := by simpa using hsh
        clear hsh
        go_enter Tryz.func128, Tryz.ntmps128
        go_wp2_with (first
          | (go_at_call 135; refine (laminaref01_Decode.calls 31 A c l off v1 a 0 _ HC.out hc HDF.out).mono ?_; rintro e w2 ⟨rfl, hd⟩; have HBD := Lib.hid (fr_below ((Fr.refl (fun _ => False) _).drawn hd)); have HBE := Lib.hid ((Below.of_alloc' w _).trans (HBD.out.mono (by simp))); have hz := drawn_blk hd H0.out; have HZ := Lib.hid hz; obtain ⟨z0, z1, z2, z3, z4, z5⟩ := six_le hz; have hfz := fun j => frozen_blk hz j; clear hd hz)
          | fail)
        exact bodyPost_ret (results_ctt rfl _ _ w.heap.size tLE _ (0, 0) _ rfl (set6_blk HZ.out _ _ _ _ _ _) Tryz.underlying46 rfl (by kernel_rfl)) rfl ⟨rfl, set6_below HBE.out (Nat.le_refl _) _ _ _ _ _ _⟩
      · rw [if_neg hsh] at hd
        have tsh : decide ((l.length : Int) - (a : Int) < (v1 : Int) + 4) = false := by simpa using hsh
        have hle : a + v1 + 4 ≤ l.length := by omega
        have HLE := Lib.hid hle
        simp only [Int.toNat_natCast] at hd
        obtain ⟨m, hm⟩ : ∃ m, m = (l.drop a).take v1 := ⟨_, rfl⟩
        rw [← hm] at hd
        have hm2 : (l.take (a + v1)).drop a = m := by rw [hm, List.drop_take, Nat.add_sub_cancel_left]
        have hml : m.length = v1 := by rw [hm]; simp; omega
        have HMW := Lib.hid (show ∀ x ∈ m, 0 ≤ x ∧ x ≤ 255 from fun x hx => HW.out x (by rw [hm] at hx; exact List.mem_of_mem_drop (List.mem_of_mem_take hx)))
        obtain ⟨i0, hi, hz0, hz1, hz2⟩ := info_parts infoB
        obtain ⟨A5, hsl, hrd, hcap⟩ := print_mid_of (P := Tryz.prog) (Value.int .u8) (0 : Int) 36 5 .i64 .i64 Tryz.underlying36 hi hz1 A c l a (a + v1 : Nat) (by omega) (by omega) (by omega) hc
        simp only [Int.toNat_natCast] at hsl hrd hcap
        rw [hm2] at hsl hrd hcap
        rw [Int.natCast_add] at hsl
        have HRD := Lib.hid hrd
        have HML := Lib.hid hml
        obtain ⟨A6, hsl6, hrd6, hcap6⟩ := print_mid_of (P := Tryz.prog) (Value.int .u8) (0 : Int) 36 5 .i64 .i64 Tryz.underlying36 hi hz1 A c l (a + v1 : Nat) (a + v1 + 4 : Nat) (by omega) (by omega) (by omega) hc
        simp only [Int.toNat_natCast] at hsl6 hrd6 hcap6
        obtain ⟨l6, hl6⟩ : ∃ l6, l6 = (l.take (a + v1 + 4)).drop (a + v1) := ⟨_, rfl⟩
        have h6n : l6.length = 4 := by rw [hl6]; simp; omega
        rw [← hl6] at hsl6 hrd6 hcap6
        rw [h6n] at hsl6 hrd6
        rw [show ((a + v1 + 4 : Nat) : Int) = (a : Int) + (v1 : Int) + 4 by omega, show ((a + v1 : Nat) : Int) = (a : Int) + (v1 : Int) by omega] at hsl6
        obtain ⟨n1, hn1⟩ : ∃ n1, n1 = crcF m := ⟨_, rfl⟩
        obtain ⟨n2, hn2⟩ : ∃ n2, n2 = valN l (a + v1) 4 := ⟨_, rfl⟩
        rw [← hn1, ← hn2] at hd
        have HN1 := Lib.hid hn1
        have hn32 : n1 < 4294967296 := by rw [hn1]; exact crcF_lt HMW.out
        obtain ⟨s1, hs1⟩ : ∃ s1, s1 = strOfNums (le4 n1) := ⟨_, rfl⟩
        obtain ⟨s2, hs2⟩ : ∃ s2, s2 = strOfNums l6 := ⟨_, rfl⟩
        have hss : s1 = s2 ↔ n1 = n2 := by
          rw [hs1, hs2, hl6, hn2]
          exact crc_str l HW.out (a + v1) n1 hle hn32
        have HS1 := Lib.hid hs1
        have HCV := Lib.hid (show ∀ w2 : World, Below (w.alloc (.cells (leC zLE) tLE)).heap.size (w.alloc (.cells (leC zLE) tLE)) w2 → (convert 36 9 (.slice A6 4 (c - (a + v1)))).run Tryz.prog w2 = .ok (.string s2) w2 from fun w2 hbb => by
          rw [hs2]
          have := Kd.C_string (P := Tryz.prog) (c := c - (a + v1)) Tryz.underlying36 Tryz.underlying5 Tryz.underlying9 (Kd.C_below (C_of_reads (hrd6 _ (reads_of_C HC.out))) hbb)
          exact this)
        clear hn1 hn2 hm hm2 hml hrd hi hz0 hz1 hz2 hle hsh hl6 h6n hrd6 hs1 hs2
        by_cases hq : n1 ≠ n2
        · rw [if_pos hq] at hd
          subst hd
          have hbb := toList_ne (fun e => hq (hss.1 e))
          clear hq hss
          go_enter Tryz.func128, Tryz.ntmps128
          go_upto_region 9 with (first
            | (go_at_call 135; refine (laminaref01_Decode.calls 31 A c l off v1 a 0 _ HC.out hc HDF.out).mono ?_; rintro e w2 ⟨rfl, hd⟩; have HBD := Lib.hid (fr_below ((Fr.refl (fun _ => False) _).drawn hd)); have HBE := Lib.hid ((Below.of_alloc' w _).trans (HBD.out.mono (by simp))); have hz := drawn_blk hd H0.out; have HZ := Lib.hid hz; obtain ⟨z0, z1, z2, z3, z4, z5⟩ := six_le hz; have hfz := fun j => frozen_blk hz j; clear hd hz)
            | fail)
          have q3 := HCV.out w2.drew (HBD.out.trans ((fr_below ((Fr.refl (fun _ => False) w2).drewN 1)).mono HBD.out.size))
          have wr0 : IntKind.i64.wrap (v1 : Int) = (v1 : Int) := IntWalk.i64_in _ (by omega)
          have wr1 : IntKind.i64.wrap ((a : Int) + (v1 : Int)) = (a : Int) + (v1 : Int) := IntWalk.i64_in _ (by omega)
          have wr2 : IntKind.i64.wrap ((a : Int) + (v1 : Int) + 4) = (a : Int) + (v1 : Int) + 4 := IntWalk.i64_in _ (by omega)
          clear z0 z1 z2 z3 z4 z5 hfz
          go_region_with (first | (go_at_call 127; refine (sum_calls _ A5 (c - a) m (Kd.C_below (C_of_reads (HRD.out _ (reads_of_C (Kd.C_below HC.out HBD.out)))) (fr_below ((Fr.refl (fun _ => False) w2).drewN 1))) (by rw [HML.out]; omega) HMW.out).mono ?_; rw [← HN1.out]; rintro e w4 ⟨v4, rfl, ho4, hb⟩; obtain ⟨A4, c4, rfl, hC4⟩ := own_bytes ho4; have hb4 := (fr_below ((Fr.refl (fun _ => False) w2).drewN 1)).trans (hb.mono (by exact Nat.le_refl _)); have HB4 := Lib.hid (HBE.out.trans (hb4.mono HBE.out.size)); have HC4 := Lib.hid (Kd.C_below (Kd.C_below HC.out HBD.out) hb4); have hz := (hb4.block _ (lt_blk HZ.out)).trans HZ.out; have HZ4 := Lib.hid hz; have cv1 := Kd.C_string (c := c4) Tryz.underlying36 Tryz.underlying5 Tryz.underlying9 hC4; have q4 := HCV.out w4 (HBD.out.trans (hb4.mono HBD.out.size)); rw [← HS1.out] at cv1; obtain ⟨z0, z1, z2, z3, z4, z5⟩ := six_le hz; have hfz := fun j => frozen_blk hz j; clear hb hb4 ho4 hC4 hz))
          all_goals
            go_wp2_with fail
            exact bodyPost_ret (results_ctt rfl _ _ w.heap.size tLE _ (0, 0) _ rfl (set6_blk HZ4.out _ _ _ _ _ _) Tryz.underlying46 rfl (by kernel_rfl)) rfl ⟨rfl, set6_below HB4.out (Nat.le_refl _) _ _ _ _ _ _⟩
        · rw [if_neg hq] at hd
          have hbb : (s1.toList == s2.toList) = true := by rw [hss.2 (by omega)]; exact beq_self_eq_true _
          clear hq hss
          obtain ⟨en, hen⟩ : ∃ en, en = entE m := ⟨_, rfl⟩
          rw [← hen] at hd
          have HEN := Lib.hid hen.symm
          clear hen
          obtain ⟨⟨e0, e1, e2, e3, e4, e5⟩, er⟩ := en
          simp only at hd
          have HLX := Lib.hid (show leC (((⟨e0, e1, e2, e3, e4, e5⟩ : LE), er) : LE × Int).1 = #[.int .i64 e0, .int .i64 e1, .int .i64 e2, .int .i64 e3, .int .i64 e4, .string e5] from rfl)
          by_cases her : er ≠ 0
          · rw [if_pos her] at hd
            subst hd
            have ter : (er != 0) = true := by rw [bne_iff_ne]; exact her
            clear her
            go_enter Tryz.func128, Tryz.ntmps128
            go_upto_region 9 with (first
              | (go_at_call 135; refine (laminaref01_Decode.calls 31 A c l off v1 a 0 _ HC.out hc HDF.out).mono ?_; rintro e w2 ⟨rfl, hd⟩; have HBD := Lib.hid (fr_below ((Fr.refl (fun _ => False) _).drawn hd)); have HBE := Lib.hid ((Below.of_alloc' w _).trans (HBD.out.mono (by simp))); have hz := drawn_blk hd H0.out; have HZ := Lib.hid hz; obtain ⟨z0, z1, z2, z3, z4, z5⟩ := six_le hz; have hfz := fun j => frozen_blk hz j; clear hd hz)
              | fail)
            have q3 := HCV.out w2.drew (HBD.out.trans ((fr_below ((Fr.refl (fun _ => False) w2).drewN 1)).mono HBD.out.size))
            have wr0 : IntKind.i64.wrap (v1 : Int) = (v1 : Int) := IntWalk.i64_in _ (by omega)
            have wr1 : IntKind.i64.wrap ((a : Int) + (v1 : Int)) = (a : Int) + (v1 : Int) := IntWalk.i64_in _ (by omega)
            have wr2 : IntKind.i64.wrap ((a : Int) + (v1 : Int) + 4) = (a : Int) + (v1 : Int) + 4 := IntWalk.i64_in _ (by omega)
            clear z0 z1 z2 z3 z4 z5 hfz
            go_region_with (first | (go_at_call 127; refine (sum_calls _ A5 (c - a) m (Kd.C_below (C_of_reads (HRD.out _ (reads_of_C (Kd.C_below HC.out HBD.out)))) (fr_below ((Fr.refl (fun _ => False) w2).drewN 1))) (by rw [HML.out]; omega) HMW.out).mono ?_; rw [← HN1.out]; rintro e w4 ⟨v4, rfl, ho4, hb⟩; obtain ⟨A4, c4, rfl, hC4⟩ := own_bytes ho4; have hb4 := (fr_below ((Fr.refl (fun _ => False) w2).drewN 1)).trans (hb.mono (by exact Nat.le_refl _)); have HB4 := Lib.hid (HBE.out.trans (hb4.mono HBE.out.size)); have HC4 := Lib.hid (Kd.C_below (Kd.C_below HC.out HBD.out) hb4); have hz := (hb4.block _ (lt_blk HZ.out)).trans HZ.out; have HZ4 := Lib.hid hz; have cv1 := Kd.C_string (c := c4) Tryz.underlying36 Tryz.underlying5 Tryz.underlying9 hC4; have q4 := HCV.out w4 (HBD.out.trans (hb4.mono HBD.out.size)); rw [← HS1.out] at cv1; obtain ⟨z0, z1, z2, z3, z4, z5⟩ := six_le hz; have hfz := fun j => frozen_blk hz j; clear hb hb4 ho4 hC4 hz))
            all_goals
              go_wp2_with (first | (go_at_call 136; refine (rent_calls _ A5 (c - a) m (C_of_reads (HRD.out _ (reads_of_C HC4.out))) (by omega) (by rw [HML.out]; omega) HMW.out).mono ?_; rw [HEN.out, HLX.out]; rintro e w5 ⟨rfl, hb⟩; have hlt5 := Nat.lt_of_lt_of_le (lt_blk HZ4.out) hb.size; have HB5 := Lib.hid (HB4.out.trans (hb.mono HB4.out.size)); have hz := (hb.block _ (lt_blk HZ4.out)).trans HZ4.out; have HZ5 := Lib.hid hz; clear z0 z1 z2 z3 z4 z5 hfz; obtain ⟨z0, z1, z2, z3, z4, z5⟩ := six_le hz; have hfz := fun j => frozen_blk hz j; clear hb hz) | fail)
              have hb5 := blk_alloc (o' := .cells #[.int .i64 e0, .int .i64 e1, .int .i64 e2, .int .i64 e3, .int .i64 e4, .string e5] tLE) (set6_blk HZ5.out (.int .i64 0) (.int .i64 0) (.int .i64 0) (.int .i64 0) (.int .i64 0) (.string ⟨#[]⟩))
              have hbb5 := set6_below HB5.out (Nat.le_refl _) (.int .i64 0) (.int .i64 0) (.int .i64 0) (.int .i64 0) (.int .i64 0) (.string ⟨#[]⟩)
              exact bodyPost_ret (results_ctt rfl _ _ w.heap.size tLE _ (0, 0) _ rfl hb5 Tryz.underlying46 rfl (by kernel_rfl)) rfl ⟨rfl, hbb5.trans ((Below.of_alloc' _ _).mono hbb5.size)⟩
          · rw [if_neg her] at hd
            subst hd
            have ter : (er != 0) = false := by rw [bne_eq_false_iff_eq]; omega
            clear her
            go_enter Tryz.func128, Tryz.ntmps128
            go_upto_region 9 with (first
              | (go_at_call 135; refine (laminaref01_Decode.calls 31 A c l off v1 a 0 _ HC.out hc HDF.out).mono ?_; rintro e w2 ⟨rfl, hd⟩; have HBD := Lib.hid (fr_below ((Fr.refl (fun _ => False) _).drawn hd)); have HBE := Lib.hid ((Below.of_alloc' w _).trans (HBD.out.mono (by simp))); have hz := drawn_blk hd H0.out; have HZ := Lib.hid hz; obtain ⟨z0, z1, z2, z3, z4, z5⟩ := six_le hz; have hfz := fun j => frozen_blk hz j; clear hd hz)
              | fail)
            have q3 := HCV.out w2.drew (HBD.out.trans ((fr_below ((Fr.refl (fun _ => False) w2).drewN 1)).mono HBD.out.size))
            have wr0 : IntKind.i64.wrap (v1 : Int) = (v1 : Int) := IntWalk.i64_in _ (by omega)
            have wr1 : IntKind.i64.wrap ((a : Int) + (v1 : Int)) = (a : Int) + (v1 : Int) := IntWalk.i64_in _ (by omega)
            have wr2 : IntKind.i64.wrap ((a : Int) + (v1 : Int) + 4) = (a : Int) + (v1 : Int) + 4 := IntWalk.i64_in _ (by omega)
            clear z0 z1 z2 z3 z4 z5 hfz
            go_region_with (first | (go_at_call 127; refine (sum_calls _ A5 (c - a) m (Kd.C_below (C_of_reads (HRD.out _ (reads_of_C (Kd.C_below HC.out HBD.out)))) (fr_below ((Fr.refl (fun _ => False) w2).drewN 1))) (by rw [HML.out]; omega) HMW.out).mono ?_; rw [← HN1.out]; rintro e w4 ⟨v4, rfl, ho4, hb⟩; obtain ⟨A4, c4, rfl, hC4⟩ := own_bytes ho4; have hb4 := (fr_below ((Fr.refl (fun _ => False) w2).drewN 1)).trans (hb.mono (by exact Nat.le_refl _)); have HB4 := Lib.hid (HBE.out.trans (hb4.mono HBE.out.size)); have HC4 := Lib.hid (Kd.C_below (Kd.C_below HC.out HBD.out) hb4); have hz := (hb4.block _ (lt_blk HZ.out)).trans HZ.out; have HZ4 := Lib.hid hz; have cv1 := Kd.C_string (c := c4) Tryz.underlying36 Tryz.underlying5 Tryz.underlying9 hC4; have q4 := HCV.out w4 (HBD.out.trans (hb4.mono HBD.out.size)); rw [← HS1.out] at cv1; obtain ⟨z0, z1, z2, z3, z4, z5⟩ := six_le hz; have hfz := fun j => frozen_blk hz j; clear hb hb4 ho4 hC4 hz))
            all_goals
              go_wp2_with (first | (go_at_call 136; refine (rent_calls _ A5 (c - a) m (C_of_reads (HRD.out _ (reads_of_C HC4.out))) (by omega) (by rw [HML.out]; omega) HMW.out).mono ?_; rw [HEN.out, HLX.out]; rintro e w5 ⟨rfl, hb⟩; have hlt5 := Nat.lt_of_lt_of_le (lt_blk HZ4.out) hb.size; have HB5 := Lib.hid (HB4.out.trans (hb.mono HB4.out.size)); have hz := (hb.block _ (lt_blk HZ4.out)).trans HZ4.out; have HZ5 := Lib.hid hz; clear z0 z1 z2 z3 z4 z5 hfz; obtain ⟨z0, z1, z2, z3, z4, z5⟩ := six_le hz; have hfz := fun j => frozen_blk hz j; clear hb hz) | fail)
              have hb5 := blk_alloc (o' := .cells #[.int .i64 e0, .int .i64 e1, .int .i64 e2, .int .i64 e3, .int .i64 e4, .string e5] tLE) (set6_blk HZ5.out (.int .i64 e0) (.int .i64 e1) (.int .i64 e2) (.int .i64 e3) (.int .i64 e4) (.string e5))
              have hbb5 := set6_below HB5.out (Nat.le_refl _) (.int .i64 e0) (.int .i64 e1) (.int .i64 e2) (.int .i64 e3) (.int .i64 e4) (.string e5)
              exact bodyPost_ret (results_ctt rfl _ _ w.heap.size tLE _ (0, 0) _ rfl hb5 Tryz.underlying46 rfl (by kernel_rfl)) rfl ⟨rfl, hbb5.trans ((Below.of_alloc' _ _).mono hbb5.size)⟩
  · rw [if_pos h3] at hd
    subst hd
    have e3 : (v3 != 0) = true := by rw [bne_iff_ne]; exact h3
    clear HOK h3
    go_enter Tryz.func128, Tryz.ntmps128
    go_wp2_with (first
      | (go_at_call 135; refine (laminaref01_Decode.calls 31 A c l off v1 v2 v3 _ HC.out hc HDF.out).mono ?_; rintro e w2 ⟨rfl, hd⟩; have HBD := Lib.hid (fr_below ((Fr.refl (fun _ => False) _).drawn hd)); have HBE := Lib.hid ((Below.of_alloc' w _).trans (HBD.out.mono (by simp))); have hz := drawn_blk hd H0.out; have HZ := Lib.hid hz; obtain ⟨z0, z1, z2, z3, z4, z5⟩ := six_le hz; have hfz := fun j => frozen_blk hz j; clear hd hz)
      | fail)
    exact bodyPost_ret (results_ctt rfl _ _ w.heap.size tLE _ (0, 0) _ rfl (set6_blk HZ.out _ _ _ _ _ _) Tryz.underlying46 rfl (by kernel_rfl)) rfl ⟨rfl, set6_below HBE.out (Nat.le_refl _) _ _ _ _ _ _⟩
end Go.Proofs.YtehhafnjbkbmjaaGreat.Disk

/- commitlog: the reference's Scan, the walk. -/
namespace Go.Proofs.YtehhafnjbkbmjaaGreat.Disk
open Go Go.RowKit Go.Proofs.YtehhafnjbkbmjaaGreatW.PrintWords Go.Proofs.YtehhafnjbkbmjaaGreatW.PrintLast Go.Proofs.YtehhafnjbkbmjaaGreatW.PrintMore Go.Proofs.YtehhafnjbkbmjaaGreat.PCommitlogSequence
set_option maxHeartbeats 4000000 in
set_option maxRecDepth 100000 in
theorem rScan_calls (w : World) (A : Option Addr) (c : Nat) (l : List Int) (h : Kd.C kB w A l.length l) (hc : l.length ≤ c) (hl : l.length ≤ 65535) (hw : ∀ x ∈ l, 0 ≤ x ∧ x ≤ 255) :
    Calls Tryz.prog 108 #[.slice A l.length c] w fun e w' => ∃ A' c', e = .returned (.tuple #[.slice A' (scanF l).1.length c', .int .i64 (scanF l).2]) ∧ Rd kLE w' (fun k => w.heap.size ≤ k) A' c' (scanF l).1 ∧ Below w.heap.size w w' := by
  have H := Lib.hid h
  have HW := Lib.hid hw
  clear h hw
  go_enter Tryz.func108, Tryz.ntmps108
  go_wp2_with fail
  go_loopw [5, 4] (fun i v wx => ScanRel w l i v wx) (fun i _ _ => l.length - (intOf i).toNat)
  case atStart => exact ⟨[], 0, l.length + 1, rfl, Kd.R_nil _ _ _ _ _, rfl, by omega, Nat.le_refl _, Nat.zero_le _, Below.refl _ _⟩
  case round =>
    obtain ⟨out, at', k, rfl, hr, hgo, hk, ho, hat, hb⟩ := hrel
    have HR := Lib.hid hr
    have HGO := Lib.hid hgo
    have HB := Lib.hid hb
    have HC := Lib.hid (Kd.C_below H.out hb)
    clear hr hgo hb
    by_cases hlt : at' < l.length
    · have hltI : (at' : Int) < (l.length : Int) := by omega
      obtain ⟨k, rfl⟩ : ∃ k', k = k' + 1 := ⟨k - 1, by omega⟩
      obtain ⟨d, hd⟩ : ∃ d, d = decE l at' := ⟨_, rfl⟩
      have HOK := Lib.hid (show d.2.2 = 0 → 0 ≤ (at' : Int) ∧ (at' : Int) < d.2.1 ∧ d.2.1 ≤ l.length by rw [hd]; exact decE_ok)
      have HD := Lib.hid hd.symm
      obtain ⟨⟨e0, e1, e2, e3, e4, e5⟩, nx, er⟩ := d
      clear hd
      have HLX := Lib.hid (show leC (((⟨e0, e1, e2, e3, e4, e5⟩ : LE), nx, er) : LE × Int × Int).1 = #[.int .i64 e0, .int .i64 e1, .int .i64 e2, .int .i64 e3, .int .i64 e4, .string e5] from rfl)
      by_cases her : er = 0
      · subst her
        obtain ⟨-, o2, o3⟩ := HOK.out rfl
        simp only at o2 o3
        obtain ⟨n, rfl⟩ : ∃ n : Nat, nx = n := ⟨nx.toNat, by omega⟩
        have HNX := Lib.hid (show scanGo l k n (out ++ [⟨e0, e1, e2, e3, e4, e5⟩]) = scanF l by
          rw [← HGO.out]
          conv => rhs; unfold scanGo
          rw [if_pos hltI, HD.out, if_neg (by simp)])
        have hm : (out.length : Int) < 65536 := by omega
        obtain ⟨A1, c1, rfl, hc1, hC1⟩ := Kd.R_reads HR.out
        clear HOK hC1
        go_wp2_with (first
          | (go_at_call 128; refine (rDec_calls _ A c l at' HC.out hc (by omega) HW.out).mono ?_; rw [HD.out, HLX.out]; rintro e w2 ⟨rfl, hb2⟩; have HBA := Lib.hid (hb2.trans ((Below.of_alloc' w2 (.cells #[.int .i64 e0, .int .i64 e1, .int .i64 e2, .int .i64 e3, .int .i64 e4, .string e5] tLE)).mono hb2.size)); obtain ⟨q0, q1, q2, q3, q4, q5⟩ := six_le (x := ⟨e0, e1, e2, e3, e4, e5⟩) (heap_alloc_new w2 _); have HRA := Lib.hid (Kd.R_below HR.out HBA.out); clear hb2)
          | ((with_reducible refine gate_builtin (b := .append) (xs := #[.tmp 27, .tmp 29]) rfl ?_); at_builtin; refine Kd.R_append kLE (w0 := w) w.heap.size rfl (.tmp 27) (.tmp 29) 47 tLE (.agg #[.int .i64 0, .int .i64 0, .int .i64 0, .int .i64 0, .int .i64 0, .string ⟨#[]⟩]) 56 rfl Tryz.underlying47 infoLE rfl (by decide) (by decide) (.slice A1 out.length c1) out ⟨e0, e1, e2, e3, e4, e5⟩ [.int .i64 e0, .int .i64 e1, .int .i64 e2, .int .i64 e3, .int .i64 e4, .string e5] (fun _ => True) (fun _ => False) rfl (by rw [show ∀ o, (w2.alloc o).heap.size = w2.heap.size + 1 from fun o => by simp]; rfl) (k46_mkM _ _ _ ⟨e0, e1, e2, e3, e4, e5⟩) (fun _ hk => hk.elim) (fun _ _ => trivial) HRA.out (HB.out.trans (HBA.out.mono HB.out.size)) (Nat.le_trans HB.out.size HBA.out.size) (by omega) ?_; intro v1 w3 hr3 hb3 hg3 hat3; have HR3 := Lib.hid hr3; have HB3 := Lib.hid hb3; clear hr3 hb3 hg3 hat3)
          | fail)
        go_roundw
        case rel => exact ⟨out ++ [⟨e0, e1, e2, e3, e4, e5⟩], n, k, rfl, HR3.out, HNX.out, by omega, by simp; omega, by omega, HB3.out⟩
        case measure => simp [intOf]; omega
      · have hm : (out.length : Int) < 65536 := by omega
        have ter : (er != 0) = true := by rw [bne_iff_ne]; exact her
        have HF := Lib.hid (show scanF l = (out, (at' : Int)) by
          rw [← HGO.out]
          unfold scanGo
          rw [if_pos hltI, HD.out, if_pos her])
        clear HOK her
        obtain ⟨A1, c1, rfl, hRd⟩ := Rd.ofR HR.out
        have HRD := Lib.hid hRd
        clear hRd
        go_wp2_with (first
          | (go_at_call 128; refine (rDec_calls _ A c l at' HC.out hc (by omega) HW.out).mono ?_; rw [HD.out, HLX.out]; rintro e w2 ⟨rfl, hb2⟩; have HB2 := Lib.hid hb2; clear hb2)
          | fail)
        go_ret2
        rw [HF.out]
        have hba := HB2.out.trans ((Below.of_alloc' w2 (.cells #[.int .i64 e0, .int .i64 e1, .int .i64 e2, .int .i64 e3, .int .i64 e4, .string e5] tLE)).mono HB2.out.size)
        exact ⟨A1, c1, rfl, (HRD.out.mono (fun k hk _ => hk.1)).below hba, HB.out.trans (hba.mono HB.out.size)⟩
    · have hltI : ¬ (at' : Int) < (l.length : Int) := by omega
      have HF := Lib.hid (show scanF l = (out, (at' : Int)) by
        rw [← HGO.out]
        cases k with
        | zero => rfl
        | succ k => unfold scanGo; rw [if_neg hltI])
      obtain ⟨A1, c1, rfl, hRd⟩ := Rd.ofR HR.out
      have HRD := Lib.hid hRd
      clear hRd
      go_wp2_with fail
      go_ret2
      rw [HF.out]
      exact ⟨A1, c1, rfl, HRD.out.mono (fun k hk _ => hk.1), HB.out⟩
end Go.Proofs.YtehhafnjbkbmjaaGreat.Disk
