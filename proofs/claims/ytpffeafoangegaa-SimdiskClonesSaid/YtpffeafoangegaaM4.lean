/- The reference's Crash; a step; same, awake, light, play; what is read out of arguments. -/
import Derived.Test.YtpffeafoangegaaM3
import Derived.Deep.CutRange
import Derived.Deep.RegionHeld
import Derived.Test.YtpffeafoangegaaM2
import Derived.OpenShut
import Derived.Deep.RegionHeld3
import Derived.Deep.QuietTactic
import Derived.BigQuiet
import Derived.Lib.SlBytesConst
import Derived.Test.YtpffeafoangegaaQc
import Derived.RegionTactic
import Derived.ChangeAlike
import Derived.Deep.Slices
import Derived.ChangeOld
import Derived.SizedLaws
/- The reference's Crash. -/
namespace Go.Proofs.Ytpffeafoangegaa.Disk
open Go Go.RowKit Go.Proofs.YtpffeafoangegaaW.PrintWords Go.Proofs.YtpffeafoangegaaW.PrintLast Go.Proofs.YtpffeafoangegaaW.PrintMore Go.Proofs.Ytpffeafoangegaa.PSimdiskOperations
abbrev OkA (ok : Nat → Prop) (n k : Nat) : Prop := (ok k ∧ k < n) ∨ n + 2 ≤ k
theorem pend_elem {w : World} {ok : Nat → Prop} {A : Option Addr} {c : Nat} {l : List Opn} (h : Rd kO w ok A c l) (k : Nat) (hk : k < l.length) : ∃ ad, A = some ad ∧ w.cell? (ad.add (k * 4)) = some (.int .i64 l[k].f0) ∧ w.cell? ⟨(ad.add (k * 4)).block, (ad.add (k * 4)).off + 1, none⟩ = some (.string l[k].f1) ∧ w.cell? ⟨(ad.add (k * 4)).block, (ad.add (k * 4)).off + 2, none⟩ = some (.string l[k].f2) ∧ w.cell? ⟨(ad.add (k * 4)).block, (ad.add (k * 4)).off + 3, none⟩ = some (.int .i64 l[k].f3) := by
  obtain ⟨ad, h1, h2, h3, h4, h5⟩ := at_T79 h.now (k : Int) (by omega) (by omega)
  have e : rd_T79 l (k : Int) = l[k] := by simp [rd_T79, List.getD, hk]
  rw [e] at h2 h3 h4 h5
  exact ⟨ad, h1, h2, h3, h4, h5⟩
/-- The first loop: the directory that a crash leaves. -/
def CR1 (w : World) (ok : Nat → Prop) (S : PS) (n : Int) (C : Array Value) (i dv : Value) (wr : World) : Prop :=
  ∃ (k : Nat) (A : Option Addr) (c : Nat), k ≤ S.pend.length ∧ k ≤ n.toNat ∧ i = .int .i64 k ∧ dv = .slice A (dirAt S k).length c ∧ Rd kE wr (OkA ok w.heap.size) A c (dirAt S k) ∧ Below w.heap.size w wr ∧ wr.heap[w.heap.size]? = some (.cells C tState (0, 0)) ∧ wr.heap[w.heap.size + 1]? = some (.cells zeroC tState (0, 0))

/-- The second loop: the files and the directory anew; o is the block of the state that is built. -/
def CR2 (w0 : World) (S : PS) (l : List Ent) (cs : List Cf) (i : Value) (wr : World) : Prop :=
  ∃ (j : Nat) (fA eA : Option Addr) (fc ec : Nat), j ≤ l.length ∧ i = .int .i64 j ∧
    wr.heap[w0.heap.size]? = some (.cells #[.slice fA j fc, .slice eA j ec, .slice none 0 0, .slice none 0 0, .bool false, .int .i64 0] tState (0, 0)) ∧
    Kd.N kF 81 wr w0.heap.size (fun k => w0.heap.size < k ∧ some k ≠ (Value.slice eA j ec).ownBlock) (.slice fA j fc) ((newFiles S l cs).take j) ∧
    Kd.N kE 84 wr w0.heap.size (fun k => w0.heap.size < k) (.slice eA j ec) (newDir l j) ∧
    Below w0.heap.size w0 wr
theorem newFiles_take (S : PS) (l : List Ent) (cs : List Cf) (j : Nat) (hj : j < l.length) : (newFiles S l cs).take (j + 1) = (newFiles S l cs).take j ++ [⟨pLeft (fileAt S l[j].f1) (cfAt cs j), (pLeft (fileAt S l[j].f1) (cfAt cs j)).length⟩] := by
  have h : j < (newFiles S l cs).length := by rw [newFiles_length]; exact hj
  rw [List.take_succ_eq_append_getElem h]
  congr 2
  simp [newFiles]
theorem cf_elem {w : World} {A : Option Addr} {cs : List Cf} (h : Kd.C k60 w A cs.length cs) (j : Nat) (hj : j < cs.length) : ∃ ad, A = some ad ∧ w.cell? (ad.add (j * 2)) = some (.int .i64 (cfAt cs j).f0) ∧ w.cell? ⟨(ad.add (j * 2)).block, (ad.add (j * 2)).off + 1, none⟩ = some (.bool (cfAt cs j).f1) := by
  obtain ⟨ad, h1, h2, h3⟩ := at_T60 h (j : Int) (by omega) (by omega)
  exact ⟨ad, h1, h2, h3⟩
theorem cf_none {cs : List Cf} {j : Nat} (hj : ¬ j < cs.length) : (cfAt cs j).f0 = 0 ∧ (cfAt cs j).f1 = false := by
  have : cfAt cs j = z60 := by simp [cfAt, List.getD, show cs.length ≤ j by omega]
  rw [this]
  exact ⟨rfl, rfl⟩

theorem N_flat {w : World} {e base : Nat} {ok ok' : Nat → Prop} {v : Value} {xs : List Ent} (h : Kd.N kE e w base ok v xs) (h0 : ∀ k, v.ownBlock = some k → ok' k) : Kd.N kE e w base ok' v xs := by
  obtain ⟨_, rows, hl, hR, hf⟩ := h
  refine ⟨h0, rows, hl, hR, fun j x c hx hc => ?_⟩
  have := k84_open (Kd.FK_now (hf j x c hx hc))
  subst this
  exact k84_mkF _ _ _
theorem app_okp {w4 : World} {n : Nat} {o : Obj} {vf ve : Value} {e1 e2 : Nat} {okf oke : Nat → Prop} {fs : List Fil} {es : List Ent} (h : w4.heap[n]? = some o) (hf : Kd.N kF e1 w4 n okf vf fs) (he : Kd.N kE e2 w4 n oke ve es) {k : Nat} (hk : w4.heap.size ≤ k) : (n < k ∧ some k ≠ ve.ownBlock) ∧ some k ≠ vf.ownBlock := by
  have h1 := lt_blk h
  exact ⟨⟨by omega, fun e => by have := Kd.N_lt he k e.symm; omega⟩, fun e => by have := Kd.N_lt hf k e.symm; omega⟩
theorem app_fresh {w5 : World} {n : Nat} {o : Obj} {ve : Value} {e2 : Nat} {oke : Nat → Prop} {es : List Ent} (h : w5.heap[n]? = some o) (he : Kd.N kE e2 w5 n oke ve es) {k : Nat} (hk : w5.heap.size ≤ k) : n < k ∧ some k ≠ ve.ownBlock := by
  have h1 := lt_blk h
  exact ⟨by omega, fun e => by have := Kd.N_lt he k e.symm; omega⟩
theorem files_form {w : World} {e base : Nat} {ok : Nat → Prop} {v : Value} {l : List Fil} {m : Nat} (h : Kd.N kF e w base ok v (l.take m)) (hm : m ≤ l.length) : ∃ A c, v = .slice A m c := by
  obtain ⟨A, c, h1⟩ := Kd.N_slice h
  exact ⟨A, c, by rw [h1, List.length_take, Nat.min_eq_left hm]⟩
theorem ne_grown {w5 w6 : World} {n : Nat} {vf ve : Value} {okf oke : Nat → Prop} {fs : List Fil} {es : List Ent} (he : Kd.N kE 84 w5 n oke ve es) (hf : Kd.N kF 81 w5 n okf vf fs) (hg : w5.grownBy w6 vf.ownBlock) : Kd.N kE 84 w6 n oke ve es := by
  refine N_flat (Kd.N_grown (N_flat he (ok' := fun k => ve.ownBlock = some k) (fun k hk => hk)) hg (fun k hk e => ?_)) (fun k hk => he.1 k hk)
  obtain ⟨c1, h1⟩ := Kd.N_typed he k hk
  obtain ⟨c2, h2⟩ := Kd.N_typed hf k e.symm
  exact cells_ne_type h1 h2 (by decide) rfl
/-- Between the two statements of a round: the file is appended, the entry is not yet. -/
def CRM (w0 : World) (S : PS) (l : List Ent) (cs : List Cf) (j : Nat) (eA : Option Addr) (ec : Nat) (wr : World) : Prop :=
  ∃ (fA : Option Addr) (fc : Nat),
    wr.heap[w0.heap.size]? = some (.cells #[.slice fA (j + 1) fc, .slice eA j ec, .slice none 0 0, .slice none 0 0, .bool false, .int .i64 0] tState (0, 0)) ∧
    Kd.N kF 81 wr w0.heap.size (fun k => w0.heap.size < k ∧ some k ≠ (Value.slice eA j ec).ownBlock) (.slice fA (j + 1) fc) ((newFiles S l cs).take (j + 1)) ∧
    Kd.N kE 84 wr w0.heap.size (fun k => w0.heap.size < k) (.slice eA j ec) (newDir l j) ∧
    Below w0.heap.size w0 wr
theorem crm_of {w0 w6 : World} {S : PS} {l : List Ent} {cs : List Cf} {j : Nat} {eA fA A6 : Option Addr} {ec fc c6 : Nat} (h : w6.heap[w0.heap.size]? = some (.cells #[.slice fA j fc, .slice eA j ec, .slice none 0 0, .slice none 0 0, .bool false, .int .i64 0] tState (0, 0)))
    (hf : Kd.N kF 81 w6 w0.heap.size (fun k => w0.heap.size < k ∧ some k ≠ (Value.slice eA j ec).ownBlock) (.slice A6 (j + 1) c6) ((newFiles S l cs).take (j + 1)))
    (he : Kd.N kE 84 w6 w0.heap.size (fun k => w0.heap.size < k) (.slice eA j ec) (newDir l j)) (hb : Below w0.heap.size w0 w6) :
    CRM w0 S l cs j eA ec (w6.setCell ⟨w0.heap.size, 0, none⟩ (.slice A6 (j + 1) c6)) :=
  ⟨A6, c6, blk_set h 0 _, Kd.N_step hf (fun k hk _ => Below.heap_setCell _ _ _ _ (by have := hk.1; show k ≠ w0.heap.size; omega)), Kd.N_step he (fun k hk _ => Below.heap_setCell _ _ _ _ (by show k ≠ w0.heap.size; omega)), below_setN hb (Nat.le_refl _) _⟩
theorem name_again {w : World} {ad : Addr} {l : List Ent} (h : Kd.C kE w (some ad) l.length l) (t : Nat) (ht : t < l.length) : w.cell? (ad.add (t * 2)) = some (.string l[t].f0) := by
  obtain ⟨ad', e, h0, _⟩ := ent_cell h t ht
  cases e
  have er : rd_T84 l (t : Int) = l[t] := by simp [rd_T84, List.getD, ht]
  rw [er] at h0
  exact h0
theorem dir_form {w : World} {e base : Nat} {ok : Nat → Prop} {v : Value} {l : List Ent} {m : Nat} (h : Kd.N kE e w base ok v (newDir l m)) (hm : m ≤ l.length) : ∃ A c, v = .slice A m c := by
  obtain ⟨A, c, h1⟩ := Kd.N_slice h
  exact ⟨A, c, by rw [h1, newDir_length l m hm]⟩
theorem cr2_of {w0 w7 w8 : World} {S : PS} {l : List Ent} {cs : List Cf} {j : Nat} {eA fA A8 : Option Addr} {ec fc c8 : Nat} (hj : j < l.length) (h : w8.heap[w0.heap.size]? = some (.cells #[.slice fA (j + 1) fc, .slice eA j ec, .slice none 0 0, .slice none 0 0, .bool false, .int .i64 0] tState (0, 0)))
    (hf : Kd.N kF 81 w7 w0.heap.size (fun k => w0.heap.size < k ∧ some k ≠ (Value.slice eA j ec).ownBlock) (.slice fA (j + 1) fc) ((newFiles S l cs).take (j + 1)))
    (hg : w7.grownBy w8 (Value.slice eA j ec).ownBlock) (hat : (Value.slice A8 (j + 1) c8).ownBlock = (Value.slice eA j ec).ownBlock ∨ ∃ b, (Value.slice A8 (j + 1) c8).ownBlock = some b ∧ w7.heap.size ≤ b)
    (he : Kd.N kE 84 w8 w0.heap.size (fun k => w0.heap.size < k) (.slice A8 (j + 1) c8) (newDir l (j + 1))) (hb : Below w0.heap.size w0 w8) :
    CR2 w0 S l cs (.int .i64 ((j + 1 : Nat) : Int)) (w8.setCell ⟨w0.heap.size, 1, none⟩ (.slice A8 (j + 1) c8)) := by
  refine ⟨j + 1, fA, A8, fc, c8, hj, rfl, blk_set h 1 _, ?_, Kd.N_step he (fun k hk _ => Below.heap_setCell _ _ _ _ (by show k ≠ w0.heap.size; omega)), below_setN hb (Nat.le_refl _) _⟩
  exact Kd.N_step (Kd.N_after (u := .slice eA j ec) (u1 := .slice A8 (j + 1) c8) hf hg hat) (fun k hk _ => Below.heap_setCell _ _ _ _ (by have := hk.1; show k ≠ w0.heap.size; omega))
theorem rd_of_slice {α : Type} {d : Kd α} {e base n c : Nat} {w : World} {ok : Nat → Prop} {A : Option Addr} {xs : List α} (h : Kd.N d e w base ok (.slice A n c) xs) : Rd d w ok A c xs := by
  obtain ⟨A', c', hv, hr⟩ := Rd.ofN h
  injection hv with h1 h2 h3
  subst h1 h3
  exact hr.mono (fun k hk _ => hk.1)
theorem crash_ref {w wq wr : World} {ok : Nat → Prop} {S : PS} {n : Int} {l : List Ent} {cs : List Cf} {fA eA : Option Addr} {fc ec : Nat} {v : Value} (hw : w.heap.size + 1 < wq.heap.size) (hl : l = pCrashDir S n)
    (hf : Kd.N kF 81 wr wq.heap.size (fun k => wq.heap.size < k ∧ some k ≠ (Value.slice eA l.length ec).ownBlock) (.slice fA l.length fc) ((newFiles S l cs).take l.length))
    (he : Kd.N kE 84 wr wq.heap.size (fun k => wq.heap.size < k) (.slice eA l.length ec) (newDir l l.length)) :
    Ref (wr.setCell ⟨wq.heap.size, 2, none⟩ v) (fun k => (ok k ∧ k < w.heap.size) ∨ w.heap.size + 2 ≤ k) fA fc eA ec eA ec none 0 (pCrash S n cs) := by
  rw [List.take_of_length_le (by rw [newFiles_length]; exact Nat.le_refl _)] at hf
  have h1 := ((rd_of_slice hf).move (w' := wr.setCell ⟨wq.heap.size, 2, none⟩ v) (fun k hk _ => Below.heap_setCell _ _ _ _ (by have := hk.1; show k ≠ wq.heap.size; omega))).mono (ok' := fun k => (ok k ∧ k < w.heap.size) ∨ w.heap.size + 2 ≤ k) (fun k hk _ => .inr (by have := hk.1; omega))
  have h2 := ((rd_of_slice he).move (w' := wr.setCell ⟨wq.heap.size, 2, none⟩ v) (fun k hk _ => Below.heap_setCell _ _ _ _ (by show k ≠ wq.heap.size; omega))).mono (ok' := fun k => (ok k ∧ k < w.heap.size) ∨ w.heap.size + 2 ≤ k) (fun k hk _ => .inr (by omega))
  subst hl
  exact ⟨h1, h2, h2, Rd.nil _ _ _⟩
theorem held_below {w w' : World} {a b c d e f g : Addr} {x1 x2 x3 x4 x5 x6 x7 : Value} (hb : Below w.heap.size w w') (h1 : w.cell? a = some x1) (h2 : w.cell? b = some x2) (h3 : w.cell? c = some x3) (h4 : w.cell? d = some x4) (h5 : w.cell? e = some x5) (h6 : w.cell? f = some x6) (h7 : w.cell? g = some x7) :
    w'.cell? a = some x1 ∧ w'.cell? b = some x2 ∧ w'.cell? c = some x3 ∧ w'.cell? d = some x4 ∧ w'.cell? e = some x5 ∧ w'.cell? f = some x6 ∧ w'.cell? g = some x7 :=
  ⟨(hb.cell (World.block_lt_of_cell? w _ h1)).trans h1, (hb.cell (World.block_lt_of_cell? w _ h2)).trans h2, (hb.cell (World.block_lt_of_cell? w _ h3)).trans h3, (hb.cell (World.block_lt_of_cell? w _ h4)).trans h4, (hb.cell (World.block_lt_of_cell? w _ h5)).trans h5, (hb.cell (World.block_lt_of_cell? w _ h6)).trans h6, (hb.cell (World.block_lt_of_cell? w _ h7)).trans h7⟩
theorem held_grown {w w' : World} {r : Option Nat} {a b c d e f g : Addr} {x1 x2 x3 x4 x5 x6 x7 : Value} (hg : w.grownBy w' r) (h1 : w.cell? a = some x1) (h2 : w.cell? b = some x2) (h3 : w.cell? c = some x3) (h4 : w.cell? d = some x4) (h5 : w.cell? e = some x5) (h6 : w.cell? f = some x6) (h7 : w.cell? g = some x7)
    (n1 : some a.block ≠ r) (n2 : some b.block ≠ r) (n3 : some c.block ≠ r) (n4 : some d.block ≠ r) (n5 : some e.block ≠ r) (n6 : some f.block ≠ r) (n7 : some g.block ≠ r) :
    w'.cell? a = some x1 ∧ w'.cell? b = some x2 ∧ w'.cell? c = some x3 ∧ w'.cell? d = some x4 ∧ w'.cell? e = some x5 ∧ w'.cell? f = some x6 ∧ w'.cell? g = some x7 :=
  ⟨(hg.cell_far _ (World.block_lt_of_cell? w _ h1) n1).trans h1, (hg.cell_far _ (World.block_lt_of_cell? w _ h2) n2).trans h2, (hg.cell_far _ (World.block_lt_of_cell? w _ h3) n3).trans h3, (hg.cell_far _ (World.block_lt_of_cell? w _ h4) n4).trans h4, (hg.cell_far _ (World.block_lt_of_cell? w _ h5) n5).trans h5, (hg.cell_far _ (World.block_lt_of_cell? w _ h6) n6).trans h6, (hg.cell_far _ (World.block_lt_of_cell? w _ h7) n7).trans h7⟩
theorem cell_up {w : World} {o : Obj} {a : Addr} {x : Value} (h : w.cell? a = some x) : (w.alloc o).cell? a = some x := (World.cell?_alloc_lt _ _ _ (World.block_lt_of_cell? w a h)).trans h
theorem cell_off0 {w : World} {n : Nat} {v x : Value} {a : Addr} (h : w.cell? a = some x) (hne : a.block ≠ n) : (w.setCell ⟨n, 0, none⟩ v).cell? a = some x := (World.cell?_setCell_far w _ a v (fun e => hne e.symm)).trans h
theorem far_lo {r : Option Nat} {p q k : Nat} (h : ∀ k, r = some k → p < k ∧ k < q) (hk : k ≤ p) : some k ≠ r := fun e => by have := h k e.symm; omega
theorem far_hi {r : Option Nat} {p q k : Nat} (h : ∀ k, r = some k → p < k ∧ k < q) (hk : q ≤ k) : some k ≠ r := fun e => by have := h k e.symm; omega
theorem pLeft_length (f : Fil) (c : Cf) : (pLeft f c).length ≤ f.f0.length := by
  unfold pLeft
  split <;> simp only [List.length_set, List.length_take] <;> omega

set_option linter.unusedSimpArgs false
set_option maxHeartbeats 8000000 in
set_option maxRecDepth 100000 in
theorem refCrash_calls (w : World) (ok : Nat → Prop) (a0 : Option Addr) (c0 : Nat) (a1 : Option Addr) (c1 : Nat) (a2 : Option Addr) (c2 : Nat) (a3 : Option Addr) (c3 : Nat) (S : PS) (B : Nat) (n : Int) (A : Option Addr) (cc : Nat) (cs : List Cf) (hcs : Kd.C k60 w A cs.length cs) (hcc : cs.length ≤ cc) (h : Ref w ok a0 c0 a1 c1 a2 c2 a3 c3 S) (hg : Good S B) (hB : B ≤ 274877906944) :
    Calls Try.prog 13 #[sv a0 c0 a1 c1 a2 c2 a3 c3 S, .int .i64 n, .slice A cs.length cc] w (RefE w ok (pCrash S n cs)) := by
  have H := Lib.hid h
  have HG := Lib.hid hg
  have HB := Lib.hid hB
  have HCS := Lib.hid hcs
  have hcc' := hcc
  have hnp : S.pend.length ≤ 549755813888 := by have := hg.nPend; omega
  have HW := Lib.hid (two_blks w (.cells (svC a0 c0 a1 c1 a2 c2 a3 c3 S) tState) (.cells zeroC tState))
  have HOK := Lib.hid (h.mono (ok' := fun k => ok k ∧ k < w.heap.size) (fun k h1 h2 => ⟨h1, h2⟩))
  clear h hg hB hcs hcc
  go_enter Try.func13, Try.ntmps13
  go_wp2_with fail
  go_loopw [8, 7] (fun i dv wr => CR1 w ok S n (svC a0 c0 a1 c1 a2 c2 a3 c3 S) i dv wr) (fun i _ _ => S.pend.length - (intOf i).toNat)
  case atStart => exact ⟨0, a2, c2, Nat.zero_le _, Nat.zero_le _, rfl, rfl, (HOK.out.below HW.out.2).dur.mono (fun k hk _ => .inl hk), HW.out.2, HW.out.1.1, HW.out.1.2⟩
  case round =>
    obtain ⟨k, dA, dc, hk1, hk2, rfl, rfl, hr, hb, h0, h1⟩ := hrel
    obtain ⟨wq, rfl⟩ : ∃ wq, wq = wr := ⟨_, rfl⟩
    have HR := Lib.hid hr
    have HBW := Lib.hid hb
    have j0 := Lib.hid h0
    have j1 := Lib.hid h1
    obtain ⟨s0, s1, s2, s3, s4, s5⟩ := six_cells j0.out
    clear hr hb h0 h1
    by_cases hlt : k < S.pend.length ∧ (k : Int) < n
    · obtain ⟨hl1, hl2⟩ := hlt
      obtain ⟨ad, hA, q0, q1, q2, q3⟩ := pend_elem (HOK.out.below HBW.out).pend k hl1
      subst hA
      obtain ⟨o, ho⟩ : ∃ o, o = S.pend[k] := ⟨_, rfl⟩
      rw [← ho] at q0 q1 q2 q3
      have HOP := Lib.hid (show OpnOk o by rw [ho]; exact HG.out.ops _ (List.getElem_mem hl1))
      have HNX := Lib.hid (show dirAt S (k + 1) = pApply (dirAt S k) o by rw [ho]; exact dirAt_succ S k hl1)
      clear ho
      go_wp2_with (first | (go_at_call 33; go_loud (refine (refApply_calls _ (OkA ok w.heap.size) dA dc (dirAt S k) o HR.out (by have := dirAt_length S k; have := HG.out.nDur; have := HG.out.nPend; have := HB.out; omega) HOP.out.1).mono ?_); rintro e w2 ⟨A', c', rfl, hr2, hb2⟩; go_loud (have HR2 := Lib.hid (hr2.mono (ok' := OkA ok w.heap.size) (fun k hk _ => okin2 j1.out hk))); have HB2 := Lib.hid (HBW.out.trans (hb2.mono HBW.out.size)); have k0 := Lib.hid (blk_below j0.out hb2); have k1 := Lib.hid (blk_below j1.out hb2); clear hr2 hb2) | fail)
      go_roundw
      case rel => exact ⟨k + 1, A', c', by omega, by omega, by go_num, by rw [HNX.out], by rw [HNX.out]; exact HR2.out, HB2.out, k0.out, k1.out⟩
      case measure => simp [intOf]; omega
    · have hend : dirAt S k = pCrashDir S n := by
        unfold dirAt pCrashDir
        rw [show k = min n.toNat S.pend.length by omega, ← List.take_eq_take_min]
      obtain ⟨l, hl⟩ : ∃ l, l = dirAt S k := ⟨_, rfl⟩
      have hlB : l.length ≤ 549755813888 := by rw [hl]; have := dirAt_length S k; have := HG.out.nDur; have := HG.out.nPend; have := HB.out; omega
      have hlv : ∀ e ∈ l, Live S e.f1 := by rw [hl]; exact fun e he => dirAt_live S k e he
      have HLV := Lib.hid hlv
      have HEND := Lib.hid hend
      have HL := Lib.hid hl
      rw [← hl] at HR ⊢
      clear hl hlv hend
      have hways : (¬ k < S.pend.length) ∨ (k < S.pend.length ∧ ¬ (k : Int) < n) := by by_cases h1 : k < S.pend.length; exact .inr ⟨h1, fun h2 => hlt ⟨h1, h2⟩⟩; exact .inl h1
      clear hlt
      rcases hways with hw | ⟨hw, hw2⟩
      all_goals
        go_wp2_with fail
        go_loopw [10] (fun i wx => CR2 wq S l cs i wx) (fun i _ => l.length - (intOf i).toNat)
        case atStart => exact ⟨0, none, none, 0, 0, Nat.zero_le _, rfl, heap_alloc_new wq _, Kd.N_nil _ _ _ _ _, Kd.N_nil _ _ _ _ _, below_alloc (Below.refl _ _) _⟩
        case round =>
          obtain ⟨j, fA, eA, fc, ec, hj, rfl, ho, hnf, hne, hbx⟩ := hrel
          have HO := Lib.hid ho
          have HNF := Lib.hid hnf
          have HNE := Lib.hid hne
          have HBX := Lib.hid hbx
          clear ho hnf hne hbx
          by_cases hlt : j < l.length
          · obtain ⟨ad, hA, q0, q1⟩ := ent_cell (HR.out.below HBX.out).now j hlt
            subst hA
            have HBA := Lib.hid (show (ad.add (j * 2)).block < wq.heap.size by obtain ⟨ad', e, h1, _⟩ := ent_cell HR.out.now j hlt; cases e; exact World.block_lt_of_cell? wq _ h1)
            have HFQ := Lib.hid (show ∀ k, (Value.slice fA j fc).ownBlock = some k → wq.heap.size < k ∧ k < wr.heap.size from fun k hk => ⟨(HNF.out.1 k hk).1, Kd.N_lt HNF.out k hk⟩)
            have HWQ := Lib.hid (show w.heap.size < wq.heap.size by have := lt_blk j1.out; omega)
            obtain ⟨x, hx⟩ : ∃ x, x = l[j].f1 := ⟨_, rfl⟩
            obtain ⟨nm, hnm⟩ : ∃ nm, nm = l[j].f0 := ⟨_, rfl⟩
            have er : rd_T84 l (j : Int) = l[j] := by simp [rd_T84, List.getD, hlt]
            rw [er, ← hnm] at q0
            rw [er, ← hx] at q1
            have HLX := Lib.hid (show Live S x by rw [hx]; exact HLV.out _ (List.getElem_mem hlt))
            have HRX := Lib.hid (HG.out.range x HLX.out)
            have hx0 := HRX.out.1
            have hx1 := HRX.out.2
            obtain ⟨adF, Af, cf, hA, v0, v1, hrf⟩ := file_cells ((HOK.out.below HBW.out).below HBX.out).files x HRX.out
            subst hA
            have HBF := Lib.hid (show (adF.add (x.toNat * 2)).block < wq.heap.size by obtain ⟨ad', _, _, e, h1, _⟩ := file_cells (HOK.out.below HBW.out).files x HRX.out; cases e; exact World.block_lt_of_cell? wq _ h1)
            have HRF := Lib.hid hrf
            have HX := Lib.hid hx
            have HNM := Lib.hid hnm
            have j0x := Lib.hid (blk_below j0.out HBX.out)
            clear s0 s1 s2 s3 s4 s5 hx hnm er hrf
            obtain ⟨s0, s1, s2, s3, s4, s5⟩ := six_cells j0x.out
            obtain ⟨o0, o1, o2, o3, o4, o5⟩ := six_cells HO.out
            obtain ⟨p0, p1, p2, p3, p4, p5⟩ := six_frozen HO.out
            obtain ⟨x0, hx0c⟩ : ∃ x0, x0 = (cfAt cs j).f0 := ⟨_, rfl⟩
            obtain ⟨x1, hx1c⟩ : ∃ x1, x1 = (cfAt cs j).f1 := ⟨_, rfl⟩
            have HCF := Lib.hid (show cfAt cs j = ⟨x0, x1⟩ by rw [hx0c, hx1c])
            have v0' := fun o => cell_any v0 o
            have v1' := fun o => cell_any v1 o
            have q1' := fun o => cell_any q1 o
            have s0' := fun o => cell_any s0 o
            have o0' := fun o => cell_any o0 o
            have hcases : (j < cs.length ∧ ∃ ac, A = some ac ∧ wr.cell? (ac.add (j * 2)) = some (.int .i64 x0) ∧ wr.cell? ⟨(ac.add (j * 2)).block, (ac.add (j * 2)).off + 1, none⟩ = some (.bool x1)) ∨ (¬ j < cs.length ∧ x0 = 0 ∧ x1 = false) := by
              by_cases hcl : j < cs.length
              · left
                have := cf_elem (Kd.C_below HCS.out (HBW.out.trans (HBX.out.mono HBW.out.size))) j hcl
                rw [← hx0c, ← hx1c] at this
                exact ⟨hcl, this⟩
              · right
                obtain ⟨z0, z1⟩ := cf_none hcl
                exact ⟨hcl, by rw [hx0c, z0], by rw [hx1c, z1]⟩
            clear hx0c hx1c
            go_upto_if 43 with (fail)
            go_cut [33] from 33 to 75 (fun _ wx => wx = wr.alloc (.cells #[.int .i64 x0, .bool x1] 60))
            case first =>
              rcases hcases with ⟨hcl, ac, rfl, y0, y1⟩ | ⟨hcl, rfl, rfl⟩
              · have y0' := fun o => cell_any y0 o
                have y1' := fun o => cell_any y1 o
                go_wp2_with fail
                go_meet
                exact rfl
              · go_wp2_with fail
                go_meet
                exact rfl
            case rest =>
              obtain rfl := hcut
              clear hcases
              go_upto_region 13 with fail
              have hq := heap_alloc_new wr (.cells #[.int .i64 x0, .bool x1] 60)
              have hb4 := below_alloc (Below.refl _ wr) (.cells #[.int .i64 x0, .bool x1] 60)
              generalize hw4 : wr.alloc (.cells #[.int .i64 x0, .bool x1] 60) = w4 at hq hb4 ⊢
              clear hw4 v0' v1' q1' s0' o0'
              have HB4 := Lib.hid (HBX.out.trans (hb4.mono HBX.out.size))
              have HO4 := Lib.hid (blk_below HO.out hb4)
              have j04 := Lib.hid (blk_below j0x.out hb4)
              have HNF4 := Lib.hid (Kd.N_below HNF.out hb4)
              have HNE4 := Lib.hid (Kd.N_below HNE.out hb4)
              have HRF4 := Lib.hid (HRF.out.below hb4)
              have q14 := (hb4.cell (World.block_lt_of_cell? wr _ q1)).trans q1
              have v04 := (hb4.cell (World.block_lt_of_cell? wr _ v0)).trans v0
              have v14 := (hb4.cell (World.block_lt_of_cell? wr _ v1)).trans v1
              obtain ⟨y0, y1⟩ := two_cells hq
              clear s0 s1 s2 s3 s4 s5 o0 o1 o2 o3 o4 o5 p0 p1 p2 p3 p4 p5 v0 v1 q1 q0 hq hb4
              obtain ⟨s0, s1, s2, s3, s4, s5⟩ := six_cells j04.out
              obtain ⟨o0, o1, o2, o3, o4, o5⟩ := six_cells HO4.out
              obtain ⟨P, hP⟩ : ∃ P, P = pLeft (fileAt S x) ⟨x0, x1⟩ := ⟨_, rfl⟩
              have HP := Lib.hid hP
              have hPl : P.length ≤ 549755813888 := by rw [hP]; have := pLeft_length (fileAt S x) ⟨x0, x1⟩; have := HG.out.nBytes _ (fileAt_mem HRX.out); have := HB.out; omega
              have HTK := Lib.hid (show (newFiles S l cs).take (j + 1) = (newFiles S l cs).take j ++ [⟨P, P.length⟩] by rw [newFiles_take S l cs j hlt, ← HX.out, HCF.out, hP])
              clear hP
              go_cut [33] from 33 to 75 (fun _ wx => CRM wq S l cs j eA ec wx)
              case first =>
                refine wp_region_held_drew (S := (fun w' => w'.cell? ⟨w.heap.size, 0, none⟩ = some (.slice (some adF) S.files.length c0) ∧ w'.cell? ⟨(ad.add (j * 2)).block, (ad.add (j * 2)).off + 1, none⟩ = some (.int .i64 x) ∧ w'.cell? (adF.add (x.toNat * 2)) = some (.slice Af (fileAt S x).f0.length cf) ∧ w'.cell? ⟨(adF.add (x.toNat * 2)).block, (adF.add (x.toNat * 2)).off + 1, none⟩ = some (.int .i64 (fileAt S x).f1) ∧ w'.cell? ⟨wr.heap.size, 0, none⟩ = some (.int .i64 x0) ∧ w'.cell? ⟨wr.heap.size, 1, none⟩ = some (.bool x1))) (by kernel_rfl) ⟨s0, q14, v04, v14, y0, y1⟩ (fun hHeld => ?_)
                refine wpAnyH_take (i := 0) (oi := _) (v := ?_) rfl (by kernel_rfl) (by kernel_rfl) (by kernel_rfl) (fun _ _ _ h => h) (Or.inl ⟨by rfl, ?_⟩) (by assumption) ?_
                rotate_left
                · (intro w hSw; (try dsimp only at hSw); obtain ⟨hS1, hS2, hS3, hS4, hS5, hS6⟩ := hSw; go_simp; try with_reducible rfl)
                try simp only [Act.put, List.setIfInBounds_toArray, List.set_cons_zero, List.set_cons_succ]
                refine wpAnyH_take (i := 2) (oi := _) (v := ?_) rfl (by kernel_rfl) (by kernel_rfl) (by kernel_rfl) (fun _ _ _ h => h) (Or.inl ⟨by rfl, ?_⟩) (by assumption) ?_
                rotate_left
                · (intro w hSw; (try dsimp only at hSw); obtain ⟨hS1, hS2, hS3, hS4, hS5, hS6⟩ := hSw; go_simp; try with_reducible rfl)
                try simp only [Act.put, List.setIfInBounds_toArray, List.set_cons_zero, List.set_cons_succ]
                refine wpAnyH_take (i := 3) (oi := _) (v := ?_) rfl (by kernel_rfl) (by kernel_rfl) (by kernel_rfl) (fun _ _ _ h => h) (Or.inl ⟨by rfl, ?_⟩) (by assumption) ?_
                rotate_left
                · (intro w hSw; (try dsimp only at hSw); obtain ⟨hS1, hS2, hS3, hS4, hS5, hS6⟩ := hSw; go_simp; try with_reducible rfl)
                try simp only [Act.put, List.setIfInBounds_toArray, List.set_cons_zero, List.set_cons_succ]
                refine wpAnyH_take (i := 4) (oi := _) (v := ?_) rfl (by kernel_rfl) (by kernel_rfl) (by kernel_rfl) (fun _ _ _ h => h) (Or.inl ⟨by rfl, ?_⟩) (by assumption) ?_
                rotate_left
                · (intro w hSw; (try dsimp only at hSw); obtain ⟨hS1, hS2, hS3, hS4, hS5, hS6⟩ := hSw; go_simp; try with_reducible rfl)
                try simp only [Act.put, List.setIfInBounds_toArray, List.set_cons_zero, List.set_cons_succ]
                refine wpAnyH_take (i := 5) (oi := _) (v := ?_) rfl (by kernel_rfl) (by kernel_rfl) (by kernel_rfl) (fun _ _ _ h => h) (Or.inl ⟨by rfl, ?_⟩) (by assumption) ?_
                rotate_left
                · (intro w hSw; (try dsimp only at hSw); obtain ⟨hS1, hS2, hS3, hS4, hS5, hS6⟩ := hSw; go_simp; try with_reducible rfl)
                try simp only [Act.put, List.setIfInBounds_toArray, List.set_cons_zero, List.set_cons_succ]
                refine wpAnyH_take (i := 6) (oi := _) (v := ?_) rfl (by kernel_rfl) (by kernel_rfl) (by kernel_rfl) (fun _ _ _ h => h) (Or.inl ⟨by rfl, ?_⟩) (by assumption) ?_
                rotate_left
                · (intro w hSw; (try dsimp only at hSw); obtain ⟨hS1, hS2, hS3, hS4, hS5, hS6⟩ := hSw; go_simp; try with_reducible rfl)
                try simp only [Act.put, List.setIfInBounds_toArray, List.set_cons_zero, List.set_cons_succ]
                refine wpAnyH_take (i := 7) (oi := _) (v := ?_) rfl (by kernel_rfl) (by kernel_rfl) (by kernel_rfl) (fun _ _ _ h => h) (Or.inl ⟨by rfl, ?_⟩) (by assumption) ?_
                rotate_left
                · (intro w hSw; (try dsimp only at hSw); obtain ⟨hS1, hS2, hS3, hS4, hS5, hS6⟩ := hSw; go_simp; try with_reducible rfl)
                try simp only [Act.put, List.setIfInBounds_toArray, List.set_cons_zero, List.set_cons_succ]
                refine wpAnyH_take (i := 8) (oi := _) (v := ?_) rfl (by kernel_rfl) (by kernel_rfl) (by kernel_rfl) (fun _ _ _ h => h) (Or.inl ⟨by rfl, ?_⟩) (by assumption) ?_
                rotate_left
                · (intro w hSw; (try dsimp only at hSw); obtain ⟨hS1, hS2, hS3, hS4, hS5, hS6⟩ := hSw; go_simp; try with_reducible rfl)
                try simp only [Act.put, List.setIfInBounds_toArray, List.set_cons_zero, List.set_cons_succ]
                refine wpAnyH_take (i := 9) (oi := _) (v := ?_) rfl (by kernel_rfl) (by kernel_rfl) (by kernel_rfl) (fun _ _ _ h => h) (Or.inl ⟨by rfl, ?_⟩) (by assumption) ?_
                rotate_left
                · (intro w hSw; (try dsimp only at hSw); obtain ⟨hS1, hS2, hS3, hS4, hS5, hS6⟩ := hSw; go_simp; try with_reducible rfl)
                try simp only [Act.put, List.setIfInBounds_toArray, List.set_cons_zero, List.set_cons_succ]
                refine wpAnyH_take (i := 10) (oi := _) (v := ?_) rfl (by kernel_rfl) (by kernel_rfl) (by kernel_rfl) (fun _ _ _ h => h) (Or.inl ⟨by rfl, ?_⟩) (by assumption) ?_
                rotate_left
                · (intro w hSw; (try dsimp only at hSw); obtain ⟨hS1, hS2, hS3, hS4, hS5, hS6⟩ := hSw; go_simp; try with_reducible rfl)
                try simp only [Act.put, List.setIfInBounds_toArray, List.set_cons_zero, List.set_cons_succ]
                refine wpAnyH_take (i := 11) (oi := _) (v := ?_) rfl (by kernel_rfl) (by kernel_rfl) (by kernel_rfl) (fun _ _ _ h => h) (Or.inl ⟨by rfl, ?_⟩) (by assumption) ?_
                rotate_left
                · (intro w hSw; (try dsimp only at hSw); obtain ⟨hS1, hS2, hS3, hS4, hS5, hS6⟩ := hSw; go_simp; try with_reducible rfl)
                try simp only [Act.put, List.setIfInBounds_toArray, List.set_cons_zero, List.set_cons_succ]
                refine wpAnyH_ready (rs := [1, 12]) (by kernel_rfl) (by simp) ?_
                refine AllReadyH.cons (o := _) rfl (fun K hK => ?_) ?_
                · go_simp
                  refine hK.out _ _ ⟨s0, q14, v04, v14, y0, y1⟩ (fun hHeld => ?_)
                  clear hK K
                  try simp only [Act.put, List.setIfInBounds_toArray, List.set_cons_zero, List.set_cons_succ]
                  refine wpAnyH_ready (rs := [12]) (by kernel_rfl) (by simp) ?_
                  refine AllReadyH.cons (o := _) rfl (fun K hK => ?_) AllReadyH.nil
                  go_simp
                  refine (left_calls w4.drew (fun k => ok k ∧ k < w.heap.size) Af cf (fileAt S x) ⟨x0, x1⟩ (HRF4.out.move (fun _ _ _ => rfl)) (HG.out.dur _ (fileAt_mem HRX.out)) (by have := HG.out.nBytes _ (fileAt_mem HRX.out); have := HB.out; omega)).mono ?_; rintro e w5 ⟨A5, c5, rfl, hr5, hb5⟩; have hb := drew_below hb5; rw [← HP.out] at hr5 ⊢; have HR5 := Lib.hid hr5; have HB5 := Lib.hid (HB4.out.trans (hb.mono HB4.out.size)); have HO5 := Lib.hid (blk_below HO4.out hb); have HNF5 := Lib.hid (Kd.N_below HNF4.out hb); have HNE5 := Lib.hid (Kd.N_below HNE4.out hb); have HL5 := Lib.hid hb.size; obtain ⟨o05, _, _, _, _, _⟩ := six_cells HO5.out; obtain ⟨hs51, hs52, hs53, hs54, hs55, hs56, hs57⟩ := held_below hb o0 s0 q14 v04 v14 y0 y1; clear hr5 hb5 hb
                  try go_wp2_with fail
                  refine hK.out _ _ ⟨hs52, hs53, hs54, hs55, hs56, hs57⟩ (fun hHeld => ?_)
                  clear hK K
                  try simp only [Act.put, List.setIfInBounds_toArray, List.set_cons_zero, List.set_cons_succ]
                  refine wpAnyH_ready (rs := [13]) (by kernel_rfl) (by simp) ?_
                  refine AllReadyH.cons (o := _) rfl (fun K hK => ?_) AllReadyH.nil
                  go_simp
                  refine hK.out _ _ ⟨cell_up hs52, cell_up hs53, cell_up hs54, cell_up hs55, cell_up hs56, cell_up hs57⟩ (fun hHeld => ?_)
                  clear hK K
                  try simp only [Act.put, List.setIfInBounds_toArray, List.set_cons_zero, List.set_cons_succ]
                  refine wpAnyH_ready (rs := [14]) (by kernel_rfl) (by simp) ?_
                  refine AllReadyH.cons (o := _) rfl (fun K hK => ?_) AllReadyH.nil
                  refine Kd.N_append_step kF (w0 := wq) wq.heap.size rfl (.tmp 49) (.tmp 61) 26 81 _ 32 rfl Try.underlying26 info81 rfl (by decide) (by omega) (.slice fA j fc) ((newFiles S l cs).take j) ⟨P, P.length⟩ [.slice A5 P.length c5, .int .i64 P.length] (fun k => wq.heap.size < k ∧ some k ≠ (Value.slice eA j ec).ownBlock) (fun k => w4.heap.size ≤ k) rfl rfl (k81_mkF _ _ ⟨P, P.length⟩ HR5.out.le HR5.out.f) (fun k hk => app_okp HO4.out HNF4.out HNE4.out hk) (fun k hk => app_fresh HO5.out HNE5.out hk) HNF5.out HB5.out HB5.out.size (by rw [List.length_take, newFiles_length]; omega) ?_; intro v6 w6 hn hb hg hat; rw [← HTK.out] at hn; obtain ⟨A6, c6, rfl⟩ := files_form hn (by rw [newFiles_length]; omega); have HO6 := Lib.hid (blk_grownN HO5.out hg (fun e => Nat.lt_irrefl _ (HNF5.out.1 _ e.symm).1)); have HNF6 := Lib.hid hn; have HNE6 := Lib.hid (ne_grown HNE5.out HNF5.out hg); have HB6 := Lib.hid hb; obtain ⟨hs61, hs62, hs63, hs64, hs65, hs66, hs67⟩ := held_grown hg hs51 hs52 hs53 hs54 hs55 hs56 hs57 (far_lo HFQ.out (Nat.le_refl _)) (far_lo HFQ.out (Nat.le_of_lt HWQ.out)) (far_lo HFQ.out (Nat.le_of_lt HBA.out)) (far_lo HFQ.out (Nat.le_of_lt HBF.out)) (far_lo HFQ.out (Nat.le_of_lt HBF.out)) (far_hi HFQ.out (Nat.le_refl _)) (far_hi HFQ.out (Nat.le_refl _)); obtain ⟨o06, _, _, _, _, _⟩ := six_cells HO6.out; obtain ⟨p06, _, _, _, _, _⟩ := six_frozen HO6.out; clear hn hb hg hat
                  refine hK.out _ _ ⟨hs62, hs63, hs64, hs65, hs66, hs67⟩ (fun hHeld => ?_)
                  clear hK K
                  try simp only [Act.put, List.setIfInBounds_toArray, List.set_cons_zero, List.set_cons_succ]
                  refine wpAnyH_take (i := 15) (oi := _) (v := ?_) rfl (by kernel_rfl) (by kernel_rfl) (by kernel_rfl) (fun _ _ _ h => h) (Or.inl ⟨by rfl, ?_⟩) (by assumption) ?_
                  rotate_left
                  · (intro w hSw; (try dsimp only at hSw); obtain ⟨hS1, hS2, hS3, hS4, hS5, hS6⟩ := hSw; go_simp; try with_reducible rfl)
                  try simp only [Act.put, List.setIfInBounds_toArray, List.set_cons_zero, List.set_cons_succ]
                  refine wpAnyH_ready (rs := [16]) (by kernel_rfl) (by simp) ?_
                  refine AllReadyH.cons (o := _) rfl (fun K hK => ?_) AllReadyH.nil
                  go_simp
                  refine hK.out _ _ ⟨(cell_off0 hs62 (Nat.ne_of_lt HWQ.out)), (cell_off0 hs63 (Nat.ne_of_lt HBA.out)), (cell_off0 hs64 (Nat.ne_of_lt HBF.out)), (cell_off0 hs65 (Nat.ne_of_lt HBF.out)), (cell_off0 hs66 (Nat.ne_of_gt (lt_blk HO.out))), (cell_off0 hs67 (Nat.ne_of_gt (lt_blk HO.out)))⟩ (fun hHeld => ?_)
                  clear hK K
                  try simp only [Act.put, List.setIfInBounds_toArray, List.set_cons_zero, List.set_cons_succ]
                  refine wpAnyH_done (by kernel_rfl) ?_ _
                  go_wp2_with fail
                  go_meet
                  exact crm_of HO6.out HNF6.out HNE6.out HB6.out
                refine AllReadyH.cons (o := _) rfl (fun K hK => ?_) AllReadyH.nil
                go_simp
                refine (left_calls w4.drew (fun k => ok k ∧ k < w.heap.size) Af cf (fileAt S x) ⟨x0, x1⟩ (HRF4.out.move (fun _ _ _ => rfl)) (HG.out.dur _ (fileAt_mem HRX.out)) (by have := HG.out.nBytes _ (fileAt_mem HRX.out); have := HB.out; omega)).mono ?_; rintro e w5 ⟨A5, c5, rfl, hr5, hb5⟩; have hb := drew_below hb5; rw [← HP.out] at hr5 ⊢; have HR5 := Lib.hid hr5; have HB5 := Lib.hid (HB4.out.trans (hb.mono HB4.out.size)); have HO5 := Lib.hid (blk_below HO4.out hb); have HNF5 := Lib.hid (Kd.N_below HNF4.out hb); have HNE5 := Lib.hid (Kd.N_below HNE4.out hb); have HL5 := Lib.hid hb.size; obtain ⟨o05, _, _, _, _, _⟩ := six_cells HO5.out; obtain ⟨hs51, hs52, hs53, hs54, hs55, hs56, hs57⟩ := held_below hb o0 s0 q14 v04 v14 y0 y1; clear hr5 hb5 hb
                try go_wp2_with fail
                refine hK.out _ _ ⟨hs52, hs53, hs54, hs55, hs56, hs57⟩ (fun hHeld => ?_)
                clear hK K
                try simp only [Act.put, List.setIfInBounds_toArray, List.set_cons_zero, List.set_cons_succ]
                refine wpAnyH_ready (rs := [1, 13]) (by kernel_rfl) (by simp) ?_
                refine AllReadyH.cons (o := _) rfl (fun K hK => ?_) ?_
                · go_simp
                  refine hK.out _ _ ⟨hs52, hs53, hs54, hs55, hs56, hs57⟩ (fun hHeld => ?_)
                  clear hK K
                  try simp only [Act.put, List.setIfInBounds_toArray, List.set_cons_zero, List.set_cons_succ]
                  refine wpAnyH_ready (rs := [13]) (by kernel_rfl) (by simp) ?_
                  refine AllReadyH.cons (o := _) rfl (fun K hK => ?_) AllReadyH.nil
                  go_simp
                  refine hK.out _ _ ⟨cell_up hs52, cell_up hs53, cell_up hs54, cell_up hs55, cell_up hs56, cell_up hs57⟩ (fun hHeld => ?_)
                  clear hK K
                  try simp only [Act.put, List.setIfInBounds_toArray, List.set_cons_zero, List.set_cons_succ]
                  refine wpAnyH_ready (rs := [14]) (by kernel_rfl) (by simp) ?_
                  refine AllReadyH.cons (o := _) rfl (fun K hK => ?_) AllReadyH.nil
                  refine Kd.N_append_step kF (w0 := wq) wq.heap.size rfl (.tmp 49) (.tmp 61) 26 81 _ 32 rfl Try.underlying26 info81 rfl (by decide) (by omega) (.slice fA j fc) ((newFiles S l cs).take j) ⟨P, P.length⟩ [.slice A5 P.length c5, .int .i64 P.length] (fun k => wq.heap.size < k ∧ some k ≠ (Value.slice eA j ec).ownBlock) (fun k => w4.heap.size ≤ k) rfl rfl (k81_mkF _ _ ⟨P, P.length⟩ HR5.out.le HR5.out.f) (fun k hk => app_okp HO4.out HNF4.out HNE4.out hk) (fun k hk => app_fresh HO5.out HNE5.out hk) HNF5.out HB5.out HB5.out.size (by rw [List.length_take, newFiles_length]; omega) ?_; intro v6 w6 hn hb hg hat; rw [← HTK.out] at hn; obtain ⟨A6, c6, rfl⟩ := files_form hn (by rw [newFiles_length]; omega); have HO6 := Lib.hid (blk_grownN HO5.out hg (fun e => Nat.lt_irrefl _ (HNF5.out.1 _ e.symm).1)); have HNF6 := Lib.hid hn; have HNE6 := Lib.hid (ne_grown HNE5.out HNF5.out hg); have HB6 := Lib.hid hb; obtain ⟨hs61, hs62, hs63, hs64, hs65, hs66, hs67⟩ := held_grown hg hs51 hs52 hs53 hs54 hs55 hs56 hs57 (far_lo HFQ.out (Nat.le_refl _)) (far_lo HFQ.out (Nat.le_of_lt HWQ.out)) (far_lo HFQ.out (Nat.le_of_lt HBA.out)) (far_lo HFQ.out (Nat.le_of_lt HBF.out)) (far_lo HFQ.out (Nat.le_of_lt HBF.out)) (far_hi HFQ.out (Nat.le_refl _)) (far_hi HFQ.out (Nat.le_refl _)); obtain ⟨o06, _, _, _, _, _⟩ := six_cells HO6.out; obtain ⟨p06, _, _, _, _, _⟩ := six_frozen HO6.out; clear hn hb hg hat
                  refine hK.out _ _ ⟨hs62, hs63, hs64, hs65, hs66, hs67⟩ (fun hHeld => ?_)
                  clear hK K
                  try simp only [Act.put, List.setIfInBounds_toArray, List.set_cons_zero, List.set_cons_succ]
                  refine wpAnyH_take (i := 15) (oi := _) (v := ?_) rfl (by kernel_rfl) (by kernel_rfl) (by kernel_rfl) (fun _ _ _ h => h) (Or.inl ⟨by rfl, ?_⟩) (by assumption) ?_
                  rotate_left
                  · (intro w hSw; (try dsimp only at hSw); obtain ⟨hS1, hS2, hS3, hS4, hS5, hS6⟩ := hSw; go_simp; try with_reducible rfl)
                  try simp only [Act.put, List.setIfInBounds_toArray, List.set_cons_zero, List.set_cons_succ]
                  refine wpAnyH_ready (rs := [16]) (by kernel_rfl) (by simp) ?_
                  refine AllReadyH.cons (o := _) rfl (fun K hK => ?_) AllReadyH.nil
                  go_simp
                  refine hK.out _ _ ⟨(cell_off0 hs62 (Nat.ne_of_lt HWQ.out)), (cell_off0 hs63 (Nat.ne_of_lt HBA.out)), (cell_off0 hs64 (Nat.ne_of_lt HBF.out)), (cell_off0 hs65 (Nat.ne_of_lt HBF.out)), (cell_off0 hs66 (Nat.ne_of_gt (lt_blk HO.out))), (cell_off0 hs67 (Nat.ne_of_gt (lt_blk HO.out)))⟩ (fun hHeld => ?_)
                  clear hK K
                  try simp only [Act.put, List.setIfInBounds_toArray, List.set_cons_zero, List.set_cons_succ]
                  refine wpAnyH_done (by kernel_rfl) ?_ _
                  go_wp2_with fail
                  go_meet
                  exact crm_of HO6.out HNF6.out HNE6.out HB6.out
                refine AllReadyH.cons (o := _) rfl (fun K hK => ?_) AllReadyH.nil
                go_simp
                refine hK.out _ _ ⟨cell_up hs52, cell_up hs53, cell_up hs54, cell_up hs55, cell_up hs56, cell_up hs57⟩ (fun hHeld => ?_)
                clear hK K
                try simp only [Act.put, List.setIfInBounds_toArray, List.set_cons_zero, List.set_cons_succ]
                refine wpAnyH_ready (rs := [1]) (by kernel_rfl) (by simp) ?_
                refine AllReadyH.cons (o := _) rfl (fun K hK => ?_) AllReadyH.nil
                have o05a := fun o => cell_any o05 o
                go_simp
                refine hK.out _ _ ⟨cell_up hs52, cell_up hs53, cell_up hs54, cell_up hs55, cell_up hs56, cell_up hs57⟩ (fun hHeld => ?_)
                clear hK K
                try simp only [Act.put, List.setIfInBounds_toArray, List.set_cons_zero, List.set_cons_succ]
                refine wpAnyH_ready (rs := [14]) (by kernel_rfl) (by simp) ?_
                refine AllReadyH.cons (o := _) rfl (fun K hK => ?_) AllReadyH.nil
                refine Kd.N_append_step kF (w0 := wq) wq.heap.size rfl (.tmp 49) (.tmp 61) 26 81 _ 32 rfl Try.underlying26 info81 rfl (by decide) (by omega) (.slice fA j fc) ((newFiles S l cs).take j) ⟨P, P.length⟩ [.slice A5 P.length c5, .int .i64 P.length] (fun k => wq.heap.size < k ∧ some k ≠ (Value.slice eA j ec).ownBlock) (fun k => w4.heap.size ≤ k) rfl rfl (k81_mkF _ _ ⟨P, P.length⟩ HR5.out.le HR5.out.f) (fun k hk => app_okp HO4.out HNF4.out HNE4.out hk) (fun k hk => app_fresh HO5.out HNE5.out hk) HNF5.out HB5.out HB5.out.size (by rw [List.length_take, newFiles_length]; omega) ?_; intro v6 w6 hn hb hg hat; rw [← HTK.out] at hn; obtain ⟨A6, c6, rfl⟩ := files_form hn (by rw [newFiles_length]; omega); have HO6 := Lib.hid (blk_grownN HO5.out hg (fun e => Nat.lt_irrefl _ (HNF5.out.1 _ e.symm).1)); have HNF6 := Lib.hid hn; have HNE6 := Lib.hid (ne_grown HNE5.out HNF5.out hg); have HB6 := Lib.hid hb; obtain ⟨hs61, hs62, hs63, hs64, hs65, hs66, hs67⟩ := held_grown hg hs51 hs52 hs53 hs54 hs55 hs56 hs57 (far_lo HFQ.out (Nat.le_refl _)) (far_lo HFQ.out (Nat.le_of_lt HWQ.out)) (far_lo HFQ.out (Nat.le_of_lt HBA.out)) (far_lo HFQ.out (Nat.le_of_lt HBF.out)) (far_lo HFQ.out (Nat.le_of_lt HBF.out)) (far_hi HFQ.out (Nat.le_refl _)) (far_hi HFQ.out (Nat.le_refl _)); obtain ⟨o06, _, _, _, _, _⟩ := six_cells HO6.out; obtain ⟨p06, _, _, _, _, _⟩ := six_frozen HO6.out; clear hn hb hg hat
                refine hK.out _ _ ⟨hs62, hs63, hs64, hs65, hs66, hs67⟩ (fun hHeld => ?_)
                clear hK K
                try simp only [Act.put, List.setIfInBounds_toArray, List.set_cons_zero, List.set_cons_succ]
                refine wpAnyH_take (i := 15) (oi := _) (v := ?_) rfl (by kernel_rfl) (by kernel_rfl) (by kernel_rfl) (fun _ _ _ h => h) (Or.inl ⟨by rfl, ?_⟩) (by assumption) ?_
                rotate_left
                · (intro w hSw; (try dsimp only at hSw); obtain ⟨hS1, hS2, hS3, hS4, hS5, hS6⟩ := hSw; go_simp; try with_reducible rfl)
                try simp only [Act.put, List.setIfInBounds_toArray, List.set_cons_zero, List.set_cons_succ]
                refine wpAnyH_ready (rs := [16]) (by kernel_rfl) (by simp) ?_
                refine AllReadyH.cons (o := _) rfl (fun K hK => ?_) AllReadyH.nil
                go_simp
                refine hK.out _ _ ⟨(cell_off0 hs62 (Nat.ne_of_lt HWQ.out)), (cell_off0 hs63 (Nat.ne_of_lt HBA.out)), (cell_off0 hs64 (Nat.ne_of_lt HBF.out)), (cell_off0 hs65 (Nat.ne_of_lt HBF.out)), (cell_off0 hs66 (Nat.ne_of_gt (lt_blk HO.out))), (cell_off0 hs67 (Nat.ne_of_gt (lt_blk HO.out)))⟩ (fun hHeld => ?_)
                clear hK K
                try simp only [Act.put, List.setIfInBounds_toArray, List.set_cons_zero, List.set_cons_succ]
                refine wpAnyH_done (by kernel_rfl) ?_ _
                go_wp2_with fail
                go_meet
                exact crm_of HO6.out HNF6.out HNE6.out HB6.out
              case rest =>
                obtain ⟨f7, fc7, ho7, hf7, he7, hb7⟩ := hcut
                have HF7 := Lib.hid hf7
                have HE7 := Lib.hid he7
                have HB7 := Lib.hid hb7
                have HO7 := Lib.hid ho7
                have q07 := name_again (HR.out.below hb7).now j hlt
                rw [← HNM.out] at q07
                have q07' := fun o => cell_any q07 o
                have HDS := Lib.hid (show newDir l (j + 1) = newDir l j ++ [⟨nm, (j : Int)⟩] by rw [newDir_succ l j hlt, HNM.out])
                obtain ⟨o70, o71, _, _, _, _⟩ := six_cells ho7
                obtain ⟨p70, p71, _, _, _, _⟩ := six_frozen ho7
                have o71' := fun o => cell_any o71 o
                clear ho7 hf7 he7 hb7
                go_upto_region 14 with fail
                go_region_law (refine Kd.N_append_step kE (W := wc.drew) (w0 := wq) wq.heap.size rfl (.tmp 65) (.tmp 73) 27 84 _ 24 rfl Try.underlying27 info84 rfl (by decide) (by omega) (.slice eA j ec) (newDir l j) ⟨nm, (j : Int)⟩ [.string nm, .int .i64 j] (fun k => wq.heap.size < k) (fun _ => False) rfl rfl (k84_mkF _ _ _) (fun k hk => hk.elim) (fun k hk => Nat.lt_of_lt_of_le (lt_blk HO7.out) hk) (Kd.N_drew HE7.out) (HB7.out.trans ⟨rfl, rfl, rfl, Nat.le_refl _, fun _ _ => rfl⟩) HB7.out.size (by rw [newDir_length l j hj]; omega) ?_; intro v8 w8 hn hb hg hat; rw [← HDS.out] at hn; obtain ⟨A8, c8, rfl⟩ := dir_form hn hlt; have HO8 := Lib.hid (blk_grownN (w := wc.drew) HO7.out hg (fun e => Nat.lt_irrefl _ (HE7.out.1 _ e.symm))); have HN8 := Lib.hid hn; have HB8 := Lib.hid hb; have HG8 := Lib.hid hg; have HA8 := Lib.hid hat; obtain ⟨o80, o81, _, _, _, _⟩ := six_cells HO8.out; obtain ⟨p80, p81, _, _, _, _⟩ := six_frozen HO8.out; clear hn hb hg hat)
                all_goals
                  go_wp2_with fail
                  go_roundw
                  case rel => exact cr2_of hlt HO8.out (Kd.N_drew HF7.out) HG8.out HA8.out HN8.out HB8.out
                  case measure => simp [intOf]; omega
          · have hjl : j = l.length := by omega
            subst hjl
            have hlt1 := lt_blk j1.out
            have hn1 : ¬ wq.heap.size = w.heap.size + 1 := by omega
            have hn2 : ¬ w.heap.size + 1 = wq.heap.size := by omega
            have j1x := Lib.hid (blk_below j1.out HBX.out)
            have HL1 := Lib.hid hlt1
            clear s0 s1 s2 s3 s4 s5 hlt1
            obtain ⟨o0, o1, o2, o3, o4, o5⟩ := six_cells HO.out
            obtain ⟨p0, p1, p2, p3, p4, p5⟩ := six_frozen HO.out
            obtain ⟨e0, e1, e2, e3, e4, e5⟩ := six_cells j1x.out
            obtain ⟨g0, g1, g2, g3, g4, g5⟩ := six_frozen j1x.out
            go_wp2_with fail
            have hd : l = pCrashDir S n := HL.out.trans HEND.out
            obtain ⟨q1, q2, q3⟩ := fin_ref (ok := ok) (S := pCrash S n cs) (below_setN (HBW.out.trans (HBX.out.mono HBW.out.size)) (b := wq.heap.size) (j := 2) (by have := HL1.out; omega) (.slice eA l.length ec)) (blk_set_other j1x.out (p := ⟨wq.heap.size, 2, none⟩) hn2 _) (crash_ref HL1.out hd HNF.out HNE.out)
            have e1 : (pCrash S n cs).files.length = l.length := by rw [hd]; exact newFiles_length _ _ _
            have e2 : (pCrash S n cs).dir.length = l.length := by rw [hd]; exact newDir_length _ _ (Nat.le_refl _)
            have e3 : (pCrash S n cs).dur.length = l.length := e2
            rw [e1, e2, e3] at q1 q2 q3
            exact bodyPost_ret (results_cell_row rfl _ _ (w.heap.size + 1) tState _ (0, 0) _ rfl q1 Try.underlying30 rfl (by kernel_rfl)) rfl ⟨_, rfl, ⟨fA, fc, eA, ec, eA, ec, none, 0, rfl, q3⟩, q2⟩
end Go.Proofs.Ytpffeafoangegaa.Disk

/- The plain states: what every operation keeps. -/
namespace Go.Proofs.Ytpffeafoangegaa.Disk
open Go Go.RowKit Go.Proofs.YtpffeafoangegaaW.PrintWords Go.Proofs.YtpffeafoangegaaW.PrintLast Go.Proofs.YtpffeafoangegaaW.PrintMore Go.Proofs.Ytpffeafoangegaa.PSimdiskOperations

def OpName (o : Opn) : Prop := (o.f0 = 1 → okName o.f1 = true) ∧ (o.f0 = 2 → okName o.f2 = true)
/-- Good, with what a crash needs. -/
structure Sound (S : PS) (B : Nat) : Prop where
  good : Good S B
  dp : S.dur.length + S.pend.length ≤ B
  opN : ∀ o ∈ S.pend, OpName o
theorem Good.mono {S : PS} {B B' : Nat} (h : Good S B) (hB : B ≤ B') : Good S B' :=
  { h with
    nFiles := Nat.le_trans h.nFiles hB
    nDir := Nat.le_trans h.nDir hB
    nDur := Nat.le_trans h.nDur hB
    nPend := Nat.le_trans h.nPend hB
    nBytes := fun f hf => Nat.le_trans (h.nBytes f hf) hB }
theorem Sound.mono {S : PS} {B B' : Nat} (h : Sound S B) (hB : B ≤ B') : Sound S B' := ⟨h.good.mono hB, Nat.le_trans h.dp hB, h.opN⟩
theorem Good.done {S : PS} {B : Nat} (h : Good S B) (h0 : S.lim = true → 0 < S.left) : Good (pDone S) B :=
  { nFiles := h.nFiles
    nDir := h.nDir
    nDur := h.nDur
    nPend := h.nPend
    left := fun hl => by
      have hl' : S.lim = true := hl
      have h1 := h.left hl'
      have h2 := h0 hl'
      have e : (pDone S).left = S.left - 1 := by simp [pDone, doneLeft, hl']
      rw [e]
      omega
    range := h.range
    nBytes := h.nBytes
    dur := h.dur
    bytes := h.bytes
    nameD := h.nameD
    nameU := h.nameU
    ops := h.ops }
theorem Sound.done {S : PS} {B : Nat} (h : Sound S B) (h0 : S.lim = true → 0 < S.left) : Sound (pDone S) B := ⟨h.good.done h0, h.dp, h.opN⟩
theorem pApply_names {l : List Ent} {o : Opn} (hl : ∀ e ∈ l, okName e.f0 = true) (ho : OpName o) : ∀ e ∈ pApply l o, okName e.f0 = true := by
  intro e he
  unfold pApply at he
  split at he
  · rcases mem_pWith he with rfl | h
    · exact ho.1 ‹_›
    · exact hl e h
  · split at he
    · split at he
      · rcases mem_pWith he with rfl | h
        · exact ho.2 ‹_›
        · exact hl e (List.mem_filter.1 h).1
      · exact hl e he
    · exact hl e (List.mem_filter.1 he).1
theorem live_dir {S : PS} {o : Opn} {i : Int} (h : Live (pDir S o) i) : Live S i ∨ (o.f0 = 1 ∧ i = o.f3) := live_pDir (S := S) (o := o) h
theorem Sound.dir {S : PS} {B : Nat} {o : Opn} (h : Sound S B) (ho : OpnOk o) (hn : OpName o) (hr : o.f0 = 1 → 0 ≤ o.f3 ∧ o.f3 < S.files.length) : Sound (pDir S o) (B + 1) where
  good :=
    { nFiles := Nat.le_succ_of_le h.good.nFiles
      nDir := by have := pApply_length S.dir o; have := h.good.nDir; show (pApply S.dir o).length ≤ B + 1; omega
      nDur := Nat.le_succ_of_le h.good.nDur
      nPend := by have := h.good.nPend; show (S.pend ++ [o]).length ≤ B + 1; rw [List.length_append, List.length_singleton]; omega
      left := h.good.left
      range := fun i hi => by
        rcases live_dir hi with h1 | ⟨h1, rfl⟩
        · exact h.good.range i h1
        · exact hr h1
      nBytes := fun f hf => Nat.le_succ_of_le (h.good.nBytes f hf)
      dur := h.good.dur
      bytes := h.good.bytes
      nameD := pApply_names h.good.nameD hn
      nameU := h.good.nameU
      ops := fun p hp => by
        rcases List.mem_append.1 hp with hp | hp
        · exact h.good.ops p hp
        · rw [List.mem_singleton.1 hp]
          exact ho }
  dp := by have := h.dp; show S.dur.length + (S.pend ++ [o]).length ≤ B + 1; rw [List.length_append, List.length_singleton]; omega
  opN := fun p hp => by
    rcases List.mem_append.1 hp with hp | hp
    · exact h.opN p hp
    · rw [List.mem_singleton.1 hp]
      exact hn
theorem Sound.file {S : PS} {B : Nat} (h : Sound S B) : Sound { S with files := S.files ++ [⟨[], 0⟩] } (B + 1) where
  good :=
    { nFiles := by have := h.good.nFiles; show (S.files ++ [_]).length ≤ B + 1; rw [List.length_append, List.length_singleton]; omega
      nDir := Nat.le_succ_of_le h.good.nDir
      nDur := Nat.le_succ_of_le h.good.nDur
      nPend := Nat.le_succ_of_le h.good.nPend
      left := h.good.left
      range := fun i hi => by
        have h1 := h.good.range i hi
        refine ⟨h1.1, ?_⟩
        show i < ((S.files ++ [_]).length : Nat)
        rw [List.length_append, List.length_singleton]
        omega
      nBytes := fun f hf => by
        rcases List.mem_append.1 hf with hf | hf
        · exact Nat.le_succ_of_le (h.good.nBytes f hf)
        · rw [List.mem_singleton.1 hf]
          simp
      dur := fun f hf => by
        rcases List.mem_append.1 hf with hf | hf
        · exact h.good.dur f hf
        · rw [List.mem_singleton.1 hf]
          simp
      bytes := fun f hf => by
        rcases List.mem_append.1 hf with hf | hf
        · exact h.good.bytes f hf
        · rw [List.mem_singleton.1 hf]
          intro x hx
          cases hx
      nameD := h.good.nameD
      nameU := h.good.nameU
      ops := h.good.ops }
  dp := Nat.le_succ_of_le h.dp
  opN := h.opN
theorem Sound.set {S : PS} {B n : Nat} {i : Int} {f : Fil} (h : Sound S B) (h1 : f.f0.length ≤ B + n) (h2 : 0 ≤ f.f1 ∧ f.f1 ≤ f.f0.length) (h3 : ∀ x ∈ f.f0, 0 ≤ x ∧ x ≤ 255) : Sound (pSet S i f) (B + n) where
  good :=
    { nFiles := by have := h.good.nFiles; show (S.files.set _ _).length ≤ B + n; rw [List.length_set]; omega
      nDir := Nat.le_add_right_of_le h.good.nDir
      nDur := Nat.le_add_right_of_le h.good.nDur
      nPend := Nat.le_add_right_of_le h.good.nPend
      left := h.good.left
      range := fun i hi => by
        have h1 := h.good.range i hi
        refine ⟨h1.1, ?_⟩
        show i < ((S.files.set _ _).length : Nat)
        rw [List.length_set]
        omega
      nBytes := fun g hg => by
        rcases List.mem_or_eq_of_mem_set hg with hg | rfl
        · exact Nat.le_add_right_of_le (h.good.nBytes g hg)
        · exact h1
      dur := fun g hg => by
        rcases List.mem_or_eq_of_mem_set hg with hg | rfl
        · exact h.good.dur g hg
        · exact h2
      bytes := fun g hg => by
        rcases List.mem_or_eq_of_mem_set hg with hg | rfl
        · exact h.good.bytes g hg
        · exact h3
      nameD := h.good.nameD
      nameU := h.good.nameU
      ops := h.good.ops }
  dp := Nat.le_add_right_of_le h.dp
  opN := h.opN
theorem opn_ok {k i : Int} {m n : ByteArray} (hk : k = 1 ∨ k = 2 ∨ k = 3) (hm : m.size ≤ 64) (hn : n.size ≤ 64) : OpnOk ⟨k, m, n, i⟩ := ⟨hk, hm, hn⟩
theorem size_nil : (⟨#[]⟩ : ByteArray).size ≤ 64 := by decide
theorem Sound.create {S : PS} {B : Nat} {n : ByteArray} (h : Sound S B) : Sound (pCreate S n).1 (B + 100) := by
  unfold pCreate
  split
  · rename_i hc
    obtain ⟨h0, hn⟩ := pCheck_zero hc
    have hn' := hn n (by simp)
    split
    · exact h.mono (by omega)
    · refine Sound.mono (B := B + 1 + 1) (Sound.done (Sound.dir h.file (opn_ok (.inl rfl) (okName_size hn') size_nil) ⟨fun _ => hn', fun e => ?_⟩ (fun _ => ?_)) h0) (by omega)
      · exact absurd (show (1 : Int) = 2 from e) (by decide)
      · exact ⟨by simp, by simp; omega⟩
  · exact h.mono (by omega)
theorem Sound.remove {S : PS} {B : Nat} {n : ByteArray} (h : Sound S B) : Sound (pRemove S n).1 (B + 100) := by
  unfold pRemove
  split
  · rename_i hc
    obtain ⟨h0, hn⟩ := pCheck_zero hc
    have hn' := hn n (by simp)
    split
    · refine Sound.mono (B := B + 1) (Sound.done (Sound.dir h (opn_ok (.inr (.inr rfl)) (okName_size hn') size_nil) ⟨fun e => ?_, fun e => ?_⟩ (fun e => ?_)) h0) (by omega)
      · exact absurd (show (3 : Int) = 1 from e) (by decide)
      · exact absurd (show (3 : Int) = 2 from e) (by decide)
      · exact absurd (show (3 : Int) = 1 from e) (by decide)
    · exact h.mono (by omega)
  · exact h.mono (by omega)
theorem Sound.rename {S : PS} {B : Nat} {m n : ByteArray} (h : Sound S B) : Sound (pRename S m n).1 (B + 100) := by
  unfold pRename
  split
  · rename_i hc
    obtain ⟨h0, hn⟩ := pCheck_zero hc
    have hm' := hn m (by simp)
    have hn' := hn n (by simp)
    split
    · split
      · exact (h.done h0).mono (by omega)
      · refine Sound.mono (B := B + 1) (Sound.done (Sound.dir h (opn_ok (.inr (.inl rfl)) (okName_size hm') (okName_size hn')) ⟨fun e => ?_, fun _ => hn'⟩ (fun e => ?_)) h0) (by omega)
        · exact absurd (show (2 : Int) = 1 from e) (by decide)
        · exact absurd (show (2 : Int) = 1 from e) (by decide)
    · exact h.mono (by omega)
  · exact h.mono (by omega)
theorem Sound.append {S : PS} {B : Nat} {n : ByteArray} {b : List Int} (h : Sound S B) (hb : b.length ≤ 100) (hw : ∀ x ∈ b, 0 ≤ x ∧ x ≤ 255) : Sound (pAppend S n b).1 (B + 100) := by
  unfold pAppend
  split
  · rename_i hc
    obtain ⟨h0, _⟩ := pCheck_zero hc
    split
    · rename_i i hi
      have hm := fileAt_mem (h.good.range i (live_look hi))
      have h1 := h.good.dur _ hm
      refine Sound.done (h.set (n := 100) ?_ ⟨h1.1, ?_⟩ ?_) h0
      · have := h.good.nBytes _ hm
        simp only [List.length_append]
        omega
      · simp only [List.length_append]
        omega
      · intro x hx
        rcases List.mem_append.1 hx with hx | hx
        · exact h.good.bytes _ hm x hx
        · exact hw x hx
    · exact h.mono (by omega)
  · exact h.mono (by omega)
theorem Sound.sync {S : PS} {B : Nat} {n : ByteArray} (h : Sound S B) : Sound (pSync S n).1 (B + 100) := by
  unfold pSync
  split
  · rename_i hc
    obtain ⟨h0, _⟩ := pCheck_zero hc
    split
    · rename_i i hi
      have hm := fileAt_mem (h.good.range i (live_look hi))
      refine Sound.done (h.set (n := 100) ?_ ⟨by simp, by simp⟩ (fun x hx => h.good.bytes _ hm x hx)) h0
      have := h.good.nBytes _ hm
      simp only
      omega
    · exact h.mono (by omega)
  · exact h.mono (by omega)
theorem Sound.synced {S : PS} {B : Nat} (h : Sound S B) : Sound (pSynced S) B where
  good :=
    { h.good with
      nDur := h.good.nDir
      nPend := by simp [pSynced]
      range := fun i hi => h.good.range i (live_synced hi)
      nameU := h.good.nameD
      ops := fun o ho => by simp [pSynced] at ho }
  dp := by have := h.good.nDir; simp [pSynced]; omega
  opN := fun o ho => by simp [pSynced] at ho
theorem Sound.syncDir {S : PS} {B : Nat} (h : Sound S B) : Sound (pSyncDir S).1 (B + 100) := by
  unfold pSyncDir
  split
  · rename_i hc
    exact (h.synced.done (pCheck_zero hc).1).mono (by omega)
  · exact h.mono (by omega)
theorem Sound.fail {S : PS} {B : Nat} {n : Int} (h : Sound S B) (hn : n ≤ 9223372036854775807) : Sound (pFail S n) (B + 100) := by
  refine Sound.mono (B := B) ⟨?_, h.dp, h.opN⟩ (by omega)
  exact
    { h.good with
      left := fun hl => by
        simp only [pFail]
        split <;> omega
      range := h.good.range }
theorem names_at (S : PS) (hu : ∀ e ∈ S.dur, okName e.f0 = true) (hp : ∀ o ∈ S.pend, OpName o) : ∀ (k : Nat) (e : Ent), e ∈ dirAt S k → okName e.f0 = true := by
  intro k
  induction k with
  | zero => intro e he; exact hu e (by simpa [dirAt] using he)
  | succ k ih =>
    intro e he
    by_cases hk : k < S.pend.length
    · rw [dirAt_succ S k hk] at he
      exact pApply_names ih (hp _ (List.getElem_mem hk)) e he
    · have : dirAt S (k + 1) = dirAt S k := by
        unfold dirAt
        rw [List.take_of_length_le (by omega), List.take_of_length_le (by omega)]
      rw [this] at he
      exact ih e he
theorem crashDir_length (S : PS) (n : Int) : (pCrashDir S n).length ≤ S.dur.length + S.pend.length := by
  have h1 : pCrashDir S n = dirAt S n.toNat := rfl
  rw [h1]
  by_cases h : n.toNat ≤ S.pend.length
  · have := dirAt_length S n.toNat; omega
  · have e : dirAt S n.toNat = dirAt S S.pend.length := by unfold dirAt; rw [List.take_of_length_le (by omega), List.take_of_length_le (Nat.le_refl _)]
    rw [e]
    exact dirAt_length S _
theorem pLeft_le (f : Fil) (c : Cf) : (pLeft f c).length ≤ f.f0.length := by
  unfold pLeft
  split <;> simp only [List.length_set, List.length_take] <;> omega
theorem bits_u8 (x : Int) : 0 ≤ Go.bits .xor .u8 x 255 ∧ Go.bits .xor .u8 x 255 ≤ 255 := by
  have h := wf_bits .xor .u8 x 255
  exact bounds_u8 h
theorem pLeft_bytes {f : Fil} {c : Cf} (h : ∀ x ∈ f.f0, 0 ≤ x ∧ x ≤ 255) : ∀ x ∈ pLeft f c, 0 ≤ x ∧ x ≤ 255 := by
  intro x hx
  unfold pLeft at hx
  split at hx
  · rcases List.mem_or_eq_of_mem_set hx with hx | rfl
    · exact h x (List.mem_of_mem_take hx)
    · exact bits_u8 _
  · exact h x (List.mem_of_mem_take hx)
theorem newFiles_mem {S : PS} {l : List Ent} {cs : List Cf} {f : Fil} (h : f ∈ newFiles S l cs) : ∃ e ∈ l, ∃ c, f = ⟨pLeft (fileAt S e.f1) c, (pLeft (fileAt S e.f1) c).length⟩ := by
  unfold newFiles at h
  obtain ⟨⟨e, j⟩, hx, rfl⟩ := List.mem_map.1 h
  have hx1 := List.mem_zipIdx hx
  exact ⟨e, by rw [hx1.2.2]; exact List.getElem_mem _, _, rfl⟩
theorem Sound.crash {S : PS} {B : Nat} {n : Int} {cs : List Cf} (h : Sound S B) : Sound (pCrash S n cs) B where
  good :=
    { nFiles := by have := crashDir_length S n; have := h.dp; show (newFiles _ _ _).length ≤ B; rw [newFiles_length]; omega
      nDir := by have := crashDir_length S n; have := h.dp; show (newDir _ _).length ≤ B; rw [newDir_length _ _ (Nat.le_refl _)]; omega
      nDur := by have := crashDir_length S n; have := h.dp; show (newDir _ _).length ≤ B; rw [newDir_length _ _ (Nat.le_refl _)]; omega
      nPend := by simp [pCrash]
      left := fun e => by cases e
      range := fun i hi => by
        obtain ⟨j, hj, rfl⟩ := live_crash hi
        refine ⟨by omega, ?_⟩
        show (j : Int) < ((newFiles _ _ _).length : Nat)
        rw [newFiles_length]
        omega
      nBytes := fun f hf => by
        obtain ⟨e, he, c, rfl⟩ := newFiles_mem hf
        have h1 := dirAt_live S n.toNat e he
        have h2 := h.good.nBytes _ (fileAt_mem (h.good.range _ h1))
        have h3 := pLeft_le (fileAt S e.f1) c
        simp only
        omega
      dur := fun f hf => by
        obtain ⟨e, he, c, rfl⟩ := newFiles_mem hf
        simp
      bytes := fun f hf => by
        obtain ⟨e, he, c, rfl⟩ := newFiles_mem hf
        exact pLeft_bytes (h.good.bytes _ (fileAt_mem (h.good.range _ (dirAt_live S n.toNat e he))))
      nameD := fun e he => by
        obtain ⟨j, _, _, _, hj, h2⟩ := newDir_mem he
        rw [h2]
        exact names_at S h.good.nameU h.opN n.toNat _ (List.getElem_mem hj)
      nameU := fun e he => by
        obtain ⟨j, _, _, _, hj, h2⟩ := newDir_mem he
        rw [h2]
        exact names_at S h.good.nameU h.opN n.toNat _ (List.getElem_mem hj)
      ops := fun o ho => by simp [pCrash] at ho }
  dp := by
    have := crashDir_length S n
    have := h.dp
    show (newDir _ _).length + ([] : List Opn).length ≤ B
    rw [newDir_length _ _ (Nat.le_refl _)]
    simp
    omega
  opN := fun o ho => by simp [pCrash] at ho
theorem Sound.new : Sound pNew 0 where
  good :=
    { nFiles := by decide
      nDir := by decide
      nDur := by decide
      nPend := by decide
      left := fun e => by cases e
      range := fun i hi => by rcases hi with ⟨e, he, _⟩ | ⟨e, he, _⟩ | ⟨e, he, _⟩ <;> simp [pNew] at he
      nBytes := fun f hf => by simp [pNew] at hf
      dur := fun f hf => by simp [pNew] at hf
      bytes := fun f hf => by simp [pNew] at hf
      nameD := fun f hf => by simp [pNew] at hf
      nameU := fun f hf => by simp [pNew] at hf
      ops := fun f hf => by simp [pNew] at hf }
  dp := by decide
  opN := fun f hf => by simp [pNew] at hf
end Go.Proofs.Ytpffeafoangegaa.Disk

/- A step on a disk and on the reference's state: the operations 0 to 7. -/
namespace Go.Proofs.Ytpffeafoangegaa.Disk
open Go Go.RowKit Go.Proofs.YtpffeafoangegaaW.PrintWords Go.Proofs.YtpffeafoangegaaW.PrintLast Go.Proofs.YtpffeafoangegaaW.PrintMore Go.Proofs.Ytpffeafoangegaa.PSimdiskOperations
abbrev SOp := S47
abbrev tOpn : Nat := 47
abbrev kC : Kd Cf := k60
def pStep (S : PS) (x : SOp) : PS :=
  if x.f0 = 0 then (pCreate S x.f1).1 else if x.f0 = 1 then (pAppend S x.f1 x.f3).1 else if x.f0 = 2 then (pSync S x.f1).1 else if x.f0 = 3 then (pRename S x.f1 x.f2).1
  else if x.f0 = 4 then (pRemove S x.f1).1 else if x.f0 = 5 then (pSyncDir S).1 else if x.f0 = 6 then pFail S x.f4 else if x.f0 = 7 then pCrash S x.f4 x.f5 else S
/-- A disk that stands as S and a state of the reference that is S2; the disk lies in F, the state's rows in ok. -/
structure Pair2 (w : World) (F ok : Nat → Prop) (d : Nat) (v : Value) (S S2 : PS) : Prop where
  rep : ∃ L, Rep w F d L S (Live S)
  ref : RefV w ok v S2
  lt : ∀ k, F k → k < w.heap.size
  apart : ∀ k, ok k → ¬ F k
abbrev Pair (w : World) (F ok : Nat → Prop) (d : Nat) (v : Value) (S : PS) : Prop := Pair2 w F ok d v S S
def okN (ok : Nat → Prop) (w : World) (F' : Nat → Prop) (k : Nat) : Prop := (ok k ∧ k < w.heap.size) ∨ (w.heap.size ≤ k ∧ ¬ F' k)
/-- What a step leaves. -/
def Stepped (w : World) (F ok : Nat → Prop) (d : Nat) (S : PS) (e : Ending) (w' : World) : Prop := ∃ v F', e = .returned (.tuple #[v, .bool true]) ∧ Pair w' F' (okN ok w F') d v S ∧ Chg w F w' F'
/-- What a step leaves where the two stand apart: the Bool is true if they stood alike. -/
def Stepped2 (w : World) (F ok : Nat → Prop) (d : Nat) (C : Prop) (S S2 : PS) (e : Ending) (w' : World) : Prop := ∃ v F' b, e = .returned (.tuple #[v, .bool b]) ∧ Pair2 w' F' (okN ok w F') d v S S2 ∧ Chg w F w' F' ∧ (C → b = true)
theorem three_of (w : World) (x y z : Obj) : Below w.heap.size w (((w.alloc x).alloc y).alloc z) := (three_blks w x y z).2
theorem chg_blk {w3 w4 : World} {F F' : Nat → Prop} {b : Nat} {o : Obj} (h : Chg w3 F w4 F') (hb : w3.heap[b]? = some o) (hF : ¬ F b) : w4.heap[b]? = some o := (h.fr.block b (lt_blk hb) hF).trans hb
theorem not_new {F : Nat → Prop} {n k : Nat} (h : ∀ k, F k → k < n) (hk : n ≤ k) : ¬ F k := fun e => by have := h k e; omega
theorem Rd.chg {α : Type} {dd : Kd α} {w w' : World} {F F' ok : Nat → Prop} {A : Option Addr} {c : Nat} {xs : List α} (h : Rd dd w ok A c xs) (hc : Chg w F w' F') (ha : ∀ k, ok k → ¬ F k) : Rd dd w' ok A c xs := h.move (fun k hk hlt => hc.fr.block k hlt (ha k hk))
theorem Ref.chg {w w' : World} {F F' ok : Nat → Prop} {a0 c0 a1 c1 a2 c2 a3 c3} {S : PS} (h : Ref w ok a0 c0 a1 c1 a2 c2 a3 c3 S) (hc : Chg w F w' F') (ha : ∀ k, ok k → ¬ F k) : Ref w' ok a0 c0 a1 c1 a2 c2 a3 c3 S := h.move (fun k hk hlt => hc.fr.block k hlt (ha k hk))
theorem set_six_other {w : World} {b n : Nat} {o : Obj} (h : w.heap[b]? = some o) (hb : b ≠ n) (y0 y1 y2 y3 y4 y5 : Value) :
    ((((((w.setCell ⟨n, 0, none⟩ y0).setCell ⟨n, 1, none⟩ y1).setCell ⟨n, 2, none⟩ y2).setCell ⟨n, 3, none⟩ y3).setCell ⟨n, 4, none⟩ y4).setCell ⟨n, 5, none⟩ y5).heap[b]? = some o := (other_six hb y0 y1 y2 y3 y4 y5).trans h
theorem step_core {w w3 w4 w5 w6 w7 : World} {F F' ok : Nat → Prop} {d : Nat} {L' : Lay} {S S2 : PS} {b0 : Option Addr} {d0 : Nat} {b1 : Option Addr} {d1 : Nat} {b2 : Option Addr} {d2 : Nat} {b3 : Option Addr} {d3 : Nat} {x0 x1 x2 x3 x4 x5 z0 z1 z2 z3 z4 z5 : Value}
    (hlt : ∀ k, F k → k < w.heap.size) (hap : ∀ k, ok k → ¬ F k) (hw : Below w.heap.size w w3) (hw3 : w.heap.size + 3 = w3.heap.size) (hc : Chg w3 F w4 F') (hr : Rep w4 F' d L' S (Live S)) (hb : Below w4.heap.size w4 w5)
    (hf : Ref w5 (fun k => (ok k ∧ k < w.heap.size) ∨ w4.heap.size ≤ k) b0 d0 b1 d1 b2 d2 b3 d3 S2)
    (far6 : ∀ k, k ≠ w.heap.size → w6.heap[k]? = w5.heap[k]?) (hs6 : w6.heap.size = w5.heap.size) (hb6 : Below w.heap.size w5 w6)
    (h7 : w7 = ((((((w6.setCell ⟨w.heap.size + 1 + 1, 0, none⟩ x0).setCell ⟨w.heap.size + 1 + 1, 1, none⟩ x1).setCell ⟨w.heap.size + 1 + 1, 2, none⟩ x2).setCell ⟨w.heap.size + 1 + 1, 3, none⟩ x3).setCell ⟨w.heap.size + 1 + 1, 4, none⟩ x4).setCell ⟨w.heap.size + 1 + 1, 5, none⟩ x5))
    (hz : w5.heap[w.heap.size + 1 + 1]? = some (.cells #[z0, z1, z2, z3, z4, z5] tState (0, 0))) :
    w7.heap[w.heap.size + 1 + 1]? = some (.cells #[x0, x1, x2, x3, x4, x5] tState (0, 0)) ∧ Pair2 w7 F' (okN ok w F') d (sv b0 d0 b1 d1 b2 d2 b3 d3 S2) S S2 ∧ Chg w F w7 F' := by
  have far : ∀ k, k ≠ w.heap.size → k ≠ w.heap.size + 1 + 1 → w7.heap[k]? = w5.heap[k]? := fun k k1 k2 => by
    rw [h7, other_six k2, far6 k k1]
  have hs4 : w3.heap.size ≤ w4.heap.size := hc.fr.size
  have hs5 := hb.size
  have hs7 : w7.heap.size = w5.heap.size := by rw [h7, ← hs6]; simp [World.setCell]
  have hb7 : Below w.heap.size w5 w7 := by rw [h7]; exact below_six hb6 (by omega) _ _ _ _ _ _
  have inF : ∀ k, F' k → k ≠ w.heap.size ∧ k ≠ w.heap.size + 1 + 1 := fun k hk => by
    rcases hc.new k hk with h | h
    · have := hlt k h; omega
    · omega
  have hz7 : w7.heap[w.heap.size + 1 + 1]? = some (.cells #[x0, x1, x2, x3, x4, x5] tState (0, 0)) := by
    rw [h7]
    exact set_six _ _ _ _ _ _ ((far6 _ (by omega)).trans hz)
  clear h7 hb6
  refine ⟨?_, ⟨⟨L', ?_⟩, ⟨b0, d0, b1, d1, b2, d2, b3, d3, rfl, ?_⟩, fun k hk => ?_, fun k hk hk' => ?_⟩, ?_, fun k hk => ?_, fun k hk => ?_⟩
  · exact hz7
  · exact (hr.below hb).move (fun k hk _ => far k (inF k hk).1 (inF k hk).2)
  · refine (hf.move (fun k hk _ => ?_)).mono (fun k hk _ => ?_)
    · have : k ≠ w.heap.size ∧ k ≠ w.heap.size + 1 + 1 := by rcases hk with hk | hk; have := hk.2; omega; omega
      exact far k this.1 this.2
    · rcases hk with hk | hk
      · exact .inl hk
      · exact .inr ⟨by omega, fun e => by have := hc.lt k e; omega⟩
  · have := hc.lt k hk; omega
  · rcases hk with hk | hk
    · rcases hc.new k hk' with h | h
      · exact hap k hk.1 h
      · have := hk.2; omega
    · exact hk.2 hk'
  · exact
      { os := hb7.os.trans (hb.os.trans (hc.fr.os.trans hw.os))
        tape := hb7.tape.trans (hb.tape.trans (hc.fr.tape.trans hw.tape))
        output := hb7.output.trans (hb.output.trans (hc.fr.output.trans hw.output))
        size := by have := hw.size; omega
        block := fun k hk hF => by
          have h3 := hw.size
          rw [far k (by omega) (by omega), hb.block k (by omega), hc.fr.block k (by omega) hF, hw.block k hk] }
  · rcases hc.new k hk with h | h
    · exact .inl h
    · exact .inr (by omega)
  · have := hc.lt k hk; omega
theorem step_fin {w w3 w4 w5 w6 w7 : World} {F F' ok : Nat → Prop} {d : Nat} {L' : Lay} {S S2 : PS} {b0 : Option Addr} {d0 : Nat} {b1 : Option Addr} {d1 : Nat} {b2 : Option Addr} {d2 : Nat} {b3 : Option Addr} {d3 : Nat} {y0 y1 y2 y3 y4 y5 x0 x1 x2 x3 x4 x5 z0 z1 z2 z3 z4 z5 : Value}
    (hlt : ∀ k, F k → k < w.heap.size) (hap : ∀ k, ok k → ¬ F k) (hw : Below w.heap.size w w3) (hw3 : w.heap.size + 3 = w3.heap.size) (hc : Chg w3 F w4 F') (hr : Rep w4 F' d L' S (Live S)) (hb : Below w4.heap.size w4 w5)
    (hf : Ref w5 (fun k => (ok k ∧ k < w.heap.size) ∨ w4.heap.size ≤ k) b0 d0 b1 d1 b2 d2 b3 d3 S2)
    (h6 : w6 = ((((((w5.setCell ⟨w.heap.size, 0, none⟩ y0).setCell ⟨w.heap.size, 1, none⟩ y1).setCell ⟨w.heap.size, 2, none⟩ y2).setCell ⟨w.heap.size, 3, none⟩ y3).setCell ⟨w.heap.size, 4, none⟩ y4).setCell ⟨w.heap.size, 5, none⟩ y5))
    (h7 : w7 = ((((((w6.setCell ⟨w.heap.size + 1 + 1, 0, none⟩ x0).setCell ⟨w.heap.size + 1 + 1, 1, none⟩ x1).setCell ⟨w.heap.size + 1 + 1, 2, none⟩ x2).setCell ⟨w.heap.size + 1 + 1, 3, none⟩ x3).setCell ⟨w.heap.size + 1 + 1, 4, none⟩ x4).setCell ⟨w.heap.size + 1 + 1, 5, none⟩ x5))
    (hz : w5.heap[w.heap.size + 1 + 1]? = some (.cells #[z0, z1, z2, z3, z4, z5] tState (0, 0))) :
    w7.heap[w.heap.size + 1 + 1]? = some (.cells #[x0, x1, x2, x3, x4, x5] tState (0, 0)) ∧ Pair2 w7 F' (okN ok w F') d (sv b0 d0 b1 d1 b2 d2 b3 d3 S2) S S2 ∧ Chg w F w7 F' :=
  step_core hlt hap hw hw3 hc hr hb hf (fun k k1 => by rw [h6, other_six k1]) (by rw [h6]; simp [World.setCell]) (by rw [h6]; exact below_six (Below.refl _ _) (Nat.le_refl _) _ _ _ _ _ _) h7 hz
theorem size_three (w : World) (x y z : Obj) : w.heap.size + 3 = (((w.alloc x).alloc y).alloc z).heap.size := by simp
theorem refFail2_calls (w : World) (ok : Nat → Prop) (a0 : Option Addr) (c0 : Nat) (a1 : Option Addr) (c1 : Nat) (a2 : Option Addr) (c2 : Nat) (a3 : Option Addr) (c3 : Nat) (S : PS) (n : Int) (h : Ref w ok a0 c0 a1 c1 a2 c2 a3 c3 S) :
    Calls Try.prog 44 #[sv a0 c0 a1 c1 a2 c2 a3 c3 S, .int .i64 n] w (RefE w ok (pFail S n)) :=
  (refFail_calls w a0 a1 a2 a3 _ c0 _ c1 _ c2 _ c3 S.lim S.left n).mono fun _ _ ⟨q1, q2⟩ => ⟨_, q1, ⟨a0, c0, a1, c1, a2, c2, a3, c3, rfl, ((⟨h.files, h.dir, h.dur, h.pend⟩ : Ref w ok a0 c0 a1 c1 a2 c2 a3 c3 (pFail S n)).below q2).mono (fun _ hk _ => .inl hk)⟩, q2⟩

set_option maxHeartbeats 4000000 in
set_option maxRecDepth 100000 in
theorem step_create (w : World) (F ok : Nat → Prop) (d : Nat) (L : Lay) (S S2 : PS) (B : Nat) (a0 : Option Addr) (c0 : Nat) (a1 : Option Addr) (c1 : Nat) (a2 : Option Addr) (c2 : Nat) (a3 : Option Addr) (c3 : Nat) (nm tn : ByteArray) (A3 : Option Addr) (c3' : Nat) (bs : List Int) (n : Int) (A5 : Option Addr) (c5' : Nat) (cs : List Cf)
    (h : Rep w F d L S (Live S)) (hf : Ref w ok a0 c0 a1 c1 a2 c2 a3 c3 S2) (hg : Good S B) (hg2 : Good S2 B) (hB : B ≤ 274877906944) (hlt : ∀ k, F k → k < w.heap.size) (hap : ∀ k, ok k → ¬ F k) (hbs : Rd kB w ok A3 c3' bs) (hbl : bs.length ≤ 549755813888) (hcs : Rd kC w ok A5 c5' cs) :
    Calls Try.prog 20 #[.pointer (some ⟨d, 0, none⟩), sv a0 c0 a1 c1 a2 c2 a3 c3 S2, .agg #[.int .i64 0, .string nm, .string tn, .slice A3 bs.length c3', .int .i64 n, .slice A5 cs.length c5']] w (Stepped2 w F ok d (S = S2) ((pCreate S nm).1) ((pCreate S2 nm).1)) := by
  have HW := Lib.hid (three_blks w (.cells (svC a0 c0 a1 c1 a2 c2 a3 c3 S2) tState) (.cells #[.int .i64 0, .string nm, .string tn, .slice A3 bs.length c3', .int .i64 n, .slice A5 cs.length c5'] tOpn) (.cells zeroC tState))
  have HREP3 := Lib.hid (h.below HW.out.2)
  have HOK := Lib.hid (hf.mono (ok' := fun k => ok k ∧ k < w.heap.size) (fun k h1 h2 => ⟨h1, h2⟩))
  have HBS3 := Lib.hid ((hbs.mono (ok' := fun k => ok k ∧ k < w.heap.size) (fun k h1 h2 => ⟨h1, h2⟩)).below HW.out.2)
  have HCS3 := Lib.hid ((hcs.mono (ok' := fun k => ok k ∧ k < w.heap.size) (fun k h1 h2 => ⟨h1, h2⟩)).below HW.out.2)
  have HG := Lib.hid hg
  have HG2 := Lib.hid hg2
  have HB := Lib.hid (show B ≤ 549755813888 by omega)
  have HB2 := Lib.hid hB
  have HBL := Lib.hid (show bs.length ≤ 1099511627776 by omega)
  have HBL2 := Lib.hid hbl
  have HLT := Lib.hid hlt
  have HAP := Lib.hid hap
  clear h hf hg hg2 hB hlt hap hbs hbl hcs
  go_enter Try.func20, Try.ntmps20
  go_wp2_with (first | (go_at_call 16; refine (Create_calls _ F d L S B nm HREP3.out HG.out HB.out).mono ?_; rintro e w4 ⟨rfl, F', L', hrep, hchg⟩; have HREP4 := Lib.hid hrep; have HCH := Lib.hid hchg; have HREF4 := Lib.hid ((HOK.out.below HW.out.2).chg hchg (fun k hk => HAP.out k hk.1)); have HBS4 := Lib.hid (HBS3.out.chg hchg (fun k hk => HAP.out k hk.1)); have HCS4 := Lib.hid (HCS3.out.chg hchg (fun k hk => HAP.out k hk.1)); have j0 := Lib.hid (chg_blk hchg HW.out.1.1 (not_new HLT.out (Nat.le_refl _))); have j1 := Lib.hid (chg_blk hchg HW.out.1.2.1 (not_new HLT.out (by omega))); have j2 := Lib.hid (chg_blk hchg HW.out.1.2.2 (not_new HLT.out (by omega))); obtain ⟨s0, s1, s2, s3, s4, s5⟩ := six_cells j0.out; obtain ⟨f0, f1, f2, f3, f4, f5⟩ := six_frozen j0.out; obtain ⟨o0, o1, o2, o3, o4, o5⟩ := six_cells j1.out; obtain ⟨z0, z1, z2, z3, z4, z5⟩ := six_cells j2.out; obtain ⟨g0, g1, g2, g3, g4, g5⟩ := six_frozen j2.out; clear hrep hchg) | (go_at_call 38; refine (refCreate_calls _ (fun k => ok k ∧ k < w.heap.size) a0 c0 a1 c1 a2 c2 a3 c3 S2 B nm HREF4.out HG2.out HB.out).mono ?_; rintro e w5 ⟨v, rfl, ⟨b0, d0, b1, d1, b2, d2, b3, d3, rfl, hr⟩, hb⟩; have HR5 := Lib.hid hr; have HB5 := Lib.hid hb; have k0 := Lib.hid (blk_below j0.out hb); have k1 := Lib.hid (blk_below j1.out hb); have k2 := Lib.hid (blk_below j2.out hb); clear s0 s1 s2 s3 s4 s5 f0 f1 f2 f3 f4 f5 o0 o1 o2 o3 o4 o5 z0 z1 z2 z3 z4 z5 g0 g1 g2 g3 g4 g5; clear j0 j1 j2; have j0 := k0; have j1 := k1; have j2 := k2; clear k0 k1 k2; obtain ⟨s0, s1, s2, s3, s4, s5⟩ := six_cells j0.out; obtain ⟨f0, f1, f2, f3, f4, f5⟩ := six_frozen j0.out; obtain ⟨o0, o1, o2, o3, o4, o5⟩ := six_cells j1.out; obtain ⟨z0, z1, z2, z3, z4, z5⟩ := six_cells j2.out; obtain ⟨g0, g1, g2, g3, g4, g5⟩ := six_frozen j2.out; clear hr hb) | fail)
  obtain ⟨q1, q2, q3⟩ := step_fin HLT.out HAP.out HW.out.2 (size_three _ _ _ _) HCH.out HREP4.out HB5.out HR5.out rfl rfl j2.out
  exact bodyPost_ret (results_ct rfl _ _ (w.heap.size + 1 + 1) tState _ (0, 0) _ rfl q1 Try.underlying30 rfl (by kernel_rfl)) rfl ⟨_, F', _, rfl, q2, q3, fun e => by subst e; simp⟩

set_option maxHeartbeats 4000000 in
set_option maxRecDepth 100000 in
theorem step_append (w : World) (F ok : Nat → Prop) (d : Nat) (L : Lay) (S S2 : PS) (B : Nat) (a0 : Option Addr) (c0 : Nat) (a1 : Option Addr) (c1 : Nat) (a2 : Option Addr) (c2 : Nat) (a3 : Option Addr) (c3 : Nat) (nm tn : ByteArray) (A3 : Option Addr) (c3' : Nat) (bs : List Int) (n : Int) (A5 : Option Addr) (c5' : Nat) (cs : List Cf)
    (h : Rep w F d L S (Live S)) (hf : Ref w ok a0 c0 a1 c1 a2 c2 a3 c3 S2) (hg : Good S B) (hg2 : Good S2 B) (hB : B ≤ 274877906944) (hlt : ∀ k, F k → k < w.heap.size) (hap : ∀ k, ok k → ¬ F k) (hbs : Rd kB w ok A3 c3' bs) (hbl : bs.length ≤ 549755813888) (hcs : Rd kC w ok A5 c5' cs) :
    Calls Try.prog 20 #[.pointer (some ⟨d, 0, none⟩), sv a0 c0 a1 c1 a2 c2 a3 c3 S2, .agg #[.int .i64 1, .string nm, .string tn, .slice A3 bs.length c3', .int .i64 n, .slice A5 cs.length c5']] w (Stepped2 w F ok d (S = S2) ((pAppend S nm bs).1) ((pAppend S2 nm bs).1)) := by
  have HW := Lib.hid (three_blks w (.cells (svC a0 c0 a1 c1 a2 c2 a3 c3 S2) tState) (.cells #[.int .i64 1, .string nm, .string tn, .slice A3 bs.length c3', .int .i64 n, .slice A5 cs.length c5'] tOpn) (.cells zeroC tState))
  have HREP3 := Lib.hid (h.below HW.out.2)
  have HOK := Lib.hid (hf.mono (ok' := fun k => ok k ∧ k < w.heap.size) (fun k h1 h2 => ⟨h1, h2⟩))
  have HBS3 := Lib.hid ((hbs.mono (ok' := fun k => ok k ∧ k < w.heap.size) (fun k h1 h2 => ⟨h1, h2⟩)).below HW.out.2)
  have HCS3 := Lib.hid ((hcs.mono (ok' := fun k => ok k ∧ k < w.heap.size) (fun k h1 h2 => ⟨h1, h2⟩)).below HW.out.2)
  have HG := Lib.hid hg
  have HG2 := Lib.hid hg2
  have HB := Lib.hid (show B ≤ 549755813888 by omega)
  have HB2 := Lib.hid hB
  have HBL := Lib.hid (show bs.length ≤ 1099511627776 by omega)
  have HBL2 := Lib.hid hbl
  have HLT := Lib.hid hlt
  have HAP := Lib.hid hap
  clear h hf hg hg2 hB hlt hap hbs hbl hcs
  go_enter Try.func20, Try.ntmps20
  go_wp2_with (first | (go_at_call 17; refine (Append_calls _ F d L S B nm A3 bs c3' HBS3.out.now HBL.out HREP3.out HG.out HB.out).mono ?_; rintro e w4 ⟨rfl, F', L', hrep, hchg⟩; have HREP4 := Lib.hid hrep; have HCH := Lib.hid hchg; have HREF4 := Lib.hid ((HOK.out.below HW.out.2).chg hchg (fun k hk => HAP.out k hk.1)); have HBS4 := Lib.hid (HBS3.out.chg hchg (fun k hk => HAP.out k hk.1)); have HCS4 := Lib.hid (HCS3.out.chg hchg (fun k hk => HAP.out k hk.1)); have j0 := Lib.hid (chg_blk hchg HW.out.1.1 (not_new HLT.out (Nat.le_refl _))); have j1 := Lib.hid (chg_blk hchg HW.out.1.2.1 (not_new HLT.out (by omega))); have j2 := Lib.hid (chg_blk hchg HW.out.1.2.2 (not_new HLT.out (by omega))); obtain ⟨s0, s1, s2, s3, s4, s5⟩ := six_cells j0.out; obtain ⟨f0, f1, f2, f3, f4, f5⟩ := six_frozen j0.out; obtain ⟨o0, o1, o2, o3, o4, o5⟩ := six_cells j1.out; obtain ⟨z0, z1, z2, z3, z4, z5⟩ := six_cells j2.out; obtain ⟨g0, g1, g2, g3, g4, g5⟩ := six_frozen j2.out; clear hrep hchg) | (go_at_call 39; refine (refAppend_calls _ (fun k => ok k ∧ k < w.heap.size) a0 c0 a1 c1 a2 c2 a3 c3 S2 B nm A3 c3' bs HREF4.out HG2.out HB.out HBS4.out HBL2.out).mono ?_; rintro e w5 ⟨v, rfl, ⟨b0, d0, b1, d1, b2, d2, b3, d3, rfl, hr⟩, hb⟩; have HR5 := Lib.hid hr; have HB5 := Lib.hid hb; have k0 := Lib.hid (blk_below j0.out hb); have k1 := Lib.hid (blk_below j1.out hb); have k2 := Lib.hid (blk_below j2.out hb); clear s0 s1 s2 s3 s4 s5 f0 f1 f2 f3 f4 f5 o0 o1 o2 o3 o4 o5 z0 z1 z2 z3 z4 z5 g0 g1 g2 g3 g4 g5; clear j0 j1 j2; have j0 := k0; have j1 := k1; have j2 := k2; clear k0 k1 k2; obtain ⟨s0, s1, s2, s3, s4, s5⟩ := six_cells j0.out; obtain ⟨f0, f1, f2, f3, f4, f5⟩ := six_frozen j0.out; obtain ⟨o0, o1, o2, o3, o4, o5⟩ := six_cells j1.out; obtain ⟨z0, z1, z2, z3, z4, z5⟩ := six_cells j2.out; obtain ⟨g0, g1, g2, g3, g4, g5⟩ := six_frozen j2.out; clear hr hb) | fail)
  obtain ⟨q1, q2, q3⟩ := step_fin HLT.out HAP.out HW.out.2 (size_three _ _ _ _) HCH.out HREP4.out HB5.out HR5.out rfl rfl j2.out
  exact bodyPost_ret (results_ct rfl _ _ (w.heap.size + 1 + 1) tState _ (0, 0) _ rfl q1 Try.underlying30 rfl (by kernel_rfl)) rfl ⟨_, F', _, rfl, q2, q3, fun e => by subst e; simp⟩

set_option maxHeartbeats 4000000 in
set_option maxRecDepth 100000 in
theorem step_sync (w : World) (F ok : Nat → Prop) (d : Nat) (L : Lay) (S S2 : PS) (B : Nat) (a0 : Option Addr) (c0 : Nat) (a1 : Option Addr) (c1 : Nat) (a2 : Option Addr) (c2 : Nat) (a3 : Option Addr) (c3 : Nat) (nm tn : ByteArray) (A3 : Option Addr) (c3' : Nat) (bs : List Int) (n : Int) (A5 : Option Addr) (c5' : Nat) (cs : List Cf)
    (h : Rep w F d L S (Live S)) (hf : Ref w ok a0 c0 a1 c1 a2 c2 a3 c3 S2) (hg : Good S B) (hg2 : Good S2 B) (hB : B ≤ 274877906944) (hlt : ∀ k, F k → k < w.heap.size) (hap : ∀ k, ok k → ¬ F k) (hbs : Rd kB w ok A3 c3' bs) (hbl : bs.length ≤ 549755813888) (hcs : Rd kC w ok A5 c5' cs) :
    Calls Try.prog 20 #[.pointer (some ⟨d, 0, none⟩), sv a0 c0 a1 c1 a2 c2 a3 c3 S2, .agg #[.int .i64 2, .string nm, .string tn, .slice A3 bs.length c3', .int .i64 n, .slice A5 cs.length c5']] w (Stepped2 w F ok d (S = S2) ((pSync S nm).1) ((pSync S2 nm).1)) := by
  have HW := Lib.hid (three_blks w (.cells (svC a0 c0 a1 c1 a2 c2 a3 c3 S2) tState) (.cells #[.int .i64 2, .string nm, .string tn, .slice A3 bs.length c3', .int .i64 n, .slice A5 cs.length c5'] tOpn) (.cells zeroC tState))
  have HREP3 := Lib.hid (h.below HW.out.2)
  have HOK := Lib.hid (hf.mono (ok' := fun k => ok k ∧ k < w.heap.size) (fun k h1 h2 => ⟨h1, h2⟩))
  have HBS3 := Lib.hid ((hbs.mono (ok' := fun k => ok k ∧ k < w.heap.size) (fun k h1 h2 => ⟨h1, h2⟩)).below HW.out.2)
  have HCS3 := Lib.hid ((hcs.mono (ok' := fun k => ok k ∧ k < w.heap.size) (fun k h1 h2 => ⟨h1, h2⟩)).below HW.out.2)
  have HG := Lib.hid hg
  have HG2 := Lib.hid hg2
  have HB := Lib.hid (show B ≤ 549755813888 by omega)
  have HB2 := Lib.hid hB
  have HBL := Lib.hid (show bs.length ≤ 1099511627776 by omega)
  have HBL2 := Lib.hid hbl
  have HLT := Lib.hid hlt
  have HAP := Lib.hid hap
  clear h hf hg hg2 hB hlt hap hbs hbl hcs
  go_enter Try.func20, Try.ntmps20
  go_wp2_with (first | (go_at_call 18; refine (Sync_calls _ F d L S B nm HREP3.out HG.out HB.out).mono ?_; rintro e w4 ⟨rfl, F', L', hrep, hchg⟩; have HREP4 := Lib.hid hrep; have HCH := Lib.hid hchg; have HREF4 := Lib.hid ((HOK.out.below HW.out.2).chg hchg (fun k hk => HAP.out k hk.1)); have HBS4 := Lib.hid (HBS3.out.chg hchg (fun k hk => HAP.out k hk.1)); have HCS4 := Lib.hid (HCS3.out.chg hchg (fun k hk => HAP.out k hk.1)); have j0 := Lib.hid (chg_blk hchg HW.out.1.1 (not_new HLT.out (Nat.le_refl _))); have j1 := Lib.hid (chg_blk hchg HW.out.1.2.1 (not_new HLT.out (by omega))); have j2 := Lib.hid (chg_blk hchg HW.out.1.2.2 (not_new HLT.out (by omega))); obtain ⟨s0, s1, s2, s3, s4, s5⟩ := six_cells j0.out; obtain ⟨f0, f1, f2, f3, f4, f5⟩ := six_frozen j0.out; obtain ⟨o0, o1, o2, o3, o4, o5⟩ := six_cells j1.out; obtain ⟨z0, z1, z2, z3, z4, z5⟩ := six_cells j2.out; obtain ⟨g0, g1, g2, g3, g4, g5⟩ := six_frozen j2.out; clear hrep hchg) | (go_at_call 40; refine (refSync_calls _ (fun k => ok k ∧ k < w.heap.size) a0 c0 a1 c1 a2 c2 a3 c3 S2 B nm HREF4.out HG2.out HB.out).mono ?_; rintro e w5 ⟨v, rfl, ⟨b0, d0, b1, d1, b2, d2, b3, d3, rfl, hr⟩, hb⟩; have HR5 := Lib.hid hr; have HB5 := Lib.hid hb; have k0 := Lib.hid (blk_below j0.out hb); have k1 := Lib.hid (blk_below j1.out hb); have k2 := Lib.hid (blk_below j2.out hb); clear s0 s1 s2 s3 s4 s5 f0 f1 f2 f3 f4 f5 o0 o1 o2 o3 o4 o5 z0 z1 z2 z3 z4 z5 g0 g1 g2 g3 g4 g5; clear j0 j1 j2; have j0 := k0; have j1 := k1; have j2 := k2; clear k0 k1 k2; obtain ⟨s0, s1, s2, s3, s4, s5⟩ := six_cells j0.out; obtain ⟨f0, f1, f2, f3, f4, f5⟩ := six_frozen j0.out; obtain ⟨o0, o1, o2, o3, o4, o5⟩ := six_cells j1.out; obtain ⟨z0, z1, z2, z3, z4, z5⟩ := six_cells j2.out; obtain ⟨g0, g1, g2, g3, g4, g5⟩ := six_frozen j2.out; clear hr hb) | fail)
  obtain ⟨q1, q2, q3⟩ := step_fin HLT.out HAP.out HW.out.2 (size_three _ _ _ _) HCH.out HREP4.out HB5.out HR5.out rfl rfl j2.out
  exact bodyPost_ret (results_ct rfl _ _ (w.heap.size + 1 + 1) tState _ (0, 0) _ rfl q1 Try.underlying30 rfl (by kernel_rfl)) rfl ⟨_, F', _, rfl, q2, q3, fun e => by subst e; simp⟩

set_option maxHeartbeats 4000000 in
set_option maxRecDepth 100000 in
theorem step_rename (w : World) (F ok : Nat → Prop) (d : Nat) (L : Lay) (S S2 : PS) (B : Nat) (a0 : Option Addr) (c0 : Nat) (a1 : Option Addr) (c1 : Nat) (a2 : Option Addr) (c2 : Nat) (a3 : Option Addr) (c3 : Nat) (nm tn : ByteArray) (A3 : Option Addr) (c3' : Nat) (bs : List Int) (n : Int) (A5 : Option Addr) (c5' : Nat) (cs : List Cf)
    (h : Rep w F d L S (Live S)) (hf : Ref w ok a0 c0 a1 c1 a2 c2 a3 c3 S2) (hg : Good S B) (hg2 : Good S2 B) (hB : B ≤ 274877906944) (hlt : ∀ k, F k → k < w.heap.size) (hap : ∀ k, ok k → ¬ F k) (hbs : Rd kB w ok A3 c3' bs) (hbl : bs.length ≤ 549755813888) (hcs : Rd kC w ok A5 c5' cs) :
    Calls Try.prog 20 #[.pointer (some ⟨d, 0, none⟩), sv a0 c0 a1 c1 a2 c2 a3 c3 S2, .agg #[.int .i64 3, .string nm, .string tn, .slice A3 bs.length c3', .int .i64 n, .slice A5 cs.length c5']] w (Stepped2 w F ok d (S = S2) ((pRename S nm tn).1) ((pRename S2 nm tn).1)) := by
  have HW := Lib.hid (three_blks w (.cells (svC a0 c0 a1 c1 a2 c2 a3 c3 S2) tState) (.cells #[.int .i64 3, .string nm, .string tn, .slice A3 bs.length c3', .int .i64 n, .slice A5 cs.length c5'] tOpn) (.cells zeroC tState))
  have HREP3 := Lib.hid (h.below HW.out.2)
  have HOK := Lib.hid (hf.mono (ok' := fun k => ok k ∧ k < w.heap.size) (fun k h1 h2 => ⟨h1, h2⟩))
  have HBS3 := Lib.hid ((hbs.mono (ok' := fun k => ok k ∧ k < w.heap.size) (fun k h1 h2 => ⟨h1, h2⟩)).below HW.out.2)
  have HCS3 := Lib.hid ((hcs.mono (ok' := fun k => ok k ∧ k < w.heap.size) (fun k h1 h2 => ⟨h1, h2⟩)).below HW.out.2)
  have HG := Lib.hid hg
  have HG2 := Lib.hid hg2
  have HB := Lib.hid (show B ≤ 549755813888 by omega)
  have HB2 := Lib.hid hB
  have HBL := Lib.hid (show bs.length ≤ 1099511627776 by omega)
  have HBL2 := Lib.hid hbl
  have HLT := Lib.hid hlt
  have HAP := Lib.hid hap
  clear h hf hg hg2 hB hlt hap hbs hbl hcs
  go_enter Try.func20, Try.ntmps20
  go_wp2_with (first | (go_at_call 24; refine (Rename_calls _ F d L S B nm tn HREP3.out HG.out HB.out).mono ?_; rintro e w4 ⟨rfl, F', L', hrep, hchg⟩; have HREP4 := Lib.hid hrep; have HCH := Lib.hid hchg; have HREF4 := Lib.hid ((HOK.out.below HW.out.2).chg hchg (fun k hk => HAP.out k hk.1)); have HBS4 := Lib.hid (HBS3.out.chg hchg (fun k hk => HAP.out k hk.1)); have HCS4 := Lib.hid (HCS3.out.chg hchg (fun k hk => HAP.out k hk.1)); have j0 := Lib.hid (chg_blk hchg HW.out.1.1 (not_new HLT.out (Nat.le_refl _))); have j1 := Lib.hid (chg_blk hchg HW.out.1.2.1 (not_new HLT.out (by omega))); have j2 := Lib.hid (chg_blk hchg HW.out.1.2.2 (not_new HLT.out (by omega))); obtain ⟨s0, s1, s2, s3, s4, s5⟩ := six_cells j0.out; obtain ⟨f0, f1, f2, f3, f4, f5⟩ := six_frozen j0.out; obtain ⟨o0, o1, o2, o3, o4, o5⟩ := six_cells j1.out; obtain ⟨z0, z1, z2, z3, z4, z5⟩ := six_cells j2.out; obtain ⟨g0, g1, g2, g3, g4, g5⟩ := six_frozen j2.out; clear hrep hchg) | (go_at_call 41; refine (refRename_calls _ (fun k => ok k ∧ k < w.heap.size) a0 c0 a1 c1 a2 c2 a3 c3 S2 B nm tn HREF4.out HG2.out HB.out).mono ?_; rintro e w5 ⟨v, rfl, ⟨b0, d0, b1, d1, b2, d2, b3, d3, rfl, hr⟩, hb⟩; have HR5 := Lib.hid hr; have HB5 := Lib.hid hb; have k0 := Lib.hid (blk_below j0.out hb); have k1 := Lib.hid (blk_below j1.out hb); have k2 := Lib.hid (blk_below j2.out hb); clear s0 s1 s2 s3 s4 s5 f0 f1 f2 f3 f4 f5 o0 o1 o2 o3 o4 o5 z0 z1 z2 z3 z4 z5 g0 g1 g2 g3 g4 g5; clear j0 j1 j2; have j0 := k0; have j1 := k1; have j2 := k2; clear k0 k1 k2; obtain ⟨s0, s1, s2, s3, s4, s5⟩ := six_cells j0.out; obtain ⟨f0, f1, f2, f3, f4, f5⟩ := six_frozen j0.out; obtain ⟨o0, o1, o2, o3, o4, o5⟩ := six_cells j1.out; obtain ⟨z0, z1, z2, z3, z4, z5⟩ := six_cells j2.out; obtain ⟨g0, g1, g2, g3, g4, g5⟩ := six_frozen j2.out; clear hr hb) | fail)
  obtain ⟨q1, q2, q3⟩ := step_fin HLT.out HAP.out HW.out.2 (size_three _ _ _ _) HCH.out HREP4.out HB5.out HR5.out rfl rfl j2.out
  exact bodyPost_ret (results_ct rfl _ _ (w.heap.size + 1 + 1) tState _ (0, 0) _ rfl q1 Try.underlying30 rfl (by kernel_rfl)) rfl ⟨_, F', _, rfl, q2, q3, fun e => by subst e; simp⟩

set_option maxHeartbeats 4000000 in
set_option maxRecDepth 100000 in
theorem step_remove (w : World) (F ok : Nat → Prop) (d : Nat) (L : Lay) (S S2 : PS) (B : Nat) (a0 : Option Addr) (c0 : Nat) (a1 : Option Addr) (c1 : Nat) (a2 : Option Addr) (c2 : Nat) (a3 : Option Addr) (c3 : Nat) (nm tn : ByteArray) (A3 : Option Addr) (c3' : Nat) (bs : List Int) (n : Int) (A5 : Option Addr) (c5' : Nat) (cs : List Cf)
    (h : Rep w F d L S (Live S)) (hf : Ref w ok a0 c0 a1 c1 a2 c2 a3 c3 S2) (hg : Good S B) (hg2 : Good S2 B) (hB : B ≤ 274877906944) (hlt : ∀ k, F k → k < w.heap.size) (hap : ∀ k, ok k → ¬ F k) (hbs : Rd kB w ok A3 c3' bs) (hbl : bs.length ≤ 549755813888) (hcs : Rd kC w ok A5 c5' cs) :
    Calls Try.prog 20 #[.pointer (some ⟨d, 0, none⟩), sv a0 c0 a1 c1 a2 c2 a3 c3 S2, .agg #[.int .i64 4, .string nm, .string tn, .slice A3 bs.length c3', .int .i64 n, .slice A5 cs.length c5']] w (Stepped2 w F ok d (S = S2) ((pRemove S nm).1) ((pRemove S2 nm).1)) := by
  have HW := Lib.hid (three_blks w (.cells (svC a0 c0 a1 c1 a2 c2 a3 c3 S2) tState) (.cells #[.int .i64 4, .string nm, .string tn, .slice A3 bs.length c3', .int .i64 n, .slice A5 cs.length c5'] tOpn) (.cells zeroC tState))
  have HREP3 := Lib.hid (h.below HW.out.2)
  have HOK := Lib.hid (hf.mono (ok' := fun k => ok k ∧ k < w.heap.size) (fun k h1 h2 => ⟨h1, h2⟩))
  have HBS3 := Lib.hid ((hbs.mono (ok' := fun k => ok k ∧ k < w.heap.size) (fun k h1 h2 => ⟨h1, h2⟩)).below HW.out.2)
  have HCS3 := Lib.hid ((hcs.mono (ok' := fun k => ok k ∧ k < w.heap.size) (fun k h1 h2 => ⟨h1, h2⟩)).below HW.out.2)
  have HG := Lib.hid hg
  have HG2 := Lib.hid hg2
  have HB := Lib.hid (show B ≤ 549755813888 by omega)
  have HB2 := Lib.hid hB
  have HBL := Lib.hid (show bs.length ≤ 1099511627776 by omega)
  have HBL2 := Lib.hid hbl
  have HLT := Lib.hid hlt
  have HAP := Lib.hid hap
  clear h hf hg hg2 hB hlt hap hbs hbl hcs
  go_enter Try.func20, Try.ntmps20
  go_wp2_with (first | (go_at_call 25; refine (Remove_calls _ F d L S B nm HREP3.out HG.out HB.out).mono ?_; rintro e w4 ⟨rfl, F', L', hrep, hchg⟩; have HREP4 := Lib.hid hrep; have HCH := Lib.hid hchg; have HREF4 := Lib.hid ((HOK.out.below HW.out.2).chg hchg (fun k hk => HAP.out k hk.1)); have HBS4 := Lib.hid (HBS3.out.chg hchg (fun k hk => HAP.out k hk.1)); have HCS4 := Lib.hid (HCS3.out.chg hchg (fun k hk => HAP.out k hk.1)); have j0 := Lib.hid (chg_blk hchg HW.out.1.1 (not_new HLT.out (Nat.le_refl _))); have j1 := Lib.hid (chg_blk hchg HW.out.1.2.1 (not_new HLT.out (by omega))); have j2 := Lib.hid (chg_blk hchg HW.out.1.2.2 (not_new HLT.out (by omega))); obtain ⟨s0, s1, s2, s3, s4, s5⟩ := six_cells j0.out; obtain ⟨f0, f1, f2, f3, f4, f5⟩ := six_frozen j0.out; obtain ⟨o0, o1, o2, o3, o4, o5⟩ := six_cells j1.out; obtain ⟨z0, z1, z2, z3, z4, z5⟩ := six_cells j2.out; obtain ⟨g0, g1, g2, g3, g4, g5⟩ := six_frozen j2.out; clear hrep hchg) | (go_at_call 42; refine (refRemove_calls _ (fun k => ok k ∧ k < w.heap.size) a0 c0 a1 c1 a2 c2 a3 c3 S2 B nm HREF4.out HG2.out HB.out).mono ?_; rintro e w5 ⟨v, rfl, ⟨b0, d0, b1, d1, b2, d2, b3, d3, rfl, hr⟩, hb⟩; have HR5 := Lib.hid hr; have HB5 := Lib.hid hb; have k0 := Lib.hid (blk_below j0.out hb); have k1 := Lib.hid (blk_below j1.out hb); have k2 := Lib.hid (blk_below j2.out hb); clear s0 s1 s2 s3 s4 s5 f0 f1 f2 f3 f4 f5 o0 o1 o2 o3 o4 o5 z0 z1 z2 z3 z4 z5 g0 g1 g2 g3 g4 g5; clear j0 j1 j2; have j0 := k0; have j1 := k1; have j2 := k2; clear k0 k1 k2; obtain ⟨s0, s1, s2, s3, s4, s5⟩ := six_cells j0.out; obtain ⟨f0, f1, f2, f3, f4, f5⟩ := six_frozen j0.out; obtain ⟨o0, o1, o2, o3, o4, o5⟩ := six_cells j1.out; obtain ⟨z0, z1, z2, z3, z4, z5⟩ := six_cells j2.out; obtain ⟨g0, g1, g2, g3, g4, g5⟩ := six_frozen j2.out; clear hr hb) | fail)
  obtain ⟨q1, q2, q3⟩ := step_fin HLT.out HAP.out HW.out.2 (size_three _ _ _ _) HCH.out HREP4.out HB5.out HR5.out rfl rfl j2.out
  exact bodyPost_ret (results_ct rfl _ _ (w.heap.size + 1 + 1) tState _ (0, 0) _ rfl q1 Try.underlying30 rfl (by kernel_rfl)) rfl ⟨_, F', _, rfl, q2, q3, fun e => by subst e; simp⟩

set_option maxHeartbeats 4000000 in
set_option maxRecDepth 100000 in
theorem step_syncdir (w : World) (F ok : Nat → Prop) (d : Nat) (L : Lay) (S S2 : PS) (B : Nat) (a0 : Option Addr) (c0 : Nat) (a1 : Option Addr) (c1 : Nat) (a2 : Option Addr) (c2 : Nat) (a3 : Option Addr) (c3 : Nat) (nm tn : ByteArray) (A3 : Option Addr) (c3' : Nat) (bs : List Int) (n : Int) (A5 : Option Addr) (c5' : Nat) (cs : List Cf)
    (h : Rep w F d L S (Live S)) (hf : Ref w ok a0 c0 a1 c1 a2 c2 a3 c3 S2) (hg : Good S B) (hg2 : Good S2 B) (hB : B ≤ 274877906944) (hlt : ∀ k, F k → k < w.heap.size) (hap : ∀ k, ok k → ¬ F k) (hbs : Rd kB w ok A3 c3' bs) (hbl : bs.length ≤ 549755813888) (hcs : Rd kC w ok A5 c5' cs) :
    Calls Try.prog 20 #[.pointer (some ⟨d, 0, none⟩), sv a0 c0 a1 c1 a2 c2 a3 c3 S2, .agg #[.int .i64 5, .string nm, .string tn, .slice A3 bs.length c3', .int .i64 n, .slice A5 cs.length c5']] w (Stepped2 w F ok d (S = S2) ((pSyncDir S).1) ((pSyncDir S2).1)) := by
  have HW := Lib.hid (three_blks w (.cells (svC a0 c0 a1 c1 a2 c2 a3 c3 S2) tState) (.cells #[.int .i64 5, .string nm, .string tn, .slice A3 bs.length c3', .int .i64 n, .slice A5 cs.length c5'] tOpn) (.cells zeroC tState))
  have HREP3 := Lib.hid (h.below HW.out.2)
  have HOK := Lib.hid (hf.mono (ok' := fun k => ok k ∧ k < w.heap.size) (fun k h1 h2 => ⟨h1, h2⟩))
  have HBS3 := Lib.hid ((hbs.mono (ok' := fun k => ok k ∧ k < w.heap.size) (fun k h1 h2 => ⟨h1, h2⟩)).below HW.out.2)
  have HCS3 := Lib.hid ((hcs.mono (ok' := fun k => ok k ∧ k < w.heap.size) (fun k h1 h2 => ⟨h1, h2⟩)).below HW.out.2)
  have HG := Lib.hid hg
  have HG2 := Lib.hid hg2
  have HB := Lib.hid (show B ≤ 549755813888 by omega)
  have HB2 := Lib.hid hB
  have HBL := Lib.hid (show bs.length ≤ 1099511627776 by omega)
  have HBL2 := Lib.hid hbl
  have HLT := Lib.hid hlt
  have HAP := Lib.hid hap
  clear h hf hg hg2 hB hlt hap hbs hbl hcs
  go_enter Try.func20, Try.ntmps20
  go_wp2_with (first | (go_at_call 14; refine (SyncDir_calls _ F d L S B HREP3.out HG.out HB.out).mono ?_; rintro e w4 ⟨rfl, F', L', hrep, hchg⟩; have HREP4 := Lib.hid hrep; have HCH := Lib.hid hchg; have HREF4 := Lib.hid ((HOK.out.below HW.out.2).chg hchg (fun k hk => HAP.out k hk.1)); have HBS4 := Lib.hid (HBS3.out.chg hchg (fun k hk => HAP.out k hk.1)); have HCS4 := Lib.hid (HCS3.out.chg hchg (fun k hk => HAP.out k hk.1)); have j0 := Lib.hid (chg_blk hchg HW.out.1.1 (not_new HLT.out (Nat.le_refl _))); have j1 := Lib.hid (chg_blk hchg HW.out.1.2.1 (not_new HLT.out (by omega))); have j2 := Lib.hid (chg_blk hchg HW.out.1.2.2 (not_new HLT.out (by omega))); obtain ⟨s0, s1, s2, s3, s4, s5⟩ := six_cells j0.out; obtain ⟨f0, f1, f2, f3, f4, f5⟩ := six_frozen j0.out; obtain ⟨o0, o1, o2, o3, o4, o5⟩ := six_cells j1.out; obtain ⟨z0, z1, z2, z3, z4, z5⟩ := six_cells j2.out; obtain ⟨g0, g1, g2, g3, g4, g5⟩ := six_frozen j2.out; clear hrep hchg) | (go_at_call 43; refine (refSyncDir_calls _ (fun k => ok k ∧ k < w.heap.size) a0 c0 a1 c1 a2 c2 a3 c3 S2 B HREF4.out HG2.out HB.out).mono ?_; rintro e w5 ⟨v, rfl, ⟨b0, d0, b1, d1, b2, d2, b3, d3, rfl, hr⟩, hb⟩; have HR5 := Lib.hid hr; have HB5 := Lib.hid hb; have k0 := Lib.hid (blk_below j0.out hb); have k1 := Lib.hid (blk_below j1.out hb); have k2 := Lib.hid (blk_below j2.out hb); clear s0 s1 s2 s3 s4 s5 f0 f1 f2 f3 f4 f5 o0 o1 o2 o3 o4 o5 z0 z1 z2 z3 z4 z5 g0 g1 g2 g3 g4 g5; clear j0 j1 j2; have j0 := k0; have j1 := k1; have j2 := k2; clear k0 k1 k2; obtain ⟨s0, s1, s2, s3, s4, s5⟩ := six_cells j0.out; obtain ⟨f0, f1, f2, f3, f4, f5⟩ := six_frozen j0.out; obtain ⟨o0, o1, o2, o3, o4, o5⟩ := six_cells j1.out; obtain ⟨z0, z1, z2, z3, z4, z5⟩ := six_cells j2.out; obtain ⟨g0, g1, g2, g3, g4, g5⟩ := six_frozen j2.out; clear hr hb) | fail)
  obtain ⟨q1, q2, q3⟩ := step_fin HLT.out HAP.out HW.out.2 (size_three _ _ _ _) HCH.out HREP4.out HB5.out HR5.out rfl rfl j2.out
  exact bodyPost_ret (results_ct rfl _ _ (w.heap.size + 1 + 1) tState _ (0, 0) _ rfl q1 Try.underlying30 rfl (by kernel_rfl)) rfl ⟨_, F', _, rfl, q2, q3, fun e => by subst e; simp⟩

set_option maxHeartbeats 4000000 in
set_option maxRecDepth 100000 in
theorem step_fail (w : World) (F ok : Nat → Prop) (d : Nat) (L : Lay) (S S2 : PS) (B : Nat) (a0 : Option Addr) (c0 : Nat) (a1 : Option Addr) (c1 : Nat) (a2 : Option Addr) (c2 : Nat) (a3 : Option Addr) (c3 : Nat) (nm tn : ByteArray) (A3 : Option Addr) (c3' : Nat) (bs : List Int) (n : Int) (A5 : Option Addr) (c5' : Nat) (cs : List Cf)
    (h : Rep w F d L S (Live S)) (hf : Ref w ok a0 c0 a1 c1 a2 c2 a3 c3 S2) (hg : Good S B) (hg2 : Good S2 B) (hB : B ≤ 274877906944) (hlt : ∀ k, F k → k < w.heap.size) (hap : ∀ k, ok k → ¬ F k) (hbs : Rd kB w ok A3 c3' bs) (hbl : bs.length ≤ 549755813888) (hcs : Rd kC w ok A5 c5' cs) :
    Calls Try.prog 20 #[.pointer (some ⟨d, 0, none⟩), sv a0 c0 a1 c1 a2 c2 a3 c3 S2, .agg #[.int .i64 6, .string nm, .string tn, .slice A3 bs.length c3', .int .i64 n, .slice A5 cs.length c5']] w (Stepped2 w F ok d (S = S2) (pFail S n) (pFail S2 n)) := by
  have HW := Lib.hid (three_blks w (.cells (svC a0 c0 a1 c1 a2 c2 a3 c3 S2) tState) (.cells #[.int .i64 6, .string nm, .string tn, .slice A3 bs.length c3', .int .i64 n, .slice A5 cs.length c5'] tOpn) (.cells zeroC tState))
  have HREP3 := Lib.hid (h.below HW.out.2)
  have HOK := Lib.hid (hf.mono (ok' := fun k => ok k ∧ k < w.heap.size) (fun k h1 h2 => ⟨h1, h2⟩))
  have HBS3 := Lib.hid ((hbs.mono (ok' := fun k => ok k ∧ k < w.heap.size) (fun k h1 h2 => ⟨h1, h2⟩)).below HW.out.2)
  have HCS3 := Lib.hid ((hcs.mono (ok' := fun k => ok k ∧ k < w.heap.size) (fun k h1 h2 => ⟨h1, h2⟩)).below HW.out.2)
  have HG := Lib.hid hg
  have HG2 := Lib.hid hg2
  have HB := Lib.hid (show B ≤ 549755813888 by omega)
  have HB2 := Lib.hid hB
  have HBL := Lib.hid (show bs.length ≤ 1099511627776 by omega)
  have HBL2 := Lib.hid hbl
  have HLT := Lib.hid hlt
  have HAP := Lib.hid hap
  clear h hf hg hg2 hB hlt hap hbs hbl hcs
  go_enter Try.func20, Try.ntmps20
  go_wp2_with (first | (go_at_call 23; refine (FailAfter_calls _ F d L S n HREP3.out).mono ?_; rintro e w4 ⟨rfl, F', L', hrep, hchg⟩; have HREP4 := Lib.hid hrep; have HCH := Lib.hid hchg; have HREF4 := Lib.hid ((HOK.out.below HW.out.2).chg hchg (fun k hk => HAP.out k hk.1)); have HBS4 := Lib.hid (HBS3.out.chg hchg (fun k hk => HAP.out k hk.1)); have HCS4 := Lib.hid (HCS3.out.chg hchg (fun k hk => HAP.out k hk.1)); have j0 := Lib.hid (chg_blk hchg HW.out.1.1 (not_new HLT.out (Nat.le_refl _))); have j1 := Lib.hid (chg_blk hchg HW.out.1.2.1 (not_new HLT.out (by omega))); have j2 := Lib.hid (chg_blk hchg HW.out.1.2.2 (not_new HLT.out (by omega))); obtain ⟨s0, s1, s2, s3, s4, s5⟩ := six_cells j0.out; obtain ⟨f0, f1, f2, f3, f4, f5⟩ := six_frozen j0.out; obtain ⟨o0, o1, o2, o3, o4, o5⟩ := six_cells j1.out; obtain ⟨z0, z1, z2, z3, z4, z5⟩ := six_cells j2.out; obtain ⟨g0, g1, g2, g3, g4, g5⟩ := six_frozen j2.out; clear hrep hchg) | (go_at_call 44; refine (refFail2_calls _ (fun k => ok k ∧ k < w.heap.size) a0 c0 a1 c1 a2 c2 a3 c3 S2 n HREF4.out).mono ?_; rintro e w5 ⟨v, rfl, ⟨b0, d0, b1, d1, b2, d2, b3, d3, rfl, hr⟩, hb⟩; have HR5 := Lib.hid hr; have HB5 := Lib.hid hb; have k0 := Lib.hid (blk_below j0.out hb); have k1 := Lib.hid (blk_below j1.out hb); have k2 := Lib.hid (blk_below j2.out hb); clear s0 s1 s2 s3 s4 s5 f0 f1 f2 f3 f4 f5 o0 o1 o2 o3 o4 o5 z0 z1 z2 z3 z4 z5 g0 g1 g2 g3 g4 g5; clear j0 j1 j2; have j0 := k0; have j1 := k1; have j2 := k2; clear k0 k1 k2; obtain ⟨s0, s1, s2, s3, s4, s5⟩ := six_cells j0.out; obtain ⟨f0, f1, f2, f3, f4, f5⟩ := six_frozen j0.out; obtain ⟨o0, o1, o2, o3, o4, o5⟩ := six_cells j1.out; obtain ⟨z0, z1, z2, z3, z4, z5⟩ := six_cells j2.out; obtain ⟨g0, g1, g2, g3, g4, g5⟩ := six_frozen j2.out; clear hr hb) | fail)
  obtain ⟨q1, q2, q3⟩ := step_fin HLT.out HAP.out HW.out.2 (size_three _ _ _ _) HCH.out HREP4.out HB5.out HR5.out rfl rfl j2.out
  exact bodyPost_ret (results_ct rfl _ _ (w.heap.size + 1 + 1) tState _ (0, 0) _ rfl q1 Try.underlying30 rfl (by kernel_rfl)) rfl ⟨_, F', _, rfl, q2, q3, fun e => by subst e; simp⟩

set_option maxHeartbeats 4000000 in
set_option maxRecDepth 100000 in
theorem step_crash (w : World) (F ok : Nat → Prop) (d : Nat) (L : Lay) (S S2 : PS) (B : Nat) (a0 : Option Addr) (c0 : Nat) (a1 : Option Addr) (c1 : Nat) (a2 : Option Addr) (c2 : Nat) (a3 : Option Addr) (c3 : Nat) (nm tn : ByteArray) (A3 : Option Addr) (c3' : Nat) (bs : List Int) (n : Int) (A5 : Option Addr) (c5' : Nat) (cs : List Cf)
    (h : Rep w F d L S (Live S)) (hf : Ref w ok a0 c0 a1 c1 a2 c2 a3 c3 S2) (hg : Good S B) (hg2 : Good S2 B) (hB : B ≤ 274877906944) (hlt : ∀ k, F k → k < w.heap.size) (hap : ∀ k, ok k → ¬ F k) (hbs : Rd kB w ok A3 c3' bs) (hbl : bs.length ≤ 549755813888) (hcs : Rd kC w ok A5 c5' cs) :
    Calls Try.prog 20 #[.pointer (some ⟨d, 0, none⟩), sv a0 c0 a1 c1 a2 c2 a3 c3 S2, .agg #[.int .i64 7, .string nm, .string tn, .slice A3 bs.length c3', .int .i64 n, .slice A5 cs.length c5']] w (Stepped2 w F ok d (S = S2) (pCrash S n cs) (pCrash S2 n cs)) := by
  have HW := Lib.hid (three_blks w (.cells (svC a0 c0 a1 c1 a2 c2 a3 c3 S2) tState) (.cells #[.int .i64 7, .string nm, .string tn, .slice A3 bs.length c3', .int .i64 n, .slice A5 cs.length c5'] tOpn) (.cells zeroC tState))
  have HREP3 := Lib.hid (h.below HW.out.2)
  have HOK := Lib.hid (hf.mono (ok' := fun k => ok k ∧ k < w.heap.size) (fun k h1 h2 => ⟨h1, h2⟩))
  have HBS3 := Lib.hid ((hbs.mono (ok' := fun k => ok k ∧ k < w.heap.size) (fun k h1 h2 => ⟨h1, h2⟩)).below HW.out.2)
  have HCS3 := Lib.hid ((hcs.mono (ok' := fun k => ok k ∧ k < w.heap.size) (fun k h1 h2 => ⟨h1, h2⟩)).below HW.out.2)
  have HG := Lib.hid hg
  have HG2 := Lib.hid hg2
  have HB := Lib.hid (show B ≤ 549755813888 by omega)
  have HB2 := Lib.hid hB
  have HBL := Lib.hid (show bs.length ≤ 1099511627776 by omega)
  have HBL2 := Lib.hid hbl
  have HLT := Lib.hid hlt
  have HAP := Lib.hid hap
  clear h hf hg hg2 hB hlt hap hbs hbl hcs
  go_enter Try.func20, Try.ntmps20
  go_wp2_with (first | (go_at_call 12; refine (Crash_calls _ F d L S B n A5 c5' cs HCS3.out.now HREP3.out HG.out HB.out).mono ?_; rintro e w4 ⟨rfl, F', L', hrep, hchg⟩; have HREP4 := Lib.hid hrep; have HCH := Lib.hid hchg; have HREF4 := Lib.hid ((HOK.out.below HW.out.2).chg hchg (fun k hk => HAP.out k hk.1)); have HBS4 := Lib.hid (HBS3.out.chg hchg (fun k hk => HAP.out k hk.1)); have HCS4 := Lib.hid (HCS3.out.chg hchg (fun k hk => HAP.out k hk.1)); have j0 := Lib.hid (chg_blk hchg HW.out.1.1 (not_new HLT.out (Nat.le_refl _))); have j1 := Lib.hid (chg_blk hchg HW.out.1.2.1 (not_new HLT.out (by omega))); have j2 := Lib.hid (chg_blk hchg HW.out.1.2.2 (not_new HLT.out (by omega))); obtain ⟨s0, s1, s2, s3, s4, s5⟩ := six_cells j0.out; obtain ⟨f0, f1, f2, f3, f4, f5⟩ := six_frozen j0.out; obtain ⟨o0, o1, o2, o3, o4, o5⟩ := six_cells j1.out; obtain ⟨z0, z1, z2, z3, z4, z5⟩ := six_cells j2.out; obtain ⟨g0, g1, g2, g3, g4, g5⟩ := six_frozen j2.out; clear hrep hchg) | (go_at_call 13; refine (refCrash_calls _ (fun k => ok k ∧ k < w.heap.size) a0 c0 a1 c1 a2 c2 a3 c3 S2 B n A5 c5' cs HCS4.out.now HCS4.out.le HREF4.out HG2.out HB2.out).mono ?_; rintro e w5 ⟨v, rfl, ⟨b0, d0, b1, d1, b2, d2, b3, d3, rfl, hr⟩, hb⟩; have HR5 := Lib.hid hr; have HB5 := Lib.hid hb; have k0 := Lib.hid (blk_below j0.out hb); have k1 := Lib.hid (blk_below j1.out hb); have k2 := Lib.hid (blk_below j2.out hb); clear s0 s1 s2 s3 s4 s5 f0 f1 f2 f3 f4 f5 o0 o1 o2 o3 o4 o5 z0 z1 z2 z3 z4 z5 g0 g1 g2 g3 g4 g5; clear j0 j1 j2; have j0 := k0; have j1 := k1; have j2 := k2; clear k0 k1 k2; obtain ⟨s0, s1, s2, s3, s4, s5⟩ := six_cells j0.out; obtain ⟨f0, f1, f2, f3, f4, f5⟩ := six_frozen j0.out; obtain ⟨o0, o1, o2, o3, o4, o5⟩ := six_cells j1.out; obtain ⟨z0, z1, z2, z3, z4, z5⟩ := six_cells j2.out; obtain ⟨g0, g1, g2, g3, g4, g5⟩ := six_frozen j2.out; clear hr hb) | fail)
  obtain ⟨q1, q2, q3⟩ := step_fin HLT.out HAP.out HW.out.2 (size_three _ _ _ _) HCH.out HREP4.out HB5.out HR5.out rfl rfl j2.out
  exact bodyPost_ret (results_ct rfl _ _ (w.heap.size + 1 + 1) tState _ (0, 0) _ rfl q1 Try.underlying30 rfl (by kernel_rfl)) rfl ⟨_, F', _, rfl, q2, q3, fun e => by subst e; simp⟩
end Go.Proofs.Ytpffeafoangegaa.Disk

/- Read and List of the reference; a step that reads; the whole step. -/
namespace Go.Proofs.Ytpffeafoangegaa.Disk
open Go Go.RowKit Go.Proofs.YtpffeafoangegaaW.PrintWords Go.Proofs.YtpffeafoangegaaW.PrintLast Go.Proofs.YtpffeafoangegaaW.PrintMore Go.Proofs.Ytpffeafoangegaa.PSimdiskOperations
theorem read_f (S : PS) (B : Nat) (n : ByteArray) (hg : Good S B) (hB : B ≤ 549755813888) : laminaref20_Read.f (S.dir.length + 68) S.files S.dir S.dur S.pend S.lim S.left n = some (pRead S n) := by
  have hd := hg.nDir
  unfold laminaref20_Read.f pRead
  rw [ValidName_f n _ (by omega)]
  simp only [Option.bind_some]
  by_cases hn : okName n = true
  · rw [if_pos hn, if_pos hn]
    cases hp : pLook S.dir n with
    | none =>
      rw [find_none S.dir n _ (by omega) (by omega) hp]
      simp
    | some x =>
      obtain ⟨t, h1, h2, h3⟩ := find_some S.dir n (S.dir.length + 68) (by omega) (by omega) hp
      have hr := hg.range x (live_look hp)
      have hb := hg.nBytes _ (fileAt_mem hr)
      rw [h1]
      simp only [Option.bind_some]
      rw [if_neg (by omega), if_pos (by omega), if_pos (by omega), h3, if_pos hr.1, if_pos hr.2]
      have e : (rd_T81 S.files x) = fileAt S x := rfl
      rw [e, if_pos (by simp only [List.length_nil]; omega)]
      simp
  · rw [if_neg hn, if_neg hn]
theorem refRead_calls (w : World) (ok : Nat → Prop) (a0 : Option Addr) (c0 : Nat) (a1 : Option Addr) (c1 : Nat) (a2 : Option Addr) (c2 : Nat) (a3 : Option Addr) (c3 : Nat) (S : PS) (B : Nat) (n : ByteArray) (h : Ref w ok a0 c0 a1 c1 a2 c2 a3 c3 S) (hg : Good S B) (hB : B ≤ 549755813888) :
    Calls Try.prog 28 #[sv a0 c0 a1 c1 a2 c2 a3 c3 S, .string n] w fun e w' => ∃ A c, e = .returned (.tuple #[.slice A (pRead S n).1.length c, .int .i64 (pRead S n).2]) ∧ Rd kB w' (fun k => w.heap.size ≤ k) A c (pRead S n).1 ∧ Below w.heap.size w w' :=
  (laminaref20_Read.calls (S.dir.length + 68) _ _ _ _ _ _ _ _ _ _ _ _ _ _ n (pRead S n).1 (pRead S n).2 w h.files.now h.files.le h.dir.now h.dir.le h.dur.now h.dur.le h.pend.now h.pend.le (read_f S B n hg hB)).mono fun e w' hq => by
    obtain ⟨v, q1, q2, q3⟩ := hq
    obtain ⟨A, c, rfl, hr⟩ := Rd.ofR q2
    exact ⟨A, c, q1, hr.mono (fun k hk _ => hk.1), q3⟩
theorem refList_calls (w : World) (ok : Nat → Prop) (a0 : Option Addr) (c0 : Nat) (a1 : Option Addr) (c1 : Nat) (a2 : Option Addr) (c2 : Nat) (a3 : Option Addr) (c3 : Nat) (S : PS) (B : Nat) (h : Ref w ok a0 c0 a1 c1 a2 c2 a3 c3 S) (hg : Good S B) (hB : B ≤ 549755813888) :
    Calls Try.prog 27 #[sv a0 c0 a1 c1 a2 c2 a3 c3 S] w fun e w' => ∃ A c, e = .returned (.slice A (S.dir.map (·.f0)).length c) ∧ Rd Kd.string w' (fun k => w.heap.size ≤ k) A c (S.dir.map (·.f0)) ∧ Below w.heap.size w w' :=
  (laminaref20_List.calls (S.dir.length + 1) _ _ _ _ _ _ _ _ _ _ _ _ _ _ (S.dir.map (·.f0)) w h.files.now h.files.le h.dir.now h.dir.le h.dur.now h.dur.le h.pend.now h.pend.le (List_f _ _ _ _ _ _ _ (by have := hg.nDir; omega) (by omega))).mono fun e w' hq => by
    obtain ⟨v, q1, q2, q3⟩ := hq
    obtain ⟨A, c, rfl, hr⟩ := Rd.ofR q2
    exact ⟨A, c, q1, hr.mono (fun k hk _ => hk.1), q3⟩
/-- The disk's Read, in the same words. -/
theorem Read2_calls (w : World) (F : Nat → Prop) (d : Nat) (L : Lay) (S : PS) (B : Nat) (n : ByteArray) (h : Rep w F d L S (Live S)) (hg : Good S B) (hB : B ≤ 549755813888) :
    Calls Try.prog 21 #[.pointer (some ⟨d, 0, none⟩), .string n] w fun e w' => ∃ A c, e = .returned (.tuple #[.slice A (pRead S n).1.length c, .int .i64 (pRead S n).2]) ∧ Rd kB w' (fun k => w.heap.size ≤ k) A c (pRead S n).1 ∧ Fr (fun _ => False) w w' :=
  (Read_calls w F d L S B n h hg hB).mono fun e w' hq => by
    obtain ⟨v, q1, q2, q3⟩ := hq
    obtain ⟨A, m, c, rfl, rfl, _⟩ := data_form (own_weaken q2 (Nat.zero_le _))
    exact ⟨A, c, q1, Rd.ofOwn q2, q3⟩
theorem fr_chg {w3 w4 : World} {F : Nat → Prop} (h : Fr (fun _ => False) w3 w4) (hlt : ∀ k, F k → k < w3.heap.size) : Chg w3 F w4 F :=
  ⟨h.mono (fun _ (hk : False) => hk.elim), fun _ hk => .inl hk, fun k hk => Nat.lt_of_lt_of_le (hlt k hk) h.size⟩
theorem str_run {w : World} {A : Option Addr} {c : Nat} {ok : Nat → Prop} {bs : List Int} (h : Rd kB w ok A c bs) : (convert 41 9 (.slice A bs.length c)).run Try.prog w = .ok (.string (strOfNums bs)) w :=
  Kd.C_string Try.underlying41 Try.underlying5 Try.underlying9 h.now

set_option maxHeartbeats 4000000 in
set_option maxRecDepth 100000 in
theorem step_read (w : World) (F ok : Nat → Prop) (d : Nat) (L : Lay) (S S2 : PS) (B : Nat) (a0 : Option Addr) (c0 : Nat) (a1 : Option Addr) (c1 : Nat) (a2 : Option Addr) (c2 : Nat) (a3 : Option Addr) (c3 : Nat) (k : Int) (nm tn : ByteArray) (A3 : Option Addr) (c3' n3 : Nat) (n : Int) (A5 : Option Addr) (c5' n5 : Nat)
    (h : Rep w F d L S (Live S)) (hf : Ref w ok a0 c0 a1 c1 a2 c2 a3 c3 S2) (hg : Good S B) (hg2 : Good S2 B) (hB : B ≤ 274877906944) (hlt : ∀ k, F k → k < w.heap.size) (hap : ∀ k, ok k → ¬ F k)
    (k0 : (k == 0) = false) (k1 : (k == 1) = false) (k2 : (k == 2) = false) (k3 : (k == 3) = false) (k4 : (k == 4) = false) (k5 : (k == 5) = false) (k6 : (k == 6) = false) (k7 : (k == 7) = false) :
    Calls Try.prog 20 #[.pointer (some ⟨d, 0, none⟩), sv a0 c0 a1 c1 a2 c2 a3 c3 S2, .agg #[.int .i64 k, .string nm, .string tn, .slice A3 n3 c3', .int .i64 n, .slice A5 n5 c5']] w (Stepped2 w F ok d (S = S2) S S2) := by
  have HW := Lib.hid (three_blks w (.cells (svC a0 c0 a1 c1 a2 c2 a3 c3 S2) tState) (.cells #[.int .i64 k, .string nm, .string tn, .slice A3 n3 c3', .int .i64 n, .slice A5 n5 c5'] tOpn) (.cells zeroC tState))
  have HREP3 := Lib.hid (h.below HW.out.2)
  have HOK := Lib.hid (hf.mono (ok' := fun k => ok k ∧ k < w.heap.size) (fun k h1 h2 => ⟨h1, h2⟩))
  have HG := Lib.hid hg
  have HG2 := Lib.hid hg2
  have HB := Lib.hid (show B ≤ 549755813888 by omega)
  have HLT := Lib.hid hlt
  have HLT3 := Lib.hid (show ∀ j, F j → j < (((w.alloc (.cells (svC a0 c0 a1 c1 a2 c2 a3 c3 S2) tState)).alloc (.cells #[.int .i64 k, .string nm, .string tn, .slice A3 n3 c3', .int .i64 n, .slice A5 n5 c5'] tOpn)).alloc (.cells zeroC tState)).heap.size from fun j hk => Nat.lt_of_lt_of_le (hlt j hk) HW.out.2.size)
  have HAP := Lib.hid hap
  clear h hf hg hg2 hB hlt hap
  go_enter Try.func20, Try.ntmps20
  go_wp2_with (first | (go_at_call 21; refine (Read2_calls _ F d L S B nm HREP3.out HG.out HB.out).mono ?_; rintro e w4 ⟨Av, cv, rfl, hv, hfr⟩; have hchg := fr_chg hfr HLT3.out; have HREP4 := Lib.hid (HREP3.out.fr hfr (fun _ _ => id)); have HV4 := Lib.hid hv; have HCH := Lib.hid hchg; have HREF4 := Lib.hid ((HOK.out.below HW.out.2).chg hchg (fun k hk => HAP.out k hk.1)); have j0 := Lib.hid (chg_blk hchg HW.out.1.1 (not_new HLT.out (Nat.le_refl _))); have j1 := Lib.hid (chg_blk hchg HW.out.1.2.1 (not_new HLT.out (by omega))); have j2 := Lib.hid (chg_blk hchg HW.out.1.2.2 (not_new HLT.out (by omega))); obtain ⟨s0, s1, s2, s3, s4, s5⟩ := six_cells j0.out; obtain ⟨o0, o1, o2, o3, o4, o5⟩ := six_cells j1.out; clear hv hfr hchg) | (go_at_call 28; refine (refRead_calls _ (fun k => ok k ∧ k < w.heap.size) a0 c0 a1 c1 a2 c2 a3 c3 S2 B nm HREF4.out HG2.out HB.out).mono ?_; rintro e w5 ⟨Ar, cr, rfl, hr, hb⟩; have hcv := str_run hr; have hcv2 := str_run (HV4.out.below hb); have HB5 := Lib.hid hb; have HR5 := Lib.hid (HREF4.out.below hb); have k0 := Lib.hid (blk_below j0.out hb); have k2 := Lib.hid (blk_below j2.out hb); clear s0 s1 s2 s3 s4 s5 o0 o1 o2 o3 o4 o5; clear j0 j1 j2; have j0 := k0; have j2 := k2; clear k0 k2; obtain ⟨s0, s1, s2, s3, s4, s5⟩ := six_cells j0.out; obtain ⟨z0, z1, z2, z3, z4, z5⟩ := six_cells j2.out; obtain ⟨g0, g1, g2, g3, g4, g5⟩ := six_frozen j2.out; clear hr hb) | fail)
  all_goals
    obtain ⟨q1, q2, q3⟩ := step_core HLT.out HAP.out HW.out.2 (size_three _ _ _ _) HCH.out HREP4.out HB5.out (HR5.out.mono (ok' := fun k => (ok k ∧ k < w.heap.size) ∨ w4.heap.size ≤ k) (fun k hk _ => .inl hk)) (fun _ _ => rfl) rfl (Below.refl _ _) rfl j2.out
    exact bodyPost_ret (results_ct rfl _ _ (w.heap.size + 1 + 1) tState _ (0, 0) _ rfl q1 Try.underlying30 rfl (by kernel_rfl)) rfl ⟨_, F, _, rfl, q2, q3, fun e => by subst e; simp_all⟩

/-- THE STEP: whatever the operation; the two may stand apart. -/
theorem step_calls2 (w : World) (F ok : Nat → Prop) (d : Nat) (v : Value) (S S2 : PS) (B : Nat) (x : SOp) (A3 : Option Addr) (c3' : Nat) (A5 : Option Addr) (c5' : Nat) (h : Pair2 w F ok d v S S2) (hg : Good S B) (hg2 : Good S2 B) (hB : B ≤ 274877906944) (hbs : Rd kB w ok A3 c3' x.f3) (hbl : x.f3.length ≤ 100) (hcs : Rd kC w ok A5 c5' x.f5) :
    Calls Try.prog 20 #[.pointer (some ⟨d, 0, none⟩), v, .agg #[.int .i64 x.f0, .string x.f1, .string x.f2, .slice A3 x.f3.length c3', .int .i64 x.f4, .slice A5 x.f5.length c5']] w (Stepped2 w F ok d (S = S2) (pStep S x) (pStep S2 x)) := by
  obtain ⟨⟨L, hrep⟩, ⟨a0, c0, a1, c1, a2, c2, a3, c3, rfl, hf⟩, hlt, hap⟩ := h
  obtain ⟨k, nm, tn, bs, n, cs⟩ := x
  simp only at hbs hbl hcs ⊢
  have hbl' : bs.length ≤ 549755813888 := by omega
  by_cases h0 : k = 0
  · subst h0; exact step_create w F ok d L S S2 B a0 c0 a1 c1 a2 c2 a3 c3 nm tn A3 c3' bs n A5 c5' cs hrep hf hg hg2 hB hlt hap hbs hbl' hcs
  by_cases h1 : k = 1
  · subst h1; exact step_append w F ok d L S S2 B a0 c0 a1 c1 a2 c2 a3 c3 nm tn A3 c3' bs n A5 c5' cs hrep hf hg hg2 hB hlt hap hbs hbl' hcs
  by_cases h2 : k = 2
  · subst h2; exact step_sync w F ok d L S S2 B a0 c0 a1 c1 a2 c2 a3 c3 nm tn A3 c3' bs n A5 c5' cs hrep hf hg hg2 hB hlt hap hbs hbl' hcs
  by_cases h3 : k = 3
  · subst h3; exact step_rename w F ok d L S S2 B a0 c0 a1 c1 a2 c2 a3 c3 nm tn A3 c3' bs n A5 c5' cs hrep hf hg hg2 hB hlt hap hbs hbl' hcs
  by_cases h4 : k = 4
  · subst h4; exact step_remove w F ok d L S S2 B a0 c0 a1 c1 a2 c2 a3 c3 nm tn A3 c3' bs n A5 c5' cs hrep hf hg hg2 hB hlt hap hbs hbl' hcs
  by_cases h5 : k = 5
  · subst h5; exact step_syncdir w F ok d L S S2 B a0 c0 a1 c1 a2 c2 a3 c3 nm tn A3 c3' bs n A5 c5' cs hrep hf hg hg2 hB hlt hap hbs hbl' hcs
  by_cases h6 : k = 6
  · subst h6; exact step_fail w F ok d L S S2 B a0 c0 a1 c1 a2 c2 a3 c3 nm tn A3 c3' bs n A5 c5' cs hrep hf hg hg2 hB hlt hap hbs hbl' hcs
  by_cases h7 : k = 7
  · subst h7; exact step_crash w F ok d L S S2 B a0 c0 a1 c1 a2 c2 a3 c3 nm tn A3 c3' bs n A5 c5' cs hrep hf hg hg2 hB hlt hap hbs hbl' hcs
  have e : ∀ S, pStep S ⟨k, nm, tn, bs, n, cs⟩ = S := fun S => by simp [pStep, h0, h1, h2, h3, h4, h5, h6, h7]
  rw [e, e]
  exact step_read w F ok d L S S2 B a0 c0 a1 c1 a2 c2 a3 c3 k nm tn A3 c3' _ n A5 c5' _ hrep hf hg hg2 hB hlt hap (by simpa using h0) (by simpa using h1) (by simpa using h2) (by simpa using h3) (by simpa using h4) (by simpa using h5) (by simpa using h6) (by simpa using h7)
theorem step_calls (w : World) (F ok : Nat → Prop) (d : Nat) (v : Value) (S : PS) (B : Nat) (x : SOp) (A3 : Option Addr) (c3' : Nat) (A5 : Option Addr) (c5' : Nat) (h : Pair w F ok d v S) (hg : Good S B) (hB : B ≤ 274877906944) (hbs : Rd kB w ok A3 c3' x.f3) (hbl : x.f3.length ≤ 100) (hcs : Rd kC w ok A5 c5' x.f5) :
    Calls Try.prog 20 #[.pointer (some ⟨d, 0, none⟩), v, .agg #[.int .i64 x.f0, .string x.f1, .string x.f2, .slice A3 x.f3.length c3', .int .i64 x.f4, .slice A5 x.f5.length c5']] w (Stepped w F ok d (pStep S x)) :=
  (step_calls2 w F ok d v S S B x A3 c3' A5 c5' h hg hg hB hbs hbl hcs).mono fun e w' ⟨v', F', b, q1, q2, q3, q4⟩ => by
    obtain rfl := q4 rfl
    exact ⟨v', F', q1, q2, q3⟩
theorem Sound.step {S : PS} {B : Nat} {x : SOp} (h : Sound S B) (hb : x.f3.length ≤ 100) (hw : ∀ y ∈ x.f3, 0 ≤ y ∧ y ≤ 255) (hn : x.f4 ≤ 9223372036854775807) : Sound (pStep S x) (B + 100) := by
  unfold pStep
  repeat' split
  · exact h.create
  · exact h.append hb hw
  · exact h.sync
  · exact h.rename
  · exact h.remove
  · exact h.syncDir
  · exact h.fail hn
  · exact h.crash.mono (by omega)
  · exact h.mono (by omega)
end Go.Proofs.Ytpffeafoangegaa.Disk

/- same. -/
namespace Go.Proofs.Ytpffeafoangegaa.Disk
open Go Go.RowKit Go.Proofs.YtpffeafoangegaaW.PrintWords Go.Proofs.YtpffeafoangegaaW.PrintLast Go.Proofs.YtpffeafoangegaaW.PrintMore Go.Proofs.Ytpffeafoangegaa.PSimdiskOperations
abbrev kS : Kd ByteArray := Kd.string
theorem Rd.ofOwnS {w : World} {base : Nat} {v : Value} {xs : List ByteArray} (h : w.ownsRow base 9 1 v xs.length (pw_strs xs)) : ∃ A c, v = .slice A xs.length c ∧ Rd kS w (fun k => base ≤ k) A c xs := by
  obtain ⟨A, c, e, hl, hr⟩ := own_reads_of_le (enc := Value.string) (d := ByteArray.empty) h
  subst e
  refine ⟨A, c, rfl, ⟨hl, fun W' hW => ?_⟩⟩
  have h' := own_move (w1 := W') h (fun k hk => hW k (h.lt k hk).1 (h.lt k hk).2)
  obtain ⟨A', c', e', _, hr'⟩ := own_reads_of_le (enc := Value.string) (d := ByteArray.empty) h'
  injection e' with e1
  subst e1
  exact Kd.C_of_reads (enc := Value.string) (d := ByteArray.empty) (h1 := fun _ => rfl) hr'
theorem fr_below {w w' : World} (h : Fr (fun _ => False) w w') : Below w.heap.size w w' := h.toBelow (Nat.le_refl _) (fun _ hk => hk.elim)
theorem List2_calls (w : World) (F : Nat → Prop) (d : Nat) (L : Lay) (S : PS) (B : Nat) (h : Rep w F d L S (Live S)) (hg : Good S B) (hB : B ≤ 549755813888) :
    Calls Try.prog 26 #[.pointer (some ⟨d, 0, none⟩)] w fun e w' => ∃ A c, e = .returned (.slice A (S.dir.map (·.f0)).length c) ∧ Rd kS w' (fun k => w.heap.size ≤ k) A c (S.dir.map (·.f0)) ∧ Below w.heap.size w w' :=
  (List_calls w F d L S B h hg hB).mono fun e w' hq => by
    obtain ⟨v, q1, q2, q3⟩ := hq
    rw [show S.dir.length = (S.dir.map (·.f0)).length by simp] at q2
    obtain ⟨A, c, rfl, hr⟩ := Rd.ofOwnS q2
    exact ⟨A, c, q1, hr, fr_below q3⟩
theorem read_dir {S : PS} {B : Nat} (hg : Good S B) (j : Nat) (hj : j < (S.dir.map (·.f0)).length) : (pRead S (S.dir.map (·.f0))[j]).2 = 0 := by
  have hj' : j < S.dir.length := by simpa using hj
  have e : (S.dir.map (·.f0))[j] = S.dir[j].f0 := by simp
  rw [e]
  have hm : S.dir[j] ∈ S.dir := List.getElem_mem hj'
  unfold pRead
  rw [if_pos (hg.nameD _ hm)]
  cases hp : pLook S.dir S.dir[j].f0 with
  | some x => rfl
  | none =>
    exfalso
    unfold pLook at hp
    simp only [Option.map_eq_none_iff, List.find?_eq_none, decide_eq_true_eq] at hp
    exact hp _ hm rfl
theorem name_cell {w : World} {A : Option Addr} {l : List ByteArray} (h : Kd.C kS w A l.length l) (j : Nat) (hj : j < l.length) : ∃ ad, A = some ad ∧ w.cell? (ad.add j) = some (.string l[j]) := by
  obtain ⟨ad, e, h1⟩ := str_at h j hj
  refine ⟨ad, e, ?_⟩
  rw [h1]
  simp [List.getD, hj]
theorem Read3_calls (w : World) (F : Nat → Prop) (d : Nat) (L : Lay) (S : PS) (B : Nat) (n : ByteArray) (bs : List Int) (k : Int) (hp : pRead S n = (bs, k)) (h : Rep w F d L S (Live S)) (hg : Good S B) (hB : B ≤ 549755813888) :
    Calls Try.prog 21 #[.pointer (some ⟨d, 0, none⟩), .string n] w fun e w' => ∃ A c, e = .returned (.tuple #[.slice A bs.length c, .int .i64 k]) ∧ Rd kB w' (fun k => w.heap.size ≤ k) A c bs ∧ Below w.heap.size w w' := by
  have h1 := Read2_calls w F d L S B n h hg hB
  rw [hp] at h1
  exact h1.mono fun e w' ⟨A, c, q1, q2, q3⟩ => ⟨A, c, q1, q2, fr_below q3⟩
theorem refRead3_calls (w : World) (ok : Nat → Prop) (a0 : Option Addr) (c0 : Nat) (a1 : Option Addr) (c1 : Nat) (a2 : Option Addr) (c2 : Nat) (a3 : Option Addr) (c3 : Nat) (S : PS) (B : Nat) (n : ByteArray) (bs : List Int) (k : Int) (hp : pRead S n = (bs, k)) (h : Ref w ok a0 c0 a1 c1 a2 c2 a3 c3 S) (hg : Good S B) (hB : B ≤ 549755813888) :
    Calls Try.prog 28 #[sv a0 c0 a1 c1 a2 c2 a3 c3 S, .string n] w fun e w' => ∃ A c, e = .returned (.tuple #[.slice A bs.length c, .int .i64 k]) ∧ Rd kB w' (fun k => w.heap.size ≤ k) A c bs ∧ Below w.heap.size w w' := by
  have h1 := refRead_calls w ok a0 c0 a1 c1 a2 c2 a3 c3 S B n h hg hB
  rw [hp] at h1
  exact h1
theorem str_runs {w : World} {A : Option Addr} {c : Nat} {ok : Nat → Prop} {bs : List Int} (h : Rd kB w ok A c bs) (m : Nat) : (convert 41 9 (.slice A bs.length c)).run Try.prog (w.drewN m) = .ok (.string (strOfNums bs)) (w.drewN m) := str_run (h.move (w' := w.drewN m) (fun _ _ _ => rfl))
theorem seven_cells {w : World} {b : Nat} {x0 x1 x2 x3 x4 x5 y : Value} {t : Nat} {fz : Nat × Nat} {a : Addr} (h : w.heap[b]? = some (.cells #[x0, x1, x2, x3, x4, x5] t fz)) (ha : w.cell? a = some y) : w.cell? ⟨b, 0, none⟩ = some x0 ∧ w.cell? ⟨b, 1, none⟩ = some x1 ∧ w.cell? ⟨b, 2, none⟩ = some x2 ∧ w.cell? ⟨b, 3, none⟩ = some x3 ∧ w.cell? ⟨b, 4, none⟩ = some x4 ∧ w.cell? ⟨b, 5, none⟩ = some x5 ∧ w.cell? a = some y :=
  ⟨cell_blk h 0, cell_blk h 1, cell_blk h 2, cell_blk h 3, cell_blk h 4, cell_blk h 5, ha⟩
theorem cell_below {w w' : World} {a : Addr} {x : Value} (hb : Below w.heap.size w w') (h : w.cell? a = some x) : w'.cell? a = some x := (hb.cell (World.block_lt_of_cell? w _ h)).trans h
theorem below_dn {w w' : World} {B : Nat} (h : Below B w w') (n : Nat) : Below B w (w'.drewN n) := ⟨h.os, h.tape, h.output, h.size, h.block⟩
/-- What stands between the two lists' calls and the loop. -/
def SameMid (w : World) (l : List ByteArray) (a b : Value) (w' : World) : Prop := ∃ A c A' c', a = .slice A l.length c ∧ b = .slice A' l.length c' ∧ Rd kS w' (fun k => w.heap.size ≤ k) A c l ∧ Rd kS w' (fun k => w.heap.size ≤ k) A' c' l ∧ Below w.heap.size w w'
def SameRel (w : World) (n : Nat) (i : Value) (w' : World) : Prop := ∃ j : Nat, j ≤ n ∧ i = .int .i64 j ∧ Below w.heap.size w w'
theorem rd_ge {α : Type} {dd : Kd α} {w w1 : World} {n : Nat} {A : Option Addr} {c : Nat} {xs : List α} (h : Rd dd w1 (fun k => w.heap.size ≤ k) A c xs) (hn : n ≤ w.heap.size) : Rd dd w1 (fun k => n ≤ k) A c xs := h.mono (fun _ hk _ => Nat.le_trans hn hk)
theorem below_drew' {w w' : World} (h : Below w.drew.heap.size w.drew w') : Below w.heap.size w w' := drew_below h

set_option maxHeartbeats 4000000 in
set_option maxRecDepth 100000 in
theorem same_calls (w : World) (F ok : Nat → Prop) (d : Nat) (v : Value) (S : PS) (B : Nat) (h : Pair w F ok d v S) (hg : Good S B) (hB : B ≤ 549755813888) :
    Calls Try.prog 11 #[.pointer (some ⟨d, 0, none⟩), v] w fun e w' => e = .returned (.bool true) ∧ Below w.heap.size w w' := by
  obtain ⟨⟨L, hrep⟩, ⟨a0, c0, a1, c1, a2, c2, a3, c3, rfl, hf⟩, _, _⟩ := h
  obtain ⟨w1, hw1⟩ : ∃ w1, w1 = w.alloc (.cells (svC a0 c0 a1 c1 a2 c2 a3 c3 S) tState) := ⟨_, rfl⟩
  have hb1 : Below w.heap.size w w1 := by rw [hw1]; exact below_alloc (Below.refl _ _) _
  have hx : w1.heap[w.heap.size]? = some (.cells (svC a0 c0 a1 c1 a2 c2 a3 c3 S) tState (0, 0)) := by rw [hw1]; exact heap_alloc_new w _
  have HREP := Lib.hid (hrep.below hb1)
  have HREF := Lib.hid (hf.below hb1)
  have HB1 := Lib.hid hb1
  have HX := Lib.hid hx
  have HG := Lib.hid hg
  have HB := Lib.hid hB
  obtain ⟨l, hl⟩ : ∃ l, l = S.dir.map (·.f0) := ⟨_, rfl⟩
  have HL := Lib.hid hl
  have hlen : l.length ≤ 549755813888 := by rw [hl, List.length_map]; have := hg.nDir; omega
  obtain ⟨s0, s1, s2, s3, s4, s5⟩ := six_cells hx
  have HRE := Lib.hid (show ∀ (j : Nat) (hj : j < l.length), (pRead S l[j]).2 = 0 by subst hl; exact fun j hj => read_dir hg j hj)
  clear hrep hf hb1 hx hg hB hl
  go_enter Try.func11, Try.ntmps11
  go_upto_region 1 with (fail)
  rw [← hw1]
  clear hw1
  go_cut [5, 6] from 12 to 15 (fun a b w' => SameMid w1 l a b w')
  case first =>
    go_region_held3 (fun w' => w'.cell? ⟨w.heap.size, 0, none⟩ = some (.slice a0 S.files.length c0) ∧ w'.cell? ⟨w.heap.size, 1, none⟩ = some (.slice a1 S.dir.length c1) ∧ w'.cell? ⟨w.heap.size, 2, none⟩ = some (.slice a2 S.dur.length c2) ∧ w'.cell? ⟨w.heap.size, 3, none⟩ = some (.slice a3 S.pend.length c3) ∧ w'.cell? ⟨w.heap.size, 4, none⟩ = some (.bool S.lim) ∧ w'.cell? ⟨w.heap.size, 5, none⟩ = some (.int .i64 S.left))
      (first | exact six_cells K3.out | exact six_cells K2.out | exact six_cells HX.out)
      (first | (go_at_call 27; refine (refList_calls w2 ok a0 c0 a1 c1 a2 c2 a3 c3 S _ (HREF.out.below HB2.out) HG.out HB.out).mono ?_; rintro e w3 ⟨A3, C3, rfl, hr3, hb3⟩; rw [← HL.out] at hr3 ⊢; have HR3 := Lib.hid hr3; have HB3 := Lib.hid hb3; have K3 := Lib.hid (blk_below K2.out hb3); clear hr3 hb3) | (go_at_call 26; refine (List2_calls w2 F d L S _ (HREP.out.below HB2.out) HG.out HB.out).mono ?_; rintro e w3 ⟨A3, C3, rfl, hr3, hb3⟩; rw [← HL.out] at hr3 ⊢; have HR3 := Lib.hid hr3; have HB3 := Lib.hid hb3; have K3 := Lib.hid (blk_below K2.out hb3); clear hr3 hb3) | (go_at_call 27; refine (refList_calls w1.drew ok a0 c0 a1 c1 a2 c2 a3 c3 S _ (HREF.out.move (fun _ _ _ => rfl)) HG.out HB.out).mono ?_; rintro e w2 ⟨A2, C2, rfl, hr2, hb2⟩; rw [← HL.out] at hr2 ⊢; have HR2 := Lib.hid hr2; have HB2 := Lib.hid (below_drew' hb2); have K2 := Lib.hid (blk_below HX.out HB2.out); clear hr2 hb2) | (go_at_call 26; refine (List2_calls w1.drew F d L S _ (HREP.out.move (fun _ _ _ => rfl)) HG.out HB.out).mono ?_; rintro e w2 ⟨A2, C2, rfl, hr2, hb2⟩; rw [← HL.out] at hr2 ⊢; have HR2 := Lib.hid hr2; have HB2 := Lib.hid (below_drew' hb2); have K2 := Lib.hid (blk_below HX.out HB2.out); clear hr2 hb2))
    all_goals
      go_wp2_with fail
      go_meet
      exact ⟨_, _, _, _, rfl, rfl, by first | exact HR2.out.below HB3.out | exact rd_ge HR3.out HB2.out.size, by first | exact rd_ge HR3.out HB2.out.size | exact HR2.out.below HB3.out, HB2.out.trans (HB3.out.mono HB2.out.size)⟩
  case rest =>
    obtain ⟨A, c, A', c', rfl, rfl, hra, hrb, hbc⟩ := hcut
    obtain ⟨wq, rfl⟩ : ∃ wq, wq = wc := ⟨_, rfl⟩
    have HRA := Lib.hid hra
    have HRB := Lib.hid hrb
    have HBC := Lib.hid hbc
    clear hra hrb hbc s0 s1 s2 s3 s4 s5
    go_wp2_with fail
    go_loopw [23] (fun i wx => SameRel wq l.length i wx) (fun i _ => l.length - (intOf i).toNat)
    case atStart => exact ⟨0, Nat.zero_le _, rfl, Below.refl _ _⟩
    case round =>
      obtain ⟨j, hj, rfl, hbx⟩ := hrel
      have HBX := Lib.hid hbx
      clear hbx
      by_cases hlt : j < l.length
      · obtain ⟨ad, hA, q0⟩ := name_cell (HRA.out.below HBX.out).now j hlt
        obtain ⟨ad', hA', r0⟩ := name_cell (HRB.out.below HBX.out).now j hlt
        subst hA
        subst hA'
        have he := HRE.out j hlt
        obtain ⟨nm, hnm⟩ : ∃ nm, nm = l[j] := ⟨_, rfl⟩
        rw [← hnm] at q0 r0 he
        obtain ⟨bs, hP⟩ : ∃ bs, pRead S nm = (bs, 0) := ⟨(pRead S nm).1, by rw [← he]⟩
        have HP := Lib.hid hP
        have HY := Lib.hid (blk_below (blk_below HX.out HBC.out) HBX.out)
        have HREPX := Lib.hid ((HREP.out.below HBC.out).below HBX.out)
        have HREFX := Lib.hid ((HREF.out.below HBC.out).below HBX.out)
        have R0 := Lib.hid r0
        clear hnm he hP
        go_upto_region 8 with (first | (go_at_call 21; refine (Read3_calls _ F d L S _ nm bs 0 HP.out HREPX.out HG.out HB.out).mono ?_; rintro e w2 ⟨Av, cv, rfl, hv, hb2⟩; have HV2 := Lib.hid hv; have HB2 := Lib.hid hb2; have Q2 := Lib.hid (cell_below hb2 q0); have R2 := Lib.hid (cell_below hb2 R0.out); have K2 := Lib.hid (blk_below HY.out hb2); clear hv hb2 q0 r0) | fail)
        obtain ⟨s0, s1, s2, s3, s4, s5, s6⟩ := seven_cells K2.out R2.out
        go_region_held3 (fun w' => w'.cell? ⟨w.heap.size, 0, none⟩ = some (.slice a0 S.files.length c0) ∧ w'.cell? ⟨w.heap.size, 1, none⟩ = some (.slice a1 S.dir.length c1) ∧ w'.cell? ⟨w.heap.size, 2, none⟩ = some (.slice a2 S.dur.length c2) ∧ w'.cell? ⟨w.heap.size, 3, none⟩ = some (.slice a3 S.pend.length c3) ∧ w'.cell? ⟨w.heap.size, 4, none⟩ = some (.bool S.lim) ∧ w'.cell? ⟨w.heap.size, 5, none⟩ = some (.int .i64 S.left) ∧ w'.cell? (ad'.add j) = some (.string nm))
          (first | exact seven_cells K3.out R3.out | exact seven_cells K2.out R2.out)
          (first | (go_at_call 28; refine (refRead3_calls w2.drew ok a0 c0 a1 c1 a2 c2 a3 c3 S _ nm bs 0 HP.out ((HREFX.out.below HB2.out).move (fun _ _ _ => rfl)) HG.out HB.out).mono ?_; rintro e w3 ⟨Ar, cr, rfl, hr, hb⟩; have hb3 := below_drew' hb; have HR3 := Lib.hid hr; have HV3 := Lib.hid (HV2.out.below hb3); have HB3 := Lib.hid (HB2.out.trans (hb3.mono HB2.out.size)); have Q3 := Lib.hid (cell_below hb3 Q2.out); have R3 := Lib.hid (cell_below hb3 R2.out); have K3 := Lib.hid (blk_below K2.out hb3); clear hr hb hb3))
        clear s0 s1 s2 s3 s4 s5 s6
        have q3 := Q3.out
        have r3 := R3.out
        have hcv := str_runs HV3.out
        have hcw := str_runs HR3.out
        go_wp2_with fail
        go_quiet (fail)
        go_wp2_with fail
        go_roundw
        case rel => exact ⟨j + 1, by omega, by go_num, HBX.out.trans ((below_dn HB3.out _).mono HBX.out.size)⟩
        case measure => simp [intOf]; omega
      · go_wp2_with fail
        go_ret
        exact ⟨rfl, HB1.out.trans ((HBC.out.trans (HBX.out.mono HBC.out.size)).mono HB1.out.size)⟩
end Go.Proofs.Ytpffeafoangegaa.Disk

/- awake: the chapter's examples. -/
namespace Go.Proofs.Ytpffeafoangegaa.Disk
open Go Go.RowKit Go.Proofs.YtpffeafoangegaaW.PrintWords Go.Proofs.YtpffeafoangegaaW.PrintLast Go.Proofs.YtpffeafoangegaaW.PrintMore Go.Proofs.Ytpffeafoangegaa.PSimdiskOperations
abbrev sA : ByteArray := ⟨#[97]⟩
abbrev sB : ByteArray := ⟨#[98]⟩
abbrev sC : ByteArray := ⟨#[99]⟩
def aw1 : PS := (pCreate pNew sA).1
def aw2 : PS := (pSyncDir aw1).1
def aw3 : PS := (pAppend aw2 sA [120, 121]).1
def aw4 : PS := (pSync aw3 sA).1
def aw5 : PS := (pAppend aw4 sA [122]).1
def aw6 : PS := pCrash aw5 0 [⟨1, true⟩]
def aw7 : PS := pFail aw6 1
def aw8 : PS := (pCreate aw7 sB).1
def aw9 : PS := (pCreate aw8 sC).1
theorem s_aw1 : Sound aw1 100 := Sound.new.create
theorem s_aw2 : Sound aw2 200 := s_aw1.syncDir
theorem s_aw3 : Sound aw3 300 := s_aw2.append (by decide) (by decide)
theorem s_aw4 : Sound aw4 400 := s_aw3.sync
theorem s_aw5 : Sound aw5 500 := s_aw4.append (by decide) (by decide)
theorem s_aw6 : Sound aw6 500 := s_aw5.crash
theorem s_aw7 : Sound aw7 600 := s_aw6.fail (by decide)
theorem s_aw8 : Sound aw8 700 := s_aw7.create
theorem s_aw9 : Sound aw9 800 := s_aw8.create
theorem v_aw1 : (pCreate pNew sA).2 = 0 := by kernel_rfl
theorem v_aw2 : (pSyncDir aw1).2 = 0 := by kernel_rfl
theorem v_aw3 : (pAppend aw2 sA [120, 121]).2 = 0 := by kernel_rfl
theorem v_aw4 : (pSync aw3 sA).2 = 0 := by kernel_rfl
theorem v_aw5 : (pAppend aw4 sA [122]).2 = 0 := by kernel_rfl
theorem v_aw6 : pRead aw6 sA = ([120, 121, 133], 0) := by kernel_rfl
theorem v_aw8 : (pCreate aw7 sB).2 = 0 := by kernel_rfl
theorem v_aw9 : (pCreate aw8 sC).2 = 16 := by kernel_rfl
theorem l_aw9 : aw9.dir.map (·.f0) = [sA, sB] := by kernel_rfl
theorem C_blk {α : Type} {enc : α → Value} {h1 : ∀ x, (enc x).oneCell' = true} {w : World} {b t : Nat} {fz : Nat × Nat} {xs : List α} (h : w.heap[b]? = some (.cells (xs.map enc).toArray t fz)) (hl : xs.length ≤ 9223372036854775807) : Kd.C (Kd.scalar enc h1) w (some ⟨b, 0, none⟩) xs.length xs :=
  ⟨rfl, hl, fun _ => ⟨_, rfl, fun j p hj => ⟨[enc p], rfl, rfl, fun i u hu => by
    have hi0 : i = 0 := by
      have := (List.getElem?_eq_some_iff.1 hu).1
      simpa using this
    subst hi0
    simp at hu
    subst hu
    rw [show (Kd.scalar enc h1).sz = 1 from rfl, Addr.add_lit]
    have h2 := cell_blk h j
    have e2 : (xs.map enc).toArray[j]? = some (enc p) := by simp [hj]
    simp only [Nat.zero_add, Nat.mul_one, Nat.add_zero]
    rw [h2, e2]⟩⟩⟩
theorem C_cf {w : World} {b t : Nat} {fz : Nat × Nat} (h : w.heap[b]? = some (.cells #[.int .i64 1, .bool true] t fz)) : Kd.C kC w (some ⟨b, 0, none⟩) ([⟨1, true⟩] : List Cf).length [⟨1, true⟩] :=
  ⟨rfl, by decide, fun _ => ⟨_, rfl, fun j p hj => by
    have hj0 : j = 0 := by
      have := (List.getElem?_eq_some_iff.1 hj).1
      simpa using this
    subst hj0
    simp at hj
    subst hj
    refine ⟨[.int .i64 1, .bool true], rfl, k60_mk w ⟨1, true⟩, fun i u hu => ?_⟩
    rw [Addr.add_lit]
    simp only [Nat.zero_mul, Nat.zero_add]
    rw [cell_blk h i]
    simpa using hu⟩⟩
theorem Chg.up {a b : World} {F G : Nat → Prop} (h : Chg a F b G) (o : Obj) : Chg a F (b.alloc o) G := ⟨h.fr.alloc o, h.new, fun k hk => by have := h.lt k hk; simp; omega⟩
theorem Chg.fr2 {a b c : World} {F G : Nat → Prop} (h : Chg a F b G) (hf : Fr (fun _ => False) b c) : Chg a F c G := ⟨h.fr.trans hf (fun _ (e : False) => e.elim), h.new, fun k hk => Nat.lt_of_lt_of_le (h.lt k hk) hf.size⟩
theorem Rd.turn {α : Type} {dd : Kd α} {w w' : World} {F F' : Nat → Prop} {A : Option Addr} {c : Nat} {xs : List α} (h : Rd dd w (fun k => ¬ F k) A c xs) (hc : Chg w F w' F') : Rd dd w' (fun k => ¬ F' k) A c xs :=
  ((h.mono (ok' := fun k => ¬ F k ∧ k < w.heap.size) (fun k h1 h2 => ⟨h1, h2⟩)).move (fun k hk hlt => hc.fr.block k hlt hk.1)).mono (fun k hk _ e => by
    rcases hc.new k e with h1 | h1
    · exact hk.1 h1
    · have := hk.2; omega)
theorem aw_list (w : World) (F : Nat → Prop) (d : Nat) (L : Lay) (h : Rep w F d L aw9 (Live aw9)) :
    Calls Try.prog 26 #[.pointer (some ⟨d, 0, none⟩)] w fun e w' => ∃ g c, e = .returned (.slice (some ⟨g, 0, none⟩) 2 c) ∧ w'.cell? ⟨g, 0, none⟩ = some (.string sA) ∧ w'.cell? ⟨g, 1, none⟩ = some (.string sB) ∧ Fr (fun _ => False) w w' :=
  (List_calls w F d L aw9 800 h s_aw9.good (by decide)).mono fun e w' hq => by
    obtain ⟨v, q1, q2, q3⟩ := hq
    rw [l_aw9, show aw9.dir.length = 2 by kernel_rfl] at q2
    rcases q2.2 with ⟨h1, h2⟩ | ⟨g, cap, cur, h1, _⟩
    · omega
    · subst h1
      have h0 := q2.cells (g := g) rfl 0 (.string sA) rfl
      have h1 := q2.cells (g := g) rfl 1 (.string sB) rfl
      rw [Addr.add_lit, Nat.zero_add] at h0 h1
      exact ⟨g, cap, q1, h0, h1, q3⟩
theorem aw_read (w : World) (F : Nat → Prop) (d : Nat) (L : Lay) (h : Rep w F d L aw6 (Live aw6)) :
    Calls Try.prog 21 #[.pointer (some ⟨d, 0, none⟩), .string sA] w fun e w' => ∃ A c, e = .returned (.tuple #[.slice A 3 c, .int .i64 0]) ∧ Rd kB w' (fun k => w.heap.size ≤ k) A c [120, 121, 133] ∧ Fr (fun _ => False) w w' := by
  have := Read2_calls w F d L aw6 500 sA h s_aw6.good (by decide)
  rw [v_aw6] at this
  exact this
theorem aw_str {w : World} {A : Option Addr} {c : Nat} {ok : Nat → Prop} (h : Rd kB w ok A c [120, 121, 133]) : (convert 41 9 (.slice A 3 c)).run Try.prog w = .ok (.string ⟨#[120, 121, 133]⟩) w := by
  have := str_run h
  rw [show strOfNums [120, 121, 133] = ⟨#[120, 121, 133]⟩ by kernel_rfl] at this
  exact this
theorem aw_create1 (w : World) (F : Nat → Prop) (d : Nat) (L : Lay) (h : Rep w F d L pNew (Live pNew)) : Calls Try.prog 16 #[.pointer (some ⟨d, 0, none⟩), .string sA] w fun e w' => e = .returned (.int .i64 0) ∧ After w F d aw1 w' := by
  have := Create_calls w F d L pNew 0 sA h Sound.new.good (by decide)
  rw [v_aw1] at this
  exact this
theorem aw_sync2 (w : World) (F : Nat → Prop) (d : Nat) (L : Lay) (h : Rep w F d L aw1 (Live aw1)) : Calls Try.prog 14 #[.pointer (some ⟨d, 0, none⟩)] w fun e w' => e = .returned (.int .i64 0) ∧ After w F d aw2 w' := by
  have := SyncDir_calls w F d L aw1 100 h s_aw1.good (by decide)
  rw [v_aw2] at this
  exact this
theorem aw_append3 (w : World) (fz : Nat × Nat) (F : Nat → Prop) (d : Nat) (L : Lay) (h : Rep w F d L aw2 (Live aw2)) : Calls Try.prog 17 #[.pointer (some ⟨d, 0, none⟩), .string sA, .slice (some ⟨w.heap.size, 0, none⟩) 2 2] (w.alloc (.cells #[.int .u8 120, .int .u8 121] 5 fz)) fun e w' => e = .returned (.int .i64 0) ∧ After (w.alloc (.cells #[.int .u8 120, .int .u8 121] 5 fz)) F d aw3 w' := by
  have := Append_calls (w.alloc (.cells #[.int .u8 120, .int .u8 121] 5 fz)) F d L aw2 200 sA (some ⟨w.heap.size, 0, none⟩) [120, 121] 2 (C_blk (enc := Value.int .u8) (heap_alloc_new w _) (by decide)) (by decide) (h.alloc _) s_aw2.good (by decide)
  rw [v_aw3] at this
  exact this
theorem aw_sync4 (w : World) (F : Nat → Prop) (d : Nat) (L : Lay) (h : Rep w F d L aw3 (Live aw3)) : Calls Try.prog 18 #[.pointer (some ⟨d, 0, none⟩), .string sA] w fun e w' => e = .returned (.int .i64 0) ∧ After w F d aw4 w' := by
  have := Sync_calls w F d L aw3 300 sA h s_aw3.good (by decide)
  rw [v_aw4] at this
  exact this
theorem aw_append5 (w : World) (fz : Nat × Nat) (F : Nat → Prop) (d : Nat) (L : Lay) (h : Rep w F d L aw4 (Live aw4)) : Calls Try.prog 17 #[.pointer (some ⟨d, 0, none⟩), .string sA, .slice (some ⟨w.heap.size, 0, none⟩) 1 1] (w.alloc (.cells #[.int .u8 122] 5 fz)) fun e w' => e = .returned (.int .i64 0) ∧ After (w.alloc (.cells #[.int .u8 122] 5 fz)) F d aw5 w' := by
  have := Append_calls (w.alloc (.cells #[.int .u8 122] 5 fz)) F d L aw4 400 sA (some ⟨w.heap.size, 0, none⟩) [122] 1 (C_blk (enc := Value.int .u8) (heap_alloc_new w _) (by decide)) (by decide) (h.alloc _) s_aw4.good (by decide)
  rw [v_aw5] at this
  exact this
theorem aw_crash6 (w : World) (F : Nat → Prop) (d : Nat) (L : Lay) (h : Rep w F d L aw5 (Live aw5)) : Calls Try.prog 12 #[.pointer (some ⟨d, 0, none⟩), .int .i64 0, .slice (some ⟨w.heap.size, 0, none⟩) 1 1] (w.alloc (.cells #[.int .i64 1, .bool true] 60)) fun e w' => e = .returned (.tuple #[]) ∧ After (w.alloc (.cells #[.int .i64 1, .bool true] 60)) F d aw6 w' :=
  Crash_calls (w.alloc (.cells #[.int .i64 1, .bool true] 60)) F d L aw5 500 0 (some ⟨w.heap.size, 0, none⟩) 1 [⟨1, true⟩] (C_cf (heap_alloc_new w _)) (h.alloc _) s_aw5.good (by decide)
theorem aw_fail7 (w : World) (F : Nat → Prop) (d : Nat) (L : Lay) (h : Rep w F d L aw6 (Live aw6)) : Calls Try.prog 23 #[.pointer (some ⟨d, 0, none⟩), .int .i64 1] w fun e w' => e = .returned (.tuple #[]) ∧ After w F d aw7 w' := FailAfter_calls w F d L aw6 1 h
theorem aw_create8 (w : World) (F : Nat → Prop) (d : Nat) (L : Lay) (h : Rep w F d L aw7 (Live aw7)) : Calls Try.prog 16 #[.pointer (some ⟨d, 0, none⟩), .string sB] w fun e w' => e = .returned (.int .i64 0) ∧ After w F d aw8 w' := by
  have := Create_calls w F d L aw7 600 sB h s_aw7.good (by decide)
  rw [v_aw8] at this
  exact this
theorem aw_create9 (w : World) (F : Nat → Prop) (d : Nat) (L : Lay) (h : Rep w F d L aw8 (Live aw8)) : Calls Try.prog 16 #[.pointer (some ⟨d, 0, none⟩), .string sC] w fun e w' => e = .returned (.int .i64 16) ∧ After w F d aw9 w' := by
  have := Create_calls w F d L aw8 700 sC h s_aw8.good (by decide)
  rw [v_aw9] at this
  exact this

set_option maxHeartbeats 8000000 in
set_option maxRecDepth 100000 in
theorem awake_calls (w : World) : Calls Try.prog 9 #[] w fun e w' => e = .returned (.bool true) ∧ Below w.heap.size w w' := by
  have kc := fun (w : World) (C : Array Value) (n c : Nat) => Lib.run_convert_bytes_const (P := Try.prog) w 41 5 C n c Try.underlying41 Try.underlying5
  go_enter Try.func9, Try.ntmps9
  go_wp2_with (first
    | (go_at_call 15; refine (New_calls _).mono ?_; rintro e w0 ⟨d, F0, L0, rfl, hr, hc⟩; have R0 := Lib.hid hr; have C0 := Lib.hid hc; clear hr hc)
    | (go_at_call 16; refine (aw_create1 _ _ _ _ R0.out).mono ?_; rintro e w1 ⟨rfl, F1, L1, hr, hc⟩; have R1 := Lib.hid hr; have C1 := Lib.hid (C0.out.trans hc); clear hr hc R0)
    | (go_at_call 14; refine (aw_sync2 _ _ _ _ R1.out).mono ?_; rintro e w2 ⟨rfl, F2, L2, hr, hc⟩; have R2 := Lib.hid hr; have C2 := Lib.hid (C1.out.trans hc); clear hr hc R1)
    | (go_at_call 17; refine (aw_append3 _ _ _ _ _ R2.out).mono ?_; rintro e w3 ⟨rfl, F3, L3, hr, hc⟩; have R3 := Lib.hid hr; have C3 := Lib.hid ((C2.out.up _).trans hc); clear hr hc R2)
    | (go_at_call 18; refine (aw_sync4 _ _ _ _ R3.out).mono ?_; rintro e w4 ⟨rfl, F4, L4, hr, hc⟩; have R4 := Lib.hid hr; have C4 := Lib.hid (C3.out.trans hc); clear hr hc R3)
    | (go_at_call 17; refine (aw_append5 _ _ _ _ _ R4.out).mono ?_; rintro e w5 ⟨rfl, F5, L5, hr, hc⟩; have R5 := Lib.hid hr; have C5 := Lib.hid ((C4.out.up _).trans hc); clear hr hc R4)
    | (go_at_call 12; refine (aw_crash6 _ _ _ _ R5.out).mono ?_; rintro e w6 ⟨rfl, F6, L6, hr, hc⟩; have R6 := Lib.hid hr; have C6 := Lib.hid ((C5.out.up _).trans hc); clear hr hc R5)
    | (go_at_call 21; refine (aw_read _ _ _ _ R6.out).mono ?_; rintro e w7 ⟨A7, c7, rfl, hv, hfr⟩; have R7 := Lib.hid (R6.out.fr hfr (fun _ _ => id)); have C7 := Lib.hid (C6.out.fr2 hfr); have V7 := Lib.hid (hv.mono (ok' := fun k => ¬ F6 k) (fun k hk _ e => by have := C6.out.lt k e; omega)); clear hv hfr R6)
    | (go_at_call 23; refine (aw_fail7 _ _ _ _ R7.out).mono ?_; rintro e w8 ⟨rfl, F8, L8, hr, hc⟩; have R8 := Lib.hid hr; have C8 := Lib.hid (C7.out.trans hc); have V8 := Lib.hid (V7.out.turn hc); clear hr hc R7 V7)
    | (go_at_call 16; refine (aw_create8 _ _ _ _ R8.out).mono ?_; rintro e w9 ⟨rfl, F9, L9, hr, hc⟩; have R9 := Lib.hid hr; have C9 := Lib.hid (C8.out.trans hc); have V9 := Lib.hid (V8.out.turn hc); clear hr hc R8 V8)
    | (go_at_call 16; refine (aw_create9 _ _ _ _ R9.out).mono ?_; rintro e w10 ⟨rfl, F10, L10, hr, hc⟩; have R10 := Lib.hid hr; have C10 := Lib.hid (C9.out.trans hc); have V10 := Lib.hid (V9.out.turn hc); clear hr hc R9 V9)
    | (go_at_call 26; refine (aw_list _ _ _ _ R10.out).mono ?_; rintro e w11 ⟨g, cg, rfl, g0, g1, hfr⟩; have C11 := Lib.hid (C10.out.fr2 hfr); have hcv := aw_str (V10.out.below (fr_below hfr)); clear hfr R10 V10)
    | fail)
  go_ret
  exact ⟨rfl, C11.out.fr.toBelow (Nat.le_refl _) (fun _ hk => hk.elim)⟩
end Go.Proofs.Ytpffeafoangegaa.Disk

/- light and play. -/
namespace Go.Proofs.Ytpffeafoangegaa.Disk
open Go Go.RowKit Go.Proofs.YtpffeafoangegaaW.PrintWords Go.Proofs.YtpffeafoangegaaW.PrintLast Go.Proofs.YtpffeafoangegaaW.PrintMore Go.Proofs.Ytpffeafoangegaa.PSimdiskOperations
abbrev kOp : Kd SOp := k47
def lightX (x : SOp) : Bool := decide (x.f3.length ≤ 100) && decide (x.f5.length ≤ 100) && decide (x.f1.size ≤ 100) && decide (x.f2.size ≤ 100)
def lightB (l : List SOp) : Bool := decide (l.length ≤ 60) && l.all lightX
theorem light_round (k : Nat) (l : List SOp) (i : Nat) (h : i < l.length) (hl : l.length ≤ 60) : laminalaw20_light.l0 (k + 1) l (l.length : Int) (i : Int) = if lightX l[i] then laminalaw20_light.l0 k l (l.length : Int) ((i + 1 : Nat) : Int) else some false := by
  have e : rd_T47 l (i : Int) = l[i] := by simp [rd_T47, List.getD, h]
  simp only [laminalaw20_light.l0]
  rw [if_pos (by omega), if_pos (by omega), if_pos (by omega), e, show wrap64 ((i : Int) + 1) = ((i + 1 : Nat) : Int) from wrapN i (by omega)]
  unfold lightX
  have e0 : ∀ n : Nat, ((n : Int) > 100) = ¬ (n ≤ 100) := fun n => by rw [eq_iff_iff]; omega
  simp only [e0]
  by_cases h1 : l[i].f3.length ≤ 100 <;> by_cases h2 : l[i].f5.length ≤ 100 <;> by_cases h3 : l[i].f1.size ≤ 100 <;> by_cases h4 : l[i].f2.size ≤ 100 <;> simp [h1, h2, h3, h4]
theorem light_l0 (l : List SOp) (hl : l.length ≤ 60) : ∀ (d k i : Nat), l.length - i = d → i ≤ l.length → d < k → laminalaw20_light.l0 k l (l.length : Int) (i : Int) = some ((l.drop i).all lightX) := by
  intro d
  induction d with
  | zero =>
    intro k i hd hi hk
    obtain ⟨k, rfl⟩ : ∃ m, k = m + 1 := ⟨k - 1, by omega⟩
    obtain rfl : i = l.length := by omega
    simp only [laminalaw20_light.l0]
    rw [if_neg (by omega), List.drop_length]
    rfl
  | succ d ih =>
    intro k i hd hi hk
    obtain ⟨k, rfl⟩ : ∃ m, k = m + 1 := ⟨k - 1, by omega⟩
    rw [light_round k l i (by omega) hl, dropE l i (by omega), List.all_cons]
    by_cases hx : lightX l[i] = true
    · rw [if_pos hx, ih k (i + 1) (by omega) (by omega) (by omega), hx, Bool.true_and]
    · rw [if_neg hx]
      simp at hx
      rw [hx, Bool.false_and]
theorem light_f (l : List SOp) : laminalaw20_light.f 62 l = some (lightB l) := by
  unfold laminalaw20_light.f lightB
  by_cases h : l.length ≤ 60
  · rw [if_neg (by omega), show (0 : Int) = ((0 : Nat) : Int) from rfl, light_l0 l h l.length 62 0 rfl (by omega) (by omega)]
    simp [h]
  · rw [if_pos (by omega)]
    simp [h]
theorem light_calls (w : World) (A : Option Addr) (c : Nat) (l : List SOp) (h : Kd.C kOp w A l.length l) (hc : l.length ≤ c) :
    Calls Try.prog 8 #[.slice A l.length c] w fun e w' => e = .returned (.bool (lightB l)) ∧ Below w.heap.size w w' := laminalaw20_light.calls 62 A c l (lightB l) w h hc (light_f l)

/-! ### what a row that came in reads -/
theorem heap_cf : Kd.Heap kC := Kd.heap_iso _ (Kd.heap_pair (Kd.heap_int _) Kd.heap_bool)
theorem heap_op : Kd.Heap kOp := Kd.heap_iso _ (Kd.heap_pair (Kd.heap_int _) (Kd.heap_pair Kd.heap_string (Kd.heap_pair Kd.heap_string (Kd.heap_pair (Kd.heap_slice _ (Kd.heap_int _)) (Kd.heap_pair (Kd.heap_int _) (Kd.heap_slice _ heap_cf))))))
theorem Rd.ofC {α : Type} {dd : Kd α} (hd : Kd.Heap dd) {w : World} {A : Option Addr} {c : Nat} {xs : List α} (h : dd.C w A xs.length xs) (hc : xs.length ≤ c) : Rd dd w (fun k => k < w.heap.size) A c xs := ⟨hc, fun _ hW => hd.C (fun k hk => hW k hk hk) h⟩
theorem op_at {w : World} {ok : Nat → Prop} {A : Option Addr} {c : Nat} {l : List SOp} (h : Rd kOp w ok A c l) (j : Nat) (hj : j < l.length) : ∃ ad A3 c3 A5 c5, A = some ad ∧ w.cell? (ad.add (j * 6)) = some (.int .i64 l[j].f0) ∧ w.cell? ⟨(ad.add (j * 6)).block, (ad.add (j * 6)).off + 1, none⟩ = some (.string l[j].f1) ∧ w.cell? ⟨(ad.add (j * 6)).block, (ad.add (j * 6)).off + 2, none⟩ = some (.string l[j].f2) ∧ w.cell? ⟨(ad.add (j * 6)).block, (ad.add (j * 6)).off + 3, none⟩ = some (.slice A3 l[j].f3.length c3) ∧ w.cell? ⟨(ad.add (j * 6)).block, (ad.add (j * 6)).off + 4, none⟩ = some (.int .i64 l[j].f4) ∧ w.cell? ⟨(ad.add (j * 6)).block, (ad.add (j * 6)).off + 5, none⟩ = some (.slice A5 l[j].f5.length c5) ∧ Rd kB w ok A3 c3 l[j].f3 ∧ Rd kC w ok A5 c5 l[j].f5 := by
  obtain ⟨_, _, hn⟩ := Kd.F_rows h.f
  obtain ⟨ad, hA, hc⟩ := hn (by omega)
  obtain ⟨cs, hs, hfk, hcell⟩ := hc j l[j] (List.getElem?_eq_getElem hj)
  obtain ⟨A3, c3, A5, c5, rfl, h3, f3, h5, f5⟩ := k47_openF hfk
  have hs6 : kOp.sz = 6 := rfl
  rw [hs6] at hcell
  have hoff : ∀ k, 0 < k → (⟨(ad.add (j * 6)).block, (ad.add (j * 6)).off + k, none⟩ : Addr) = ad.add (j * 6 + k) := fun k hk => by
    unfold Addr.add
    rw [if_neg (show ¬ j * 6 + k = 0 by omega)]
    by_cases h0 : j * 6 = 0
    · rw [if_pos h0, h0, Nat.zero_add]
    · rw [if_neg h0, Nat.add_assoc]
  refine ⟨ad, A3, c3, A5, c5, hA, hcell 0 _ rfl, by rw [hoff _ (by decide)]; exact hcell 1 _ rfl, by rw [hoff _ (by decide)]; exact hcell 2 _ rfl, by rw [hoff _ (by decide)]; exact hcell 3 _ rfl, by rw [hoff _ (by decide)]; exact hcell 4 _ rfl, by rw [hoff _ (by decide)]; exact hcell 5 _ rfl, ⟨h3, f3⟩, ⟨h5, f5⟩⟩
end Go.Proofs.Ytpffeafoangegaa.Disk

/- play. -/
namespace Go.Proofs.Ytpffeafoangegaa.Disk
open Go Go.RowKit Go.Proofs.YtpffeafoangegaaW.PrintWords Go.Proofs.YtpffeafoangegaaW.PrintLast Go.Proofs.YtpffeafoangegaaW.PrintMore Go.Proofs.Ytpffeafoangegaa.PSimdiskOperations
def stAt (S : PS) (l : List SOp) (j : Nat) : PS := (l.take j).foldl pStep S
theorem stAt_succ (S : PS) (l : List SOp) (j : Nat) (hj : j < l.length) : stAt S l (j + 1) = pStep (stAt S l j) l[j] := by
  unfold stAt
  rw [List.take_succ_eq_append_getElem hj, List.foldl_append]
  rfl
/-- Each operation is one that can be read. -/
def WfOp (x : SOp) : Prop := (∀ y ∈ x.f3, 0 ≤ y ∧ y ≤ 255) ∧ x.f4 ≤ 9223372036854775807
theorem light_at {l : List SOp} (h : lightB l = true) : l.length ≤ 60 ∧ ∀ x ∈ l, x.f3.length ≤ 100 := by
  unfold lightB at h
  simp only [Bool.and_eq_true, decide_eq_true_eq, List.all_eq_true] at h
  refine ⟨h.1, fun x hx => ?_⟩
  have := h.2 x hx
  unfold lightX at this
  simp only [Bool.and_eq_true, decide_eq_true_eq] at this
  exact this.1.1.1
theorem stAt_sound {S : PS} {B : Nat} {l : List SOp} (hs : Sound S B) (h : lightB l = true) (hw : ∀ x ∈ l, WfOp x) : ∀ j, j ≤ l.length → Sound (stAt S l j) (B + 100 * j) := by
  intro j
  induction j with
  | zero => intro _; exact hs
  | succ j ih =>
    intro hj
    have hj' : j < l.length := by omega
    rw [stAt_succ S l j hj']
    have hm : l[j] ∈ l := List.getElem_mem hj'
    have := (ih (by omega)).step (x := l[j]) ((light_at h).2 _ hm) (hw _ hm).1 (hw _ hm).2
    exact this.mono (by omega)
theorem Pair.move {w w' : World} {F ok : Nat → Prop} {d : Nat} {v : Value} {S : PS} (h : Pair w F ok d v S) (hs : w.heap.size ≤ w'.heap.size) (hm : ∀ k, F k ∨ ok k → k < w.heap.size → w'.heap[k]? = w.heap[k]?) : Pair w' F ok d v S := by
  obtain ⟨⟨L, hr⟩, ⟨a0, c0, a1, c1, a2, c2, a3, c3, rfl, hf⟩, hlt, hap⟩ := h
  exact ⟨⟨L, hr.move (fun k hk hlt => hm k (.inl hk) hlt)⟩, ⟨a0, c0, a1, c1, a2, c2, a3, c3, rfl, hf.move (fun k hk hlt => hm k (.inr hk) hlt)⟩, fun k hk => Nat.lt_of_lt_of_le (hlt k hk) hs, hap⟩
theorem Pair.below {w w' : World} {F ok : Nat → Prop} {d : Nat} {v : Value} {S : PS} (h : Pair w F ok d v S) (hb : Below w.heap.size w w') : Pair w' F ok d v S := h.move hb.size (fun k _ hk => hb.block k hk)
theorem Pair.mono {w : World} {F ok ok' : Nat → Prop} {d : Nat} {v : Value} {S : PS} (h : Pair w F ok d v S) (hok : ∀ k, ok k → k < w.heap.size → ok' k) (hap : ∀ k, ok' k → ¬ F k) : Pair w F ok' d v S := by
  obtain ⟨hr, ⟨a0, c0, a1, c1, a2, c2, a3, c3, rfl, hf⟩, hlt, _⟩ := h
  exact ⟨hr, ⟨a0, c0, a1, c1, a2, c2, a3, c3, rfl, hf.mono hok⟩, hlt, hap⟩
set_option maxHeartbeats 1000000 in
theorem refNew_calls (w : World) : Calls Try.prog 19 #[] w fun e w' => e = .returned (sv none 0 none 0 none 0 none 0 pNew) ∧ Below w.heap.size w w' := by
  go_enter Try.func19, Try.ntmps19
  go_wp2
  exact bodyPost_ret (results_cell_row rfl _ _ w.heap.size tState zeroC (0, 0) _ rfl (heap_alloc_new w _) Try.underlying30 rfl (by kernel_rfl)) rfl ⟨rfl, below_alloc (Below.refl _ _) _⟩
theorem ref_new (w : World) : Ref w (fun _ => False) none 0 none 0 none 0 none 0 pNew := ⟨Rd.nil _ _ _, Rd.nil _ _ _, Rd.nil _ _ _, Rd.nil _ _ _⟩
theorem pair_new {w w1 w2 : World} {F : Nat → Prop} {d : Nat} {L : Lay} (h : Rep w1 F d L pNew (Live pNew)) (hc : Chg w (fun _ => False) w1 F) (hb : Below w1.heap.size w1 w2) : Pair w2 F (fun _ => False) d (sv none 0 none 0 none 0 none 0 pNew) pNew :=
  ⟨⟨L, h.below hb⟩, ⟨none, 0, none, 0, none, 0, none, 0, rfl, ref_new _⟩, fun k hk => Nat.lt_of_lt_of_le (hc.lt k hk) hb.size, fun _ hk => hk.elim⟩
/-- The loop of play. -/
def PlayRel (w : World) (S : PS) (l : List SOp) (d b3 b6 : Nat) (i : Value) (wr : World) : Prop :=
  ∃ (j : Nat) (F ok : Nat → Prop) (a0 : Option Addr) (c0 : Nat) (a1 : Option Addr) (c1 : Nat) (a2 : Option Addr) (c2 : Nat) (a3 : Option Addr) (c3 : Nat), j ≤ l.length ∧ i = .int .i64 j ∧
    wr.heap[b6]? = some (.cells (svC a0 c0 a1 c1 a2 c2 a3 c3 (stAt S l j)) tState (0, 0)) ∧ wr.heap[b3]? = some (.cells zeroC tState (0, 0)) ∧
    Pair wr F ok d (sv a0 c0 a1 c1 a2 c2 a3 c3 (stAt S l j)) (stAt S l j) ∧ Below w.heap.size w wr ∧ (∀ k, F k → w.heap.size ≤ k ∧ k ≠ b3 ∧ k ≠ b6) ∧ (∀ k, ok k → k ≠ b3 ∧ k ≠ b6) ∧ ∀ k, k < w.heap.size → ok k
theorem play_next {w wr wx w5 w6 : World} {S S' : PS} {l : List SOp} {d b3 b6 j : Nat} {F ok F' : Nat → Prop} {b0 : Option Addr} {d0 : Nat} {b1 : Option Addr} {d1 : Nat} {b2 : Option Addr} {d2 : Nat} {bb3 : Option Addr} {d3 : Nat} {x0 x1 x2 x3 x4 x5 : Value} {o : Obj}
    (hj : j < l.length) (hS : S' = stAt S l (j + 1)) (h36 : b3 ≠ b6) (hw : w.heap.size ≤ b6) (hbw : Below w.heap.size w wr) (hbx : Below wr.heap.size wr wx) (hk6 : wr.heap[b6]? = some (.cells #[x0, x1, x2, x3, x4, x5] tState (0, 0))) (hk3 : wr.heap[b3]? = some (.cells zeroC tState (0, 0)))
    (hF : ∀ k, F k → w.heap.size ≤ k ∧ k ≠ b3 ∧ k ≠ b6) (hok : ∀ k, ok k → k ≠ b3 ∧ k ≠ b6) (hold : ∀ k, k < w.heap.size → ok k) (hp : Pair w5 F' (okN ok wx F') d (sv b0 d0 b1 d1 b2 d2 bb3 d3 S') S') (hc : Chg wx F w5 F')
    (h6 : w6 = ((((((w5.alloc o).setCell ⟨b6, 0, none⟩ (.slice b0 S'.files.length d0)).setCell ⟨b6, 1, none⟩ (.slice b1 S'.dir.length d1)).setCell ⟨b6, 2, none⟩ (.slice b2 S'.dur.length d2)).setCell ⟨b6, 3, none⟩ (.slice bb3 S'.pend.length d3)).setCell ⟨b6, 4, none⟩ (.bool S'.lim)).setCell ⟨b6, 5, none⟩ (.int .i64 S'.left)) :
    PlayRel w S l d b3 b6 (.int .i64 ((j + 1 : Nat) : Int)) w6 := by
  subst hS
  have l6 := lt_blk hk6
  have l3 := lt_blk hk3
  have sx := hbx.size
  have s5 : wx.heap.size ≤ w5.heap.size := hc.fr.size
  have sw := hbw.size
  have notF : ∀ k, k = b3 ∨ k = b6 → ¬ F k := fun k hk e => by have := hF k e; rcases hk with rfl | rfl <;> omega
  have e6 : (w5.alloc o).heap[b6]? = some (.cells #[x0, x1, x2, x3, x4, x5] tState (0, 0)) := blk_allocN ((hc.fr.block b6 (by omega) (notF _ (.inr rfl))).trans ((hbx.block b6 l6).trans hk6)) o
  have e3 : (w5.alloc o).heap[b3]? = some (.cells zeroC tState (0, 0)) := blk_allocN ((hc.fr.block b3 (by omega) (notF _ (.inl rfl))).trans ((hbx.block b3 l3).trans hk3)) o
  have far : ∀ k, k ≠ b6 → w6.heap[k]? = (w5.alloc o).heap[k]? := fun k hk => by rw [h6, other_six hk]
  have newF : ∀ k, F' k → w.heap.size ≤ k ∧ k ≠ b3 ∧ k ≠ b6 := fun k hk => by
    rcases hc.new k hk with h1 | h1
    · exact hF k h1
    · omega
  have newO : ∀ k, okN ok wx F' k → k ≠ b3 ∧ k ≠ b6 := fun k hk => by
    rcases hk with hk | hk
    · exact hok k hk.1
    · have := hk.1; omega
  have b56 : Below w.heap.size w5 w6 := by
    rw [h6]
    exact below_six ((below_alloc (Below.refl _ w5) o).mono (by omega)) hw _ _ _ _ _ _
  have bx5 : Below w.heap.size wx w5 := hc.fr.toBelow (by omega) (fun k hk => (hF k hk).1)
  refine ⟨j + 1, F', okN ok wx F', b0, d0, b1, d1, b2, d2, bb3, d3, by omega, rfl, ?_, (far b3 h36).trans e3, ?_, ?_, newF, newO, fun k hk => .inl ⟨hold k hk, by omega⟩⟩
  · rw [h6]
    exact set_six _ _ _ _ _ _ e6
  · exact (hp.below (below_alloc (Below.refl _ _) o)).move (by rw [h6]; simp [World.setCell]) (fun k hk _ => far k (by rcases hk with hk | hk; exact (newF k hk).2.2; exact (newO k hk).2))
  · exact ((hbw.trans (hbx.mono hbw.size)).trans bx5).trans b56
theorem six_cellsA {w : World} {b : Nat} {x0 x1 x2 x3 x4 x5 : Value} {t : Nat} {fz : Nat × Nat} (h : w.heap[b]? = some (.cells #[x0, x1, x2, x3, x4, x5] t fz)) : (∀ o, (w.alloc o).cell? ⟨b, 0, none⟩ = some x0) ∧ (∀ o, (w.alloc o).cell? ⟨b, 1, none⟩ = some x1) ∧ (∀ o, (w.alloc o).cell? ⟨b, 2, none⟩ = some x2) ∧ (∀ o, (w.alloc o).cell? ⟨b, 3, none⟩ = some x3) ∧ (∀ o, (w.alloc o).cell? ⟨b, 4, none⟩ = some x4) ∧ (∀ o, (w.alloc o).cell? ⟨b, 5, none⟩ = some x5) :=
  ⟨fun o => cell_blk (blk_allocN h o) 0, fun o => cell_blk (blk_allocN h o) 1, fun o => cell_blk (blk_allocN h o) 2, fun o => cell_blk (blk_allocN h o) 3, fun o => cell_blk (blk_allocN h o) 4, fun o => cell_blk (blk_allocN h o) 5⟩
theorem six_frozenA {w : World} {b : Nat} {x0 x1 x2 x3 x4 x5 : Value} {t : Nat} (h : w.heap[b]? = some (.cells #[x0, x1, x2, x3, x4, x5] t (0, 0))) : (∀ o, (w.alloc o).frozen? ⟨b, 0, none⟩ = false) ∧ (∀ o, (w.alloc o).frozen? ⟨b, 1, none⟩ = false) ∧ (∀ o, (w.alloc o).frozen? ⟨b, 2, none⟩ = false) ∧ (∀ o, (w.alloc o).frozen? ⟨b, 3, none⟩ = false) ∧ (∀ o, (w.alloc o).frozen? ⟨b, 4, none⟩ = false) ∧ (∀ o, (w.alloc o).frozen? ⟨b, 5, none⟩ = false) :=
  ⟨fun o => frozen_blk (blk_allocN h o) 0, fun o => frozen_blk (blk_allocN h o) 1, fun o => frozen_blk (blk_allocN h o) 2, fun o => frozen_blk (blk_allocN h o) 3, fun o => frozen_blk (blk_allocN h o) 4, fun o => frozen_blk (blk_allocN h o) 5⟩
theorem results_tct {fn : Func} {p u q : Tmp} (h : fn.results = #[.tmp u, .cell p tState, .tmp q]) (tmps : Array Value) (w : World) (g : Nat) (x0 x1 x2 x3 x4 x5 : Value) (fr : Nat × Nat)
    (hp : tmps.getD p undef = .pointer (some ⟨g, 0, none⟩)) (hg : w.heap[g]? = some (.cells #[x0, x1, x2, x3, x4, x5] tState fr)) :
    (results fn tmps).run Try.prog w = .ok (.tuple #[tmps.getD u undef, .agg #[x0, x1, x2, x3, x4, x5], tmps.getD q undef]) w :=
  results_list (rs := [.tmp u, .cell p tState, .tmp q]) (vs := [tmps.getD u undef, .agg #[x0, x1, x2, x3, x4, x5], tmps.getD q undef]) h (by simp) (.tmp (.cell g tState _ fr _ hp hg Try.underlying30 rfl (by kernel_rfl) (.tmp .nil)))
theorem play_end {w w6 w7 : World} {F ok : Nat → Prop} {d : Nat} {S : PS} {a0 : Option Addr} {c0 : Nat} {a1 : Option Addr} {c1 : Nat} {a2 : Option Addr} {c2 : Nat} {a3 : Option Addr} {c3 : Nat} {z0 z1 z2 z3 z4 z5 : Value} (y0 y1 y2 y3 y4 y5 : Value) (hz : w6.heap[w.heap.size]? = some (.cells #[z0, z1, z2, z3, z4, z5] tState (0, 0)))
    (hp : Pair w6 F ok d (sv a0 c0 a1 c1 a2 c2 a3 c3 S) S) (hb : Below w.heap.size w w6) (hF : ∀ k, F k → k ≠ w.heap.size) (hok : ∀ k, ok k → k ≠ w.heap.size)
    (h7 : w7 = ((((((w6.setCell ⟨w.heap.size, 0, none⟩ y0).setCell ⟨w.heap.size, 1, none⟩ y1).setCell ⟨w.heap.size, 2, none⟩ y2).setCell ⟨w.heap.size, 3, none⟩ y3).setCell ⟨w.heap.size, 4, none⟩ y4).setCell ⟨w.heap.size, 5, none⟩ y5)) :
    w7.drew.heap[w.heap.size]? = some (.cells #[y0, y1, y2, y3, y4, y5] tState (0, 0)) ∧ Pair w7.drew F ok d (sv a0 c0 a1 c1 a2 c2 a3 c3 S) S ∧ Below w.heap.size w w7.drew := by
  have q1 : w7.heap[w.heap.size]? = some (.cells #[y0, y1, y2, y3, y4, y5] tState (0, 0)) := by rw [h7]; exact set_six y0 y1 y2 y3 y4 y5 hz
  have q2 : Below w.heap.size w w7 := by rw [h7]; exact below_six hb (Nat.le_refl w.heap.size) y0 y1 y2 y3 y4 y5
  have hs : w6.heap.size ≤ w7.heap.size := by rw [h7]; simp [World.setCell]
  have far : ∀ k, k ≠ w.heap.size → w7.heap[k]? = w6.heap[k]? := fun k hk => by rw [h7, other_six hk]
  clear h7
  exact ⟨q1, (hp.move hs (fun k hk _ => far k (by rcases hk with hk | hk; exact hF k hk; exact hok k hk))).below (below_drew (Below.refl _ _)), below_drew q2⟩
set_option maxHeartbeats 4000000 in
set_option maxRecDepth 100000 in
theorem play_calls (w : World) (A : Option Addr) (c : Nat) (l : List SOp) (h : Kd.C kOp w A l.length l) (hc : l.length ≤ c) (hl : lightB l = true) (hw : ∀ x ∈ l, WfOp x) :
    Calls Try.prog 10 #[.slice A l.length c] w fun e w' => ∃ d v F ok, e = .returned (.tuple #[.pointer (some ⟨d, 0, none⟩), v, .bool true]) ∧ Pair w' F ok d v (stAt pNew l l.length) ∧ Below w.heap.size w w' ∧ (∀ k, F k → w.heap.size ≤ k) ∧ ∀ k, k < w.heap.size → ok k := by
  have HR := Lib.hid (Rd.ofC heap_op h hc)
  have hlen : l.length ≤ 60 := (light_at hl).1
  have HL := Lib.hid hl
  have HWF := Lib.hid hw
  obtain ⟨w0, hw0⟩ : ∃ w0, w0 = w.alloc (.cells zeroC tState) := ⟨_, rfl⟩
  have hb0 : Below w.heap.size w w0 := by rw [hw0]; exact below_alloc (Below.refl _ _) _
  have K3 := Lib.hid (show w0.heap[w.heap.size]? = some (.cells zeroC tState (0, 0)) by rw [hw0]; exact heap_alloc_new w _)
  have HB0 := Lib.hid hb0
  clear h hc hl hw hb0
  go_enter Try.func10, Try.ntmps10
  go_upto_region 1 with (fail)
  rw [← hw0]
  clear hw0
  go_wp2_with (first | (go_at_call 15; refine (New_calls _).mono ?_; rintro e w1 ⟨d, F, L, rfl, hr, hch⟩; have HREP1 := Lib.hid hr; have HCH1 := Lib.hid hch; clear hr hch) | (go_at_call 19; refine (refNew_calls _).mono ?_; rintro e w2 ⟨rfl, hb⟩; have HB2 := Lib.hid hb; clear hb) | fail)
  have hc1 := HCH1.out
  have hs1 : w0.heap.size ≤ w1.heap.size := hc1.fr.size
  have hs2 := HB2.out.size
  have hs0 := HB0.out.size
  have hk3 := lt_blk K3.out
  have K32 := Lib.hid (show w2.heap[w.heap.size]? = some (.cells zeroC tState (0, 0)) from blk_below ((hc1.fr.block _ hk3 id).trans K3.out) HB2.out)
  have HBW := Lib.hid (show Below w.heap.size w w2 from (HB0.out.trans (hc1.fr.toBelow (B := w.heap.size) (by omega) (fun _ hk => hk.elim))).trans (HB2.out.mono (by omega)))
  have HP2 := Lib.hid (pair_new HREP1.out hc1 HB2.out)
  have hFk : ∀ k, F k → w.heap.size ≤ k ∧ k ≠ w.heap.size ∧ k ≠ w2.heap.size := fun k hk => by
    have h2 := hc1.lt k hk
    rcases hc1.new k hk with h1 | h1
    · exact h1.elim
    · omega
  have HFK := Lib.hid hFk
  obtain ⟨b6, hb6⟩ : ∃ b6, b6 = w2.heap.size := ⟨_, rfl⟩
  have HB6 := Lib.hid (show w.heap.size < b6 by omega)
  have HLT2 := Lib.hid (show ∀ k, F k → k < w2.heap.size from fun k hk => by have := hc1.lt k hk; omega)
  rw [← hb6] at HFK ⊢
  have HE6 := Lib.hid hb6
  clear hc1 hs1 hs2 hs0 hk3 hFk hb6
  go_loopw [18] (fun i wr => PlayRel w pNew l d w.heap.size b6 i wr) (fun i _ => l.length - (intOf i).toNat)
  case atStart =>
    refine ⟨0, F, fun k => k < w.heap.size, none, 0, none, 0, none, 0, none, 0, Nat.zero_le _, rfl, by rw [HE6.out]; exact heap_alloc_new w2 _, blk_allocN K32.out _, ?_, below_alloc HBW.out _, HFK.out, fun k hk => ?_, fun _ hk => hk⟩
    · exact (HP2.out.mono (ok' := fun k => k < w.heap.size) (fun _ hk => hk.elim) (fun k hk e => by have := (HFK.out k e).1; omega)).below (below_alloc (Below.refl _ _) _)
    · have := HB6.out; omega
  case round =>
    obtain ⟨j, Fj, okj, a0, c0, a1, c1, a2, c2, a3, c3, hj, rfl, hk6, hk3, hp, hbw, hF, hok, hold⟩ := hrel
    have K6 := Lib.hid hk6
    have K33 := Lib.hid hk3
    have HP := Lib.hid hp
    have HBR := Lib.hid hbw
    have HF := Lib.hid hF
    have HOK := Lib.hid hok
    have HOLD := Lib.hid hold
    clear hk6 hk3 hp hbw hF hok hold
    by_cases hlt : j < l.length
    · obtain ⟨ad, A3, c3', A5, c5', hA, q0, q1, q2, q3, q4, q5, r3, r5⟩ := op_at (HR.out.below HBR.out) j hlt
      subst hA
      have HSD := Lib.hid (stAt_sound Sound.new HL.out HWF.out j hj)
      have hx100 := (light_at HL.out).2 _ (List.getElem_mem hlt)
      have HSU := Lib.hid (stAt_succ pNew l j hlt)
      obtain ⟨x, hx⟩ : ∃ x, x = l[j] := ⟨_, rfl⟩
      rw [← hx] at q0 q1 q2 q3 q4 q5 r3 r5 hx100 HSU
      obtain ⟨St, hSt⟩ : ∃ St, St = stAt pNew l j := ⟨_, rfl⟩
      rw [← hSt] at HSD HSU HP K6
      have R3 := Lib.hid (r3.mono (ok' := okj) (fun k hk _ => HOLD.out k hk))
      have R5 := Lib.hid (r5.mono (ok' := okj) (fun k hk _ => HOLD.out k hk))
      have HX100 := Lib.hid hx100
      obtain ⟨s0, s1, s2, s3, s4, s5⟩ := six_cellsA K6.out
      clear hx hx100 r3 r5 hSt
      go_wp2_with (first | (go_at_call 20; go_loud (refine (step_calls _ Fj okj d _ St _ x A3 c3' A5 c5' (HP.out.below (below_alloc (Below.refl _ _) _)) HSD.out.good (by omega) (R3.out.below (below_alloc (Below.refl _ _) _)) HX100.out (R5.out.below (below_alloc (Below.refl _ _) _))).mono ?_); rintro e w5 ⟨v, F', rfl, hp, hch⟩; obtain ⟨b0, d0, b1, d1, b2, d2, bb3, d3, hv, _⟩ := hp.ref; subst hv; have HP5 := Lib.hid hp; have HC5 := Lib.hid hch; have K65 := Lib.hid (chg_blk hch (blk_allocN K6.out _) (fun e => (HF.out _ e).2.2 rfl)); clear hp hch s0 s1 s2 s3 s4 s5; obtain ⟨s0, s1, s2, s3, s4, s5⟩ := six_cellsA K65.out; obtain ⟨f0, f1, f2, f3, f4, f5⟩ := six_frozenA K65.out) | fail)
      go_roundw
      case rel => exact play_next hlt HSU.out.symm (by have := HB6.out; omega) (by have := HB6.out; omega) HBR.out (below_alloc (Below.refl _ _) _) K6.out K33.out HF.out HOK.out HOLD.out HP5.out HC5.out rfl
      case measure => simp [intOf]; omega
    · obtain rfl : j = l.length := by omega
      obtain ⟨St, hSt⟩ : ∃ St, St = stAt pNew l l.length := ⟨_, rfl⟩
      rw [← hSt] at HP K6
      have HST := Lib.hid hSt
      obtain ⟨s0, s1, s2, s3, s4, s5⟩ := six_cells K6.out
      obtain ⟨z0, z1, z2, z3, z4, z5⟩ := six_cells K33.out
      obtain ⟨f0, f1, f2, f3, f4, f5⟩ := six_frozen K33.out
      clear hSt
      go_wp2_with fail
      go_region
      all_goals
        go_wp2_with fail
        have hres := play_end (.slice a0 St.files.length c0) (.slice a1 St.dir.length c1) (.slice a2 St.dur.length c2) (.slice a3 St.pend.length c3) (.bool St.lim) (.int .i64 St.left) K33.out HP.out HBR.out (fun k hk => (HF.out k hk).2.1) (fun k hk => (HOK.out k hk).1) rfl
        rw [← HST.out]
        exact bodyPost_ret (results_tct rfl _ _ w.heap.size _ _ _ _ _ _ (0, 0) rfl hres.1) rfl ⟨d, _, Fj, okj, rfl, hres.2.1, hres.2.2, fun k hk => (HF.out k hk).1, HOLD.out⟩
end Go.Proofs.Ytpffeafoangegaa.Disk

/- What is read out of the arguments of a law: any row of the kinds at hand. -/
namespace Go.Proofs.Ytpffeafoangegaa.Disk
open Go Go.RowKit Go.Proofs.YtpffeafoangegaaW.PrintWords Go.Proofs.YtpffeafoangegaaW.PrintLast Go.Proofs.YtpffeafoangegaaW.PrintMore Go.Proofs.Ytpffeafoangegaa.PSimdiskOperations
open Go.ChangeShapes Go.WideShapes Go.Deep
/-- Whatever of type t can be read as data is read by the kind dd. -/
def Opens {α : Type} (dd : Kd α) (t : Nat) (Wf : α → Prop) : Prop := ∀ (H : Type) (enc : TypeId × Value → H) (w : World) (fuel : Nat) (cs : List Value) (x : DataW H × List MemPlace), DataW.trod enc Try.prog w 0 (fun _ => true) true fuel t cs = some x → ∃ a, dd.K w a cs ∧ Wf a
theorem opens_int {t : Nat} {k : IntKind} (ht : Try.prog.underlying t = some (.int k)) : Opens (Kd.int k) t (fun n => (Lit.int k n).wf = true) := fun _ _ _ _ _ _ h => by
  obtain ⟨n, rfl, _, hw⟩ := DataW.trod_int ht h
  exact ⟨n, rfl, hw⟩
theorem opens_bool {t : Nat} (ht : Try.prog.underlying t = some .bool) : Opens Kd.bool t (fun _ => True) := fun _ _ _ _ _ _ h => by
  obtain ⟨n, rfl, _⟩ := DataW.trod_bool ht h
  exact ⟨n, rfl, trivial⟩
theorem opens_string {t : Nat} (ht : Try.prog.underlying t = some .string) : Opens Kd.string t (fun s => s.size ≤ maxLen) := fun _ _ _ _ _ _ h => by
  obtain ⟨n, rfl, _, hw⟩ := DataW.trod_string ht h
  exact ⟨n, rfl, hw⟩
theorem opens_row {α : Type} [Inhabited α] {dd : Kd α} {t e : Nat} {Wf : α → Prop} (ht : Try.prog.underlying t = some (.slice e)) (hc : Try.prog.cellsOf e = dd.sz) (he : Opens dd e Wf) {H : Type} {enc : TypeId × Value → H} {w : World} {fuel : Nat} {cs : List Value} {x : DataW H × List MemPlace}
    (h : DataW.trod enc Try.prog w 0 (fun _ => true) true fuel t cs = some x) : ∃ (l : List α) (A : Option Addr) (c : Nat), cs = [.slice A l.length c] ∧ l.length ≤ c ∧ dd.C w A l.length l ∧ ∀ y ∈ l, Wf y := by
  rcases open_slice ht h with ⟨rfl, _⟩ | ⟨a, len, cap, m, n, D, Pl, rfl, _, hl, hm, hmm, _, hx⟩
  · exact ⟨[], none, 0, rfl, Nat.le_refl _, Kd.C_nil _ _, fun y hy => by cases hy⟩
  · have hm' : m = cap := by rw [hmm]; rfl
    obtain ⟨f, hf⟩ := choose_lt (n := len) (p := fun i (y : α) => ∃ cs', w.cells? 0 (a.add (i * Try.prog.cellsOf e)) (Try.prog.cellsOf e) = some cs' ∧ dd.K w y cs' ∧ Wf y) (fun i hi => by
      obtain ⟨cs', h1, h2⟩ := hx i (by omega)
      obtain ⟨y, h3, h4⟩ := he H enc w n cs' _ h2
      exact ⟨y, cs', h1, h3, h4⟩)
    have hlen : ((List.range len).map f).length = len := by simp
    refine ⟨(List.range len).map f, some a, cap, by rw [hlen], by rw [hlen]; exact hl, ⟨rfl, by rw [hlen]; unfold maxLen at hm; omega, fun _ => ⟨a, rfl, fun j p hj => ?_⟩⟩, fun y hy => ?_⟩
    · obtain ⟨hjl, hjp⟩ := List.getElem?_eq_some_iff.1 hj
      rw [hlen] at hjl
      have hp : f j = p := by simpa using hjp
      obtain ⟨cs', h1, h2, _⟩ := hf j hjl
      obtain ⟨_, hs, hcell⟩ := World.cells?_some h1
      rw [hc] at hs
      refine ⟨cs', hs, hp ▸ h2, fun i u hu => ?_⟩
      have hi : i < dd.sz := by rw [← hs]; exact (List.getElem?_eq_some_iff.1 hu).1
      have := hcell i (by rw [hc]; exact hi)
      rw [Deep.add_add, hc] at this
      rw [this, hu]
    · obtain ⟨j, hj, rfl⟩ := List.mem_map.1 hy
      obtain ⟨cs', _, _, h3⟩ := hf j (List.mem_range.1 hj)
      exact h3
theorem opens_slice {α : Type} [Inhabited α] {dd : Kd α} {t e : Nat} {Wf : α → Prop} (q : Nat) (ht : Try.prog.underlying t = some (.slice e)) (hc : Try.prog.cellsOf e = dd.sz) (he : Opens dd e Wf) : Opens (Kd.slice q dd) t (fun l => ∀ y ∈ l, Wf y) := fun _ _ _ _ _ _ h => by
  obtain ⟨l, A, c, h1, h2, h3, h4⟩ := opens_row ht hc he h
  exact ⟨l, ⟨A, c, h1, h2, h3⟩, h4⟩
/-- A struct all of whose fields are one cell each. -/
theorem struct_cells {H : Type} {enc : TypeId × Value → H} {w : World} {fuel t : Nat} {cs : List Value} {x : DataW H × List MemPlace} {fs : Array Field} (ht : Try.prog.underlying t = some (.struct fs)) (hsz : Try.prog.cellsOf t = fs.size) (hone : ∀ (i : Nat) (f : Field), fs[i]? = some f → f.offset = i ∧ Try.prog.cellsOf f.type = 1)
    (h : DataW.trod enc Try.prog w 0 (fun _ => true) true fuel t cs = some x) : cs.length = fs.size ∧ ∃ n, ∀ (i : Nat) (f : Field) (u : Value), fs[i]? = some f → cs[i]? = some u → ∃ y, DataW.trod enc Try.prog w 0 (fun _ => true) true n f.type [u] = some y := by
  obtain ⟨xs, n, _, _, hl, hx, hf⟩ := DataW.trod_struct ht h
  refine ⟨by rw [hl, hsz], n, fun i f u hfi hu => ?_⟩
  have h1 := hf i f hfi
  obtain ⟨h2, h3⟩ := hone i f hfi
  rw [h2, h3] at h1
  have hi : i < cs.length := (List.getElem?_eq_some_iff.1 hu).1
  have e : (cs.drop i).take 1 = [u] := by
    rw [List.drop_eq_getElem_cons hi]
    simp [(List.getElem?_eq_some_iff.1 hu).2]
  rw [e] at h1
  have hfs : i < fs.size := (Array.getElem?_eq_some_iff.1 hfi).1
  exact ⟨xs[i]'(by omega), by rw [h1]; exact List.getElem?_eq_getElem _⟩
instance : Inhabited Cf := ⟨⟨0, false⟩⟩
instance : Inhabited SOp := ⟨⟨0, ⟨#[]⟩, ⟨#[]⟩, [], 0, []⟩⟩
theorem opens_cf : Opens kC 60 (fun x => (Lit.int .i64 x.f0).wf = true) := fun _ _ _ _ cs _ h => by
  obtain ⟨hl, n, hf⟩ := struct_cells Try.underlying60 (by kernel_rfl) (by
    intro i f hf
    have hi := (Array.getElem?_eq_some_iff.1 hf).1
    match i, hi with
    | 0, _ => cases hf; exact ⟨rfl, by kernel_rfl⟩
    | 1, _ => cases hf; exact ⟨rfl, by kernel_rfl⟩) h
  match cs, hl with
  | [u0, u1], _ =>
    obtain ⟨y0, h0⟩ := hf 0 _ u0 rfl rfl
    obtain ⟨y1, h1⟩ := hf 1 _ u1 rfl rfl
    obtain ⟨a0, k0, w0⟩ := opens_int Try.underlying3 _ _ _ _ _ _ h0
    obtain ⟨a1, k1, _⟩ := opens_bool Try.underlying4 _ _ _ _ _ _ h1
    cases k0
    cases k1
    exact ⟨⟨a0, a1⟩, k60_mk _ ⟨a0, a1⟩, w0⟩
def WfOp6 (x : SOp) : Prop := (Lit.int .i64 x.f0).wf = true ∧ (∀ y ∈ x.f3, (Lit.int .u8 y).wf = true) ∧ (Lit.int .i64 x.f4).wf = true
theorem opens_op : Opens kOp 47 WfOp6 := fun _ _ _ _ cs _ h => by
  obtain ⟨hl, n, hf⟩ := struct_cells Try.underlying47 (by kernel_rfl) (by
    intro i f hf
    have hi := (Array.getElem?_eq_some_iff.1 hf).1
    match i, hi with
    | 0, _ => cases hf; exact ⟨rfl, by kernel_rfl⟩
    | 1, _ => cases hf; exact ⟨rfl, by kernel_rfl⟩
    | 2, _ => cases hf; exact ⟨rfl, by kernel_rfl⟩
    | 3, _ => cases hf; exact ⟨rfl, by kernel_rfl⟩
    | 4, _ => cases hf; exact ⟨rfl, by kernel_rfl⟩
    | 5, _ => cases hf; exact ⟨rfl, by kernel_rfl⟩) h
  match cs, hl with
  | [u0, u1, u2, u3, u4, u5], _ =>
    obtain ⟨y0, h0⟩ := hf 0 _ u0 rfl rfl
    obtain ⟨y1, h1⟩ := hf 1 _ u1 rfl rfl
    obtain ⟨y2, h2⟩ := hf 2 _ u2 rfl rfl
    obtain ⟨y3, h3⟩ := hf 3 _ u3 rfl rfl
    obtain ⟨y4, h4⟩ := hf 4 _ u4 rfl rfl
    obtain ⟨y5, h5⟩ := hf 5 _ u5 rfl rfl
    obtain ⟨a0, k0, w0⟩ := opens_int Try.underlying3 _ _ _ _ _ _ h0
    obtain ⟨a1, k1, _⟩ := opens_string Try.underlying9 _ _ _ _ _ _ h1
    obtain ⟨a2, k2, _⟩ := opens_string Try.underlying9 _ _ _ _ _ _ h2
    obtain ⟨a3, A3, c3, k3, l3, C3, w3⟩ := opens_row (dd := Kd.int .u8) Try.underlying41 (by kernel_rfl) (opens_int Try.underlying5) h3
    obtain ⟨a4, k4, w4⟩ := opens_int Try.underlying3 _ _ _ _ _ _ h4
    obtain ⟨a5, A5, c5, k5, l5, C5, _⟩ := opens_row (dd := kC) Try.underlying35 (by kernel_rfl) opens_cf h5
    cases k0
    cases k1
    cases k2
    cases k3
    cases k4
    cases k5
    exact ⟨⟨a0, a1, a2, a3, a4, a5⟩, k47_mk _ ⟨a0, a1, a2, a3, a4, a5⟩ l3 C3 l5 C5, w0, w3, w4⟩
theorem wf_of6 {x : SOp} (h : WfOp6 x) : WfOp x := ⟨fun y hy => bounds_u8 (h.2.1 y hy), (bounds_i64 h.2.2).2⟩
/-- A row of operations that came in. -/
theorem ops_row {H : Type} {enc : TypeId × Value → H} {W : World} {a : Option Addr} {len cap : Nat} {d : DataW H} {ps : List MemPlace} (h : DataW.Trod enc Try.prog W 0 (fun _ => true) true 22 (.slice a len cap) d ps) : ∃ l : List SOp, len = l.length ∧ l.length ≤ cap ∧ Kd.C kOp W a l.length l ∧ ∀ x ∈ l, WfOp x := by
  obtain ⟨fuel, hf⟩ := h
  obtain ⟨l, A, c, he, hl, hC, hw⟩ := opens_row (dd := kOp) Try.underlying22 (by kernel_rfl) opens_op hf
  simp [Value.cells] at he
  obtain ⟨rfl, rfl, rfl⟩ := he
  exact ⟨l, rfl, hl, hC, fun x hx => wf_of6 (hw x hx)⟩
theorem cfs_row {H : Type} {enc : TypeId × Value → H} {W : World} {a : Option Addr} {len cap : Nat} {d : DataW H} {ps : List MemPlace} (h : DataW.Trod enc Try.prog W 0 (fun _ => true) true 35 (.slice a len cap) d ps) : ∃ l : List Cf, len = l.length ∧ l.length ≤ cap ∧ Kd.C kC W a l.length l := by
  obtain ⟨fuel, hf⟩ := h
  obtain ⟨l, A, c, he, hl, hC, _⟩ := opens_row (dd := kC) Try.underlying35 (by kernel_rfl) opens_cf hf
  simp [Value.cells] at he
  obtain ⟨rfl, rfl, rfl⟩ := he
  exact ⟨l, rfl, hl, hC⟩
theorem bytes_row {H : Type} {enc : TypeId × Value → H} {W : World} {a : Option Addr} {len cap : Nat} {d : DataW H} {ps : List MemPlace} (h : DataW.Trod enc Try.prog W 0 (fun _ => true) true 41 (.slice a len cap) d ps) : ∃ l : List Int, len = l.length ∧ l.length ≤ cap ∧ Kd.C kB W a l.length l ∧ ∀ y ∈ l, 0 ≤ y ∧ y ≤ 255 := by
  obtain ⟨fuel, hf⟩ := h
  obtain ⟨l, A, c, he, hl, hC, hw⟩ := opens_row (dd := kB) Try.underlying41 (by kernel_rfl) (opens_int Try.underlying5) hf
  simp [Value.cells] at he
  obtain ⟨rfl, rfl, rfl⟩ := he
  exact ⟨l, rfl, hl, hC, fun y hy => bounds_u8 (hw y hy)⟩
theorem okWide_array {P : Program} {w : World} {r : Reach} {base : Nat} {t n e : Nat} {v : Value} (ht : P.underlying t = some (.array n e)) (h : Value.okWide P w r base t v) : ∃ cs, v = .agg cs ∧ cs.size = P.cellsOf t := by
  unfold Value.okWide at h
  rw [ht] at h
  obtain ⟨cs, h1, h2, _⟩ := h
  exact ⟨cs, h1, h2⟩
set_option maxRecDepth 100000 in
/-- An array of two ints, by value. -/
theorem arr2_row {H : Type} {enc : TypeId × Value → H} {W : World} {base : Nat} {v : Value} {d : DataW H} {ps : List MemPlace} (hv : Value.okWide Try.prog W .any base 34 v) (h : DataW.Trod enc Try.prog W 0 (fun _ => true) true 34 v d ps) : ∃ n m, v = .agg #[.int .i64 n, .int .i64 m] := by
  obtain ⟨cs, rfl, hsz⟩ := okWide_array Try.underlying34 hv
  rw [show Try.prog.cellsOf 34 = 2 by kernel_rfl] at hsz
  obtain ⟨fuel, hf⟩ := h
  obtain ⟨xs, m, _, _, hl, hx, hat⟩ := DataW.trod_array Try.underlying34 hf
  rw [show Try.prog.cellsOf 3 = 1 by kernel_rfl] at hat
  have h0 := hat 0 (by decide)
  have h1 := hat 1 (by decide)
  rw [List.getElem?_eq_getElem (by omega)] at h0 h1
  obtain ⟨cs⟩ := cs
  match cs, hsz with
  | [u0, u1], _ =>
    obtain ⟨n, k0, _⟩ := opens_int Try.underlying3 _ _ _ _ _ _ h0
    obtain ⟨n', k1, _⟩ := opens_int Try.underlying3 _ _ _ _ _ _ h1
    have e0 : u0 = .int .i64 n := by
      have : [u0] = [Value.int .i64 n] := k0
      simpa using this
    have e1 : u1 = .int .i64 n' := by
      have : [u1] = [Value.int .i64 n'] := k1
      simpa using this
    exact ⟨n, n', by rw [e0, e1]⟩
set_option maxRecDepth 100000 in
/-- An operation, by value. -/
theorem op_arg {H : Type} {enc : TypeId × Value → H} {W : World} {base : Nat} {v : Value} {d : DataW H} {ps : List MemPlace} (hv : Value.okWide Try.prog W .any base 47 v) (h : DataW.Trod enc Try.prog W 0 (fun _ => true) true 47 v d ps) :
    ∃ (x : SOp) (A3 : Option Addr) (c3 : Nat) (A5 : Option Addr) (c5 : Nat), v = .agg #[.int .i64 x.f0, .string x.f1, .string x.f2, .slice A3 x.f3.length c3, .int .i64 x.f4, .slice A5 x.f5.length c5] ∧ x.f3.length ≤ c3 ∧ Kd.C kB W A3 x.f3.length x.f3 ∧ x.f5.length ≤ c5 ∧ Kd.C kC W A5 x.f5.length x.f5 ∧ WfOp x := by
  obtain ⟨cs, rfl, _⟩ := okWide_struct Try.underlying47 hv
  obtain ⟨fuel, hf⟩ := h
  obtain ⟨x, hK, hw⟩ := opens_op _ _ _ _ _ _ hf
  obtain ⟨A3, c3, A5, c5, e, l3, g3, l5, g5⟩ := k47_open hK
  refine ⟨x, A3, c3, A5, c5, ?_, l3, g3, l5, g5, wf_of6 hw⟩
  have e' : cs.toList = [.int .i64 x.f0, .string x.f1, .string x.f2, .slice A3 x.f3.length c3, .int .i64 x.f4, .slice A5 x.f5.length c5] := e
  obtain ⟨cs⟩ := cs
  have e2 : cs = _ := e'
  rw [e2]
end Go.Proofs.Ytpffeafoangegaa.Disk
