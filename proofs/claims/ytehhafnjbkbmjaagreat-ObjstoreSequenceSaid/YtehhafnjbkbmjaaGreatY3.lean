/- Checksums, the table, CRC, Seal, Open. -/
import Derived.Test.YtehhafnjbkbmjaaGreatY2
import Derived.Deep.WholeRow
import Derived.Laws.BitsAllLaws
/- The checksum's table. -/
namespace Go.Proofs.YtehhafnjbkbmjaaGreat.Disk
open Go Go.RowKit Go.Proofs.YtehhafnjbkbmjaaGreatW.PrintWords Go.Proofs.YtehhafnjbkbmjaaGreatW.PrintLast Go.Proofs.YtehhafnjbkbmjaaGreatW.PrintMore Go.Proofs.YtehhafnjbkbmjaaGreat.PCommitlogSequence
/-- One bit of the checksum's division. -/
def crcBit (r : Nat) : Nat := if r % 2 = 1 then (r / 2) ^^^ 2197175160 else r / 2
def crcBits (r : Nat) : Nat → Nat
  | 0 => r
  | k + 1 => crcBit (crcBits r k)
def tabN (i : Nat) : Nat := crcBits i 8
theorem crcBit_lt {r : Nat} (h : r < 4294967296) : crcBit r < 4294967296 := by
  unfold crcBit
  split
  · exact Nat.xor_lt_two_pow (n := 32) (by omega) (by omega)
  · omega
theorem crcBits_lt {r : Nat} (h : r < 4294967296) : ∀ k, crcBits r k < 4294967296
  | 0 => h
  | k + 1 => crcBit_lt (crcBits_lt h k)
theorem tabN_lt {i : Nat} (h : i < 256) : tabN i < 4294967296 := crcBits_lt (by omega) 8
/-- The table with its first i rows reckoned. -/
def tabRow (i : Nat) : Array Value := ((List.range 256).map fun j => (Value.int .u32 (if j < i then (tabN j : Int) else 0))).toArray
abbrev tTab : Nat := 158
theorem tabRow_size (i : Nat) : (tabRow i).size = 256 := by simp [tabRow]
theorem tabRow_at (i j : Nat) (h : j < 256) : (tabRow i)[j]? = some (.int .u32 (if j < i then (tabN j : Int) else 0)) := by
  simp [tabRow, h]
theorem tabRow_set (i : Nat) (h : i < 256) : (tabRow i).setIfInBounds i (.int .u32 (tabN i)) = tabRow (i + 1) := by
  apply Array.ext_getElem?
  intro j
  rw [Array.getElem?_setIfInBounds]
  by_cases hj : j < 256
  · rw [tabRow_at (i + 1) j hj]
    by_cases e : i = j
    · subst e
      simp [tabRow_size, h]
    · rw [if_neg e, tabRow_at i j hj]
      have : (j < i) = (j < i + 1) := by
        apply propext
        omega
      simp only [this]
  · have h1 : i ≠ j := by omega
    rw [if_neg h1]
    simp [tabRow, hj]
theorem tabRow_zero : tabRow 0 = Array.replicate 256 (.int .u32 0) := by
  apply Array.ext_getElem?
  intro j
  by_cases hj : j < 256
  · rw [tabRow_at 0 j hj]
    simp [hj]
  · simp [tabRow, hj]
theorem infoTab : (Tryz.prog.info? tTab).map (fun i => (i.zero, i.size)) = some (some (.agg (Array.replicate 256 (.int .u32 0))), 256) := by kernel_rfl
theorem tab_cell (w : World) (i j : Nat) (h : j < 256) : (w.alloc (.cells (tabRow i) tTab)).cell? ⟨w.heap.size, j, none⟩ = some (.int .u32 (if j < i then (tabN j : Int) else 0)) := by
  rw [cell_blk (heap_alloc_new w _) j, tabRow_at i j h]
theorem tab_set (w : World) (i : Nat) (h : i < 256) : (w.alloc (.cells (tabRow i) tTab)).setCell ⟨w.heap.size, i, none⟩ (.int .u32 (tabN i)) = w.alloc (.cells (tabRow (i + 1)) tTab) := by
  simp only [World.setCell, World.alloc]
  congr 1
  apply Array.ext_getElem?
  intro k
  rw [Array.getElem?_modify]
  by_cases hk : w.heap.size = k
  · subst hk
    simp [tabRow_set i h]
  · have h' : ¬ k = w.heap.size := fun e => hk e.symm
    simp [hk, h', Array.getElem?_push]
theorem Below.of_alloc' (w : World) (o : Obj) : Below w.heap.size w (w.alloc o) := ((Fr.refl (fun _ => False) w).alloc o).toBelow (Nat.le_refl _) (fun _ h => h.elim)
theorem row_set {w : World} {b : Nat} {c : Array Value} {t : Nat} (h : w.heap[b]? = some (.cells c t (0, 0))) (c' : Array Value) : (w.setRow b c').heap[b]? = some (.cells c' t (0, 0)) := by
  simp [World.setRow, Array.getElem?_modify, h]
theorem below_setRow {w w' : World} {B b : Nat} (h : Below B w w') (hb : B ≤ b) (c : Array Value) : Below B w (w'.setRow b c) :=
  ⟨h.os, h.tape, h.output, by simpa [World.setRow] using h.size, fun k hk => by
    have : ¬ b = k := by omega
    rw [show (w'.setRow b c).heap[k]? = w'.heap[k]? by simp [World.setRow, Array.getElem?_modify, this]]
    exact h.block k hk⟩
def RemRel (w1 : World) (i : Value) (wr : World) : Prop := ∃ k : Nat, k ≤ 256 ∧ i = .int .i64 k ∧ wr = w1.alloc (.cells (tabRow k) tTab)
def BitRel (w : World) (i : Nat) (k r : Value) (wx : World) : Prop := ∃ m : Nat, m ≤ 8 ∧ k = .int .i64 m ∧ r = .int .u32 (crcBits i m) ∧ w = wx
set_option maxHeartbeats 1000000 in
set_option maxRecDepth 100000 in
theorem remainders_calls (w : World) : Calls Tryz.prog 121 #[] w fun e w' => e = .returned (.agg (tabRow 256)) ∧ Below w.heap.size w w' := by
  obtain ⟨hz, hs⟩ := zero_of_info infoTab
  rw [← tabRow_zero] at hz
  go_enter Tryz.func121, Tryz.ntmps121
  go_upto_region 2 with (fail)
  obtain ⟨w1, hw1⟩ : ∃ w1, w1 = w.alloc (.cells (tabRow 0) tTab) := ⟨_, rfl⟩
  have hsz : w.heap.size + 1 = w1.heap.size := by rw [hw1]; simp
  rw [← hw1, hsz]
  have HB1 := Lib.hid (show Below w.heap.size w w1 by rw [hw1]; exact Below.of_alloc' w _)
  have HW1 := Lib.hid hw1
  have HSZ := Lib.hid hsz
  have HZS := Lib.hid hs
  clear hw1 hsz hz hs
  go_wp2
  go_loopw [4] (fun i wr => RemRel w1 i wr) (fun i _ => 256 - (intOf i).toNat)
  case atStart => exact ⟨0, by omega, rfl, rfl⟩
  case round =>
    obtain ⟨i, hi, rfl, rfl⟩ := hrel
    by_cases hlt : i < 256
    · obtain ⟨wq, hwq⟩ : ∃ wq, wq = w1.alloc (.cells (tabRow i) tTab) := ⟨_, rfl⟩
      rw [← hwq]
      have HWQ := Lib.hid hwq
      clear hwq
      go_upto_region 6 with (fail)
      go_wp2
      go_loopw [9, 3] (fun k r wx => BitRel wq i k r wx) (fun k _ _ => 8 - (intOf k).toNat)
      case atStart => exact ⟨0, by omega, rfl, rfl, rfl⟩
      case round =>
        obtain ⟨m, hm, rfl, rfl, rfl⟩ := hrel
        by_cases hm8 : m < 8
        · obtain ⟨r0, hr0⟩ : ∃ r0, r0 = crcBits i m := ⟨_, rfl⟩
          have hr32 : r0 < 4294967296 := by rw [hr0]; exact crcBits_lt (by omega) m
          have HR0 := Lib.hid (show crcBits i (m + 1) = crcBit r0 by rw [hr0]; rfl)
          rw [← hr0]
          have ha : bits .and .u32 (r0 : Int) 1 = ((r0 % 2 : Nat) : Int) := by
            have := u32_and_nat r0 1 hr32 (by omega)
            rw [nat_mask1] at this
            exact this
          clear hr0
          by_cases hodd : r0 % 2 = 1
          · rw [hodd] at ha
            have hx : bits .xor .u32 ((r0 : Int) / 2) 2197175160 = (crcBit r0 : Int) := by
              have := u32_xor_nat (r0 / 2) 2197175160 (by omega) (by omega)
              unfold crcBit
              rw [if_pos hodd, ← this]
              congr 1
            obtain ⟨r1, hr1⟩ : ∃ r1, r1 = crcBit r0 := ⟨_, rfl⟩
            rw [← hr1] at hx
            have HR1 := Lib.hid hr1
            obtain ⟨pl, hpl⟩ : ∃ pl : Int, pl = 2197175160 := ⟨_, rfl⟩
            rw [← hpl] at hx ⊢
            have ha' : bits .and .u32 (r0 : Int) 1 = 1 := ha
            clear hr1 hodd ha hpl
            go_wp2_with fail
            go_roundw
            case rel => exact ⟨m + 1, by omega, by go_num, by rw [HR0.out, ← HR1.out], rfl⟩
            case measure => simp [intOf]; omega
          · have h0 : r0 % 2 = 0 := by omega
            rw [h0] at ha
            have hx : (r0 : Int) / 2 = (crcBit r0 : Int) := by
              unfold crcBit
              rw [if_neg hodd]
              omega
            have HX := Lib.hid hx
            clear hx h0
            go_wp2_with fail
            go_roundw
            case rel => exact ⟨m + 1, by omega, by go_num, by rw [HR0.out, ← HX.out], rfl⟩
            case measure => simp [intOf]; omega
        · obtain rfl : m = 8 := by omega
          have hcell : wq.cell? ⟨w1.heap.size, i, none⟩ = some (.int .u32 0) := by rw [HWQ.out, tab_cell w1 i i (by omega), if_neg (by omega)]
          have hfz : wq.frozen? ⟨w1.heap.size, i, none⟩ = false := by rw [HWQ.out]; exact frozen_blk (heap_alloc_new w1 _) i
          have hset : wq.setCell ⟨w1.heap.size, i, none⟩ (.int .u32 (crcBits i 8)) = w1.alloc (.cells (tabRow (i + 1)) tTab) := by rw [HWQ.out]; exact tab_set w1 i (by omega)
          have HSET := Lib.hid hset
          clear hset
          go_wp2_with fail
          go_roundw
          case rel => exact ⟨i + 1, by omega, by go_num, HSET.out⟩
          case measure => simp [intOf]; omega
    · obtain rfl : i = 256 := by omega
      have hsize : (Tryz.prog.info? tTab).map (·.size) = some (tabRow 256).size := by rw [tabRow_size]; exact HZS.out
      have hl : (Instr.loadAt tTab (.pointer (some ⟨w1.heap.size, 0, none⟩))).run Tryz.prog (w1.alloc (.cells (tabRow 256) tTab)) = .ok (.agg (tabRow 256)) (w1.alloc (.cells (tabRow 256) tTab)) := run_loadAt_new w1 tTab (tabRow 256) 256 139 Tryz.underlying158 hsize
      have hW0 : (w1.alloc (.cells (tabRow 256) tTab)).heap[w.heap.size]? = some (.cells (tabRow 0) tTab (0, 0)) := (Below.heap_alloc _ _ _ (by have := HSZ.out; omega)).trans (by rw [HW1.out]; exact heap_alloc_new w _)
      have hst : (storeCells ⟨w.heap.size, 0, none⟩ (tabRow 256).toList).run Tryz.prog (w1.alloc (.cells (tabRow 256) tTab)) = .ok () ((w1.alloc (.cells (tabRow 256) tTab)).setRow w.heap.size (tabRow 256)) := by
        have := run_storeCells_from (P := Tryz.prog) w.heap.size tTab (tabRow 256).toList 0 (tabRow 0) _ hW0 (by simp [tabRow_size]) (by simp [tabRow, Value.oneCell'])
        simpa using this
      have hb : Below w.heap.size w (w1.alloc (.cells (tabRow 256) tTab)) := HB1.out.trans ((Below.of_alloc' w1 _).mono HB1.out.size)
      obtain ⟨wq, hwq⟩ : ∃ wq, wq = w1.alloc (.cells (tabRow 256) tTab) := ⟨_, rfl⟩
      rw [← hwq] at hl hst hW0 hb ⊢
      have HSIZE := Lib.hid hsize
      clear hsize hwq
      go_wp2
      rename_i hk
      unfold Oper.wp
      simp [execOp, Result.andThen, Act.eval, hl]
      refine hk _ _ ?_
      clear hk hl
      go_wp2
      refine bodyPost_ret (results_cell_row rfl _ _ w.heap.size tTab (tabRow 256) (0, 0) _ rfl (row_set hW0 _) Tryz.underlying158 rfl HSIZE.out) rfl ⟨rfl, below_setRow hb (Nat.le_refl _) _⟩
end Go.Proofs.YtehhafnjbkbmjaaGreat.Disk

/- The checksum of bytes. -/
namespace Go.Proofs.YtehhafnjbkbmjaaGreat.Disk
open Go Go.RowKit Go.Proofs.YtehhafnjbkbmjaaGreatW.PrintWords Go.Proofs.YtehhafnjbkbmjaaGreatW.PrintLast Go.Proofs.YtehhafnjbkbmjaaGreatW.PrintMore Go.Proofs.YtehhafnjbkbmjaaGreat.PCommitlogSequence
abbrev kB : Kd Int := Kd.int .u8
/-- The register behind one byte, and behind bytes. -/
def adv1 (r : Nat) (x : Int) : Nat := (r / 256) ^^^ tabN ((r % 256) ^^^ x.toNat)
def adv (r : Nat) (l : List Int) : Nat := l.foldl adv1 r
theorem byte_xor_lt {a b : Nat} (ha : a < 256) (hb : b < 256) : a ^^^ b < 256 := Nat.xor_lt_two_pow (n := 8) (by omega) (by omega)
theorem adv1_lt {r : Nat} {x : Int} (h : r < 4294967296) (h0 : 0 ≤ x) (h1 : x ≤ 255) : adv1 r x < 4294967296 :=
  Nat.xor_lt_two_pow (n := 32) (by omega) (tabN_lt (byte_xor_lt (by omega) (by omega)))
theorem adv_lt {r : Nat} {l : List Int} (h : r < 4294967296) (hw : ∀ x ∈ l, 0 ≤ x ∧ x ≤ 255) : adv r l < 4294967296 := by
  induction l generalizing r with
  | nil => exact h
  | cons x l ih =>
    have hx := hw x (by simp)
    exact ih (adv1_lt h hx.1 hx.2) (fun y hy => hw y (by simp [hy]))
theorem adv_take {r : Nat} {l : List Int} (j : Nat) (hj : j < l.length) : adv r (l.take (j + 1)) = adv1 (adv r (l.take j)) l[j] := by
  unfold adv
  rw [List.take_succ_eq_append_getElem hj, List.foldl_append]
  rfl
theorem byte_cell {w : World} {A : Option Addr} {l : List Int} (h : Kd.C kB w A l.length l) (j : Nat) (hj : j < l.length) : ∃ ad, A = some ad ∧ w.cell? (ad.add j) = some (.int .u8 l[j]) := by
  obtain ⟨ad, e, hc⟩ := Kd.at_int h (j : Int) (by omega) (by omega)
  refine ⟨ad, e, ?_⟩
  have : rd l (j : Int) = l[j] := by simp [rd, List.getD, hj]
  rw [← this]
  simpa using hc
def AdvRel (w : World) (r : Nat) (l : List Int) (i v : Value) (wx : World) : Prop := ∃ j : Nat, j ≤ l.length ∧ i = .int .i64 j ∧ v = .int .u32 (adv r (l.take j)) ∧ w = wx
set_option maxHeartbeats 1000000 in
set_option maxRecDepth 100000 in
theorem advance_calls (w : World) (b : Nat) (hb : w.heap[b]? = some (.cells (tabRow 256) tTab (0, 0))) (r : Nat) (hr : r < 4294967296) (A : Option Addr) (c : Nat) (l : List Int) (h : Kd.C kB w A l.length l) (hl : l.length ≤ 1099511627776) (hw : ∀ x ∈ l, 0 ≤ x ∧ x ≤ 255) :
    Calls Tryz.prog 122 #[.pointer (some ⟨b, 0, none⟩), .int .u32 r, .slice A l.length c] w fun e w' => e = .returned (.int .u32 (adv r l)) ∧ w = w' := by
  have H := Lib.hid h
  have HB := Lib.hid hb
  have HW := Lib.hid hw
  have HR := Lib.hid hr
  clear h hb hw hr
  go_enter Tryz.func122, Tryz.ntmps122
  go_wp2
  go_loopw [11, 1] (fun i v wx => AdvRel w r l i v wx) (fun i _ _ => l.length - (intOf i).toNat)
  case atStart => exact ⟨0, Nat.zero_le _, rfl, rfl, rfl⟩
  case round =>
    obtain ⟨j, hj, rfl, rfl, rfl⟩ := hrel
    by_cases hlt : j < l.length
    · obtain ⟨ad, hA, q0⟩ := byte_cell H.out j hlt
      subst hA
      have hx := HW.out _ (List.getElem_mem hlt)
      have HN := Lib.hid (adv_take (r := r) j hlt)
      obtain ⟨r0, hr0⟩ : ∃ r0, r0 = adv r (l.take j) := ⟨_, rfl⟩
      have hr32 : r0 < 4294967296 := by rw [hr0]; exact adv_lt HR.out (fun x hx => HW.out x (List.mem_of_mem_take hx))
      obtain ⟨x, hxe⟩ : ∃ x : Nat, l[j] = (x : Int) := ⟨l[j].toNat, by omega⟩
      rw [hxe] at q0 hx HN
      rw [← hr0] at HN ⊢
      have hi : bits .xor .u8 ((r0 : Int) % 256) (x : Int) = (((r0 % 256) ^^^ x : Nat) : Int) := by
        have := u8_xor_nat (r0 % 256) x (by omega) (by omega)
        rw [← this]
        congr 1
      obtain ⟨k, hk⟩ : ∃ k, k = (r0 % 256) ^^^ x := ⟨_, rfl⟩
      have hk256 : k < 256 := by rw [hk]; exact byte_xor_lt (by omega) (by omega)
      rw [← hk] at hi
      have ht : w.cell? ⟨b, k, none⟩ = some (.int .u32 (tabN k)) := by
        rw [cell_blk HB.out k, tabRow_at 256 k hk256, if_pos hk256]
      have htl := tabN_lt hk256
      have hN1 : adv1 r0 (x : Int) = (r0 / 256) ^^^ tabN k := by
        unfold adv1
        rw [hk]
        rfl
      obtain ⟨t, hte⟩ : ∃ t, t = tabN k := ⟨_, rfl⟩
      rw [← hte] at ht htl hN1
      have ho : bits .xor .u32 ((r0 : Int) / 256) (t : Int) = (((r0 / 256) ^^^ t : Nat) : Int) := by
        have := u32_xor_nat (r0 / 256) t (by omega) htl
        rw [← this]
        congr 1
      rw [← hN1] at ho
      obtain ⟨r1, hr1⟩ : ∃ r1, r1 = adv1 r0 (x : Int) := ⟨_, rfl⟩
      rw [← hr1] at HN ho
      have hk0 : (0 : Int) ≤ (k : Int) := by omega
      have hk1 : (k : Int) < 256 := by omega
      clear hk hte hN1 hr1 hr0 hxe htl
      go_wp2
      go_roundw
      case rel => exact ⟨j + 1, by omega, by go_num, by rw [HN.out], rfl⟩
      case measure => simp [intOf]; omega
    · obtain rfl : j = l.length := by omega
      go_wp2
      go_ret
      exact ⟨by first | rfl | simp, rfl⟩
end Go.Proofs.YtehhafnjbkbmjaaGreat.Disk

/- The checksum of one slice. -/
namespace Go.Proofs.YtehhafnjbkbmjaaGreat.Disk
open Go Go.RowKit Go.Proofs.YtehhafnjbkbmjaaGreatW.PrintWords Go.Proofs.YtehhafnjbkbmjaaGreatW.PrintLast Go.Proofs.YtehhafnjbkbmjaaGreatW.PrintMore Go.Proofs.YtehhafnjbkbmjaaGreat.PCommitlogSequence
/-- CRC-32C. -/
def crcF (l : List Int) : Nat := 4294967295 ^^^ adv 4294967295 l
theorem crcF_lt {l : List Int} (hw : ∀ x ∈ l, 0 ≤ x ∧ x ≤ 255) : crcF l < 4294967296 := Nat.xor_lt_two_pow (n := 32) (by omega) (adv_lt (by omega) hw)
def CrcRel (w : World) (l : List Int) (i v : Value) (wx : World) : Prop := ((i = .int .i64 0 ∧ v = .int .u32 4294967295) ∨ (i = .int .i64 1 ∧ v = .int .u32 (adv 4294967295 l))) ∧ w = wx
set_option maxHeartbeats 1000000 in
set_option maxRecDepth 100000 in
theorem CRC_calls (w : World) (g cap : Nat) (A : Option Addr) (c : Nat) (l : List Int) (hg : w.cell? ⟨g, 0, none⟩ = some (.slice A l.length c)) (h : Kd.C kB w A l.length l) (hl : l.length ≤ 1099511627776) (hw : ∀ x ∈ l, 0 ≤ x ∧ x ≤ 255) :
    Calls Tryz.prog 97 #[.slice (some ⟨g, 0, none⟩) 1 cap] w fun e w' => e = .returned (.int .u32 (crcF l)) ∧ Below w.heap.size w w' := by
  obtain ⟨hz, hs⟩ := zero_of_info infoTab
  rw [← tabRow_zero] at hz
  have H := Lib.hid h
  have HG := Lib.hid hg
  have HW := Lib.hid hw
  have HS := Lib.hid hs
  have HC := Lib.hid (adv_lt (r := 4294967295) (by omega) hw)
  clear h hg hw hs
  have hst : ∀ w2 : World, (storeCells ⟨w2.heap.size, 0, none⟩ (tabRow 256).toList).run Tryz.prog (w2.alloc (.cells (tabRow 0) tTab)) = .ok () (w2.alloc (.cells (tabRow 256) tTab)) := fun w2 =>
    run_storeCells_new (P := Tryz.prog) w2 tTab (tabRow 0) (tabRow 256) (by rw [tabRow_size]; exact HS.out) (by rw [tabRow_size, tabRow_size]) (by simp [tabRow, Value.oneCell'])
  go_enter Tryz.func97, Tryz.ntmps97
  go_upto_region 4 with (first | (go_at_call 121; refine (remainders_calls w).mono ?_; rintro e w1 ⟨rfl, hb⟩; have HB := Lib.hid hb; clear hb) | fail)
  have hb2 : Below w.heap.size w (w1.alloc (.cells (tabRow 256) tTab)) := HB.out.trans ((Below.of_alloc' w1 _).mono HB.out.size)
  have HT := Lib.hid (heap_alloc_new w1 (.cells (tabRow 256) tTab))
  have hsz : (w1.alloc (.cells (tabRow 256) tTab)).heap.size = w1.heap.size + 1 := by simp
  obtain ⟨w2, hw2⟩ : ∃ w2, w2 = w1.alloc (.cells (tabRow 256) tTab) := ⟨_, rfl⟩
  obtain ⟨b, hbb⟩ : ∃ b, b = w1.heap.size := ⟨_, rfl⟩
  rw [← hw2, ← hbb] at HT
  rw [← hw2] at hb2
  simp only [← hbb]
  rw [hbb, ← hw2, ← hbb]
  have HB2 := Lib.hid hb2
  have q0 := (hb2.cell (World.block_lt_of_cell? w _ HG.out)).trans HG.out
  clear hw2 hbb hsz hb2 hz hst
  go_loopw [10, 4] (fun i v wx => CrcRel w2 l i v wx) (fun i _ _ => 1 - (intOf i).toNat)
  case atStart => exact ⟨.inl ⟨rfl, rfl⟩, rfl⟩
  case round =>
    obtain ⟨hrel, rfl⟩ := hrel
    rcases hrel with ⟨rfl, rfl⟩ | ⟨rfl, rfl⟩
    · go_wp2_with (first | (go_at_call 122; refine (advance_calls _ b HT.out 4294967295 (by omega) A c l (Kd.C_below H.out HB2.out) hl HW.out).mono ?_; rintro e w3 ⟨rfl, rfl⟩) | fail)
      go_roundw
      case rel => exact ⟨.inr ⟨rfl, rfl⟩, rfl⟩
      case measure => simp [intOf]
    · obtain ⟨r, hr⟩ : ∃ r, r = adv 4294967295 l := ⟨_, rfl⟩
      have HR := Lib.hid hr
      have hr32 : r < 4294967296 := by rw [hr]; exact HC.out
      rw [← hr]
      clear hr
      go_wp2_with fail
      go_ret
      have e : bits .xor .u32 IntKind.u32.max (r : Int) = (crcF l : Int) := by
        have := u32_xor_nat 4294967295 r (by omega) hr32
        unfold crcF
        rw [← HR.out, ← this]
        congr 1
      exact ⟨by rw [← e]; rfl, HB2.out⟩
end Go.Proofs.YtehhafnjbkbmjaaGreat.Disk

/- Four bytes of a number. -/
namespace Go.Proofs.YtehhafnjbkbmjaaGreat.Disk
open Go Go.RowKit Go.Proofs.YtehhafnjbkbmjaaGreatW.PrintWords Go.Proofs.YtehhafnjbkbmjaaGreatW.PrintLast Go.Proofs.YtehhafnjbkbmjaaGreatW.PrintMore Go.Proofs.YtehhafnjbkbmjaaGreat.PCommitlogSequence
theorem alloc_set (w : World) (c : Array Value) (t : Nat) (i : Nat) (v : Value) : (w.alloc (.cells c t)).setCell ⟨w.heap.size, i, none⟩ v = w.alloc (.cells (c.setIfInBounds i v) t) := by
  simp only [World.setCell, World.alloc]
  congr 1
  apply Array.ext_getElem?
  intro k
  rw [Array.getElem?_modify]
  by_cases hk : w.heap.size = k
  · subst hk
    simp
  · have h' : ¬ k = w.heap.size := fun e => hk e.symm
    simp [hk, h', Array.getElem?_push]
/-- The four bytes, the lowest first. -/
def le4 (n : Nat) : List Int := [((n % 256 : Nat) : Int), ((n / 256 % 256 : Nat) : Int), ((n / 65536 % 256 : Nat) : Int), ((n / 16777216 % 256 : Nat) : Int)]
def fxRow (n j : Nat) : Array Value := #[.int .u8 (if 0 < j then ((n % 256 : Nat) : Int) else 0), .int .u8 (if 1 < j then ((n / 256 % 256 : Nat) : Int) else 0), .int .u8 (if 2 < j then ((n / 65536 % 256 : Nat) : Int) else 0), .int .u8 (if 3 < j then ((n / 16777216 % 256 : Nat) : Int) else 0)]
def FixRel (w : World) (n : Nat) (i : Value) (wx : World) : Prop := ∃ j : Nat, j ≤ 4 ∧ i = .int .i64 j ∧ wx = w.alloc (.cells (fxRow n j) 5)
set_option maxHeartbeats 1000000 in
set_option maxRecDepth 100000 in
theorem Fixed_calls (w : World) (n : Nat) (hn : n < 18446744073709551616) :
    Calls Tryz.prog 96 #[.int .u64 n, .int .i64 4] w fun e w' => ∃ v, e = .returned v ∧ w'.ownsRow w.heap.size 5 1 v 4 (nums .u8 (le4 n)) ∧ Below w.heap.size w w' := by
  have hmk : ∀ w : World, (Instr.makeSlice 36 (.int .i64 4) (.int .i64 4)).run Tryz.prog w = .ok (.slice (some ⟨w.heap.size, 0, none⟩) 4 4) (w.alloc (.cells (fxRow n 0) 5)) := fun w => by
    obtain ⟨i0, hi, hz0, hz1, hz2⟩ := info_parts infoB
    have := run_makeSlice (P := Tryz.prog) (w := w) 36 5 i0 _ Tryz.underlying36 hi hz0 .i64 .i64 4 4 (by decide) (by decide) (by rw [hz1]; decide) (by rw [hz2]; decide) (by decide)
    rw [hz1] at this
    have e : madeCells (Value.int .u8 0).cells (Int.toNat 4 * 1) = fxRow n 0 := by
      apply Array.ext'
      simp [madeCells, fxRow]
      rfl
    rw [e] at this
    exact this
  have hn0 : (n : Int) < 18446744073709551616 := by omega
  go_enter Tryz.func96, Tryz.ntmps96
  go_wp2
  go_loopw [16] (fun i wx => FixRel w n i wx) (fun i _ => 4 - (intOf i).toNat)
  case atStart => exact ⟨0, by omega, rfl, rfl⟩
  case round =>
    obtain ⟨j, hj, rfl, rfl⟩ := hrel
    have hblk := heap_alloc_new w (.cells (fxRow n j) 5)
    by_cases hlt : j < 4
    · have c0 := cell_blk hblk j
      have f0 := frozen_blk hblk j
      have hset := fun v => alloc_set w (fxRow n j) 5 j v
      obtain ⟨wq, hwq⟩ : ∃ wq, wq = w.alloc (.cells (fxRow n j) 5) := ⟨_, rfl⟩
      rw [← hwq] at c0 f0 hset ⊢
      have HSET := Lib.hid hset
      clear hwq hset hblk
      obtain rfl | rfl | rfl | rfl : j = 0 ∨ j = 1 ∨ j = 2 ∨ j = 3 := by omega
      all_goals simp [fxRow] at c0
      all_goals
        go_wp2
        go_roundw
        case rel => first | exact ⟨1, by omega, rfl, by rw [HSET.out]; simp [fxRow]⟩ | exact ⟨2, by omega, rfl, by rw [HSET.out]; simp [fxRow]⟩ | exact ⟨3, by omega, rfl, by rw [HSET.out]; simp [fxRow]⟩ | exact ⟨4, by omega, rfl, by rw [HSET.out]; simp [fxRow]⟩
        case measure => simp [intOf]
    · obtain rfl : j = 4 := by omega
      go_wp2
      go_ret
      exact ⟨_, rfl, World.ownsRow_lit (base := w.heap.size) (e := 5) (size := 1) w (fxRow n 4) 4 (Nat.le_refl _) (by decide) rfl, Below.of_alloc' w _⟩
end Go.Proofs.YtehhafnjbkbmjaaGreat.Disk

/- Slices of bytes one behind the other; what Seal writes. -/
namespace Go.Proofs.YtehhafnjbkbmjaaGreat.Disk
open Go Go.RowKit Go.Proofs.YtehhafnjbkbmjaaGreatW.PrintWords Go.Proofs.YtehhafnjbkbmjaaGreatW.PrintLast Go.Proofs.YtehhafnjbkbmjaaGreatW.PrintMore Go.Proofs.YtehhafnjbkbmjaaGreat.PCommitlogSequence
/-- A slice of bytes: its address, its capacity, its bytes. -/
structure Piece where
  a : Option Addr
  c : Nat
  l : List Int
def partsOf (ps : List Piece) : List Int := ps.flatMap (·.l)
theorem partsOf_take {ps : List Piece} (j : Nat) (hj : j < ps.length) : partsOf (ps.take (j + 1)) = partsOf (ps.take j) ++ ps[j].l := by
  unfold partsOf
  rw [List.take_succ_eq_append_getElem hj, List.flatMap_append]
  simp
theorem partsOf_le (ps : List Piece) (j : Nat) : (partsOf (ps.take j)).length ≤ (partsOf ps).length := by
  have h : partsOf ps = partsOf (ps.take j) ++ partsOf (ps.drop j) := by
    unfold partsOf
    rw [← List.flatMap_append, List.take_append_drop]
  rw [h, List.length_append]
  omega
def ConcRel (w : World) (ps : List Piece) (i v : Value) (wx : World) : Prop := ∃ j : Nat, j ≤ ps.length ∧ i = .int .i64 j ∧ wx.ownsRow w.heap.size 5 1 v (partsOf (ps.take j)).length (nums .u8 (partsOf (ps.take j))) ∧ Below w.heap.size w wx
set_option maxHeartbeats 1000000 in
set_option maxRecDepth 100000 in
theorem Concat_calls (w : World) (g cap : Nat) (ps : List Piece) (hps : ∀ (j : Nat) (hj : j < ps.length), w.cell? ⟨g, j, none⟩ = some (.slice ps[j].a ps[j].l.length ps[j].c) ∧ Kd.C kB w ps[j].a ps[j].l.length ps[j].l) (hn : ps.length ≤ 1000) (hl : (partsOf ps).length ≤ 1099511627776) :
    Calls Tryz.prog 95 #[.slice (some ⟨g, 0, none⟩) ps.length cap] w fun e w' => ∃ v, e = .returned v ∧ w'.ownsRow w.heap.size 5 1 v (partsOf ps).length (nums .u8 (partsOf ps)) ∧ Below w.heap.size w w' := by
  have HPS := Lib.hid hps
  have HL := Lib.hid hl
  clear hps hl
  go_enter Tryz.func95, Tryz.ntmps95
  go_wp2
  go_loopw [8, 3] (fun i v wx => ConcRel w ps i v wx) (fun i _ _ => ps.length - (intOf i).toNat)
  case atStart => exact ⟨0, Nat.zero_le _, rfl, World.ownsRow_nil _ _ _ _, Below.refl _ _⟩
  case round =>
    obtain ⟨j, hj, rfl, ho, hb⟩ := hrel
    have HO := Lib.hid ho
    have HB := Lib.hid hb
    clear ho hb
    by_cases hlt : j < ps.length
    · obtain ⟨q, hC⟩ := HPS.out j hlt
      have q0 := (HB.out.cell (World.block_lt_of_cell? w _ q)).trans q
      have HC := Lib.hid (Kd.C_below hC HB.out)
      have HT := Lib.hid (partsOf_take (ps := ps) j hlt)
      have hlen := partsOf_le ps (j + 1)
      rw [HT.out, List.length_append] at hlen
      have HLEN := Lib.hid hlen
      obtain ⟨p, hp⟩ : ∃ p, p = ps[j] := ⟨_, rfl⟩
      rw [← hp] at q0 HC HT HLEN
      obtain ⟨xs, hxs⟩ : ∃ xs, xs = partsOf (ps.take j) := ⟨_, rfl⟩
      rw [← hxs] at HO HT HLEN
      clear q hC hp hxs hlen
      go_wp2_with (first | (at_builtin; refine print_append_row (w0 := w) w.heap.size rfl _ _ 36 5 .u8 1 rfl Tryz.underlying36 infoB (by decide) _ xs p.l p.a p.l.length p.c rfl rfl HO.out (reads_of_C HC.out) HB.out HB.out.size (by have := HLEN.out; have := HL.out; omega) ?_; intro v1 w2 ho2 hb2 hg2 hat2; have HO2 := Lib.hid ho2; have HB2 := Lib.hid hb2; clear ho2 hb2 hg2 hat2) | fail)
      go_roundw
      case rel => exact ⟨j + 1, by omega, by go_num, by rw [HT.out]; exact HO2.out, HB2.out⟩
      case measure => simp [intOf]; omega
    · obtain rfl : j = ps.length := by omega
      go_wp2_with fail
      go_ret
      have h := HO.out
      rw [List.take_length] at h
      exact ⟨_, rfl, h, HB.out⟩
end Go.Proofs.YtehhafnjbkbmjaaGreat.Disk

/- What Seal writes. -/
namespace Go.Proofs.YtehhafnjbkbmjaaGreat.Disk
open Go Go.RowKit Go.Proofs.YtehhafnjbkbmjaaGreatW.PrintWords Go.Proofs.YtehhafnjbkbmjaaGreatW.PrintLast Go.Proofs.YtehhafnjbkbmjaaGreatW.PrintMore Go.Proofs.YtehhafnjbkbmjaaGreat.PCommitlogSequence
/-- Bytes with their checksum behind them. -/
def sealF (l : List Int) : List Int := l ++ le4 (crcF l)
theorem le4_ok (n : Nat) : ∀ x ∈ le4 n, 0 ≤ x ∧ x ≤ 255 := by
  intro x hx
  simp only [le4, List.mem_cons, List.mem_nil_iff, or_false] at hx
  rcases hx with rfl | rfl | rfl | rfl <;> omega
theorem sealF_ok {l : List Int} (hw : ∀ x ∈ l, 0 ≤ x ∧ x ≤ 255) : ∀ x ∈ sealF l, 0 ≤ x ∧ x ≤ 255 := by
  intro x hx
  rcases List.mem_append.1 hx with h | h
  · exact hw x h
  · exact le4_ok _ x h
theorem sealF_length (l : List Int) : (sealF l).length = l.length + 4 := by simp [sealF, le4]
theorem own_bytes {w : World} {base : Nat} {v : Value} {l : List Int} (h : w.ownsRow base 5 1 v l.length (nums .u8 l)) : ∃ A c, v = .slice A l.length c ∧ Kd.C kB w A l.length l := by
  obtain ⟨A, c, e, hr⟩ := own_reads h
  exact ⟨A, c, e, Kd.C_of_reads (enc := fun x => Value.int .u8 x) (d := (0 : Int)) (h1 := fun _ => rfl) ⟨hr.1, hr.2.1, hr.2.2⟩⟩
theorem Concat2_calls (w : World) (g cap : Nat) (A : Option Addr) (c : Nat) (l : List Int) (A2 : Option Addr) (c2 : Nat) (l2 : List Int) (h1 : w.cell? ⟨g, 0, none⟩ = some (.slice A l.length c)) (h2 : w.cell? ⟨g, 1, none⟩ = some (.slice A2 l2.length c2)) (r1 : Kd.C kB w A l.length l) (r2 : Kd.C kB w A2 l2.length l2) (hl : l.length + l2.length ≤ 1099511627776) :
    Calls Tryz.prog 95 #[.slice (some ⟨g, 0, none⟩) 2 cap] w fun e w' => ∃ v, e = .returned v ∧ w'.ownsRow w.heap.size 5 1 v (l ++ l2).length (nums .u8 (l ++ l2)) ∧ Below w.heap.size w w' := by
  have e : partsOf [⟨A, c, l⟩, ⟨A2, c2, l2⟩] = l ++ l2 := by simp [partsOf]
  have := Concat_calls w g cap [⟨A, c, l⟩, ⟨A2, c2, l2⟩] (fun j hj => by
    obtain rfl | rfl : j = 0 ∨ j = 1 := by simp at hj; omega
    · exact ⟨h1, r1⟩
    · exact ⟨h2, r2⟩) (by simp) (by rw [e, List.length_append]; exact hl)
  rw [e] at this
  exact this
set_option maxHeartbeats 1000000 in
set_option maxRecDepth 100000 in
theorem Seal_calls (w : World) (A : Option Addr) (c : Nat) (l : List Int) (h : Kd.C kB w A l.length l) (hl : l.length ≤ 549755813888) (hw : ∀ x ∈ l, 0 ≤ x ∧ x ≤ 255) :
    Calls Tryz.prog 61 #[.slice A l.length c] w fun e w' => ∃ v, e = .returned v ∧ w'.ownsRow w.heap.size 5 1 v (sealF l).length (nums .u8 (sealF l)) ∧ Below w.heap.size w w' := by
  have H := Lib.hid h
  have HW := Lib.hid hw
  have HC := Lib.hid (crcF_lt hw)
  clear h hw
  go_enter Tryz.func61, Tryz.ntmps61
  go_wp2_with (first
    | (go_at_call 97; refine (CRC_calls _ w.heap.size 1 A c l (cell_blk (heap_alloc_new w _) 0) (Kd.C_below H.out (Below.of_alloc' w _)) (by omega) HW.out).mono ?_; rintro e w1 ⟨rfl, hb⟩; have HB1 := Lib.hid ((Below.of_alloc' w _).trans (hb.mono (by simp))); clear hb; have hcl := HC.out; obtain ⟨n, hn⟩ : ∃ n, n = crcF l := ⟨_, rfl⟩; rw [← hn] at hcl ⊢; have HN := Lib.hid hn; clear hn)
    | (go_at_call 96; refine (Fixed_calls _ n (by omega)).mono ?_; rintro e w2 ⟨v, rfl, ho, hb⟩; obtain ⟨A2, c2, rfl, hC2⟩ := own_bytes (l := le4 n) ho; have HC2 := Lib.hid hC2; have HB2 := Lib.hid (HB1.out.trans (hb.mono HB1.out.size)); clear ho hb hC2)
    | (go_at_call 95; have hb := HB2.out.trans ((Below.of_alloc' w2 (.cells #[.slice A l.length c, .slice A2 (le4 n).length c2] 36)).mono HB2.out.size); refine (Concat2_calls _ w2.heap.size 2 A c l A2 c2 (le4 n) (cell_blk (heap_alloc_new w2 _) 0) (cell_blk (heap_alloc_new w2 _) 1) (Kd.C_below H.out hb) (Kd.C_below HC2.out (Below.of_alloc' w2 _)) (by simp [le4]; omega)).mono ?_; rintro e w3 ⟨v, rfl, ho, hb3⟩; have HO := Lib.hid (own_weaken ho hb.size); have HB3 := Lib.hid (hb.trans (hb3.mono hb.size)); clear hb ho hb3)
    | fail)
  go_ret
  have h := HO.out
  rw [HN.out] at h
  exact ⟨_, rfl, h, HB3.out⟩
end Go.Proofs.YtehhafnjbkbmjaaGreat.Disk

/- Four bytes read as a number; what Open gives. -/
namespace Go.Proofs.YtehhafnjbkbmjaaGreat.Disk
open Go Go.RowKit Go.Proofs.YtehhafnjbkbmjaaGreatW.PrintWords Go.Proofs.YtehhafnjbkbmjaaGreatW.PrintLast Go.Proofs.YtehhafnjbkbmjaaGreatW.PrintMore Go.Proofs.YtehhafnjbkbmjaaGreat.PCommitlogSequence
def byteN (l : List Int) (j : Nat) : Nat := (l.getD j 0).toNat
/-- The number of the first j of four bytes from place o on. -/
def valN (l : List Int) (o : Nat) : Nat → Nat
  | 0 => 0
  | 1 => byteN l o
  | 2 => byteN l o + byteN l (o + 1) * 256
  | 3 => byteN l o + byteN l (o + 1) * 256 + byteN l (o + 2) * 65536
  | _ => byteN l o + byteN l (o + 1) * 256 + byteN l (o + 2) * 65536 + byteN l (o + 3) * 16777216
def RfRel (w : World) (l : List Int) (o : Nat) (i v : Value) (wx : World) : Prop := ∃ j : Nat, j ≤ 4 ∧ i = .int .i64 j ∧ v = .int .u64 (valN l o j) ∧ w = wx
theorem valN_succ (l : List Int) (o j : Nat) (h : j < 4) : valN l o (j + 1) = valN l o j + byteN l (o + j) * 2 ^ (8 * j) := by
  obtain rfl | rfl | rfl | rfl : j = 0 ∨ j = 1 ∨ j = 2 ∨ j = 3 := by omega
  all_goals simp [valN]
theorem valN_lt {l : List Int} {o : Nat} (hb : ∀ j, byteN l j < 256) (j : Nat) (h : j ≤ 4) : valN l o j < 2 ^ (8 * j) := by
  have h0 := hb o
  have h1 := hb (o + 1)
  have h2 := hb (o + 2)
  have h3 := hb (o + 3)
  obtain rfl | rfl | rfl | rfl | rfl : j = 0 ∨ j = 1 ∨ j = 2 ∨ j = 3 ∨ j = 4 := by omega
  all_goals simp [valN]
  all_goals omega
theorem or_step (i a x : Nat) (ha : a < 2 ^ i) (hx : x < 256) (hi : i ≤ 24) : bits .or .u64 (a : Int) ((x * 2 ^ i : Nat) : Int) = ((a + x * 2 ^ i : Nat) : Int) := by
  have hp : (2 : Nat) ^ i ≤ 2 ^ 24 := Nat.pow_le_pow_right (by omega) hi
  have h1 : x * 2 ^ i ≤ 255 * 2 ^ 24 := Nat.mul_le_mul (by omega) hp
  rw [u64_or_nat a (x * 2 ^ i) (by omega) (by omega), Nat.or_comm, nat_join i (x * 2 ^ i) a (Nat.mul_mod_left _ _) ha, Nat.add_comm]
theorem or_step3 (i m a x : Nat) (hm : m = 2 ^ i) (ha : a < 2 ^ i) (hx : x < 256) (hi : i ≤ 24) : bits .or .u64 (a : Int) ((x : Int) * (m : Int)) = ((a + x * 2 ^ i : Nat) : Int) := by
  have := or_step i a x ha hx hi
  rw [← hm] at this ⊢
  rw [← this, Int.natCast_mul]
theorem byteN_lt {l : List Int} (hw : ∀ x ∈ l, 0 ≤ x ∧ x ≤ 255) (j : Nat) : byteN l j < 256 := by
  unfold byteN
  by_cases h : j < l.length
  · have := hw _ (List.getElem_mem h)
    simp [List.getD, h]
    omega
  · simp [List.getD, h]
set_option maxHeartbeats 1000000 in
set_option maxRecDepth 100000 in
theorem ReadFixed_walk (w : World) (A : Option Addr) (c : Nat) (l : List Int) (o : Nat) (h : Kd.C kB w A l.length l) (hl : l.length ≤ 1099511627776) (hw : ∀ x ∈ l, 0 ≤ x ∧ x ≤ 255) (ho : o + 4 = l.length) :
    Calls Tryz.prog 99 #[.slice A l.length c, .int .i64 o, .int .i64 4] w fun e w' => e = .returned (.tuple #[.int .u64 (valN l o 4), .int .i64 0]) ∧ w = w' := by
  have H := Lib.hid h
  have HW := Lib.hid hw
  have HBY := Lib.hid (byteN_lt hw)
  clear h hw
  go_enter Tryz.func99, Tryz.ntmps99
  go_wp2
  go_loopw [33, 8] (fun i v wx => RfRel w l o i v wx) (fun i _ _ => 4 - (intOf i).toNat)
  case atStart => exact ⟨0, by omega, rfl, rfl, rfl⟩
  case round =>
    obtain ⟨j, hj, rfl, rfl, rfl⟩ := hrel
    by_cases hlt : j < 4
    · have hol : o + j < l.length := by omega
      obtain ⟨ad, hA, q0⟩ := byte_cell H.out (o + j) hol
      subst hA
      have hx := HW.out _ (List.getElem_mem hol)
      obtain ⟨x, hxe⟩ : ∃ x : Nat, l[o + j] = (x : Int) := ⟨l[o + j].toNat, by omega⟩
      have hB : byteN l (o + j) = x := by simp [byteN, List.getD, hol, hxe]
      rw [hxe] at q0 hx
      have HB := Lib.hid hB
      clear hxe hB
      obtain rfl | rfl | rfl | rfl : j = 0 ∨ j = 1 ∨ j = 2 ∨ j = 3 := by omega
      · rw [Nat.add_zero] at q0 HB
        go_wp2
        go_roundw
        case rel => exact ⟨1, by omega, rfl, by congr 1; have e := or_step 0 (valN l o 0) x (valN_lt HBY.out 0 (by omega)) (by omega) (by omega); simp only [Nat.pow_zero, Nat.mul_one] at e; rw [e, valN_succ l o 0 (by omega), Nat.add_zero, HB.out]; simp, rfl⟩
        case measure => simp [intOf]
      · rw [Addr.add_succ'] at q0
        go_wp2
        go_roundw
        case rel => exact ⟨2, by omega, rfl, by congr 1; exact (or_step3 8 256 (valN l o 1) x (by decide) (valN_lt HBY.out 1 (by omega)) (by omega) (by omega)).trans (by rw [valN_succ l o 1 (by omega), HB.out]), rfl⟩
        case measure => simp [intOf]
      · rw [show o + 2 = (o + 1) + 1 from rfl, Addr.add_succ'] at q0
        go_wp2
        go_roundw
        case rel => exact ⟨3, by omega, rfl, by congr 1; exact (or_step3 16 65536 (valN l o 2) x (by decide) (valN_lt HBY.out 2 (by omega)) (by omega) (by omega)).trans (by rw [valN_succ l o 2 (by omega), HB.out]), rfl⟩
        case measure => simp [intOf]
      · rw [show o + 3 = (o + 2) + 1 from rfl, Addr.add_succ'] at q0
        go_wp2
        go_roundw
        case rel => exact ⟨4, by omega, rfl, by congr 1; exact (or_step3 24 16777216 (valN l o 3) x (by decide) (valN_lt HBY.out 3 (by omega)) (by omega) (by omega)).trans (by rw [valN_succ l o 3 (by omega), HB.out]), rfl⟩
        case measure => simp [intOf]
    · obtain rfl : j = 4 := by omega
      go_wp2
      go_ret2
      exact ⟨rfl, rfl⟩
end Go.Proofs.YtehhafnjbkbmjaaGreat.Disk

/- What Open gives. -/
namespace Go.Proofs.YtehhafnjbkbmjaaGreat.Disk
open Go Go.RowKit Go.Proofs.YtehhafnjbkbmjaaGreatW.PrintWords Go.Proofs.YtehhafnjbkbmjaaGreatW.PrintLast Go.Proofs.YtehhafnjbkbmjaaGreatW.PrintMore Go.Proofs.YtehhafnjbkbmjaaGreat.PCommitlogSequence
/-- The bytes ahead of the checksum, and the error's code. -/
def openF (l : List Int) : List Int × Int :=
  if l.length < 4 then ([], 2) else if crcF (l.take (l.length - 4)) = valN l (l.length - 4) 4 then (l.take (l.length - 4), 0) else ([], 5)
theorem CRC_part (w : World) (g cap : Nat) (A : Option Addr) (c o : Nat) (l : List Int) (ho : o ≤ l.length) (hg : w.cell? ⟨g, 0, none⟩ = some (.slice A o c)) (h : Kd.C kB w A l.length l) (hl : l.length ≤ 1099511627776) (hw : ∀ x ∈ l, 0 ≤ x ∧ x ≤ 255) :
    Calls Tryz.prog 97 #[.slice (some ⟨g, 0, none⟩) 1 cap] w fun e w' => e = .returned (.int .u32 (crcF (l.take o))) ∧ Below w.heap.size w w' := by
  have e : (l.take o).length = o := by simp; omega
  refine CRC_calls w g cap A c (l.take o) (by rw [e]; exact hg) ?_ (by omega) (fun x hx => hw x (List.mem_of_mem_take hx))
  rw [e]
  have h2 := Kd.C_take h ho
  rwa [e] at h2
set_option maxHeartbeats 1000000 in
set_option maxRecDepth 100000 in
theorem Open_short (w : World) (A : Option Addr) (c : Nat) (l : List Int) (h4 : l.length < 4) :
    Calls Tryz.prog 67 #[.slice A l.length c] w fun e w' => e = .returned (.tuple #[.slice none 0 0, .int .i64 2]) ∧ w = w' := by
  have h4' : (l.length : Int) - 4 < 0 := by omega
  go_enter Tryz.func67, Tryz.ntmps67
  go_wp2_with fail
  go_ret2
  exact ⟨rfl, rfl⟩
set_option maxHeartbeats 1000000 in
set_option maxRecDepth 100000 in
theorem Open_calls (w : World) (A : Option Addr) (c : Nat) (l : List Int) (h : Kd.C kB w A l.length l) (hc : l.length ≤ c) (hl : l.length ≤ 1099511627776) (hw : ∀ x ∈ l, 0 ≤ x ∧ x ≤ 255) :
    Calls Tryz.prog 67 #[.slice A l.length c] w fun e w' => ∃ v, e = .returned (.tuple #[v, .int .i64 (openF l).2]) ∧ w'.ownsRow w.heap.size 5 1 v (openF l).1.length (nums .u8 (openF l).1) ∧ Below w.heap.size w w' := by
  by_cases h4 : l.length < 4
  · refine (Open_short w A c l h4).mono ?_
    rintro e w' ⟨rfl, rfl⟩
    unfold openF
    rw [if_pos h4]
    exact ⟨_, rfl, World.ownsRow_nil _ _ _ _, Below.refl _ _⟩
  · obtain ⟨o, ho⟩ : ∃ o, o + 4 = l.length := ⟨l.length - 4, by omega⟩
    have e : openF l = if crcF (l.take o) = valN l o 4 then (l.take o, 0) else ([], 5) := by
      unfold openF
      rw [if_neg h4, show l.length - 4 = o by omega]
    rw [e]
    have H := Lib.hid h
    have HW := Lib.hid hw
    have hs : (l.length : Int) - 4 = (o : Int) := by omega
    have hs0 : (0 : Int) ≤ (o : Int) := by omega
    have hs1 : (o : Int) ≤ (c : Int) := by omega
    have HL := Lib.hid hl
    have HO := Lib.hid ho
    have htl : (l.take o).length = o := by simp; omega
    have h2 := Kd.C_take h (show o ≤ l.length by omega)
    rw [htl] at h2
    have HT := Lib.hid h2
    have HTL := Lib.hid htl
    have HLT := Lib.hid (crcF_lt (l := l.take o) (fun x hx => hw x (List.mem_of_mem_take hx)))
    clear h hw e h4 htl h2
    by_cases hq : crcF (l.take o) = valN l o 4
    · rw [if_pos hq]
      obtain ⟨n1, hn1⟩ : ∃ n1, n1 = crcF (l.take o) := ⟨_, rfl⟩
      obtain ⟨n2, hn2⟩ : ∃ n2, n2 = valN l o 4 := ⟨_, rfl⟩
      rw [← hn1, ← hn2] at hq
      have HN1 := Lib.hid hn1
      have HN2 := Lib.hid hn2
      have hn32 : n1 < 4294967296 := by rw [hn1]; exact HLT.out
      have hwr : IntKind.u64.wrap (n1 : Int) = (n1 : Int) := by rw [IntKind.wrap_u64]; omega
      have hbb : ((n1 : Int) != (n2 : Int)) = false := by simp; omega
      clear hn1 hn2 hq
      go_enter Tryz.func67, Tryz.ntmps67
      go_wp2_with (first
        | (go_at_call 99; refine (ReadFixed_walk _ A c l o H.out HL.out HW.out HO.out).mono ?_; rintro e w1 ⟨rfl, rfl⟩; rw [← HN2.out])
        | (go_at_call 97; refine (CRC_part _ w.heap.size 1 A c o l (by have := HO.out; omega) (cell_blk (heap_alloc_new w _) 0) (Kd.C_below H.out (Below.of_alloc' w _)) HL.out HW.out).mono ?_; rintro e w2 ⟨rfl, hb⟩; have HB2 := Lib.hid ((Below.of_alloc' w _).trans (hb.mono (by simp))); clear hb; rw [← HN1.out])
        | (at_builtin; refine print_append_row (w0 := w) w.heap.size rfl _ _ 36 5 .u8 1 rfl Tryz.underlying36 infoB (by decide) (.slice none 0 0) [] (l.take o) A o c rfl rfl (World.ownsRow_nil _ _ _ _) (reads_of_C (Kd.C_below HT.out HB2.out)) HB2.out HB2.out.size (by have := HO.out; have := HL.out; simp only [List.length_nil]; omega) ?_; intro v1 w3 ho3 hb3 hg3 hat3; have HO3 := Lib.hid ho3; have HB3 := Lib.hid hb3; clear ho3 hb3 hg3 hat3)
        | fail)
      go_ret2
      have h := HO3.out
      rw [List.nil_append] at h
      exact ⟨_, rfl, h, HB3.out⟩
    · rw [if_neg hq]
      obtain ⟨n1, hn1⟩ : ∃ n1, n1 = crcF (l.take o) := ⟨_, rfl⟩
      obtain ⟨n2, hn2⟩ : ∃ n2, n2 = valN l o 4 := ⟨_, rfl⟩
      rw [← hn1, ← hn2] at hq
      have HN1 := Lib.hid hn1
      have HN2 := Lib.hid hn2
      have hn32 : n1 < 4294967296 := by rw [hn1]; exact HLT.out
      have hwr : IntKind.u64.wrap (n1 : Int) = (n1 : Int) := by rw [IntKind.wrap_u64]; omega
      have hbb : ((n1 : Int) != (n2 : Int)) = true := by simp; omega
      clear hn1 hn2 hq
      go_enter Tryz.func67, Tryz.ntmps67
      go_wp2_with (first
        | (go_at_call 99; refine (ReadFixed_walk _ A c l o H.out HL.out HW.out HO.out).mono ?_; rintro e w1 ⟨rfl, rfl⟩; rw [← HN2.out])
        | (go_at_call 97; refine (CRC_part _ w.heap.size 1 A c o l (by have := HO.out; omega) (cell_blk (heap_alloc_new w _) 0) (Kd.C_below H.out (Below.of_alloc' w _)) HL.out HW.out).mono ?_; rintro e w2 ⟨rfl, hb⟩; have HB2 := Lib.hid ((Below.of_alloc' w _).trans (hb.mono (by simp))); clear hb; rw [← HN1.out])
        | fail)
      go_ret2
      exact ⟨_, rfl, World.ownsRow_nil _ _ _ _, HB2.out⟩
end Go.Proofs.YtehhafnjbkbmjaaGreat.Disk

/- What is sealed opens as it was. -/
namespace Go.Proofs.YtehhafnjbkbmjaaGreat.Disk
open Go Go.RowKit Go.Proofs.YtehhafnjbkbmjaaGreatW.PrintWords Go.Proofs.YtehhafnjbkbmjaaGreatW.PrintLast Go.Proofs.YtehhafnjbkbmjaaGreatW.PrintMore Go.Proofs.YtehhafnjbkbmjaaGreat.PCommitlogSequence
end Go.Proofs.YtehhafnjbkbmjaaGreat.Disk
