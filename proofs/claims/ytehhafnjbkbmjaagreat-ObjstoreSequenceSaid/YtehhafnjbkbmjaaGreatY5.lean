/- Identifiers, varints, checksums of the reference, Encode. -/
import Derived.Test.YtehhafnjbkbmjaaGreatY4
import Derived.Test.YtehhafnjbkbmjaaGreatQr
import Derived.Laws.RangeAny
/- commitlog: identifiers. -/
namespace Go.Proofs.YtehhafnjbkbmjaaGreat.Disk
open Go Go.RowKit Go.Proofs.YtehhafnjbkbmjaaGreatW.PrintWords Go.Proofs.YtehhafnjbkbmjaaGreatW.PrintLast Go.Proofs.YtehhafnjbkbmjaaGreatW.PrintMore Go.Proofs.YtehhafnjbkbmjaaGreat.PCommitlogSequence
end Go.Proofs.YtehhafnjbkbmjaaGreat.Disk

/- commitlog: identifiers, the walk. -/
namespace Go.Proofs.YtehhafnjbkbmjaaGreat.Disk
open Go Go.RowKit Go.Proofs.YtehhafnjbkbmjaaGreatW.PrintWords Go.Proofs.YtehhafnjbkbmjaaGreatW.PrintLast Go.Proofs.YtehhafnjbkbmjaaGreatW.PrintMore Go.Proofs.YtehhafnjbkbmjaaGreat.PCommitlogSequence
end Go.Proofs.YtehhafnjbkbmjaaGreat.Disk

/- commitlog: valid entries. -/
namespace Go.Proofs.YtehhafnjbkbmjaaGreat.Disk
open Go Go.RowKit Go.Proofs.YtehhafnjbkbmjaaGreatW.PrintWords Go.Proofs.YtehhafnjbkbmjaaGreatW.PrintLast Go.Proofs.YtehhafnjbkbmjaaGreatW.PrintMore Go.Proofs.YtehhafnjbkbmjaaGreat.PCommitlogSequence
abbrev LE := Go.Proofs.YtehhafnjbkbmjaaGreat.PCommitlogSequence.S46
section
variable (w : World) (b : Nat) (f0 f1 f2 f3 f4 : Int) (s : ByteArray)
end
end Go.Proofs.YtehhafnjbkbmjaaGreat.Disk

/- Varints: what is written. -/
namespace Go.Proofs.YtehhafnjbkbmjaaGreat.Disk
open Go Go.RowKit Go.Proofs.YtehhafnjbkbmjaaGreatW.PrintWords Go.Proofs.YtehhafnjbkbmjaaGreatW.PrintLast Go.Proofs.YtehhafnjbkbmjaaGreatW.PrintMore Go.Proofs.YtehhafnjbkbmjaaGreat.PCommitlogSequence
end Go.Proofs.YtehhafnjbkbmjaaGreat.Disk

/- An entry's body; what a varint reads. -/
namespace Go.Proofs.YtehhafnjbkbmjaaGreat.Disk
open Go Go.RowKit Go.Proofs.YtehhafnjbkbmjaaGreatW.PrintWords Go.Proofs.YtehhafnjbkbmjaaGreatW.PrintLast Go.Proofs.YtehhafnjbkbmjaaGreatW.PrintMore Go.Proofs.YtehhafnjbkbmjaaGreat.PCommitlogSequence
end Go.Proofs.YtehhafnjbkbmjaaGreat.Disk

/- What a varint reads: the program's and the reference's Decode. -/
namespace Go.Proofs.YtehhafnjbkbmjaaGreat.Disk
open Go Go.RowKit Go.Proofs.YtehhafnjbkbmjaaGreatW.PrintWords Go.Proofs.YtehhafnjbkbmjaaGreatW.PrintLast Go.Proofs.YtehhafnjbkbmjaaGreatW.PrintMore Go.Proofs.YtehhafnjbkbmjaaGreat.PCommitlogSequence
theorem w64_nat {n : Nat} (h : n ≤ 1099511627976) : wrap64 (n : Int) = (n : Int) := by unfold wrap64; omega
end Go.Proofs.YtehhafnjbkbmjaaGreat.Disk

/- What a varint reads: the reference's Decode; fixed bytes. -/
namespace Go.Proofs.YtehhafnjbkbmjaaGreat.Disk
open Go Go.RowKit Go.Proofs.YtehhafnjbkbmjaaGreatW.PrintWords Go.Proofs.YtehhafnjbkbmjaaGreatW.PrintLast Go.Proofs.YtehhafnjbkbmjaaGreatW.PrintMore Go.Proofs.YtehhafnjbkbmjaaGreat.PCommitlogSequence
end Go.Proofs.YtehhafnjbkbmjaaGreat.Disk

/- The reference's checksum is the program's: plain. -/
namespace Go.Proofs.YtehhafnjbkbmjaaGreat.Disk
open Go Go.RowKit Go.Proofs.YtehhafnjbkbmjaaGreatW.PrintWords Go.Proofs.YtehhafnjbkbmjaaGreatW.PrintLast Go.Proofs.YtehhafnjbkbmjaaGreatW.PrintMore Go.Proofs.YtehhafnjbkbmjaaGreat.PCommitlogSequence
theorem xor_mod2 (x y : Nat) : (x ^^^ y) % 2 = (x % 2) ^^^ (y % 2) := by
  have := Nat.xor_mod_two_pow (a := x) (b := y) (n := 1)
  simpa using this
theorem crcBit_xor (a b : Nat) : crcBit (a ^^^ b) = crcBit a ^^^ crcBit b := by
  unfold crcBit
  rw [xor_mod2, Nat.xor_div_two]
  obtain ha | ha : a % 2 = 0 ∨ a % 2 = 1 := by omega
  · obtain hb | hb : b % 2 = 0 ∨ b % 2 = 1 := by omega
    · rw [ha, hb]
      simp
    · rw [ha, hb]
      simp [Nat.xor_assoc]
  · obtain hb | hb : b % 2 = 0 ∨ b % 2 = 1 := by omega
    · rw [ha, hb]
      simp [Nat.xor_assoc, Nat.xor_comm (b / 2)]
    · rw [ha, hb]
      simp only [if_true]
      rw [if_neg (by decide), Nat.xor_assoc, Nat.xor_comm (2197175160) (b / 2 ^^^ 2197175160), Nat.xor_assoc (b / 2), Nat.xor_self, Nat.xor_zero]
theorem crcBits_xor (a b : Nat) : ∀ k, crcBits (a ^^^ b) k = crcBits a k ^^^ crcBits b k
  | 0 => rfl
  | k + 1 => by
    show crcBit (crcBits (a ^^^ b) k) = crcBit (crcBits a k) ^^^ crcBit (crcBits b k)
    rw [crcBits_xor a b k, crcBit_xor]
theorem crcBits_even (h : Nat) : ∀ k m, k ≤ m → crcBits (2 ^ m * h) k = 2 ^ (m - k) * h
  | 0, m, _ => rfl
  | k + 1, m, hk => by
    show crcBit (crcBits (2 ^ m * h) k) = _
    rw [crcBits_even h k m (by omega)]
    have e : (2 : Nat) ^ (m - k) = 2 * 2 ^ (m - (k + 1)) := by
      rw [show m - k = (m - (k + 1)) + 1 by omega, Nat.pow_succ, Nat.mul_comm]
    unfold crcBit
    rw [e, Nat.mul_assoc, if_neg (by omega)]
    omega
theorem split_xor (z : Nat) : z = (2 ^ 8 * (z / 256)) ^^^ (z % 256) := by
  have h1 := Nat.xor_div_two_pow (a := 2 ^ 8 * (z / 256)) (b := z % 256) (n := 8)
  have h2 := Nat.xor_mod_two_pow (a := 2 ^ 8 * (z / 256)) (b := z % 256) (n := 8)
  have e1 : 2 ^ 8 * (z / 256) / 2 ^ 8 = z / 256 := by omega
  have e2 : z % 256 / 2 ^ 8 = 0 := by omega
  have e3 : 2 ^ 8 * (z / 256) % 2 ^ 8 = 0 := by omega
  have e4 : z % 256 % 2 ^ 8 = z % 256 := by omega
  rw [e1, e2, Nat.xor_zero] at h1
  rw [e3, e4, Nat.zero_xor] at h2
  generalize 2 ^ 8 * (z / 256) ^^^ z % 256 = q at h1 h2
  omega
theorem bits8 (z : Nat) : crcBits z 8 = (z / 256) ^^^ tabN (z % 256) := by
  conv => lhs; rw [split_xor z]
  rw [crcBits_xor, crcBits_even (z / 256) 8 8 (Nat.le_refl _)]
  simp [tabN]
/-- A byte, by the reference, is a byte by the table. -/
theorem step_eq (r : Nat) (x : Nat) (hx : x < 256) : crcBits (r ^^^ x) 8 = adv1 r (x : Int) := by
  rw [bits8]
  unfold adv1
  have h1 := Nat.xor_div_two_pow (a := r) (b := x) (n := 8)
  have h2 := Nat.xor_mod_two_pow (a := r) (b := x) (n := 8)
  have e1 : x / 2 ^ 8 = 0 := by omega
  have e2 : x % 2 ^ 8 = x := by omega
  rw [e1, Nat.xor_zero] at h1
  rw [e2] at h2
  rw [show (256 : Nat) = 2 ^ 8 from rfl, h1, h2]
  rfl
theorem step_l0 : ∀ (d k i r : Nat), 8 - i = d → i ≤ 8 → d < k → r < 4294967296 → laminaref02_step.l0 k r i = some ((crcBits r d : Nat) : Int)
  | 0, k, i, r, hd, hi, hk, hr => by
    obtain ⟨k, rfl⟩ : ∃ m, k = m + 1 := ⟨k - 1, by omega⟩
    unfold laminaref02_step.l0
    rw [if_neg (by omega)]
    rfl
  | d + 1, k, i, r, hd, hi, hk, hr => by
    obtain ⟨k, rfl⟩ : ∃ m, k = m + 1 := ⟨k - 1, by omega⟩
    have e : wrap64 ((i : Int) + 1) = ((i + 1 : Nat) : Int) := w64_nat (n := i + 1) (by omega)
    have ha : Go.bits .and .u32 (r : Int) 1 = ((r % 2 : Nat) : Int) := by
      have := u32_and_nat r 1 hr (by omega)
      rw [nat_mask1] at this
      exact this
    have hx : Go.bits .xor .u32 ((r : Int) / 2) 2197175160 = ((r / 2 ^^^ 2197175160 : Nat) : Int) := by
      have := u32_xor_nat (r / 2) 2197175160 (by omega) (by omega)
      rw [← this]
      congr 1
    have hs : ∀ q m, crcBits q (m + 1) = crcBits (crcBit q) m := fun q m => by
      induction m with
      | zero => rfl
      | succ m ih =>
        show crcBit (crcBits q (m + 1)) = crcBit (crcBits (crcBit q) m)
        rw [ih]
    have hlt := crcBit_lt hr
    unfold laminaref02_step.l0
    rw [if_pos (by omega), ha, hx, e, hs]
    by_cases h : r % 2 = 1
    · have hc : crcBit r = r / 2 ^^^ 2197175160 := by unfold crcBit; rw [if_pos h]
      rw [if_pos (by omega), ← hc]
      exact step_l0 d k (i + 1) (crcBit r) (by omega) (by omega) (by omega) hlt
    · have hc : crcBit r = r / 2 := by unfold crcBit; rw [if_neg h]
      rw [if_neg (by omega), show ((r : Int) / 2) = ((crcBit r : Nat) : Int) by rw [hc]; omega]
      exact step_l0 d k (i + 1) (crcBit r) (by omega) (by omega) (by omega) hlt
theorem step_f (r : Nat) (x : Int) (hr : r < 4294967296) (h0 : 0 ≤ x) (h1 : x ≤ 255) (k : Nat) (hk : 10 < k) : laminaref02_step.f k r x = some ((adv1 r x : Nat) : Int) := by
  obtain ⟨x, rfl⟩ : ∃ m : Nat, x = m := ⟨x.toNat, by omega⟩
  unfold laminaref02_step.f
  rw [show (x : Int) % 4294967296 = (x : Int) by omega, u32_xor_nat r x hr (by omega)]
  have := step_l0 8 k 0 (r ^^^ x) rfl (by omega) (by omega) (Nat.xor_lt_two_pow (n := 32) hr (by omega))
  rw [step_eq r x (by omega)] at this
  exact this
end Go.Proofs.YtehhafnjbkbmjaaGreat.Disk

/- The reference's checksum: the walks. -/
namespace Go.Proofs.YtehhafnjbkbmjaaGreat.Disk
open Go Go.RowKit Go.Proofs.YtehhafnjbkbmjaaGreatW.PrintWords Go.Proofs.YtehhafnjbkbmjaaGreatW.PrintLast Go.Proofs.YtehhafnjbkbmjaaGreatW.PrintMore Go.Proofs.YtehhafnjbkbmjaaGreat.PCommitlogSequence
def UpRel (w : World) (l : List Int) (i v : Value) (wx : World) : Prop := ∃ j : Nat, j ≤ l.length ∧ i = .int .i64 j ∧ v = .int .u32 (adv 4294967295 (l.take j)) ∧ Drawn0 w wx
set_option maxHeartbeats 1000000 in
set_option maxRecDepth 100000 in
theorem Update_calls (w : World) (A : Option Addr) (c : Nat) (l : List Int) (h : Kd.C kB w A l.length l) (hl : l.length ≤ 1099511627776) (hw : ∀ x ∈ l, 0 ≤ x ∧ x ≤ 255) :
    Calls Tryz.prog 115 #[.int .u32 0, .slice A l.length c] w fun e w' => e = .returned (.int .u32 (crcF l)) ∧ Drawn0 w w' := by
  have H := Lib.hid h
  have HW := Lib.hid hw
  have HC := Lib.hid (adv_lt (r := 4294967295) (by omega) hw)
  have hmax : bits .xor .u32 IntKind.u32.max 0 = 4294967295 := by decide
  clear h hw
  go_enter Tryz.func115, Tryz.ntmps115
  go_wp2_with fail
  go_loopw [5, 0] (fun i v wx => UpRel w l i v wx) (fun i _ _ => l.length - (intOf i).toNat)
  case atStart => exact ⟨0, Nat.zero_le _, rfl, rfl, ⟨0, rfl⟩⟩
  case round =>
    obtain ⟨j, hj, rfl, rfl, hd⟩ := hrel
    have HD := Lib.hid hd
    clear hd
    by_cases hlt : j < l.length
    · obtain ⟨ad, hA, q0⟩ := byte_cell H.out j hlt
      subst hA
      have hx := HW.out _ (List.getElem_mem hlt)
      have HN := Lib.hid (adv_take (r := 4294967295) j hlt)
      obtain ⟨r0, hr0⟩ : ∃ r0, r0 = adv 4294967295 (l.take j) := ⟨_, rfl⟩
      have HR32 := Lib.hid (show r0 < 4294967296 by rw [hr0]; exact adv_lt (by omega) (fun x hx => HW.out x (List.mem_of_mem_take hx)))
      obtain ⟨x, hxe⟩ : ∃ x, x = l[j] := ⟨_, rfl⟩
      rw [← hxe] at q0 hx HN
      rw [← hr0] at HN ⊢
      have q1 : wr.cell? (ad.add j) = some (.int .u8 x) := (drawn_cell HD.out _).trans q0
      have HS := Lib.hid (step_f r0 x HR32.out hx.1 hx.2 11 (by decide))
      clear q0 hxe hr0 hx
      go_wp2_with (first | (go_at_call 131; refine (laminaref02_step.calls 11 _ _ _ _ HS.out).mono ?_; rintro e w2 ⟨rfl, hd⟩; have HD2 := Lib.hid (drawn_trans HD.out hd); clear hd) | fail)
      go_roundw
      case rel => exact ⟨j + 1, by omega, by go_num, by rw [HN.out], HD2.out⟩
      case measure => simp [intOf]; omega
    · obtain rfl : j = l.length := by omega
      obtain ⟨r, hr⟩ : ∃ r, r = adv 4294967295 (l.take l.length) := ⟨_, rfl⟩
      rw [← hr]
      rw [List.take_length] at hr
      have HR := Lib.hid hr
      have hr32 : r < 4294967296 := by rw [hr]; exact HC.out
      clear hr
      go_wp2_with fail
      go_ret
      have e : bits .xor .u32 IntKind.u32.max (r : Int) = (crcF l : Int) := by
        have := u32_xor_nat 4294967295 r (by omega) hr32
        unfold crcF
        rw [← HR.out, ← this]
        congr 1
      exact ⟨by rw [← e]; rfl, HD.out⟩
end Go.Proofs.YtehhafnjbkbmjaaGreat.Disk

/- commitlog: Encode, the program's. -/
namespace Go.Proofs.YtehhafnjbkbmjaaGreat.Disk
open Go Go.RowKit Go.Proofs.YtehhafnjbkbmjaaGreatW.PrintWords Go.Proofs.YtehhafnjbkbmjaaGreatW.PrintLast Go.Proofs.YtehhafnjbkbmjaaGreatW.PrintMore Go.Proofs.YtehhafnjbkbmjaaGreat.PCommitlogSequence
end Go.Proofs.YtehhafnjbkbmjaaGreat.Disk

/- commitlog: Encode, the program's and the reference's, at any entry. -/
namespace Go.Proofs.YtehhafnjbkbmjaaGreat.Disk
open Go Go.RowKit Go.Proofs.YtehhafnjbkbmjaaGreatW.PrintWords Go.Proofs.YtehhafnjbkbmjaaGreatW.PrintLast Go.Proofs.YtehhafnjbkbmjaaGreatW.PrintMore Go.Proofs.YtehhafnjbkbmjaaGreat.PCommitlogSequence
end Go.Proofs.YtehhafnjbkbmjaaGreat.Disk
