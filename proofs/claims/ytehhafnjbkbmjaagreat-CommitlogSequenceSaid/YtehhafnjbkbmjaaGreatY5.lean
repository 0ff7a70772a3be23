/- Identifiers, varints, checksums of the reference, Encode. -/
import Derived.Test.YtehhafnjbkbmjaaGreatY4
import Derived.Test.YtehhafnjbkbmjaaGreatQr
import Derived.Test.YtehhafnjbkbmjaaGreatQt
import Derived.Laws.RangeAny
/- commitlog: identifiers. -/
namespace Go.Proofs.YtehhafnjbkbmjaaGreat.Disk
open Go Go.RowKit Go.Proofs.YtehhafnjbkbmjaaGreatW.PrintWords Go.Proofs.YtehhafnjbkbmjaaGreatW.PrintLast Go.Proofs.YtehhafnjbkbmjaaGreatW.PrintMore Go.Proofs.YtehhafnjbkbmjaaGreat.PCommitlogSequence
def okL (c : UInt8) : Bool := decide (97 ≤ c.toNat ∧ c.toNat ≤ 122)
def okI (c : UInt8) : Bool := decide ((97 ≤ c.toNat ∧ c.toNat ≤ 122) ∨ (48 ≤ c.toNat ∧ c.toNat ≤ 57) ∨ c.toNat = 95)
def headL (l : List UInt8) : Bool := match l with | [] => false | c :: _ => okL c
/-- Whether a string is an identifier. -/
def identB (s : ByteArray) : Bool := decide (s.size ≤ 32) && (headL s.data.toList && s.data.toList.all okI)
theorem letter_f (c : UInt8) : laminaref05_letter.f (c.toNat : Int) = some (okL c) := by
  unfold laminaref05_letter.f okL
  by_cases h : (97 : Int) ≤ c.toNat
  · rw [if_pos h]
    congr 1
    rw [decide_eq_decide]
    omega
  · rw [if_neg h]
    congr 1
    symm
    simp
    omega
def okD (c : UInt8) : Bool := decide (48 ≤ c.toNat ∧ c.toNat ≤ 57)
theorem digit_f (c : UInt8) : laminaref05_digit.f (c.toNat : Int) = some (okD c) := by
  unfold laminaref05_digit.f okD
  by_cases h : (48 : Int) ≤ c.toNat
  · rw [if_pos h]
    congr 1
    rw [decide_eq_decide]
    omega
  · rw [if_neg h]
    congr 1
    symm
    simp
    omega
theorem okI_eq (c : UInt8) : okI c = (okL c || (okD c || decide (c.toNat = 95))) := by
  unfold okI okL okD
  simp only [Bool.decide_or]
theorem ident_round (k : Nat) (s : ByteArray) (i : Nat) (h : i < s.size) (h60 : s.size ≤ 32) : laminaref05_IsIdent.l0 (k + 1) s i = if okI s[i] then laminaref05_IsIdent.l0 k s ((i + 1 : Nat) : Int) else some false := by
  have e : wrap64 ((i : Int) + 1) = ((i + 1 : Nat) : Int) := by unfold wrap64; omega
  simp only [laminaref05_IsIdent.l0, bt_at s i h, e, letter_f, digit_f, Option.bind_some]
  rw [if_pos (show (i : Int) < s.size by omega), if_pos (show (0 : Int) ≤ i by omega), okI_eq]
  cases okL s[i]
  · cases okD s[i]
    · by_cases h3 : s[i].toNat = 95
      · simp [h3]
      · have h5 : ¬ ((s[i].toNat : Int) = 95) := by omega
        simp [h3, h5]
    · simp
  · simp
theorem ident_l0 (s : ByteArray) (h60 : s.size ≤ 32) : ∀ (d k i : Nat), s.size - i = d → i ≤ s.size → d < k → laminaref05_IsIdent.l0 k s i = some ((s.data.toList.drop i).all okI) := by
  intro d
  induction d with
  | zero =>
    intro k i hd hi hk
    obtain ⟨k, rfl⟩ : ∃ m, k = m + 1 := ⟨k - 1, by omega⟩
    obtain rfl : i = s.size := by omega
    simp only [laminaref05_IsIdent.l0]
    rw [if_neg (by omega), List.drop_of_length_le (by rw [data_length]; omega)]
    rfl
  | succ d ih =>
    intro k i hd hi hk
    obtain ⟨k, rfl⟩ : ∃ m, k = m + 1 := ⟨k - 1, by omega⟩
    have hlt : i < s.size := by omega
    rw [ident_round k s i hlt h60, drop_at s i hlt, List.all_cons]
    cases hb : okI s[i]
    · simp
    · simp only [if_true, Bool.true_and]
      exact ih k (i + 1) (by omega) (by omega) (by omega)
theorem okL_okI {c : UInt8} (h : okL c = true) : okI c = true := by
  unfold okL at h
  unfold okI
  simp only [decide_eq_true_eq] at h ⊢
  exact .inl h
theorem ident_f (s : ByteArray) (k : Nat) (hk : 40 < k) : laminaref05_IsIdent.f k s = some (identB s) := by
  obtain ⟨k, rfl⟩ : ∃ m, k = m + 1 := ⟨k - 1, by omega⟩
  unfold laminaref05_IsIdent.f identB
  by_cases h1 : 1 ≤ s.size
  · rw [if_neg (by omega)]
    have hd := drop_at s 0 (by omega)
    rw [List.drop_zero] at hd
    by_cases h60 : s.size ≤ 32
    · rw [if_neg (by omega), if_pos (by omega)]
      have hb := bt_at s 0 (by omega)
      rw [Int.natCast_zero] at hb
      rw [hb, letter_f]
      simp only [Option.bind_some, laminaref05_IsIdent.j0]
      rw [hd]
      simp only [headL, List.all_cons]
      cases hl : okL s[0]
      · simp
      · rw [okL_okI hl, if_neg (by simp), show (1 : Int) = ((1 : Nat) : Int) from rfl, ident_l0 s h60 (s.size - 1) k 1 rfl (by omega) (by omega)]
        simp [h60]
    · rw [if_pos (by omega)]
      simp [laminaref05_IsIdent.j0, h60]
  · rw [if_pos (by omega)]
    have : s.data.toList = [] := List.eq_nil_of_length_eq_zero (by rw [data_length]; omega)
    simp [laminaref05_IsIdent.j0, this, headL]
end Go.Proofs.YtehhafnjbkbmjaaGreat.Disk

/- commitlog: identifiers, the walk. -/
namespace Go.Proofs.YtehhafnjbkbmjaaGreat.Disk
open Go Go.RowKit Go.Proofs.YtehhafnjbkbmjaaGreatW.PrintWords Go.Proofs.YtehhafnjbkbmjaaGreatW.PrintLast Go.Proofs.YtehhafnjbkbmjaaGreatW.PrintMore Go.Proofs.YtehhafnjbkbmjaaGreat.PCommitlogSequence
def IdRel (w : World) (s : ByteArray) (wx : World) : Prop := ∃ pos : Nat, pos ≤ s.size ∧ wx = w.iter s pos ∧ (s.data.toList.take pos).all okI = true
theorem below_iter (w : World) (s : ByteArray) (p : Nat) : Below w.heap.size w (w.iter s p) := Below.of_alloc' w _
set_option maxHeartbeats 2000000 in
set_option maxRecDepth 100000 in
theorem IsIdent_calls (w : World) (s : ByteArray) : Calls Tryz.prog 119 #[.string s] w fun e w' => e = .returned (.bool (identB s)) ∧ Below w.heap.size w w' := by
  by_cases h0 : s.size = 0
  · have hs : s.toList = [] := by rw [ByteArray.toList_eq]; exact List.eq_nil_of_length_eq_zero (by rw [data_length]; omega)
    have hs2 : (s.toList == []) = true := by rw [hs]; rfl
    have HB := Lib.hid (show identB s = false by
      have : s.data.toList = [] := List.eq_nil_of_length_eq_zero (by rw [data_length]; omega)
      simp [identB, this, headL])
    go_enter Tryz.func119, Tryz.ntmps119
    go_wp2_with fail
    go_ret
    rw [HB.out]
    exact ⟨rfl, Below.refl _ _⟩
  · have hs : ¬ s.toList = [] := fun e => by
      rw [ByteArray.toList_eq] at e
      have := data_length s
      rw [e] at this
      simp at this
      omega
    have hs2 : (s.toList == []) = false := by simpa using hs
    by_cases h32 : 32 < s.size
    · have t0 : decide ((32 : Int) < (s.size : Int)) = true := by simp; omega
      have HB := Lib.hid (show identB s = false by simp [identB]; omega)
      go_enter Tryz.func119, Tryz.ntmps119
      go_wp2_with fail
      go_ret
      rw [HB.out]
      exact ⟨rfl, Below.refl _ _⟩
    · have t0 : decide ((32 : Int) < (s.size : Int)) = false := by simp; omega
      have hpos : 0 < s.size := by omega
      have hd := drop_at s 0 hpos
      rw [List.drop_zero] at hd
      by_cases hl : 97 ≤ s[0].toNat ∧ s[0].toNat ≤ 122
      · have u0 : decide ((s[0].toNat : Int) < 97) = false := by simp; omega
        have u1 : decide ((122 : Int) < (s[0].toNat : Int)) = false := by simp; omega
        have HEND := Lib.hid (show s.data.toList.all okI = true → identB s = true from fun h => by
          unfold identB
          rw [h, hd]
          have : okL s[0] = true := by unfold okL; simpa using hl
          simp [headL, this]
          omega)
        have HNO := Lib.hid (show ∀ p (hp : p < s.size), okI s[p] = false → identB s = false from fun p hp h => by
          have h2 : s.data.toList.all okI = false := by
            rw [List.all_eq_false]
            refine ⟨s[p], ?_, by rw [h]; simp⟩
            have hm := List.getElem_mem (l := s.data.toList) (n := p) (by rw [data_length]; exact hp)
            exact hm
          unfold identB
          rw [h2]
          simp)
        clear hl hd
        go_enter Tryz.func119, Tryz.ntmps119
        go_wp2_with fail
        go_loopw [4] (fun _ wx => IdRel w s wx) (fun _ wx => s.size - wx.iterPos w.heap.size)
        case atStart => exact ⟨0, Nat.zero_le _, rfl, rfl⟩
        case round =>
          obtain ⟨pos, hp0, rfl, hall⟩ := hrel
          have HALL := Lib.hid hall
          clear hall
          by_cases hp : pos < s.size
          · by_cases ha : s[pos].toNat < 128
            · have hnx : ∀ ty, (Instr.next (.pointer (some ⟨w.heap.size, 0, none⟩)) true ty).run Tryz.prog (w.iter s pos) = _ := fun ty => run_next_ascii w s pos ty hp ha
              obtain ⟨c, hc⟩ : ∃ c, c = s[pos].toNat := ⟨_, rfl⟩
              rw [← hc] at hnx ha
              have HC := Lib.hid hc
              clear hc
              by_cases hok : (97 ≤ c ∧ c ≤ 122) ∨ (48 ≤ c ∧ c ≤ 57) ∨ c = 95
              · have HOK := Lib.hid hok
                have HNX := Lib.hid (show IdRel w s (w.iter s (pos + 1)) from ⟨pos + 1, by omega, rfl, by
                  rw [List.take_succ_eq_append_getElem (by rw [data_length]; exact hp), List.all_append, HALL.out]
                  simp only [List.all_cons, List.all_nil, Bool.true_and, Bool.and_true]
                  have e : s.data.toList[pos]'(by rw [data_length]; exact hp) = s[pos] := rfl
                  rw [e]
                  unfold okI
                  rw [← HC.out]
                  simpa using HOK.out⟩)
                by_cases h95 : c = 95
                · subst h95
                  go_wp2_with fail
                  all_goals first | exact ⟨HNX.out, by simp; omega⟩ | (exfalso; omega)
                · have t95 : ((c : Int) != 95) = true := by rw [bne_iff_ne]; omega
                  go_wp2_with fail
                  all_goals first | exact ⟨HNX.out, by simp; omega⟩ | (exfalso; omega)
              · have HBAD := Lib.hid (HNO.out pos hp (by unfold okI; rw [← HC.out]; simpa using hok))
                have t95 : ((c : Int) != 95) = true := by rw [bne_iff_ne]; omega
                go_wp2_with fail
                all_goals first | (exfalso; omega) | (go_ret; rw [HBAD.out]; exact ⟨rfl, below_iter w s _⟩) | (exfalso; simp only [Bool.not_eq_false', decide_eq_true_eq] at *; omega)
            · have hnx : ∀ ty, (Instr.next (.pointer (some ⟨w.heap.size, 0, none⟩)) true ty).run Tryz.prog (w.iter s pos) = _ := fun ty => run_next_any w s pos ty hp
              have hh := (decode_high s pos hp (by omega)).1
              obtain ⟨c, hc⟩ : ∃ c, c = (Utf8.decode s pos).1 := ⟨_, rfl⟩
              obtain ⟨p2, hp2⟩ : ∃ p2, p2 = pos + (Utf8.decode s pos).2 := ⟨_, rfl⟩
              rw [← hc, ← hp2] at hnx
              rw [← hc] at hh
              have HBAD := Lib.hid (HNO.out pos hp (by unfold okI; simp; omega))
              have t95 : ((c : Int) != 95) = true := by rw [bne_iff_ne]; omega
              clear hc hp2 ha
              go_wp2_with fail
              all_goals first | (exfalso; omega) | (go_ret; rw [HBAD.out]; exact ⟨rfl, below_iter w s _⟩) | (exfalso; simp only [Bool.not_eq_false', decide_eq_true_eq] at *; omega)
          · have hnx : ∀ ty, (Instr.next (.pointer (some ⟨w.heap.size, 0, none⟩)) true ty).run Tryz.prog (w.iter s pos) = _ := fun ty => run_next_end w s pos ty hp
            go_wp2_with fail
            go_ret
            rw [HEND.out (by
              have e : s.data.toList.take pos = s.data.toList := List.take_of_length_le (by rw [data_length]; omega)
              rw [← e]; exact HALL.out)]
            exact ⟨rfl, below_iter w s pos⟩
      · have HB := Lib.hid (show identB s = false by
          have : okL s[0] = false := by unfold okL; simpa using hl
          unfold identB
          rw [hd]
          simp only [headL, this, Bool.false_and, Bool.and_false])
        clear hd
        by_cases hl2 : s[0].toNat < 97
        · obtain ⟨c0, hc0⟩ : ∃ c0, c0 = s[0].toNat := ⟨_, rfl⟩
          have u0 : decide ((s[0].toNat : Int) < 97) = true := by simp; omega
          clear hl hl2 hc0
          go_enter Tryz.func119, Tryz.ntmps119
          go_wp2_with fail
          go_ret
          rw [HB.out]
          exact ⟨rfl, Below.refl _ _⟩
        · have u0 : decide ((s[0].toNat : Int) < 97) = false := by simp; omega
          have u1 : decide ((122 : Int) < (s[0].toNat : Int)) = true := by simp; omega
          clear hl hl2
          go_enter Tryz.func119, Tryz.ntmps119
          go_wp2_with fail
          go_ret
          rw [HB.out]
          exact ⟨rfl, Below.refl _ _⟩
end Go.Proofs.YtehhafnjbkbmjaaGreat.Disk

/- commitlog: valid entries. -/
namespace Go.Proofs.YtehhafnjbkbmjaaGreat.Disk
open Go Go.RowKit Go.Proofs.YtehhafnjbkbmjaaGreatW.PrintWords Go.Proofs.YtehhafnjbkbmjaaGreatW.PrintLast Go.Proofs.YtehhafnjbkbmjaaGreatW.PrintMore Go.Proofs.YtehhafnjbkbmjaaGreat.PCommitlogSequence
abbrev LE := Go.Proofs.YtehhafnjbkbmjaaGreat.PCommitlogSequence.S46
abbrev tLE : Nat := 46
def leC (x : LE) : Array Value := #[.int .i64 x.f0, .int .i64 x.f1, .int .i64 x.f2, .int .i64 x.f3, .int .i64 x.f4, .string x.f5]
def rangeB (x : LE) : Bool := decide (1 ≤ x.f0 ∧ x.f0 ≤ 7 ∧ 0 ≤ x.f1 ∧ 0 ≤ x.f2 ∧ 0 ≤ x.f3 ∧ 0 ≤ x.f4)
def namedB (x : LE) : Bool := if x.f0 = 6 ∨ x.f0 = 7 then decide (x.f5.size = 0) else identB x.f5
def numberedB (x : LE) : Bool := if x.f0 = 1 then true else if (x.f0 = 4 ∨ x.f0 = 5) ∧ x.f1 ≠ 0 then false else decide (x.f2 = 0 ∧ x.f3 = 0 ∧ x.f4 = 0)
/-- Whether an entry is valid. -/
def validB (x : LE) : Bool := rangeB x && (namedB x && numberedB x)
theorem str_nil (s : ByteArray) : s.toList.isEmpty = decide (s.size = 0) := by
  rw [ByteArray.toList_eq]
  by_cases h : s.size = 0
  · have : s.data.toList = [] := List.eq_nil_of_length_eq_zero (by rw [data_length]; omega)
    rw [this]
    simp [h]
  · have : ¬ s.data.toList = [] := fun e => by
      have := data_length s
      rw [e] at this
      simp at this
      omega
    rw [decide_eq_false h]
    cases e : s.data.toList with
    | nil => exact absurd e this
    | cons _ _ => rfl
section
variable (w : World) (b : Nat) (f0 f1 f2 f3 f4 : Int) (s : ByteArray)
set_option maxHeartbeats 1000000 in
theorem named_calls (h : w.heap[b]? = some (.cells (leC ⟨f0, f1, f2, f3, f4, s⟩) tLE (0, 0))) (h0 : 1 ≤ f0 ∧ f0 ≤ 7) :
    Calls Tryz.prog 118 #[.pointer (some ⟨b, 0, none⟩)] w fun e w' => e = .returned (.bool (namedB ⟨f0, f1, f2, f3, f4, s⟩)) ∧ Below w.heap.size w w' := by
  have c0 := cell_blk h 0
  have c5 := cell_blk h 5
  simp [leC] at c0 c5
  clear h
  by_cases hk : f0 = 6 ∨ f0 = 7
  · have e : namedB ⟨f0, f1, f2, f3, f4, s⟩ = s.toList.isEmpty := by unfold namedB; rw [if_pos hk, str_nil]
    rw [e]
    clear e
    have H5 := Lib.hid c5
    rcases hk with rfl | rfl
    all_goals
      go_enter Tryz.func118, Tryz.ntmps118
      go_wp2_with fail
      go_ret
      exact ⟨rfl, Below.refl _ _⟩
  · have e : namedB ⟨f0, f1, f2, f3, f4, s⟩ = identB s := by unfold namedB; rw [if_neg hk]
    rw [e]
    clear e
    have t6 : (f0 == 6) = false := by rw [beq_eq_false_iff_ne]; omega
    have t7 : (f0 == 7) = false := by rw [beq_eq_false_iff_ne]; omega
    clear hk
    go_enter Tryz.func118, Tryz.ntmps118
    go_wp2_with (first | (go_at_call 119; refine (IsIdent_calls w s).mono ?_; rintro e w1 ⟨rfl, hb⟩; have HB := Lib.hid hb; clear hb) | fail)
    go_ret
    exact ⟨rfl, HB.out⟩
set_option maxHeartbeats 1000000 in
theorem numbered_calls (h : w.heap[b]? = some (.cells (leC ⟨f0, f1, f2, f3, f4, s⟩) tLE (0, 0))) (h0 : 1 ≤ f0 ∧ f0 ≤ 7) :
    Calls Tryz.prog 120 #[.pointer (some ⟨b, 0, none⟩)] w fun e w' => e = .returned (.bool (numberedB ⟨f0, f1, f2, f3, f4, s⟩)) ∧ w = w' := by
  have c0 := cell_blk h 0
  have c1 := cell_blk h 1
  have c2 := cell_blk h 2
  have c3 := cell_blk h 3
  have c4 := cell_blk h 4
  simp [leC] at c0 c1 c2 c3 c4
  clear h
  by_cases hk : f0 = 1
  · subst hk
    go_enter Tryz.func120, Tryz.ntmps120
    go_wp2_with fail
    go_ret
    exact ⟨rfl, rfl⟩
  · have t1 : (f0 == 1) = false := by rw [beq_eq_false_iff_ne]; omega
    by_cases h4 : (f0 = 4 ∨ f0 = 5) ∧ f1 ≠ 0
    · have e : numberedB ⟨f0, f1, f2, f3, f4, s⟩ = false := by unfold numberedB; rw [if_neg hk, if_pos h4]
      rw [e]
      clear e
      obtain ⟨h4, h5⟩ := h4
      have t5 : (f1 != 0) = true := by rw [bne_iff_ne]; omega
      clear hk
      rcases h4 with rfl | rfl
      all_goals
        go_enter Tryz.func120, Tryz.ntmps120
        go_wp2_with fail
        go_ret
        exact ⟨rfl, rfl⟩
    · have e : numberedB ⟨f0, f1, f2, f3, f4, s⟩ = decide (f2 = 0 ∧ f3 = 0 ∧ f4 = 0) := by unfold numberedB; rw [if_neg hk, if_neg h4]
      rw [e]
      clear e
      have HH := Lib.hid h4
      have t2 : (f2 == 0) = decide (f2 = 0) := by by_cases e : f2 = 0 <;> simp [e]
      clear hk h4
      by_cases e2 : f2 = 0 ∧ f3 = 0 ∧ f4 = 0
      · obtain ⟨rfl, rfl, rfl⟩ := e2
        have HD := Lib.hid (show decide ((0 : Int) = 0 ∧ (0 : Int) = 0 ∧ (0 : Int) = 0) = true by decide)
        rw [HD.out]
        clear t2
        by_cases h5 : f0 = 4 ∨ f0 = 5
        · obtain rfl : f1 = 0 := by have := HH.out; omega
          rcases h5 with rfl | rfl
          all_goals
            go_enter Tryz.func120, Tryz.ntmps120
            go_wp2_with fail
            go_ret
            exact ⟨rfl, rfl⟩
        · have t4 : (f0 == 4) = false := by rw [beq_eq_false_iff_ne]; omega
          have t5 : (f0 == 5) = false := by rw [beq_eq_false_iff_ne]; omega
          clear h5
          go_enter Tryz.func120, Tryz.ntmps120
          go_wp2_with fail
          go_ret
          exact ⟨rfl, rfl⟩
      · rw [decide_eq_false e2]
        have HE := Lib.hid e2
        clear e2 t2
        by_cases h5 : f0 = 4 ∨ f0 = 5
        · obtain rfl : f1 = 0 := by have := HH.out; omega
          by_cases e3 : f2 = 0
          · subst e3
            by_cases e4 : f3 = 0
            · subst e4
              have t6 : (f4 == 0) = false := by have := HE.out; rw [beq_eq_false_iff_ne]; omega
              rcases h5 with rfl | rfl
              all_goals
                go_enter Tryz.func120, Tryz.ntmps120
                go_wp2_with fail
                go_ret
                exact ⟨rfl, rfl⟩
            · have t6 : (f3 == 0) = false := by rw [beq_eq_false_iff_ne]; omega
              clear e4
              rcases h5 with rfl | rfl
              all_goals
                go_enter Tryz.func120, Tryz.ntmps120
                go_wp2_with fail
                go_ret
                exact ⟨rfl, rfl⟩
          · have t6 : (f2 == 0) = false := by rw [beq_eq_false_iff_ne]; omega
            clear e3
            rcases h5 with rfl | rfl
            all_goals
              go_enter Tryz.func120, Tryz.ntmps120
              go_wp2_with fail
              go_ret
              exact ⟨rfl, rfl⟩
        · have t4 : (f0 == 4) = false := by rw [beq_eq_false_iff_ne]; omega
          have t5 : (f0 == 5) = false := by rw [beq_eq_false_iff_ne]; omega
          clear h5
          by_cases e3 : f2 = 0
          · subst e3
            by_cases e4 : f3 = 0
            · subst e4
              have t6 : (f4 == 0) = false := by have := HE.out; rw [beq_eq_false_iff_ne]; omega
              go_enter Tryz.func120, Tryz.ntmps120
              go_wp2_with fail
              go_ret
              exact ⟨rfl, rfl⟩
            · have t6 : (f3 == 0) = false := by rw [beq_eq_false_iff_ne]; omega
              clear e4
              go_enter Tryz.func120, Tryz.ntmps120
              go_wp2_with fail
              go_ret
              exact ⟨rfl, rfl⟩
          · have t6 : (f2 == 0) = false := by rw [beq_eq_false_iff_ne]; omega
            clear e3
            go_enter Tryz.func120, Tryz.ntmps120
            go_wp2_with fail
            go_ret
            exact ⟨rfl, rfl⟩
set_option maxHeartbeats 2000000 in
theorem valid_calls : Calls Tryz.prog 93 #[.agg #[.int .i64 f0, .int .i64 f1, .int .i64 f2, .int .i64 f3, .int .i64 f4, .string s]] w fun e w' => e = .returned (.bool (validB ⟨f0, f1, f2, f3, f4, s⟩)) ∧ Below w.heap.size w w' := by
  by_cases hr : 1 ≤ f0 ∧ f0 ≤ 7 ∧ 0 ≤ f1 ∧ 0 ≤ f2 ∧ 0 ≤ f3 ∧ 0 ≤ f4
  · have hblk := heap_alloc_new w (.cells (leC ⟨f0, f1, f2, f3, f4, s⟩) tLE)
    have e : validB ⟨f0, f1, f2, f3, f4, s⟩ = (namedB ⟨f0, f1, f2, f3, f4, s⟩ && numberedB ⟨f0, f1, f2, f3, f4, s⟩) := by unfold validB rangeB; rw [decide_eq_true hr, Bool.true_and]
    rw [e]
    clear e
    obtain ⟨r1, r2, r3, r4, r5, r6⟩ := hr
    have hN := fun wx (hx : wx = w.alloc (.cells (leC ⟨f0, f1, f2, f3, f4, s⟩) tLE)) => named_calls wx w.heap.size f0 f1 f2 f3 f4 s (by rw [hx]; exact hblk) ⟨r1, r2⟩
    have HN := Lib.hid hN
    have HM := Lib.hid (fun wx (hx : wx.heap[w.heap.size]? = some (.cells (leC ⟨f0, f1, f2, f3, f4, s⟩) tLE (0, 0))) => numbered_calls wx w.heap.size f0 f1 f2 f3 f4 s hx ⟨r1, r2⟩)
    have HBLK := Lib.hid hblk
    clear hN hblk
    cases hn : namedB ⟨f0, f1, f2, f3, f4, s⟩
    · have HB := Lib.hid hn
      clear hn
      go_enter Tryz.func93, Tryz.ntmps93
      go_wp2_with (first | (go_at_call 118; refine (HN.out _ rfl).mono ?_; rw [HB.out]; rintro e w1 ⟨rfl, hb⟩; have HB1 := Lib.hid hb; clear hb) | fail)
      go_ret
      exact ⟨rfl, (Below.of_alloc' w _).trans (HB1.out.mono (by simp))⟩
    · have HB := Lib.hid hn
      clear hn
      go_enter Tryz.func93, Tryz.ntmps93
      go_wp2_with (first | (go_at_call 118; refine (HN.out _ rfl).mono ?_; rw [HB.out]; rintro e w1 ⟨rfl, hb⟩; have HB1 := Lib.hid hb; clear hb) | (go_at_call 120; refine (HM.out _ ((HB1.out.block _ (by simp)).trans HBLK.out)).mono ?_; rintro e w2 ⟨rfl, rfl⟩) | fail)
      go_ret
      exact ⟨rfl, (Below.of_alloc' w _).trans (HB1.out.mono (by simp))⟩
  · have e : validB ⟨f0, f1, f2, f3, f4, s⟩ = false := by unfold validB rangeB; rw [decide_eq_false hr, Bool.false_and]
    rw [e]
    have HR := Lib.hid hr
    clear e hr
    by_cases q0 : f0 < 1
    · go_enter Tryz.func93, Tryz.ntmps93
      go_wp2_with fail
      go_ret
      exact ⟨rfl, Below.of_alloc' w _⟩
    · by_cases q1 : 7 < f0
      · go_enter Tryz.func93, Tryz.ntmps93
        go_wp2_with fail
        go_ret
        exact ⟨rfl, Below.of_alloc' w _⟩
      · by_cases q2 : f1 < 0
        · go_enter Tryz.func93, Tryz.ntmps93
          go_wp2_with fail
          go_ret
          exact ⟨rfl, Below.of_alloc' w _⟩
        · by_cases q3 : f2 < 0
          · go_enter Tryz.func93, Tryz.ntmps93
            go_wp2_with fail
            go_ret
            exact ⟨rfl, Below.of_alloc' w _⟩
          · by_cases q4 : f3 < 0
            · go_enter Tryz.func93, Tryz.ntmps93
              go_wp2_with fail
              go_ret
              exact ⟨rfl, Below.of_alloc' w _⟩
            · have q5 : f4 < 0 := by have := HR.out; omega
              go_enter Tryz.func93, Tryz.ntmps93
              go_wp2_with fail
              go_ret
              exact ⟨rfl, Below.of_alloc' w _⟩
end
end Go.Proofs.YtehhafnjbkbmjaaGreat.Disk

/- Varints: what is written. -/
namespace Go.Proofs.YtehhafnjbkbmjaaGreat.Disk
open Go Go.RowKit Go.Proofs.YtehhafnjbkbmjaaGreatW.PrintWords Go.Proofs.YtehhafnjbkbmjaaGreatW.PrintLast Go.Proofs.YtehhafnjbkbmjaaGreatW.PrintMore Go.Proofs.YtehhafnjbkbmjaaGreat.PCommitlogSequence
/-- The bytes of a number, seven bits each, at most k of them. -/
def encVk : Nat → Nat → List Int
  | 0, _ => []
  | k + 1, n => if n < 128 then [(n : Int)] else ((n % 128 + 128 : Nat) : Int) :: encVk k (n / 128)
def encV (n : Nat) : List Int := encVk 10 n
theorem encVk_length : ∀ k n, (encVk k n).length ≤ k
  | 0, _ => Nat.le_refl _
  | k + 1, n => by
    unfold encVk
    split
    · simp
    · have := encVk_length k (n / 128)
      simp
      omega
theorem encVk_bytes : ∀ k n, ∀ x ∈ encVk k n, 0 ≤ x ∧ x ≤ 255
  | 0, _, x, hx => by simp [encVk] at hx
  | k + 1, n, x, hx => by
    unfold encVk at hx
    split at hx
    · simp at hx
      omega
    · rcases List.mem_cons.1 hx with rfl | hx
      · omega
      · exact encVk_bytes k _ x hx
theorem encV_length (n : Nat) : (encV n).length ≤ 10 := encVk_length 10 n
theorem encV_bytes (n : Nat) : ∀ x ∈ encV n, 0 ≤ x ∧ x ≤ 255 := encVk_bytes 10 n
theorem or_128 (n : Nat) : Go.bits .or .u8 ((n : Int) % 256) 128 = ((n % 128 + 128 : Nat) : Int) := by
  have key : ∀ i : Fin 256, Go.bits .or .u8 (i.val : Int) 128 = ((i.val % 128 + 128 : Nat) : Int) := by decide +kernel
  have := key ⟨n % 256, Nat.mod_lt _ (by omega)⟩
  simp only at this
  rw [show ((n : Int) % 256) = ((n % 256 : Nat) : Int) by omega, this]
  congr 1
  omega
theorem enc_l0 : ∀ (m k n : Nat) (acc : List Int), n < 128 ^ (m + 1) → m + 1 ≤ k → acc.length + m ≤ 1000 → varint_Encode.l0 k n acc = some (acc ++ encVk (m + 1) n)
  | m, k, n, acc, hn, hk, ha => by
    obtain ⟨k, rfl⟩ : ∃ k', k = k' + 1 := ⟨k - 1, by omega⟩
    simp only [varint_Encode.l0, encVk]
    by_cases h : n < 128
    · rw [if_neg (by omega), if_pos (by omega), if_pos h, show (n : Int) % 256 = n by omega]
    · rw [if_pos (by omega), if_pos (by omega), if_neg h, or_128, show (n : Int) / 128 = ((n / 128 : Nat) : Int) by omega]
      cases m with
      | zero => exfalso; simp at hn; omega
      | succ m =>
        rw [enc_l0 m k (n / 128) _ (by rw [Nat.pow_succ] at hn; omega) (by omega) (by simp; omega)]
        simp
theorem enc_f (n k : Nat) (hn : n < 18446744073709551616) (hk : 10 ≤ k) : varint_Encode.f k n = some (encV n) := by
  have := enc_l0 9 k n [] (Nat.lt_of_lt_of_le hn (by decide)) hk (by decide)
  simpa [varint_Encode.f, encV] using this
theorem u64_small {x : Int} (h0 : 0 ≤ x) (h1 : x < 18446744073709551616) : IntKind.u64.wrap x = x := by
  unfold IntKind.wrap
  simp only [IntKind.bits, IntKind.signed, Bool.false_and]
  have : x % (2 ^ 64 : Int) = x := Int.emod_eq_of_lt h0 (by simpa using h1)
  rw [this]
  simp
theorem renc_l0 : ∀ (m k n : Nat) (acc : List Int), n < 18446744073709551616 → n < 128 ^ (m + 1) → m + 1 ≤ k → acc.length + m ≤ 1000 → laminaref01_Encode.l0 k n acc = some (acc ++ encVk (m + 1) n)
  | m, k, n, acc, h64, hn, hk, ha => by
    obtain ⟨k, rfl⟩ : ∃ k', k = k' + 1 := ⟨k - 1, by omega⟩
    simp only [laminaref01_Encode.l0, encVk]
    by_cases h : n < 128
    · rw [if_neg (by omega), if_pos (by omega), if_pos h, show (n : Int) % 256 = n by omega]
    · have e1 : Int.tmod (n : Int) 128 = ((n % 128 : Nat) : Int) := by rw [Int.tmod_eq_emod_of_nonneg (by omega)]; omega
      have e2 : Int.tdiv (n : Int) 128 = ((n / 128 : Nat) : Int) := by rw [Int.tdiv_eq_ediv_of_nonneg (by omega)]; omega
      rw [if_pos (by omega), if_pos (by omega), if_neg h, e1, e2, u64_small (by omega) (by omega), u64_small (by omega) (by omega), show (128 + ((n % 128 : Nat) : Int)) % 256 = ((n % 128 + 128 : Nat) : Int) by omega]
      cases m with
      | zero => exfalso; simp at hn; omega
      | succ m =>
        rw [renc_l0 m k (n / 128) _ (by omega) (by rw [Nat.pow_succ] at hn; omega) (by omega) (by simp; omega)]
        simp
theorem renc_f (n k : Nat) (hn : n < 18446744073709551616) (hk : 10 ≤ k) : laminaref01_Encode.f k n = some (encV n) := by
  have := renc_l0 9 k n [] hn (Nat.lt_of_lt_of_le hn (by decide)) hk (by decide)
  simpa [laminaref01_Encode.f, encV] using this
/-- The reference's Valid. -/
theorem rvalid_f (x : LE) (k : Nat) (hk : 60 < k) : laminaref24_Valid.f k x.f0 x.f1 x.f2 x.f3 x.f4 x.f5 = some (validB x) := by
  obtain ⟨k, rfl⟩ : ∃ k', k = k' + 2 := ⟨k - 2, by omega⟩
  obtain ⟨f0, f1, f2, f3, f4, s⟩ := x
  have hs : s.toList = [] ↔ s.size = 0 := by
    have := str_nil s
    rw [← List.isEmpty_iff, this]
    simp
  simp only [laminaref24_Valid.f, laminaref24_Valid.j0, laminaref24_Valid.j1, ident_f s k (by omega), Option.bind_some, hs]
  unfold validB rangeB namedB numberedB
  simp only
  by_cases r0 : f0 < 1
  · rw [if_pos r0, if_pos trivial, decide_eq_false (by omega), Bool.false_and]
  rw [if_neg r0]
  by_cases r1 : f0 > 7
  · rw [if_pos r1, if_pos trivial, decide_eq_false (by omega), Bool.false_and]
  rw [if_neg r1]
  by_cases r2 : f1 < 0
  · rw [if_pos r2, if_pos trivial, decide_eq_false (by omega), Bool.false_and]
  rw [if_neg r2]
  by_cases r3 : f2 < 0
  · rw [if_pos r3, if_pos trivial, decide_eq_false (by omega), Bool.false_and]
  rw [if_neg r3]
  by_cases r4 : f3 < 0
  · rw [if_pos r4, if_pos trivial, decide_eq_false (by omega), Bool.false_and]
  rw [if_neg r4]
  by_cases r5 : f4 < 0
  · rw [decide_eq_true r5, if_pos rfl, decide_eq_false (by omega), Bool.false_and]
  rw [decide_eq_false r5, if_neg Bool.false_ne_true, decide_eq_true (by omega), Bool.true_and]
  obtain ⟨q, hq⟩ : ∃ q, q = identB s := ⟨_, rfl⟩
  rw [← hq]
  clear hq hs r2 r3 r4 r5
  obtain rfl | rfl | rfl | rfl | rfl | rfl | rfl : f0 = 1 ∨ f0 = 2 ∨ f0 = 3 ∨ f0 = 4 ∨ f0 = 5 ∨ f0 = 6 ∨ f0 = 7 := by omega
  all_goals
    clear r0 r1
    by_cases z0 : s.size = 0
    all_goals
      by_cases z1 : f1 = 0
      all_goals
        by_cases z2 : f2 = 0
        all_goals
          by_cases z3 : f3 = 0
          all_goals
            by_cases z4 : f4 = 0
            all_goals cases q <;> simp [z0, z1, z2, z3, z4]
end Go.Proofs.YtehhafnjbkbmjaaGreat.Disk

/- An entry's body; what a varint reads. -/
namespace Go.Proofs.YtehhafnjbkbmjaaGreat.Disk
open Go Go.RowKit Go.Proofs.YtehhafnjbkbmjaaGreatW.PrintWords Go.Proofs.YtehhafnjbkbmjaaGreatW.PrintLast Go.Proofs.YtehhafnjbkbmjaaGreatW.PrintMore Go.Proofs.YtehhafnjbkbmjaaGreat.PCommitlogSequence
def numsLE (x : LE) : List Nat := [x.f0.toNat, x.f1.toNat, x.f2.toNat, x.f3.toNat, x.f4.toNat, x.f5.size]
/-- The body of an entry. -/
def bodyF (x : LE) : List Int := (numsLE x).flatMap encV ++ bytesOf x.f5
theorem flat_enc_length : ∀ ns : List Nat, (ns.flatMap encV).length ≤ 10 * ns.length
  | [] => by simp
  | n :: r => by
    have := flat_enc_length r
    have := encV_length n
    simp only [List.flatMap_cons, List.length_append, List.length_cons]
    omega
theorem rd_map (ns : List Nat) (i : Nat) (h : i < ns.length) : rd (ns.map fun n : Nat => (n : Int)) (i : Int) = (ns[i] : Int) := by
  simp [rd, List.getD, h]
theorem rbody_l0 (ns : List Nat) (hns : ∀ n ∈ ns, n < 18446744073709551616) (hnl : ns.length ≤ 100) (s : ByteArray) (hs : s.size ≤ 1000000) (a0 a1 a2 a3 a4 : Int) : ∀ (d k i : Nat) (acc : List Int), ns.length - i = d → i ≤ ns.length → d + 12 ≤ k → acc.length ≤ 10 * i →
    laminaref24_body.l0 k (ns.map fun n : Nat => (n : Int)) acc i a0 a1 a2 a3 a4 s = some (acc ++ (ns.drop i).flatMap encV ++ bytesOf s)
  | 0, k, i, acc, hd, hi, hk, ha => by
    obtain ⟨k, rfl⟩ : ∃ m, k = m + 1 := ⟨k - 1, by omega⟩
    obtain rfl : i = ns.length := by omega
    simp only [laminaref24_body.l0, List.length_map]
    rw [if_neg (by omega), if_pos (by omega), List.drop_length]
    simp
  | d + 1, k, i, acc, hd, hi, hk, ha => by
    obtain ⟨k, rfl⟩ : ∃ m, k = m + 1 := ⟨k - 1, by omega⟩
    have hlt : i < ns.length := by omega
    have e : wrap64 ((i : Int) + 1) = ((i + 1 : Nat) : Int) := by unfold wrap64; omega
    have hl := encV_length ns[i]
    simp only [laminaref24_body.l0, List.length_map, rd_map ns i hlt, renc_f ns[i] k (hns _ (List.getElem_mem hlt)) (by omega), Option.bind_some, e]
    rw [if_pos (by omega), if_pos (by omega), if_pos (by omega), rbody_l0 ns hns hnl s hs a0 a1 a2 a3 a4 d k (i + 1) _ (by omega) (by omega) (by omega) (by simp; omega)]
    rw [List.drop_eq_getElem_cons hlt, List.flatMap_cons]
    simp
theorem rangeB_iff {x : LE} (h : rangeB x = true) : 1 ≤ x.f0 ∧ x.f0 ≤ 7 ∧ 0 ≤ x.f1 ∧ 0 ≤ x.f2 ∧ 0 ≤ x.f3 ∧ 0 ≤ x.f4 := by simpa [rangeB] using h
theorem validB_range {x : LE} (h : validB x = true) : rangeB x = true := by
  unfold validB at h
  simp only [Bool.and_eq_true] at h
  exact h.1
theorem identB_size {s : ByteArray} (h : identB s = true) : s.size ≤ 32 := by
  unfold identB at h
  simp only [Bool.and_eq_true, decide_eq_true_eq] at h
  exact h.1
theorem validB_size {x : LE} (h : validB x = true) : x.f5.size ≤ 32 := by
  unfold validB namedB at h
  simp only [Bool.and_eq_true] at h
  have h1 := h.2.1
  split at h1
  · have h2 := of_decide_eq_true h1
    omega
  · exact identB_size h1
/-- Whether the fields are numbers of 64 bits. -/
structure WfLE (x : LE) : Prop where
  h1 : x.f1 ≤ 9223372036854775807
  h2 : x.f2 ≤ 9223372036854775807
  h3 : x.f3 ≤ 9223372036854775807
  h4 : x.f4 ≤ 9223372036854775807
theorem u64_cast {x : Int} (h0 : 0 ≤ x) (h1 : x ≤ 9223372036854775807) : IntKind.u64.wrap x = ((x.toNat : Nat) : Int) := by rw [u64_small h0 (by omega)]; omega
theorem rbody_f (x : LE) (hr : rangeB x = true) (hw : WfLE x) (hs : x.f5.size ≤ 1000) (k : Nat) (hk : 20 < k) : laminaref24_body.f k x.f0 x.f1 x.f2 x.f3 x.f4 x.f5 = some (bodyF x) := by
  obtain ⟨r1, r2, r3, r4, r5, r6⟩ := rangeB_iff hr
  have := rbody_l0 (numsLE x) (by
    intro n hn
    have h1 := hw.h1
    have h2 := hw.h2
    have h3 := hw.h3
    have h4 := hw.h4
    simp only [numsLE, List.mem_cons, List.not_mem_nil, or_false] at hn
    omega) (show 6 ≤ 100 by decide) x.f5 (by omega) x.f0 x.f1 x.f2 x.f3 x.f4 6 k 0 [] rfl (Nat.zero_le _) (by omega) (by decide)
  unfold laminaref24_body.f bodyF
  rw [u64_cast (by omega) (by omega), u64_cast r3 hw.h1, u64_cast r4 hw.h2, u64_cast r5 hw.h3, u64_cast r6 hw.h4, u64_small (x := (x.f5.size : Int)) (by omega) (by omega)]
  simpa [numsLE] using this
theorem bodyF_length {x : LE} (hs : x.f5.size ≤ 1000) : (bodyF x).length ≤ 1060 := by
  have := flat_enc_length (numsLE x)
  have e : (numsLE x).length = 6 := rfl
  unfold bodyF
  rw [List.length_append, bytesOf_length]
  omega
theorem bytesOf_bytes (s : ByteArray) : ∀ y ∈ bytesOf s, 0 ≤ y ∧ y ≤ 255 := by
  intro y hy
  obtain ⟨c, _, rfl⟩ := List.mem_map.1 hy
  have := c.toNat_lt
  exact ⟨by omega, by omega⟩
theorem bodyF_bytes (x : LE) : ∀ y ∈ bodyF x, 0 ≤ y ∧ y ≤ 255 := by
  intro y hy
  unfold bodyF at hy
  rcases List.mem_append.1 hy with hy | hy
  · obtain ⟨n, _, h⟩ := List.mem_flatMap.1 hy
    exact encV_bytes n y h
  · exact bytesOf_bytes x.f5 y hy
end Go.Proofs.YtehhafnjbkbmjaaGreat.Disk

/- What a varint reads: the program's and the reference's Decode. -/
namespace Go.Proofs.YtehhafnjbkbmjaaGreat.Disk
open Go Go.RowKit Go.Proofs.YtehhafnjbkbmjaaGreatW.PrintWords Go.Proofs.YtehhafnjbkbmjaaGreatW.PrintLast Go.Proofs.YtehhafnjbkbmjaaGreatW.PrintMore Go.Proofs.YtehhafnjbkbmjaaGreat.PCommitlogSequence
/-- A number out of the bytes at hand, the i-th of which comes next: the number, how many bytes it took, the error. -/
def decGo : List Int → Nat → Nat → Nat × Nat × Int
  | [], _, _ => (0, 0, 2)
  | c :: r, i, n => if (i = 9 ∧ 1 < c) ∨ (0 < i ∧ c = 0) then (0, 0, 4) else if c < 128 then (n + c.toNat * 128 ^ i, i + 1, 0) else decGo r (i + 1) (n + (c.toNat - 128) * 128 ^ i)
def decV (b : List Int) (off : Int) : Nat × Int × Int :=
  if off < 0 ∨ (b.length : Int) < off then (0, 0, 1)
  else if (decGo (b.drop off.toNat) 0 0).2.2 = 0 then ((decGo (b.drop off.toNat) 0 0).1, off + (decGo (b.drop off.toNat) 0 0).2.1, 0) else (0, 0, (decGo (b.drop off.toNat) 0 0).2.2)
def resV (off : Nat) (r : Nat × Nat × Int) : Int × Int × Int := if r.2.2 = 0 then ((r.1 : Int), (off : Int) + r.2.1, 0) else (0, 0, r.2.2)
theorem pow7 (i : Nat) : (128 : Nat) ^ i = 2 ^ (7 * i) := by rw [Nat.pow_mul]
theorem pow_le9 {i : Nat} (h : i ≤ 9) : (128 : Nat) ^ i ≤ 9223372036854775808 := Nat.le_trans (Nat.pow_le_pow_right (by decide) h) (by decide)
theorem term_lt {i x : Nat} (hi : i ≤ 9) (hx : x < 128) (h9 : i = 9 → x ≤ 1) : x * 128 ^ i < 18446744073709551616 := by
  by_cases h : i = 9
  · subst h
    have := h9 rfl
    have e : (128 : Nat) ^ 9 = 9223372036854775808 := by decide
    rw [e]
    omega
  · have : (128 : Nat) ^ i ≤ 128 ^ 8 := Nat.pow_le_pow_right (by decide) (by omega)
    have e : (128 : Nat) ^ 8 = 72057594037927936 := by decide
    rw [e] at this
    have h2 : x * 128 ^ i ≤ 127 * 72057594037927936 := Nat.mul_le_mul (by omega) this
    omega
theorem or_term {i n x : Nat} (hi : i ≤ 9) (hn : n < 128 ^ i) (hx : x < 128) (h9 : i = 9 → x ≤ 1) : Go.bits .or .u64 (n : Int) (shl .u64 (x : Int) (7 * (i : Int))) = ((n + x * 128 ^ i : Nat) : Int) := by
  have ht := term_lt hi hx h9
  have hp := pow_le9 hi
  have e : shl .u64 (x : Int) (7 * (i : Int)) = ((x * 128 ^ i : Nat) : Int) := by
    unfold shl
    have e1 : min (7 * (i : Int)).toNat IntKind.u64.bits = 7 * i := by
      have : IntKind.u64.bits = 64 := rfl
      omega
    rw [e1]
    have e2 : (x : Int) * 2 ^ (7 * i) = ((x * 128 ^ i : Nat) : Int) := by
      rw [pow7]
      simp
    rw [e2]
    exact u64_small (by omega) (by omega)
  rw [e, u64_or_nat n (x * 128 ^ i) (by omega) ht, Nat.or_comm, pow7, nat_join (7 * i) _ n (Nat.mul_mod_left _ _) (by rw [← pow7]; exact hn), Nat.add_comm]
theorem and_127 {c : Int} (h0 : 0 ≤ c) (h1 : c ≤ 255) : IntKind.u64.wrap (Go.bits .and .u8 c 127) = ((c.toNat % 128 : Nat) : Int) := by
  obtain ⟨x, rfl⟩ : ∃ x : Nat, c = x := ⟨c.toNat, by omega⟩
  have := u8_and_nat x 127 (by omega) (by omega)
  rw [show ((127 : Nat) : Int) = 127 from rfl] at this
  rw [this, show x &&& 127 = x % 128 from Nat.and_two_pow_sub_one_eq_mod x 7]
  exact u64_small (by omega) (by omega)
theorem rd_at (b : List Int) (i : Nat) (h : i < b.length) : rd b (i : Int) = b[i] := by simp [rd, List.getD, h]
theorem w64_nat {n : Nat} (h : n ≤ 1099511627976) : wrap64 (n : Int) = (n : Int) := by unfold wrap64; omega
theorem next_lt {i n x : Nat} (hn : n < 128 ^ i) (hx : x < 128) : n + x * 128 ^ i < 128 ^ (i + 1) := by
  have : x * 128 ^ i ≤ 127 * 128 ^ i := Nat.mul_le_mul_right _ (by omega)
  rw [Nat.pow_succ]
  generalize 128 ^ i = p at *
  omega
/-- One byte that is there. -/
theorem dec_j2 (b : List Int) (off i n k : Nat) (c : Int) (q : Bool) (r : List Int) (hb : off + i ≤ 1099511627786) (hi : i ≤ 9) (hn : n < 128 ^ i) (h0 : 0 ≤ c) (h1 : c ≤ 255) (hq : q = true ↔ (i = 9 ∧ 1 < c))
    (ih : 128 ≤ c → i < 9 → varint_Decode.l0 k b off ((n + (c.toNat - 128) * 128 ^ i : Nat) : Int) ((i + 1 : Nat) : Int) = some (resV off (decGo r (i + 1) (n + (c.toNat - 128) * 128 ^ i)))) :
    varint_Decode.j2 (k + 1) b off n i c i q = some (resV off (decGo (c :: r) i n)) := by
  have e1 : wrap64 (7 * (i : Int)) = 7 * (i : Int) := by
    rw [show (7 * (i : Int)) = ((7 * i : Nat) : Int) by simp, w64_nat (by omega)]
  have e2 : wrap64 ((i : Int) + 1) = ((i + 1 : Nat) : Int) := w64_nat (n := i + 1) (by omega)
  have e0 : wrap64 ((off : Int) + (i : Int)) = ((off + i : Nat) : Int) := w64_nat (n := off + i) (by omega)
  have e3 : wrap64 (((off + i : Nat) : Int) + 1) = (off : Int) + ((i + 1 : Nat) : Int) := by
    rw [show ((off + i : Nat) : Int) + 1 = ((off + i + 1 : Nat) : Int) from rfl, w64_nat (by omega)]
    omega
  have hor := fun (h9 : i = 9 → c.toNat % 128 ≤ 1) => or_term hi hn (Nat.mod_lt c.toNat (by decide)) h9
  generalize hm : 128 ^ i = p at ih hor
  have hd : decGo (c :: r) i n = if (i = 9 ∧ 1 < c) ∨ (0 < i ∧ c = 0) then (0, 0, 4) else if c < 128 then (n + c.toNat * p, i + 1, 0) else decGo r (i + 1) (n + (c.toNat - 128) * p) := by
    rw [← hm]
    rfl
  clear hn hm
  rw [hd]
  unfold varint_Decode.j2
  rw [e0, e1, e2, e3]
  by_cases h9 : i = 9 ∧ 1 < c
  · rw [if_pos (hq.2 h9), if_pos (.inl h9)]
    simp [resV]
  · rw [if_neg (fun e => h9 (hq.1 e)), if_pos (by omega)]
    rw [and_127 h0 h1]
    by_cases hge : c ≥ 128
    · have hi9 : i ≠ 9 := fun e => h9 ⟨e, by omega⟩
      rw [if_pos hge, if_neg (by omega), if_neg (by omega), hor (fun e => absurd e hi9)]
      have e5 : c.toNat % 128 = c.toNat - 128 := by omega
      rw [e5]
      exact ih hge (by omega)
    · have e5 : c.toNat % 128 = c.toNat := by omega
      rw [if_neg hge, hor (fun e => by omega), e5]
      by_cases hz : c = 0
      · subst hz
        by_cases hi0 : 0 < i
        · rw [if_pos rfl, if_pos (by omega), if_pos (.inr ⟨hi0, rfl⟩)]
          simp [resV]
        · rw [if_pos rfl, if_neg (by omega), if_neg (by omega), if_pos (by omega)]
          simp [resV]
      · rw [if_neg hz, if_neg (by omega), if_pos (by omega)]
        simp [resV]
theorem dec_l0 (b : List Int) (hb : b.length ≤ 1099511627776) (hw : ∀ x ∈ b, 0 ≤ x ∧ x ≤ 255) (off : Nat) (ho : off ≤ b.length) : ∀ (d k i n : Nat), 10 - i = d → i ≤ 9 → 2 * d + 2 ≤ k → n < 128 ^ i →
    varint_Decode.l0 k b off n i = some (resV off (decGo (b.drop (off + i)) i n))
  | 0, k, i, n, hd, hi, hk, hn => absurd hi (by omega)
  | d + 1, k, i, n, hd, hi, hk, hn => by
    obtain ⟨k, rfl⟩ : ∃ m, k = m + 2 := ⟨k - 2, by clear hn; omega⟩
    have hih := fun n' (hn' : n' < 128 ^ (i + 1)) (h9 : i < 9) => dec_l0 b hb hw off ho d k (i + 1) n' (by clear hn hn'; omega) (by clear hn hn'; omega) (by clear hn hn'; omega) hn'
    have hnx := fun x (hx : x < 128) => next_lt (x := x) hn hx
    have hj := fun c q r h0 h1 hq ih => dec_j2 b off i n k c q r (by clear hn; omega) hi hn h0 h1 hq ih
    clear hn
    have e0 : wrap64 ((off : Int) + (i : Int)) = ((off + i : Nat) : Int) := w64_nat (n := off + i) (by omega)
    unfold varint_Decode.l0
    rw [if_pos (show (i : Int) < 10 by omega), e0]
    by_cases hlt : off + i < b.length
    · have hc := hw _ (List.getElem_mem hlt)
      rw [if_neg (by omega), if_pos (by omega), if_pos (by omega), rd_at b (off + i) hlt, List.drop_eq_getElem_cons hlt]
      obtain ⟨c, hce⟩ : ∃ c, c = b[off + i] := ⟨_, rfl⟩
      rw [← hce] at hc ⊢
      clear hce
      have hjj := fun q hq => hj c q (b.drop (off + i + 1)) hc.1 hc.2 hq (fun hge h9 => by
        have := hih _ (hnx (c.toNat - 128) (by omega)) h9
        rw [this, Nat.add_assoc])
      clear hj hih hnx
      by_cases hi9 : (i : Int) = 9
      · rw [if_pos hi9]
        exact hjj _ (by simp; omega)
      · rw [if_neg hi9]
        exact hjj _ (by simp; omega)
    · rw [if_pos (by omega), List.drop_of_length_le (by omega)]
      simp [decGo, resV]
theorem decV_res (b : List Int) (off : Nat) (ho : off ≤ b.length) : ((decV b off).1 : Int) = (resV off (decGo (b.drop off) 0 0)).1 ∧ (decV b off).2 = (resV off (decGo (b.drop off) 0 0)).2 := by
  unfold decV resV
  rw [if_neg (by omega), Int.toNat_natCast]
  split <;> simp
theorem dec_f (b : List Int) (hb : b.length ≤ 1099511627776) (hw : ∀ x ∈ b, 0 ≤ x ∧ x ≤ 255) (off : Int) (k : Nat) (hk : 30 < k) : varint_Decode.f k b off = some (((decV b off).1 : Int), (decV b off).2.1, (decV b off).2.2) := by
  obtain ⟨k, rfl⟩ : ∃ m, k = m + 1 := ⟨k - 1, by omega⟩
  unfold varint_Decode.f
  by_cases h0 : off < 0
  · rw [if_pos h0]
    simp [varint_Decode.j0, decV, h0]
  · rw [if_neg h0]
    by_cases h1 : off > (b.length : Int)
    · have : (b.length : Int) < off := h1
      simp [varint_Decode.j0, decV, h1]
    · obtain ⟨o, rfl⟩ : ∃ o : Nat, off = o := ⟨off.toNat, by omega⟩
      obtain ⟨q1, q2⟩ := decV_res b o (by omega)
      have := dec_l0 b hb hw o (by omega) 10 k 0 0 rfl (by omega) (by omega) (by decide)
      rw [Nat.add_zero] at this
      rw [decide_eq_false h1, q1, q2]
      simp only [varint_Decode.j0]
      rw [if_neg Bool.false_ne_true]
      exact this
end Go.Proofs.YtehhafnjbkbmjaaGreat.Disk

/- What a varint reads: the reference's Decode; fixed bytes. -/
namespace Go.Proofs.YtehhafnjbkbmjaaGreat.Disk
open Go Go.RowKit Go.Proofs.YtehhafnjbkbmjaaGreatW.PrintWords Go.Proofs.YtehhafnjbkbmjaaGreatW.PrintLast Go.Proofs.YtehhafnjbkbmjaaGreatW.PrintMore Go.Proofs.YtehhafnjbkbmjaaGreat.PCommitlogSequence
theorem mul_term {i n x p : Nat} (hp : p = 128 ^ i) (hi : i ≤ 9) (hn : n < p) (hx : x < 128) (h9 : i = 9 → x ≤ 1) : IntKind.u64.wrap ((n : Int) + IntKind.u64.wrap ((x : Int) * (p : Int))) = ((n + x * p : Nat) : Int) := by
  have ht : x * p < 18446744073709551616 := by rw [hp]; exact term_lt hi hx h9
  have hs : n + x * p < 18446744073709551616 := by
    by_cases h : i = 9
    · have e : p = 9223372036854775808 := by rw [hp, h]
      have hx1 := h9 h
      have : x * p ≤ 1 * p := Nat.mul_le_mul_right _ hx1
      omega
    · have hp8 : p ≤ 72057594037927936 := by
        rw [hp]
        exact Nat.le_trans (Nat.pow_le_pow_right (by decide) (show i ≤ 8 by omega)) (by decide)
      have : x * p ≤ 127 * 72057594037927936 := Nat.mul_le_mul (by omega) hp8
      omega
  have e1 : IntKind.u64.wrap ((x * p : Nat) : Int) = ((x * p : Nat) : Int) := u64_small (by omega) (by omega)
  rw [show (x : Int) * (p : Int) = ((x * p : Nat) : Int) by simp, e1]
  rw [show (n : Int) + ((x * p : Nat) : Int) = ((n + x * p : Nat) : Int) by simp]
  exact u64_small (by omega) (by omega)
theorem rdec_j2 (b : List Int) (off i n k p : Nat) (c : Int) (q : Bool) (r : List Int) (hp : p = 128 ^ i) (hb : off + i ≤ 1099511627786) (hi : i ≤ 9) (hn : n < p) (h0 : 0 ≤ c) (h1 : c ≤ 255) (hq : q = true ↔ ((i = 9 ∧ 1 < c) ∨ (0 < i ∧ c = 0)))
    (ih : 128 ≤ c → i < 9 → laminaref01_Decode.l0 k b off ((n + (c.toNat - 128) * p : Nat) : Int) ((p * 128 : Nat) : Int) ((i + 1 : Nat) : Int) = some (resV off (decGo r (i + 1) (n + (c.toNat - 128) * p)))) :
    laminaref01_Decode.j2 (k + 1) b off n p i c q = some (resV off (decGo (c :: r) i n)) := by
  have e2 : wrap64 ((i : Int) + 1) = ((i + 1 : Nat) : Int) := w64_nat (n := i + 1) (by omega)
  have e0 : wrap64 ((off : Int) + (i : Int)) = ((off + i : Nat) : Int) := w64_nat (n := off + i) (by omega)
  have e3 : wrap64 (((off + i : Nat) : Int) + 1) = (off : Int) + ((i + 1 : Nat) : Int) := by
    rw [show ((off + i : Nat) : Int) + 1 = ((off + i + 1 : Nat) : Int) from rfl, w64_nat (by omega)]
    omega
  have et : IntKind.u64.wrap (Int.tmod c 128) = ((c.toNat % 128 : Nat) : Int) := by
    rw [Int.tmod_eq_emod_of_nonneg h0, u64_small (by omega) (by omega)]
    omega
  have hor := fun (h9 : i = 9 → c.toNat % 128 ≤ 1) => mul_term hp hi hn (Nat.mod_lt c.toNat (by decide)) h9
  have hw : i < 9 → IntKind.u64.wrap ((p : Int) * 128) = ((p * 128 : Nat) : Int) := fun h => by
    have hp8 : p ≤ 72057594037927936 := by
      rw [hp]
      exact Nat.le_trans (Nat.pow_le_pow_right (by decide) (show i ≤ 8 by omega)) (by decide)
    rw [u64_small (by omega) (by omega)]
    omega
  have hd : decGo (c :: r) i n = if (i = 9 ∧ 1 < c) ∨ (0 < i ∧ c = 0) then (0, 0, 4) else if c < 128 then (n + c.toNat * p, i + 1, 0) else decGo r (i + 1) (n + (c.toNat - 128) * p) := by
    rw [hp]
    rfl
  clear hp hn
  rw [hd]
  unfold laminaref01_Decode.j2
  rw [e0, e2, e3, et]
  by_cases h9 : (i = 9 ∧ 1 < c) ∨ (0 < i ∧ c = 0)
  · rw [if_pos (hq.2 h9), if_pos h9]
    simp [resV]
  · rw [if_neg (fun e => h9 (hq.1 e)), if_neg h9]
    by_cases hlt : c < 128
    · have e5 : c.toNat % 128 = c.toNat := by omega
      rw [if_pos hlt, if_pos hlt, hor (fun e => by omega), e5]
      simp [resV]
    · have hi9 : i ≠ 9 := fun e => h9 (.inl ⟨e, by omega⟩)
      have e5 : c.toNat % 128 = c.toNat - 128 := by omega
      rw [if_neg hlt, if_neg hlt, hor (fun e => absurd e hi9), e5, hw (by omega)]
      exact ih (by omega) (by omega)
theorem rdec_l0 (b : List Int) (hb : b.length ≤ 1099511627776) (hw : ∀ x ∈ b, 0 ≤ x ∧ x ≤ 255) (off : Nat) (ho : off ≤ b.length) : ∀ (d k i n p : Nat), 10 - i = d → i ≤ 9 → 2 * d + 2 ≤ k → p = 128 ^ i → n < p →
    laminaref01_Decode.l0 k b off n p i = some (resV off (decGo (b.drop (off + i)) i n))
  | 0, k, i, n, p, hd, hi, hk, hp, hn => absurd hi (by omega)
  | d + 1, k, i, n, p, hd, hi, hk, hp, hn => by
    obtain ⟨k, rfl⟩ : ∃ m, k = m + 2 := ⟨k - 2, by clear hp; omega⟩
    have hp' : p * 128 = 128 ^ (i + 1) := by rw [hp, Nat.pow_succ]
    have hih := fun n' (hn' : n' < p * 128) (h9 : i < 9) => rdec_l0 b hb hw off ho d k (i + 1) n' (p * 128) (by clear hp hp'; omega) (by clear hp hp'; omega) (by clear hp hp'; omega) hp' hn'
    have hnx := fun x (hx : x < 128) => (show n + x * p < p * 128 from by
      have : x * p ≤ 127 * p := Nat.mul_le_mul_right _ (by omega)
      clear hp hp'
      omega)
    have hj := fun c q r h0 h1 hq ih => rdec_j2 b off i n k p c q r hp (by clear hp hp'; omega) hi hn h0 h1 hq ih
    clear hp hp' hn
    have e0 : wrap64 ((off : Int) + (i : Int)) = ((off + i : Nat) : Int) := w64_nat (n := off + i) (by omega)
    unfold laminaref01_Decode.l0
    rw [e0]
    by_cases hlt : off + i < b.length
    · have hc := hw _ (List.getElem_mem hlt)
      rw [if_neg (by omega), if_pos (by omega), if_pos (by omega), rd_at b (off + i) hlt, List.drop_eq_getElem_cons hlt]
      obtain ⟨c, hce⟩ : ∃ c, c = b[off + i] := ⟨_, rfl⟩
      rw [← hce] at hc ⊢
      clear hce
      have hjj := fun q hq => hj c q (b.drop (off + i + 1)) hc.1 hc.2 hq (fun hge h9 => by
        have := hih _ (hnx (c.toNat - 128) (by omega)) h9
        rw [this, Nat.add_assoc])
      clear hj hih hnx
      by_cases hi9 : (i : Int) = 9
      · rw [if_pos hi9]
        by_cases hc1 : c > 1
        · rw [if_pos hc1]
          exact hjj _ (by simp; omega)
        · rw [if_neg hc1, if_pos (by omega)]
          exact hjj _ (by simp; omega)
      · rw [if_neg hi9]
        by_cases hi0 : (i : Int) > 0
        · rw [if_pos hi0]
          exact hjj _ (by simp; omega)
        · rw [if_neg hi0]
          exact hjj _ (by simp; omega)
    · rw [if_pos (by omega), List.drop_of_length_le (by omega)]
      simp [decGo, resV]
theorem rdec_f (b : List Int) (hb : b.length ≤ 1099511627776) (hw : ∀ x ∈ b, 0 ≤ x ∧ x ≤ 255) (off : Int) (k : Nat) (hk : 30 < k) : laminaref01_Decode.f k b off = some (((decV b off).1 : Int), (decV b off).2.1, (decV b off).2.2) := by
  obtain ⟨k, rfl⟩ : ∃ m, k = m + 1 := ⟨k - 1, by omega⟩
  unfold laminaref01_Decode.f
  by_cases h0 : off < 0
  · rw [if_pos h0]
    simp [laminaref01_Decode.j0, decV, h0]
  · rw [if_neg h0]
    by_cases h1 : off > (b.length : Int)
    · have : (b.length : Int) < off := h1
      simp [laminaref01_Decode.j0, decV, h1]
    · obtain ⟨o, rfl⟩ : ∃ o : Nat, off = o := ⟨off.toNat, by omega⟩
      obtain ⟨q1, q2⟩ := decV_res b o (by omega)
      have := rdec_l0 b hb hw o (by omega) 10 k 0 0 1 rfl (by omega) (by omega) rfl (by decide)
      rw [Nat.add_zero] at this
      rw [decide_eq_false h1, q1, q2]
      simp only [laminaref01_Decode.j0]
      rw [if_neg Bool.false_ne_true]
      exact this
theorem rfixed_f (n k : Nat) (hn : n < 18446744073709551616) (hk : 8 < k) : laminaref01_Fixed.f k n 4 = some (le4 n) := by
  obtain ⟨k, rfl⟩ : ∃ m, k = m + 6 := ⟨k - 6, by omega⟩
  have em : ∀ m : Nat, Int.tmod (m : Int) 256 = ((m % 256 : Nat) : Int) := fun m => by rw [Int.tmod_eq_emod_of_nonneg (by omega)]; omega
  have ed : ∀ m : Nat, m < 18446744073709551616 → IntKind.u64.wrap (Int.tdiv (m : Int) 256) = ((m / 256 : Nat) : Int) := fun m hm => by rw [Int.tdiv_eq_ediv_of_nonneg (by omega), u64_small (by omega) (by omega)]; omega
  have w1 : wrap64 ((0 : Int) + 1) = 1 := by unfold wrap64; omega
  have w2 : wrap64 ((1 : Int) + 1) = 2 := by unfold wrap64; omega
  have w3 : wrap64 ((2 : Int) + 1) = 3 := by unfold wrap64; omega
  have w4 : wrap64 ((3 : Int) + 1) = 4 := by unfold wrap64; omega
  unfold laminaref01_Fixed.f
  rw [if_neg (by decide)]
  simp only [laminaref01_Fixed.j0, laminaref01_Fixed.l0, em, w1, w2, w3, w4, ed n hn, ed (n / 256) (by omega), ed (n / 256 / 256) (by omega), ed (n / 256 / 256 / 256) (by omega)]
  simp [le4]
  refine ⟨?_, ?_⟩ <;> omega
end Go.Proofs.YtehhafnjbkbmjaaGreat.Disk

/- The reference's checksum is the program's: plain. -/
namespace Go.Proofs.YtehhafnjbkbmjaaGreat.Disk
open Go Go.RowKit Go.Proofs.YtehhafnjbkbmjaaGreatW.PrintWords Go.Proofs.YtehhafnjbkbmjaaGreatW.PrintLast Go.Proofs.YtehhafnjbkbmjaaGreatW.PrintMore Go.Proofs.YtehhafnjbkbmjaaGreat.PCommitlogSequence
theorem xor_mod2 (x y : Nat) : (x ^^^ y) % 2 = (x % 2) ^^^ (y % 2) := by
  have := Nat.xor_mod_two_pow (a := x) (b := y) (n := 1)
  simpa using this
theorem crcBit_xor (a b : Nat) : crcBit (a ^^^ b) = crcBit a ^^^ crcBit b := by
  unfold crcBit
  rw [xor_mod2, Nat.xor_div_two]
  obtain ha | ha : a % 2 = 0 ∨ a % 2 = 1 := by omega
  · obtain hb | hb : b % 2 = 0 ∨ b % 2 = 1 := by omega
    · rw [ha, hb]
      simp
    · rw [ha, hb]
      simp [Nat.xor_assoc]
  · obtain hb | hb : b % 2 = 0 ∨ b % 2 = 1 := by omega
    · rw [ha, hb]
      simp [Nat.xor_assoc, Nat.xor_comm (b / 2)]
    · rw [ha, hb]
      simp only [if_true]
      rw [if_neg (by decide), Nat.xor_assoc, Nat.xor_comm (2197175160) (b / 2 ^^^ 2197175160), Nat.xor_assoc (b / 2), Nat.xor_self, Nat.xor_zero]
theorem crcBits_xor (a b : Nat) : ∀ k, crcBits (a ^^^ b) k = crcBits a k ^^^ crcBits b k
  | 0 => rfl
  | k + 1 => by
    show crcBit (crcBits (a ^^^ b) k) = crcBit (crcBits a k) ^^^ crcBit (crcBits b k)
    rw [crcBits_xor a b k, crcBit_xor]
theorem crcBits_even (h : Nat) : ∀ k m, k ≤ m → crcBits (2 ^ m * h) k = 2 ^ (m - k) * h
  | 0, m, _ => rfl
  | k + 1, m, hk => by
    show crcBit (crcBits (2 ^ m * h) k) = _
    rw [crcBits_even h k m (by omega)]
    have e : (2 : Nat) ^ (m - k) = 2 * 2 ^ (m - (k + 1)) := by
      rw [show m - k = (m - (k + 1)) + 1 by omega, Nat.pow_succ, Nat.mul_comm]
    unfold crcBit
    rw [e, Nat.mul_assoc, if_neg (by omega)]
    omega
theorem split_xor (z : Nat) : z = (2 ^ 8 * (z / 256)) ^^^ (z % 256) := by
  have h1 := Nat.xor_div_two_pow (a := 2 ^ 8 * (z / 256)) (b := z % 256) (n := 8)
  have h2 := Nat.xor_mod_two_pow (a := 2 ^ 8 * (z / 256)) (b := z % 256) (n := 8)
  have e1 : 2 ^ 8 * (z / 256) / 2 ^ 8 = z / 256 := by omega
  have e2 : z % 256 / 2 ^ 8 = 0 := by omega
  have e3 : 2 ^ 8 * (z / 256) % 2 ^ 8 = 0 := by omega
  have e4 : z % 256 % 2 ^ 8 = z % 256 := by omega
  rw [e1, e2, Nat.xor_zero] at h1
  rw [e3, e4, Nat.zero_xor] at h2
  generalize 2 ^ 8 * (z / 256) ^^^ z % 256 = q at h1 h2
  omega
theorem bits8 (z : Nat) : crcBits z 8 = (z / 256) ^^^ tabN (z % 256) := by
  conv => lhs; rw [split_xor z]
  rw [crcBits_xor, crcBits_even (z / 256) 8 8 (Nat.le_refl _)]
  simp [tabN]
/-- A byte, by the reference, is a byte by the table. -/
theorem step_eq (r : Nat) (x : Nat) (hx : x < 256) : crcBits (r ^^^ x) 8 = adv1 r (x : Int) := by
  rw [bits8]
  unfold adv1
  have h1 := Nat.xor_div_two_pow (a := r) (b := x) (n := 8)
  have h2 := Nat.xor_mod_two_pow (a := r) (b := x) (n := 8)
  have e1 : x / 2 ^ 8 = 0 := by omega
  have e2 : x % 2 ^ 8 = x := by omega
  rw [e1, Nat.xor_zero] at h1
  rw [e2] at h2
  rw [show (256 : Nat) = 2 ^ 8 from rfl, h1, h2]
  rfl
theorem step_l0 : ∀ (d k i r : Nat), 8 - i = d → i ≤ 8 → d < k → r < 4294967296 → laminaref02_step.l0 k r i = some ((crcBits r d : Nat) : Int)
  | 0, k, i, r, hd, hi, hk, hr => by
    obtain ⟨k, rfl⟩ : ∃ m, k = m + 1 := ⟨k - 1, by omega⟩
    unfold laminaref02_step.l0
    rw [if_neg (by omega)]
    rfl
  | d + 1, k, i, r, hd, hi, hk, hr => by
    obtain ⟨k, rfl⟩ : ∃ m, k = m + 1 := ⟨k - 1, by omega⟩
    have e : wrap64 ((i : Int) + 1) = ((i + 1 : Nat) : Int) := w64_nat (n := i + 1) (by omega)
    have ha : Go.bits .and .u32 (r : Int) 1 = ((r % 2 : Nat) : Int) := by
      have := u32_and_nat r 1 hr (by omega)
      rw [nat_mask1] at this
      exact this
    have hx : Go.bits .xor .u32 ((r : Int) / 2) 2197175160 = ((r / 2 ^^^ 2197175160 : Nat) : Int) := by
      have := u32_xor_nat (r / 2) 2197175160 (by omega) (by omega)
      rw [← this]
      congr 1
    have hs : ∀ q m, crcBits q (m + 1) = crcBits (crcBit q) m := fun q m => by
      induction m with
      | zero => rfl
      | succ m ih =>
        show crcBit (crcBits q (m + 1)) = crcBit (crcBits (crcBit q) m)
        rw [ih]
    have hlt := crcBit_lt hr
    unfold laminaref02_step.l0
    rw [if_pos (by omega), ha, hx, e, hs]
    by_cases h : r % 2 = 1
    · have hc : crcBit r = r / 2 ^^^ 2197175160 := by unfold crcBit; rw [if_pos h]
      rw [if_pos (by omega), ← hc]
      exact step_l0 d k (i + 1) (crcBit r) (by omega) (by omega) (by omega) hlt
    · have hc : crcBit r = r / 2 := by unfold crcBit; rw [if_neg h]
      rw [if_neg (by omega), show ((r : Int) / 2) = ((crcBit r : Nat) : Int) by rw [hc]; omega]
      exact step_l0 d k (i + 1) (crcBit r) (by omega) (by omega) (by omega) hlt
theorem step_f (r : Nat) (x : Int) (hr : r < 4294967296) (h0 : 0 ≤ x) (h1 : x ≤ 255) (k : Nat) (hk : 10 < k) : laminaref02_step.f k r x = some ((adv1 r x : Nat) : Int) := by
  obtain ⟨x, rfl⟩ : ∃ m : Nat, x = m := ⟨x.toNat, by omega⟩
  unfold laminaref02_step.f
  rw [show (x : Int) % 4294967296 = (x : Int) by omega, u32_xor_nat r x hr (by omega)]
  have := step_l0 8 k 0 (r ^^^ x) rfl (by omega) (by omega) (Nat.xor_lt_two_pow (n := 32) hr (by omega))
  rw [step_eq r x (by omega)] at this
  exact this
end Go.Proofs.YtehhafnjbkbmjaaGreat.Disk

/- The reference's checksum: the walks. -/
namespace Go.Proofs.YtehhafnjbkbmjaaGreat.Disk
open Go Go.RowKit Go.Proofs.YtehhafnjbkbmjaaGreatW.PrintWords Go.Proofs.YtehhafnjbkbmjaaGreatW.PrintLast Go.Proofs.YtehhafnjbkbmjaaGreatW.PrintMore Go.Proofs.YtehhafnjbkbmjaaGreat.PCommitlogSequence
def UpRel (w : World) (l : List Int) (i v : Value) (wx : World) : Prop := ∃ j : Nat, j ≤ l.length ∧ i = .int .i64 j ∧ v = .int .u32 (adv 4294967295 (l.take j)) ∧ Drawn0 w wx
set_option maxHeartbeats 1000000 in
set_option maxRecDepth 100000 in
theorem Update_calls (w : World) (A : Option Addr) (c : Nat) (l : List Int) (h : Kd.C kB w A l.length l) (hl : l.length ≤ 1099511627776) (hw : ∀ x ∈ l, 0 ≤ x ∧ x ≤ 255) :
    Calls Tryz.prog 115 #[.int .u32 0, .slice A l.length c] w fun e w' => e = .returned (.int .u32 (crcF l)) ∧ Drawn0 w w' := by
  have H := Lib.hid h
  have HW := Lib.hid hw
  have HC := Lib.hid (adv_lt (r := 4294967295) (by omega) hw)
  have hmax : bits .xor .u32 IntKind.u32.max 0 = 4294967295 := by decide
  clear h hw
  go_enter Tryz.func115, Tryz.ntmps115
  go_wp2_with fail
  go_loopw [5, 0] (fun i v wx => UpRel w l i v wx) (fun i _ _ => l.length - (intOf i).toNat)
  case atStart => exact ⟨0, Nat.zero_le _, rfl, rfl, ⟨0, rfl⟩⟩
  case round =>
    obtain ⟨j, hj, rfl, rfl, hd⟩ := hrel
    have HD := Lib.hid hd
    clear hd
    by_cases hlt : j < l.length
    · obtain ⟨ad, hA, q0⟩ := byte_cell H.out j hlt
      subst hA
      have hx := HW.out _ (List.getElem_mem hlt)
      have HN := Lib.hid (adv_take (r := 4294967295) j hlt)
      obtain ⟨r0, hr0⟩ : ∃ r0, r0 = adv 4294967295 (l.take j) := ⟨_, rfl⟩
      have HR32 := Lib.hid (show r0 < 4294967296 by rw [hr0]; exact adv_lt (by omega) (fun x hx => HW.out x (List.mem_of_mem_take hx)))
      obtain ⟨x, hxe⟩ : ∃ x, x = l[j] := ⟨_, rfl⟩
      rw [← hxe] at q0 hx HN
      rw [← hr0] at HN ⊢
      have q1 : wr.cell? (ad.add j) = some (.int .u8 x) := (drawn_cell HD.out _).trans q0
      have HS := Lib.hid (step_f r0 x HR32.out hx.1 hx.2 11 (by decide))
      clear q0 hxe hr0 hx
      go_wp2_with (first | (go_at_call 131; refine (laminaref02_step.calls 11 _ _ _ _ HS.out).mono ?_; rintro e w2 ⟨rfl, hd⟩; have HD2 := Lib.hid (drawn_trans HD.out hd); clear hd) | fail)
      go_roundw
      case rel => exact ⟨j + 1, by omega, by go_num, by rw [HN.out], HD2.out⟩
      case measure => simp [intOf]; omega
    · obtain rfl : j = l.length := by omega
      obtain ⟨r, hr⟩ : ∃ r, r = adv 4294967295 (l.take l.length) := ⟨_, rfl⟩
      rw [← hr]
      rw [List.take_length] at hr
      have HR := Lib.hid hr
      have hr32 : r < 4294967296 := by rw [hr]; exact HC.out
      clear hr
      go_wp2_with fail
      go_ret
      have e : bits .xor .u32 IntKind.u32.max (r : Int) = (crcF l : Int) := by
        have := u32_xor_nat 4294967295 r (by omega) hr32
        unfold crcF
        rw [← HR.out, ← this]
        congr 1
      exact ⟨by rw [← e]; rfl, HD.out⟩
def RcRel (w : World) (l : List Int) (i v : Value) (wx : World) : Prop := ((i = .int .i64 0 ∧ v = .int .u32 0) ∨ (i = .int .i64 1 ∧ v = .int .u32 (crcF l))) ∧ Drawn0 w wx
set_option maxHeartbeats 1000000 in
theorem rCRC_calls (w : World) (g cap : Nat) (A : Option Addr) (c : Nat) (l : List Int) (hg : w.cell? ⟨g, 0, none⟩ = some (.slice A l.length c)) (h : Kd.C kB w A l.length l) (hl : l.length ≤ 1099511627776) (hw : ∀ x ∈ l, 0 ≤ x ∧ x ≤ 255) :
    Calls Tryz.prog 134 #[.slice (some ⟨g, 0, none⟩) 1 cap] w fun e w' => e = .returned (.int .u32 (crcF l)) ∧ Drawn0 w w' := by
  have H := Lib.hid h
  have HG := Lib.hid hg
  have HW := Lib.hid hw
  clear h hg hw
  go_enter Tryz.func134, Tryz.ntmps134
  go_wp2_with fail
  go_loopw [4, 3] (fun i v wx => RcRel w l i v wx) (fun i _ _ => 1 - (intOf i).toNat)
  case atStart => exact ⟨.inl ⟨rfl, rfl⟩, ⟨0, rfl⟩⟩
  case round =>
    obtain ⟨hrel, hd⟩ := hrel
    have HD := Lib.hid hd
    clear hd
    rcases hrel with ⟨rfl, rfl⟩ | ⟨rfl, rfl⟩
    · have q1 := (drawn_cell HD.out _).trans HG.out
      go_wp2_with (first | (go_at_call 115; refine (Update_calls wr A c l (Kd.C_below H.out (fr_below ((Fr.refl (fun _ => False) w).drawn HD.out))) hl HW.out).mono ?_; rintro e w2 ⟨rfl, hd⟩; have HD2 := Lib.hid (drawn_trans HD.out hd); clear hd) | fail)
      go_roundw
      case rel => exact ⟨.inr ⟨rfl, rfl⟩, HD2.out⟩
      case measure => simp [intOf]
    · go_wp2_with fail
      go_ret
      exact ⟨rfl, HD.out⟩
theorem sum_calls (w : World) (A : Option Addr) (c : Nat) (l : List Int) (h : Kd.C kB w A l.length l) (hl : l.length ≤ 1099511627776) (hw : ∀ x ∈ l, 0 ≤ x ∧ x ≤ 255) :
    Calls Tryz.prog 127 #[.slice A l.length c] w fun e w' => ∃ v, e = .returned v ∧ w'.ownsRow w.heap.size 5 1 v (le4 (crcF l)).length (nums .u8 (le4 (crcF l))) ∧ Below w.heap.size w w' := by
  have H := Lib.hid (Kd.C_below h (Below.of_alloc' w (.cells #[.slice A l.length c] 36)))
  have HQ := Lib.hid (show (w.alloc (.cells #[.slice A l.length c] 36)).cell? ⟨w.heap.size, 0, none⟩ = some (.slice A l.length c) from cell_new rfl)
  have HW := Lib.hid hw
  have hlt := crcF_lt hw
  have HF := Lib.hid (rfixed_f (crcF l) 10 (by omega) (by decide))
  clear h hw
  obtain ⟨n, hn⟩ : ∃ n, n = crcF l := ⟨_, rfl⟩
  have HN := Lib.hid hn
  rw [← hn] at hlt HF ⊢
  clear hn
  go_enter Tryz.func127, Tryz.ntmps127
  go_wp2_with (first
    | (go_at_call 134; refine (rCRC_calls _ w.heap.size 1 A c l HQ.out H.out hl HW.out).mono ?_; rw [← HN.out]; rintro e w1 ⟨rfl, hd⟩; have HB1 := Lib.hid ((Below.of_alloc' w (.cells #[.slice A l.length c] 36)).trans ((fr_below ((Fr.refl (fun _ => False) _).drawn hd)).mono (by simp))); clear hd)
    | (go_at_call 133; refine (laminaref01_Fixed.calls 10 _ _ _ _ HF.out).mono ?_; rintro e w2 ⟨v, rfl, hr, hb⟩; have HR := Lib.hid hr; have HB2 := Lib.hid (HB1.out.trans (hb.mono HB1.out.size)); have HBS := Lib.hid HB1.out.size; clear hr hb)
    | fail)
  go_ret
  exact ⟨_, rfl, own_weaken (Kd.own_of_R HR.out) HBS.out, HB2.out⟩
end Go.Proofs.YtehhafnjbkbmjaaGreat.Disk

/- commitlog: Encode, the program's. -/
namespace Go.Proofs.YtehhafnjbkbmjaaGreat.Disk
open Go Go.RowKit Go.Proofs.YtehhafnjbkbmjaaGreatW.PrintWords Go.Proofs.YtehhafnjbkbmjaaGreatW.PrintLast Go.Proofs.YtehhafnjbkbmjaaGreatW.PrintMore Go.Proofs.YtehhafnjbkbmjaaGreat.PCommitlogSequence
/-- The record of an entry. -/
def recF (x : LE) : List Int := encV (bodyF x).length ++ (bodyF x ++ le4 (crcF (bodyF x)))
def encE (x : LE) : List Int × Int := if validB x then (recF x, 0) else ([], 1)
def EncRel (wA : World) (x : LE) (i v : Value) (wx : World) : Prop :=
  ∃ j : Nat, j ≤ 6 ∧ i = .int .i64 j ∧ wx.ownsRow wA.heap.size 5 1 v (((numsLE x).take j).flatMap encV).length (nums .u8 (((numsLE x).take j).flatMap encV)) ∧ Below wA.heap.size wA wx
theorem enc_take {ns : List Nat} {j n : Nat} (h : ns[j]? = some n) : (ns.take (j + 1)).flatMap encV = (ns.take j).flatMap encV ++ encV n := by
  obtain ⟨hj, e⟩ := List.getElem?_eq_some_iff.1 h
  rw [List.take_succ_eq_append_getElem hj, List.flatMap_append, e]
  simp
theorem Concat3_calls (w : World) (g cap : Nat) (A : Option Addr) (c : Nat) (l : List Int) (A2 : Option Addr) (c2 : Nat) (l2 : List Int) (A3 : Option Addr) (c3 : Nat) (l3 : List Int) (h1 : w.cell? ⟨g, 0, none⟩ = some (.slice A l.length c)) (h2 : w.cell? ⟨g, 1, none⟩ = some (.slice A2 l2.length c2)) (h3 : w.cell? ⟨g, 2, none⟩ = some (.slice A3 l3.length c3)) (r1 : Kd.C kB w A l.length l) (r2 : Kd.C kB w A2 l2.length l2) (r3 : Kd.C kB w A3 l3.length l3) (hl : l.length + (l2.length + l3.length) ≤ 1099511627776) :
    Calls Tryz.prog 95 #[.slice (some ⟨g, 0, none⟩) 3 cap] w fun e w' => ∃ v, e = .returned v ∧ w'.ownsRow w.heap.size 5 1 v (l ++ (l2 ++ l3)).length (nums .u8 (l ++ (l2 ++ l3))) ∧ Below w.heap.size w w' := by
  have e : partsOf [⟨A, c, l⟩, ⟨A2, c2, l2⟩, ⟨A3, c3, l3⟩] = l ++ (l2 ++ l3) := by simp [partsOf]
  have := Concat_calls w g cap [⟨A, c, l⟩, ⟨A2, c2, l2⟩, ⟨A3, c3, l3⟩] (fun j hj => by
    have hj3 : j = 0 ∨ j = 1 ∨ j = 2 := by
      simp at hj
      omega
    rcases hj3 with rfl | rfl | rfl
    · exact ⟨h1, r1⟩
    · exact ⟨h2, r2⟩
    · exact ⟨h3, r3⟩) (by simp) (by rw [e]; simp; omega)
  rw [e] at this
  exact this
theorem own_below {w w' : World} {base e size n : Nat} {v : Value} {xs : List Value} (h : w.ownsRow base e size v n xs) (hb : Below w.heap.size w w') : w'.ownsRow base e size v n xs := own_move h (fun k hk => hb.block k (own_lt h k hk))
theorem six_le {w : World} {b : Nat} {x : LE} (h : w.heap[b]? = some (.cells (leC x) tLE (0, 0))) : w.cell? ⟨b, 0, none⟩ = some (.int .i64 x.f0) ∧ w.cell? ⟨b, 1, none⟩ = some (.int .i64 x.f1) ∧ w.cell? ⟨b, 2, none⟩ = some (.int .i64 x.f2) ∧ w.cell? ⟨b, 3, none⟩ = some (.int .i64 x.f3) ∧ w.cell? ⟨b, 4, none⟩ = some (.int .i64 x.f4) ∧ w.cell? ⟨b, 5, none⟩ = some (.string x.f5) :=
  ⟨cell_blk h 0, cell_blk h 1, cell_blk h 2, cell_blk h 3, cell_blk h 4, cell_blk h 5⟩
set_option maxHeartbeats 4000000 in
set_option maxRecDepth 100000 in
theorem Encode_calls (w : World) (n0 n1 n2 n3 n4 : Nat) (s : ByteArray) (h1 : n1 ≤ 9223372036854775807) (h2 : n2 ≤ 9223372036854775807) (h3 : n3 ≤ 9223372036854775807) (h4 : n4 ≤ 9223372036854775807) (hv : validB ⟨n0, n1, n2, n3, n4, s⟩ = true) :
    Calls Tryz.prog 39 #[.agg #[.int .i64 n0, .int .i64 n1, .int .i64 n2, .int .i64 n3, .int .i64 n4, .string s]] w fun e w' => ∃ v, e = .returned (.tuple #[v, .int .i64 0]) ∧ w'.ownsRow w.heap.size 5 1 v (recF ⟨n0, n1, n2, n3, n4, s⟩).length (nums .u8 (recF ⟨n0, n1, n2, n3, n4, s⟩)) ∧ Below w.heap.size w w' := by
  have HV := Lib.hid hv
  have hr := rangeB_iff (validB_range hv)
  simp only at hr
  have h7 : n0 ≤ 7 := by omega
  have hsz := validB_size hv
  simp only at hsz
  obtain ⟨x, hx⟩ : ∃ x : LE, x = ⟨n0, n1, n2, n3, n4, s⟩ := ⟨_, rfl⟩
  have HX := Lib.hid hx
  rw [← hx] at HV ⊢
  have hblk := heap_alloc_new w (.cells (leC x) tLE)
  have HBLK := Lib.hid hblk
  have HLC := Lib.hid (show leC x = #[.int .i64 n0, .int .i64 n1, .int .i64 n2, .int .i64 n3, .int .i64 n4, .string s] by rw [hx]; rfl)
  have HVC := Lib.hid (fun wx => valid_calls wx n0 n1 n2 n3 n4 s)
  clear hv hr hx hblk
  go_enter Tryz.func39, Tryz.ntmps39
  go_wp2_with (first
    | (go_at_call 93; refine (HVC.out _).mono ?_; rw [← HX.out, HV.out]; rintro e w1 ⟨rfl, hb⟩; have HB1 := Lib.hid hb; have hb1 : w1.heap[w.heap.size]? = some (.cells (leC x) tLE (0, 0)) := (hb.block _ (by simp)).trans (by rw [HLC.out]; exact heap_alloc_new w _); have HK1 := Lib.hid hb1; obtain ⟨q0, q1, q2, q3, q4, q5⟩ := six_le hb1; rw [HX.out] at q0 q1 q2 q3 q4 q5; clear hb hb1)
    | fail)
  obtain ⟨wA, hwA⟩ : ∃ wA, wA = w1.alloc (.cells #[.int .i64 n0, .int .i64 n1, .int .i64 n2, .int .i64 n3, .int .i64 n4, .int .i64 s.size] 2) := ⟨_, rfl⟩
  rw [← hwA]
  have hnum : wA.heap[w1.heap.size]? = some (.cells #[.int .i64 n0, .int .i64 n1, .int .i64 n2, .int .i64 n3, .int .i64 n4, .int .i64 s.size] 2 (0, 0)) := by rw [hwA]; exact heap_alloc_new w1 _
  have hbA : Below w.heap.size w wA := by
    rw [hwA]
    exact ((Below.of_alloc' w _).trans (HB1.out.mono (by simp))).trans ((Below.of_alloc' w1 _).mono (by have := HB1.out.size; simp at this; omega))
  have hblkA : wA.heap[w.heap.size]? = some (.cells (leC x) tLE (0, 0)) := by
    rw [hwA]
    exact ((Below.of_alloc' w1 _).block _ (lt_blk HK1.out)).trans HK1.out
  have HNUM := Lib.hid hnum
  have HBA := Lib.hid hbA
  have HBLKA := Lib.hid hblkA
  have HNS := Lib.hid (show numsLE x = [n0, n1, n2, n3, n4, s.size] by rw [HX.out]; rfl)
  obtain ⟨g, hg⟩ : ∃ g, g = w1.heap.size := ⟨_, rfl⟩
  rw [← hg] at HNUM ⊢
  clear q0 q1 q2 q3 q4 q5 hwA hnum hbA hblkA hg HB1 HK1
  go_loopw [25, 4] (fun i v wx => EncRel wA x i v wx) (fun i _ _ => 6 - (intOf i).toNat)
  case atStart => exact ⟨0, Nat.zero_le _, rfl, World.ownsRow_nil _ _ _ _, Below.refl _ _⟩
  case round =>
    obtain ⟨j, hj, rfl, ho, hb⟩ := hrel
    have HO := Lib.hid ho
    have HB := Lib.hid hb
    have HNW := Lib.hid ((hb.block _ (lt_blk HNUM.out)).trans HNUM.out)
    have hlen := flat_enc_length ((numsLE x).take j)
    rw [List.length_take] at hlen
    have hlen2 : (((numsLE x).take j).flatMap encV).length ≤ 60 := by
      have : (numsLE x).length = 6 := rfl
      omega
    clear ho hb hlen
    by_cases hlt : j < 6
    · have rest : ∀ n : Nat, (numsLE x)[j]? = some n → n ≤ 9223372036854775807 → wr.cell? ⟨g, j, none⟩ = some (.int .i64 n) → True := fun _ _ _ _ => trivial
      clear rest
      obtain ⟨n, hn, hn63, hcell⟩ : ∃ n : Nat, (numsLE x)[j]? = some n ∧ n ≤ 9223372036854775807 ∧ wr.cell? ⟨g, j, none⟩ = some (.int .i64 n) := by
        rw [HNS.out]
        obtain rfl | rfl | rfl | rfl | rfl | rfl : j = 0 ∨ j = 1 ∨ j = 2 ∨ j = 3 ∨ j = 4 ∨ j = 5 := by omega
        · exact ⟨n0, rfl, by omega, cell_blk HNW.out 0⟩
        · exact ⟨n1, rfl, h1, cell_blk HNW.out 1⟩
        · exact ⟨n2, rfl, h2, cell_blk HNW.out 2⟩
        · exact ⟨n3, rfl, h3, cell_blk HNW.out 3⟩
        · exact ⟨n4, rfl, h4, cell_blk HNW.out 4⟩
        · exact ⟨s.size, rfl, by omega, cell_blk HNW.out 5⟩
      have HT := Lib.hid (enc_take hn)
      obtain ⟨xs, hxs⟩ : ∃ xs, xs = ((numsLE x).take j).flatMap encV := ⟨_, rfl⟩
      rw [← hxs] at HO HT hlen2
      have HEF := Lib.hid (enc_f n 11 (by omega) (by decide))
      have HEL := Lib.hid (encV_length n)
      clear hn hxs
      go_wp2_with (first
        | (go_at_call 94; refine (varint_Encode.calls 11 _ _ _ HEF.out).mono ?_; rintro e w2 ⟨v2, rfl, hr, hb⟩; have ho2 := Kd.own_of_R hr; obtain ⟨A2, c2, rfl, hC2⟩ := own_bytes (l := encV n) ho2; have HC2 := Lib.hid hC2; have HO2 := Lib.hid (own_below HO.out hb); have HB2 := Lib.hid (HB.out.trans (hb.mono HB.out.size)); clear hr hb ho2 hC2)
        | (at_builtin; refine print_append_row (w0 := wA) wA.heap.size rfl _ _ 36 5 .u8 1 rfl Tryz.underlying36 infoB (by decide) _ xs (encV n) A2 (encV n).length c2 rfl rfl HO2.out (reads_of_C HC2.out) HB2.out HB2.out.size (by have := HEL.out; omega) ?_; intro v1 w3 ho3 hb3 hg3 hat3; have HO3 := Lib.hid ho3; have HB3 := Lib.hid hb3; clear ho3 hb3 hg3 hat3)
        | fail)
      go_roundw
      case rel => exact ⟨j + 1, by omega, by go_num, by rw [HT.out]; exact HO3.out, HB3.out⟩
      case measure => simp [intOf]; omega
    · obtain rfl : j = 6 := by omega
      obtain ⟨xs, hxs⟩ : ∃ xs, xs = ((numsLE x).take 6).flatMap encV := ⟨_, rfl⟩
      rw [← hxs] at HO hlen2
      have HBODY := Lib.hid (show bodyF x = xs ++ bytesOf s by
        rw [hxs]
        unfold bodyF
        rw [HX.out]
        rfl)
      obtain ⟨bl, hbl⟩ : ∃ bl, bl = bodyF x := ⟨_, rfl⟩
      have HBLE := Lib.hid hbl
      have hb92 : bl.length ≤ 92 := by rw [hbl, HBODY.out, List.length_append, bytesOf_length]; omega
      have HBW := Lib.hid (show ∀ y ∈ bl, 0 ≤ y ∧ y ≤ 255 by rw [hbl]; exact bodyF_bytes x)
      obtain ⟨n, hn⟩ : ∃ n, n = crcF bl := ⟨_, rfl⟩
      have HN := Lib.hid hn
      have hn32 : n < 4294967296 := by rw [hn]; exact crcF_lt HBW.out
      have HEF := Lib.hid (enc_f bl.length 11 (by omega) (by decide))
      have HEL := Lib.hid (encV_length bl.length)
      have HREC := Lib.hid (show recF x = encV bl.length ++ (bl ++ le4 n) by rw [hn, hbl]; rfl)
      rw [← hbl] at HBODY
      have q5 : wr.cell? ⟨w.heap.size, 5, none⟩ = some (.string s) := by
        have h5 := (six_le ((HB.out.block _ (lt_blk HBLKA.out)).trans HBLKA.out)).2.2.2.2.2
        rw [HX.out] at h5
        exact h5
      clear hxs hbl hn
      go_wp2_with (first
        | (go_at_call 95; refine (Concat3_calls _ w6.heap.size 3 A4 c4 (encV bl.length) A3 c3 bl A6 c6 (le4 n) (cell_blk (heap_alloc_new w6 _) 0) (cell_blk (heap_alloc_new w6 _) 1) (cell_blk (heap_alloc_new w6 _) 2) (Kd.C_below HC4.out (Below.of_alloc' w6 _)) (Kd.C_below HC3.out (Below.of_alloc' w6 _)) (Kd.C_below HC6.out (Below.of_alloc' w6 _)) (by have := HEL.out; have : (le4 n).length = 4 := rfl; omega)).mono ?_; rintro e w7 ⟨v7, rfl, ho, hb⟩; have HO7 := Lib.hid ho; have HBS := Lib.hid HB6.out.size; have HB7 := Lib.hid ((HB6.out.trans ((Below.of_alloc' w6 _).mono HB6.out.size)).trans (hb.mono (by have := HB6.out.size; simp; omega))); clear ho hb)
        | (go_at_call 96; refine (Fixed_calls _ n (by omega)).mono ?_; rintro e w6 ⟨v6, rfl, ho, hb⟩; obtain ⟨A6, c6, rfl, hC6⟩ := own_bytes (l := le4 n) ho; have HC6 := Lib.hid hC6; have HC4 := Lib.hid (Kd.C_below HC4.out hb); have HC3 := Lib.hid (Kd.C_below HC3.out hb); have HB6 := Lib.hid (HB5.out.trans (hb.mono HB5.out.size)); clear ho hb hC6)
        | (go_at_call 97; refine (CRC_calls _ w4.heap.size 1 A3 c3 bl (cell_new rfl) (Kd.C_below HC3.out (Below.of_alloc' w4 _)) (by omega) HBW.out).mono ?_; rw [← HN.out]; rintro e w5 ⟨rfl, hb⟩; have hb' := (Below.of_alloc' w4 (.cells #[.slice A3 bl.length c3] 36)).trans (hb.mono (by simp)); have HC4 := Lib.hid (Kd.C_below HC4.out hb'); have HC3 := Lib.hid (Kd.C_below HC3.out hb'); have HB5 := Lib.hid (HB4.out.trans (hb'.mono HB4.out.size)); clear hb hb')
        | (go_at_call 94; refine (varint_Encode.calls 11 _ _ _ HEF.out).mono ?_; rintro e w4 ⟨v4, rfl, hr, hb⟩; obtain ⟨A4, c4, rfl, hC4⟩ := own_bytes (l := encV bl.length) (Kd.own_of_R hr); have HC4 := Lib.hid hC4; have HC3 := Lib.hid (Kd.C_below HC3.out hb); have HB4 := Lib.hid (HB3.out.trans (hb.mono HB3.out.size)); clear hr hb hC4)
        | (at_builtin; refine print_append_str (w0 := wA) wA.heap.size rfl _ _ 36 9 5 rfl Tryz.underlying36 Tryz.underlying9 infoB _ xs s rfl rfl HO.out HB.out HB.out.size (by omega) ?_; intro v1 w3 ho3 hb3 hg3; rw [← HBODY.out] at ho3; obtain ⟨A3, c3, rfl, hC3⟩ := own_bytes ho3; have HC3 := Lib.hid hC3; have HB3 := Lib.hid hb3; clear ho3 hb3 hg3 hC3)
        | fail)
      go_ret2
      rw [HREC.out]
      exact ⟨_, rfl, own_weaken HO7.out (Nat.le_trans HBA.out.size (Nat.le_trans HBS.out (by simp))), HBA.out.trans (HB7.out.mono HBA.out.size)⟩
end Go.Proofs.YtehhafnjbkbmjaaGreat.Disk

/- commitlog: Encode, the program's and the reference's, at any entry. -/
namespace Go.Proofs.YtehhafnjbkbmjaaGreat.Disk
open Go Go.RowKit Go.Proofs.YtehhafnjbkbmjaaGreatW.PrintWords Go.Proofs.YtehhafnjbkbmjaaGreatW.PrintLast Go.Proofs.YtehhafnjbkbmjaaGreatW.PrintMore Go.Proofs.YtehhafnjbkbmjaaGreat.PCommitlogSequence
theorem enc_yes {x : LE} (h : validB x = true) : encE x = (recF x, 0) := by unfold encE; rw [if_pos h]
theorem enc_no {x : LE} (h : validB x = false) : encE x = ([], 1) := by unfold encE; rw [if_neg (by rw [h]; exact Bool.false_ne_true)]
set_option maxHeartbeats 1000000 in
theorem Enc_calls (w : World) (x : LE) (hw : WfLE x) :
    Calls Tryz.prog 39 #[.agg #[.int .i64 x.f0, .int .i64 x.f1, .int .i64 x.f2, .int .i64 x.f3, .int .i64 x.f4, .string x.f5]] w fun e w' => ∃ A c, e = .returned (.tuple #[.slice A (encE x).1.length c, .int .i64 (encE x).2]) ∧ Rd kB w' (fun k => w.heap.size ≤ k) A c (encE x).1 ∧ Below w.heap.size w w' := by
  cases hv : validB x
  · rw [enc_no hv]
    have HV := Lib.hid hv
    obtain ⟨f0, f1, f2, f3, f4, s⟩ := x
    have HVC := Lib.hid (fun wx => valid_calls wx f0 f1 f2 f3 f4 s)
    clear hv
    go_enter Tryz.func39, Tryz.ntmps39
    go_wp2_with (first
      | (go_at_call 93; refine (HVC.out _).mono ?_; rw [HV.out]; rintro e w1 ⟨rfl, hb⟩; have HB1 := Lib.hid hb; clear hb)
      | fail)
    go_ret2
    exact ⟨none, 0, rfl, Rd.nil kB _ _, (Below.of_alloc' w _).trans (HB1.out.mono (by simp))⟩
  · rw [enc_yes hv]
    obtain ⟨r1, r2, r3, r4, r5, r6⟩ := rangeB_iff (validB_range hv)
    obtain ⟨w1, w2, w3, w4⟩ := hw
    obtain ⟨f0, f1, f2, f3, f4, s⟩ := x
    simp only at r1 r2 r3 r4 r5 r6 w1 w2 w3 w4 ⊢
    obtain ⟨n0, rfl⟩ : ∃ n : Nat, f0 = n := ⟨f0.toNat, by omega⟩
    obtain ⟨n1, rfl⟩ : ∃ n : Nat, f1 = n := ⟨f1.toNat, by omega⟩
    obtain ⟨n2, rfl⟩ : ∃ n : Nat, f2 = n := ⟨f2.toNat, by omega⟩
    obtain ⟨n3, rfl⟩ : ∃ n : Nat, f3 = n := ⟨f3.toNat, by omega⟩
    obtain ⟨n4, rfl⟩ : ∃ n : Nat, f4 = n := ⟨f4.toNat, by omega⟩
    refine (Encode_calls w n0 n1 n2 n3 n4 s (by omega) (by omega) (by omega) (by omega) hv).mono ?_
    rintro e w' ⟨v, he, ho, hb⟩
    obtain ⟨A, c, rfl, _⟩ := own_bytes ho
    exact ⟨A, c, he, Rd.ofOwn ho, hb⟩
set_option maxHeartbeats 2000000 in
set_option maxRecDepth 100000 in
theorem rEnc_calls (w : World) (x : LE) (hw : WfLE x) :
    Calls Tryz.prog 106 #[.agg #[.int .i64 x.f0, .int .i64 x.f1, .int .i64 x.f2, .int .i64 x.f3, .int .i64 x.f4, .string x.f5]] w fun e w' => ∃ A c, e = .returned (.tuple #[.slice A (encE x).1.length c, .int .i64 (encE x).2]) ∧ Rd kB w' (fun k => w.heap.size ≤ k) A c (encE x).1 ∧ Below w.heap.size w w' := by
  cases hv : validB x
  · rw [enc_no hv]
    have HVF := Lib.hid (rvalid_f x 61 (by decide))
    rw [hv] at HVF
    obtain ⟨f0, f1, f2, f3, f4, s⟩ := x
    clear hv
    go_enter Tryz.func106, Tryz.ntmps106
    go_wp2_with (first
      | (go_at_call 124; refine (laminaref24_Valid.calls 61 _ _ _ _ _ _ _ _ HVF.out).mono ?_; rintro e w1 ⟨rfl, hb⟩; have HB1 := Lib.hid hb; clear hb)
      | fail)
    go_ret2
    exact ⟨none, 0, rfl, Rd.nil kB _ _, (Below.of_alloc' w _).trans (HB1.out.mono (by simp))⟩
  · rw [enc_yes hv]
    have HVF := Lib.hid (rvalid_f x 61 (by decide))
    rw [hv] at HVF
    have hsz := validB_size hv
    have HBF := Lib.hid (rbody_f x (validB_range hv) hw (by omega) 21 (by decide))
    obtain ⟨bl, hbl⟩ : ∃ bl, bl = bodyF x := ⟨_, rfl⟩
    rw [← hbl] at HBF
    have hb92 : bl.length ≤ 1060 := by rw [hbl]; exact bodyF_length (by omega)
    have HBW := Lib.hid (show ∀ y ∈ bl, 0 ≤ y ∧ y ≤ 255 by rw [hbl]; exact bodyF_bytes x)
    have HEF := Lib.hid (renc_f bl.length 11 (by omega) (by decide))
    have HEL := Lib.hid (encV_length bl.length)
    have HREC := Lib.hid (show recF x = (encV bl.length ++ bl) ++ le4 (crcF bl) by rw [hbl]; unfold recF; simp)
    have HBLK := Lib.hid (heap_alloc_new w (.cells (leC x) tLE))
    have HX := Lib.hid (show x = ⟨x.f0, x.f1, x.f2, x.f3, x.f4, x.f5⟩ from rfl)
    rw [HREC.out]
    clear hv hw hbl
    obtain ⟨f0, f1, f2, f3, f4, s⟩ := x
    clear HX
    go_enter Tryz.func106, Tryz.ntmps106
    go_wp2_with (first
      | (go_at_call 124; refine (laminaref24_Valid.calls 61 _ _ _ _ _ _ _ _ HVF.out).mono ?_; rintro e w1 ⟨rfl, hb⟩; have HB1 := Lib.hid ((Below.of_alloc' w _).trans (hb.mono (by simp))); obtain ⟨q0, q1, q2, q3, q4, q5⟩ := six_le ((hb.block w.heap.size (by simp)).trans HBLK.out); clear hb)
      | (go_at_call 125; refine (laminaref24_body.calls 21 _ _ _ _ _ _ _ _ HBF.out).mono ?_; rintro e w2 ⟨v2, rfl, hr, hb⟩; obtain ⟨A2, c2, rfl, hC2⟩ := own_bytes (l := bl) (Kd.own_of_R hr); have HC2 := Lib.hid hC2; have HB2 := Lib.hid (HB1.out.trans (hb.mono HB1.out.size)); clear hr hb hC2)
      | (go_at_call 126; refine (laminaref01_Encode.calls 11 _ _ _ HEF.out).mono ?_; rintro e w3 ⟨v3, rfl, hr, hb⟩; have HO3 := Lib.hid (Kd.own_of_R hr); have HC3 := Lib.hid (Kd.C_below HC2.out hb); have HB3 := Lib.hid hb; clear hr hb)
      | (go_at_call 127; refine (sum_calls _ A2 c2 bl HC4.out (by omega) HBW.out).mono ?_; rintro e w5 ⟨v5, rfl, ho, hb⟩; obtain ⟨A5, c5, rfl, hC5⟩ := own_bytes ho; have HC5 := Lib.hid hC5; have HO5 := Lib.hid (own_below HO4.out hb); have HB5 := Lib.hid (HB4.out.trans (hb.mono HB4.out.size)); clear ho hb hC5 HO4)
      | (at_builtin; have hz := HO3.out; clear hz; refine print_append_row (w0 := w2) w2.heap.size rfl _ _ 36 5 .u8 1 rfl Tryz.underlying36 infoB (by decide) _ (encV bl.length) bl A2 bl.length c2 rfl rfl HO3.out (reads_of_C HC3.out) HB3.out HB3.out.size (by have := HEL.out; omega) ?_; intro v4 w4 ho4 hb4 hg4 hat4; have HO4 := Lib.hid ho4; have HB4 := Lib.hid hb4; have HC4 := Lib.hid (Kd.C_below HC2.out hb4); clear ho4 hb4 hg4 hat4 HO3)
      | (at_builtin; have hz := HO5.out; clear hz; refine print_append_row (w0 := w2) w2.heap.size rfl _ _ 36 5 .u8 1 rfl Tryz.underlying36 infoB (by decide) _ (encV bl.length ++ bl) (le4 (crcF bl)) A5 (le4 (crcF bl)).length c5 rfl rfl HO5.out (reads_of_C HC5.out) HB5.out HB5.out.size (by have := HEL.out; have : (le4 (crcF bl)).length = 4 := rfl; simp; omega) ?_; intro v6 w6 ho6 hb6 hg6 hat6; have HO6 := Lib.hid ho6; have HB6 := Lib.hid hb6; clear ho6 hb6 hg6 hat6 HO5)
      | fail)
    obtain ⟨A6, c6, hv6, _⟩ := own_bytes HO6.out
    subst hv6
    go_ret2
    exact ⟨A6, c6, rfl, (Rd.ofOwn HO6.out).mono (fun k hk _ => Nat.le_trans HB2.out.size hk), HB2.out.trans (HB6.out.mono HB2.out.size)⟩
end Go.Proofs.YtehhafnjbkbmjaaGreat.Disk
