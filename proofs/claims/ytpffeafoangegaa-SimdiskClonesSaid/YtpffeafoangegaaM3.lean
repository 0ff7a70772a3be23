/- The reference's methods. -/
import Derived.Test.YtpffeafoangegaaM2
import Derived.Deep.RegionHeld3
/- The reference's functions on a state: performed, FailAfter. -/
namespace Go.Proofs.Ytpffeafoangegaa.Disk
open Go Go.RowKit Go.Proofs.YtpffeafoangegaaW.PrintWords Go.Proofs.YtpffeafoangegaaW.PrintLast Go.Proofs.YtpffeafoangegaaW.PrintMore Go.Proofs.Ytpffeafoangegaa.PSimdiskOperations
attribute [local go_sem] max2_int min2_int max_two min_two max_three min_three max_four min_four

/-- The four rows of a state, as values. -/
structure Rows4 where
  a0 : Option Addr
  n0 : Nat
  c0 : Nat
  a1 : Option Addr
  n1 : Nat
  c1 : Nat
  a2 : Option Addr
  n2 : Nat
  c2 : Nat
  a3 : Option Addr
  n3 : Nat
  c3 : Nat
abbrev Rows4.val (r : Rows4) (lim : Bool) (left : Int) : Value := .agg #[.slice r.a0 r.n0 r.c0, .slice r.a1 r.n1 r.c1, .slice r.a2 r.n2 r.c2, .slice r.a3 r.n3 r.c3, .bool lim, .int .i64 left]

set_option maxHeartbeats 2000000 in
theorem performed_calls (w : World) (a0 a1 a2 a3 : Option Addr) (n0 c0 n1 c1 n2 c2 n3 c3 : Nat) (lim : Bool) (left : Int) (h : lim = true → 0 < left ∧ left ≤ 9223372036854775807) :
    Calls Try.prog 53 #[.agg #[.slice a0 n0 c0, .slice a1 n1 c1, .slice a2 n2 c2, .slice a3 n3 c3, .bool lim, .int .i64 left]] w fun e w' =>
      e = .returned (.agg #[.slice a0 n0 c0, .slice a1 n1 c1, .slice a2 n2 c2, .slice a3 n3 c3, .bool lim, .int .i64 (doneLeft lim left)]) ∧ Below w.heap.size w w' := by
  cases lim
  · go_enter Try.func53, Try.ntmps53
    go_wp2
    exact bodyPost_ret (v := .agg #[.slice a0 n0 c0, .slice a1 n1 c1, .slice a2 n2 c2, .slice a3 n3 c3, .bool false, .int .i64 left]) (by simp [results, Try.results53, go_sem]) rfl ⟨rfl, ((Below.refl _ _).alloc (Nat.le_refl _) _).alloc (by simp) _⟩
  · obtain ⟨h0, h1⟩ := h rfl
    go_enter Try.func53, Try.ntmps53
    go_wp2
    exact bodyPost_ret (v := .agg #[.slice a0 n0 c0, .slice a1 n1 c1, .slice a2 n2 c2, .slice a3 n3 c3, .bool true, .int .i64 (left - 1)]) (by simp [results, Try.results53, go_sem]) rfl ⟨rfl, ((Below.refl _ _).alloc (Nat.le_refl _) _).alloc (by simp) _⟩
set_option maxHeartbeats 2000000 in
theorem refFail_calls (w : World) (a0 a1 a2 a3 : Option Addr) (n0 c0 n1 c1 n2 c2 n3 c3 : Nat) (lim : Bool) (left n : Int) :
    Calls Try.prog 44 #[.agg #[.slice a0 n0 c0, .slice a1 n1 c1, .slice a2 n2 c2, .slice a3 n3 c3, .bool lim, .int .i64 left], .int .i64 n] w fun e w' =>
      e = .returned (.agg #[.slice a0 n0 c0, .slice a1 n1 c1, .slice a2 n2 c2, .slice a3 n3 c3, .bool (decide (0 ≤ n)), .int .i64 (if n < 0 then 0 else n)]) ∧ Below w.heap.size w w' := by
  obtain ⟨m, hm⟩ : ∃ m, (if n < 0 then (0 : Int) else n) = m := ⟨_, rfl⟩
  rw [hm]
  go_enter Try.func44, Try.ntmps44
  go_wp2
  exact bodyPost_ret (v := .agg #[.slice a0 n0 c0, .slice a1 n1 c1, .slice a2 n2 c2, .slice a3 n3 c3, .bool (decide (0 ≤ n)), .int .i64 m]) (by simp [results, Try.results44, go_sem]) rfl ⟨rfl, ((Below.refl _ _).alloc (Nat.le_refl _) _).alloc (by simp) _⟩
end Go.Proofs.Ytpffeafoangegaa.Disk

/- The reference's functions on directories: find, without, with, apply. -/
namespace Go.Proofs.Ytpffeafoangegaa.Disk
open Go Go.RowKit Go.Proofs.YtpffeafoangegaaW.PrintWords Go.Proofs.YtpffeafoangegaaW.PrintLast Go.Proofs.YtpffeafoangegaaW.PrintMore Go.Proofs.Ytpffeafoangegaa.PSimdiskOperations
abbrev kE : Kd Ent := k84
abbrev kO : Kd Opn := k79
abbrev kF : Kd Fil := k81
/-- A row that is read, wherever it lies; ok: in which blocks. -/
structure Rd {α : Type} (d : Kd α) (w : World) (ok : Nat → Prop) (A : Option Addr) (c : Nat) (xs : List α) : Prop where
  le : xs.length ≤ c
  f : Kd.F d w ok A xs.length xs
section
variable {α : Type} {d : Kd α} {w w' : World} {ok ok' : Nat → Prop} {A : Option Addr} {c : Nat} {xs : List α}
theorem Rd.now (h : Rd d w ok A c xs) : Kd.C d w A xs.length xs := Kd.F_now h.f
theorem Rd.mono (h : Rd d w ok A c xs) (hok : ∀ k, ok k → k < w.heap.size → ok' k) : Rd d w ok' A c xs := ⟨h.le, Kd.F_mono (Kd.F_bound h.f) (fun k hk => hok k hk.1 hk.2)⟩
theorem Rd.below (h : Rd d w ok A c xs) (hb : Below w.heap.size w w') : Rd d w' ok A c xs := ⟨h.le, Kd.F_below h.f hb⟩
theorem Rd.move (h : Rd d w ok A c xs) (hm : ∀ k, ok k → k < w.heap.size → w'.heap[k]? = w.heap[k]?) : Rd d w' ok A c xs := ⟨h.le, Kd.F_step h.f hm⟩
theorem Rd.nil (d : Kd α) (w : World) (ok : Nat → Prop) : Rd d w ok none 0 [] := ⟨Nat.le_refl _, Kd.F_nil d w ok⟩
end
theorem Rd.ofR {α : Type} {d : Kd α} {w : World} {e base : Nat} {ok : Nat → Prop} {v : Value} {xs : List α} (h : d.R e w base ok v xs) : ∃ A c, v = .slice A xs.length c ∧ Rd d w (fun k => base ≤ k ∧ k < w.heap.size) A c xs := by
  obtain ⟨A, c, e1, hl, hF⟩ := Kd.R_V (base' := base) (Kd.R_mono (Kd.R_bound h) (ok' := fun k => base ≤ k ∧ k < w.heap.size) (fun k hk => ⟨hk.2.1, hk.2.2.1⟩))
  exact ⟨A, c, e1, hl, hF⟩
theorem Rd.ofN {α : Type} {d : Kd α} {w : World} {e base : Nat} {ok : Nat → Prop} {v : Value} {xs : List α} (h : Kd.N d e w base ok v xs) : ∃ A c, v = .slice A xs.length c ∧ Rd d w (fun k => ok k ∧ k < w.heap.size) A c xs := by
  obtain ⟨A, c, e1, hl, hF⟩ := Kd.N_V (base' := base) (Kd.N_bound h)
  exact ⟨A, c, e1, hl, hF⟩

theorem find_none_calls (w : World) (ok : Nat → Prop) (A : Option Addr) (c : Nat) (l : List Ent) (n : ByteArray) (h : Rd kE w ok A c l) (hl : l.length ≤ 1099511627776) (hn : pLook l n = none) :
    Calls Try.prog 48 #[.slice A l.length c, .string n] w fun e w' => e = .returned (.int .i64 (-1)) ∧ Drawn0 w w' :=
  laminaref20_find.calls (l.length + 1) A c l n (-1) w h.now h.le (find_none l n _ (by omega) (by omega) hn)
theorem find_some_calls (w : World) (ok : Nat → Prop) (A : Option Addr) (c : Nat) (l : List Ent) (n : ByteArray) (x : Int) (h : Rd kE w ok A c l) (hl : l.length ≤ 1099511627776) (hn : pLook l n = some x) :
    ∃ t : Nat, t < l.length ∧ (rd_T84 l t).f1 = x ∧ Calls Try.prog 48 #[.slice A l.length c, .string n] w fun e w' => e = .returned (.int .i64 t) ∧ Drawn0 w w' := by
  obtain ⟨t, h1, h2, h3⟩ := find_some l n (l.length + 1) (by omega) (by omega) hn
  exact ⟨t, h2, h3, laminaref20_find.calls (l.length + 1) A c l n t w h.now h.le h1⟩
theorem without_calls (w : World) (ok : Nat → Prop) (A : Option Addr) (c : Nat) (l : List Ent) (n : ByteArray) (h : Rd kE w ok A c l) (hl : l.length ≤ 1099511627776) :
    Calls Try.prog 51 #[.slice A l.length c, .string n] w fun e w' => ∃ A' c', e = .returned (.slice A' (pWithout l n).length c') ∧ Rd kE w' (fun k => w.heap.size ≤ k ∧ k < w'.heap.size) A' c' (pWithout l n) ∧ Below w.heap.size w w' := by
  refine (laminaref20_without.calls (l.length + 1) A c l n (pWithout l n) w h.now h.le (without_f l n _ (by omega) (by omega))).mono fun e w' hq => ?_
  obtain ⟨v, q1, q2, q3⟩ := hq
  obtain ⟨A', c', rfl, q4⟩ := Rd.ofR q2
  exact ⟨A', c', q1, q4, q3⟩
theorem with_calls (w : World) (ok : Nat → Prop) (A : Option Addr) (c : Nat) (l : List Ent) (n : ByteArray) (x : Int) (h : Rd kE w ok A c l) (hl : l.length ≤ 1099511627776) :
    Calls Try.prog 50 #[.slice A l.length c, .string n, .int .i64 x] w fun e w' => ∃ A' c', e = .returned (.slice A' (pWith l n x).length c') ∧ Rd kE w' (fun k => w.heap.size ≤ k ∧ k < w'.heap.size) A' c' (pWith l n x) ∧ Below w.heap.size w w' := by
  refine (laminaref20_with.calls (l.length + 1) A c l n x (pWith l n x) w h.now h.le (with_f l n x _ (by omega) (by omega))).mono fun e w' hq => ?_
  obtain ⟨v, q1, q2, q3⟩ := hq
  obtain ⟨A', c', rfl, q4⟩ := Rd.ofR q2
  exact ⟨A', c', q1, q4, q3⟩
theorem below_trans {a b c : World} (h : Below a.heap.size a b) (k : Below b.heap.size b c) : Below a.heap.size a c := h.trans (k.mono h.size)
theorem drawn_below {a b : World} (h : Drawn0 a b) : Below a.heap.size a b := by
  obtain ⟨m, rfl⟩ := h.out
  exact pw_below_drewN (Below.refl _ _) m
theorem drew_below {a b : World} (h : Below a.drew.heap.size a.drew b) : Below a.heap.size a b := ⟨h.os, h.tape, h.output, h.size, h.block⟩
theorem ent_cell {w : World} {A : Option Addr} {l : List Ent} (h : Kd.C kE w A l.length l) (t : Nat) (ht : t < l.length) : ∃ ad, A = some ad ∧ w.cell? (ad.add (t * 2)) = some (.string (rd_T84 l t).f0) ∧ w.cell? ⟨(ad.add (t * 2)).block, (ad.add (t * 2)).off + 1, none⟩ = some (.int .i64 (rd_T84 l t).f1) := by
  obtain ⟨ad, h1, h2, h3⟩ := at_T84 h (t : Int) (by omega) (by omega)
  exact ⟨ad, h1, h2, h3⟩

/-- What apply gives: a directory, read in old blocks of ok or in new ones. -/
def Dired (w : World) (ok : Nat → Prop) (l : List Ent) (e : Ending) (w' : World) : Prop := ∃ A c, e = .returned (.slice A l.length c) ∧ Rd kE w' (fun k => ok k ∨ w.heap.size ≤ k) A c l ∧ Below w.heap.size w w'

set_option maxHeartbeats 4000000 in
theorem refApply_calls (w : World) (ok : Nat → Prop) (A : Option Addr) (c : Nat) (l : List Ent) (o : Opn) (h : Rd kE w ok A c l) (hl : l.length ≤ 549755813888) (ho : o.f0 = 1 ∨ o.f0 = 2 ∨ o.f0 = 3) :
    Calls Try.prog 33 #[.slice A l.length c, .agg #[.int .i64 o.f0, .string o.f1, .string o.f2, .int .i64 o.f3]] w (Dired w ok (pApply l o)) := by
  have H := Lib.hid h
  have HL := Lib.hid hl
  obtain ⟨f0, f1, f2, f3⟩ := o
  simp only at ho ⊢
  clear h hl
  rcases ho with rfl | rfl | rfl
  · have e : pApply l ⟨1, f1, f2, f3⟩ = pWith l f1 f3 := by simp [pApply]
    rw [e]
    clear e
    go_enter Try.func33, Try.ntmps33
    go_wp2_with (first | (go_at_call 50; refine (with_calls _ ok A c l f1 f3 (H.out.below (below_alloc (Below.refl _ _) _)) (by have := HL.out; omega)).mono ?_; rintro e w1 ⟨A', c', rfl, hr1, hb1⟩; have HR1 := Lib.hid hr1; have HB1 := Lib.hid hb1; clear hr1 hb1) | fail)
    go_ret
    exact ⟨_, _, rfl, HR1.out.mono (fun k hk _ => .inr (by have := hk.1; simp at this; omega)), below_trans (below_alloc (Below.refl _ _) _) HB1.out⟩
  · cases hp : pLook l f1 with
    | none =>
      have e : pApply l ⟨2, f1, f2, f3⟩ = l := by simp [pApply, hp]
      rw [e]
      have HP := Lib.hid hp
      clear e hp
      go_enter Try.func33, Try.ntmps33
      go_wp2_with (first | (go_at_call 48; refine (find_none_calls _ ok A c l f1 (H.out.below (below_alloc (Below.refl _ _) _)) (by have := HL.out; omega) HP.out).mono ?_; rintro e w1 ⟨rfl, hd1⟩; have HD1 := Lib.hid hd1; clear hd1) | fail)
      go_ret
      have hb := below_trans (below_alloc (Below.refl w.heap.size w) _) (drawn_below HD1.out)
      exact ⟨_, _, rfl, (H.out.below hb).mono (fun k hk _ => .inl hk), hb⟩
    | some x =>
      have e : pApply l ⟨2, f1, f2, f3⟩ = pWith (pWithout l f1) f2 x := by simp [pApply, hp]
      rw [e]
      obtain ⟨t, ht, hx, hcall⟩ := find_some_calls (w.alloc (.cells #[.int .i64 2, .string f1, .string f2, .int .i64 f3] 79)) ok A c l f1 x (H.out.below (below_alloc (Below.refl _ _) _)) (by have := HL.out; omega) hp
      have HCALL := Lib.hid hcall
      have HX := Lib.hid hx
      clear e hp hcall hx
      have ht5 : t < 549755813888 := by have := HL.out; omega
      go_enter Try.func33, Try.ntmps33
      go_wp2_with (first | (go_at_call 48; refine HCALL.out.mono ?_; rintro e w1 ⟨rfl, hd1⟩; have HD1 := Lib.hid hd1; clear hd1) | fail)
      have hB1 : w1.heap[w.heap.size]? = some (.cells #[.int .i64 2, .string f1, .string f2, .int .i64 f3] 79 (0, 0)) := by obtain ⟨m, hm⟩ := HD1.out.out; rw [hm]; exact heap_alloc_new w _
      have hb01 : Below w.heap.size w w1 := below_trans (below_alloc (Below.refl w.heap.size w) _) (drawn_below HD1.out)
      have HR1 := Lib.hid (H.out.below hb01)
      have HB1 := Lib.hid hb01
      obtain ⟨Bk, hBk⟩ : ∃ Bk, Bk = w.heap.size := ⟨_, rfl⟩
      rw [← hBk] at hB1 ⊢
      have HBK := Lib.hid hBk
      obtain ⟨ad, hA, q0, q1⟩ := ent_cell HR1.out.now t ht
      subst hA
      rw [HX.out] at q1
      have HBL := Lib.hid hB1
      have b1 := cell_blk hB1 1
      have b2 := cell_blk hB1 2
      simp at b1 b2
      clear hB1 hb01 hBk
      go_region_with (first | (go_at_call 51; refine (without_calls w1.drew ok _ c l f1 (HR1.out.move (fun _ _ _ => rfl)) (by have := HL.out; omega)).mono ?_; rintro e w2 ⟨A', c', rfl, hr2, hb2⟩; have HR2 := Lib.hid hr2; have HB2 := Lib.hid hb2; have b22 : w2.cell? ⟨Bk, 2, none⟩ = _ := (hb2.cell (p := ⟨Bk, 2, none⟩) (lt_blk HBL.out)).trans b2; have q12 : w2.cell? ⟨(ad.add (t * 2)).block, (ad.add (t * 2)).off + 1, none⟩ = _ := (hb2.cell (p := ⟨(ad.add (t * 2)).block, (ad.add (t * 2)).off + 1, none⟩) (World.block_lt_of_cell? w1 _ q1)).trans q1; clear hr2 hb2) | (go_at_call 50; refine (with_calls _ _ _ c' (pWithout l f1) f2 x HR2.out (by have := pWithout_length l f1; have := HL.out; omega)).mono ?_; rintro e w3 ⟨A3, c3, rfl, hr3, hb3⟩; have HR3 := Lib.hid hr3; have HB3 := Lib.hid hb3; clear hr3 hb3))
      all_goals
        go_wp2
        go_ret
        have hb := below_trans HB1.out (below_trans (drew_below HB2.out) HB3.out)
        exact ⟨_, _, rfl, HR3.out.mono (fun k hk _ => .inr (by have h1 := hk.1; have h2 := (drew_below HB2.out).size; have h3 := HB1.out.size; omega)), hb⟩
  · have e : pApply l ⟨3, f1, f2, f3⟩ = pWithout l f1 := by simp [pApply]
    rw [e]
    clear e
    go_enter Try.func33, Try.ntmps33
    go_wp2_with (first | (go_at_call 51; refine (without_calls _ ok A c l f1 (H.out.below (below_alloc (Below.refl _ _) _)) (by have := HL.out; omega)).mono ?_; rintro e w1 ⟨A', c', rfl, hr1, hb1⟩; have HR1 := Lib.hid hr1; have HB1 := Lib.hid hb1; clear hr1 hb1) | fail)
    go_ret
    exact ⟨_, _, rfl, HR1.out.mono (fun k hk _ => .inr (by have := hk.1; simp at this; omega)), below_trans (below_alloc (Below.refl _ _) _) HB1.out⟩
end Go.Proofs.Ytpffeafoangegaa.Disk

/- The reference's states: what they read; directory. -/
namespace Go.Proofs.Ytpffeafoangegaa.Disk
open Go Go.RowKit Go.Proofs.YtpffeafoangegaaW.PrintWords Go.Proofs.YtpffeafoangegaaW.PrintLast Go.Proofs.YtpffeafoangegaaW.PrintMore Go.Proofs.Ytpffeafoangegaa.PSimdiskOperations
/-- A state's four rows, read. -/
structure Ref (w : World) (ok : Nat → Prop) (a0 : Option Addr) (c0 : Nat) (a1 : Option Addr) (c1 : Nat) (a2 : Option Addr) (c2 : Nat) (a3 : Option Addr) (c3 : Nat) (S : PS) : Prop where
  files : Rd kF w ok a0 c0 S.files
  dir : Rd kE w ok a1 c1 S.dir
  dur : Rd kE w ok a2 c2 S.dur
  pend : Rd kO w ok a3 c3 S.pend
abbrev sv (a0 : Option Addr) (c0 : Nat) (a1 : Option Addr) (c1 : Nat) (a2 : Option Addr) (c2 : Nat) (a3 : Option Addr) (c3 : Nat) (S : PS) : Value :=
  .agg #[.slice a0 S.files.length c0, .slice a1 S.dir.length c1, .slice a2 S.dur.length c2, .slice a3 S.pend.length c3, .bool S.lim, .int .i64 S.left]
def RefV (w : World) (ok : Nat → Prop) (v : Value) (S : PS) : Prop := ∃ a0 c0 a1 c1 a2 c2 a3 c3, v = sv a0 c0 a1 c1 a2 c2 a3 c3 S ∧ Ref w ok a0 c0 a1 c1 a2 c2 a3 c3 S
theorem Ref.mono {w : World} {ok ok' : Nat → Prop} {a0 c0 a1 c1 a2 c2 a3 c3} {S : PS} (h : Ref w ok a0 c0 a1 c1 a2 c2 a3 c3 S) (hok : ∀ k, ok k → k < w.heap.size → ok' k) : Ref w ok' a0 c0 a1 c1 a2 c2 a3 c3 S :=
  ⟨h.files.mono hok, h.dir.mono hok, h.dur.mono hok, h.pend.mono hok⟩
theorem Ref.move {w w' : World} {ok : Nat → Prop} {a0 c0 a1 c1 a2 c2 a3 c3} {S : PS} (h : Ref w ok a0 c0 a1 c1 a2 c2 a3 c3 S) (hm : ∀ k, ok k → k < w.heap.size → w'.heap[k]? = w.heap[k]?) : Ref w' ok a0 c0 a1 c1 a2 c2 a3 c3 S :=
  ⟨h.files.move hm, h.dir.move hm, h.dur.move hm, h.pend.move hm⟩
theorem Ref.below {w w' : World} {ok : Nat → Prop} {a0 c0 a1 c1 a2 c2 a3 c3} {S : PS} (h : Ref w ok a0 c0 a1 c1 a2 c2 a3 c3 S) (hb : Below w.heap.size w w') : Ref w' ok a0 c0 a1 c1 a2 c2 a3 c3 S := h.move (fun k _ hk => hb.block k hk)
/-- What an operation gives: a state, in blocks of ok or new ones. -/
def RefE (w : World) (ok : Nat → Prop) (S : PS) (e : Ending) (w' : World) : Prop := ∃ v, e = .returned v ∧ RefV w' (fun k => ok k ∨ w.heap.size ≤ k) v S ∧ Below w.heap.size w w'
def RefE2 (w : World) (ok : Nat → Prop) (S : PS × Int) (e : Ending) (w' : World) : Prop := ∃ v, e = .returned (.tuple #[v, .int .i64 S.2]) ∧ RefV w' (fun k => ok k ∨ w.heap.size ≤ k) v S.1 ∧ Below w.heap.size w w'
theorem blk_below {w w' : World} {b : Nat} {o : Obj} (h : w.heap[b]? = some o) (hb : Below w.heap.size w w') : w'.heap[b]? = some o := (hb.block b (lt_blk h)).trans h
theorem blk_grownN {w w' : World} {b : Nat} {o : Obj} (h : w.heap[b]? = some o) {r : Option Nat} (hg : w.grownBy w' r) (hr : some b ≠ r) : w'.heap[b]? = some o := (hg.block b (lt_blk h) hr).trans h
/-- A world that only grew by stores into a new block stays below. -/
theorem below_setN {n : Nat} {w0 w : World} (h : Below n w0 w) {b j : Nat} (hb : n ≤ b) (v : Value) : Below n w0 (w.setCell ⟨b, j, none⟩ v) :=
  h.trans ⟨rfl, rfl, rfl, by simp [World.setCell], fun k hk => Below.heap_setCell _ _ _ _ (by show k ≠ b; omega)⟩
theorem blk_allocN {w : World} {b : Nat} {o : Obj} (h : w.heap[b]? = some o) (o' : Obj) : (w.alloc o').heap[b]? = some o := (Below.heap_alloc _ _ _ (lt_blk h)).trans h
theorem three_blks (w : World) (x y z : Obj) : ((((w.alloc x).alloc y).alloc z).heap[w.heap.size]? = some x ∧ (((w.alloc x).alloc y).alloc z).heap[w.heap.size + 1]? = some y ∧ (((w.alloc x).alloc y).alloc z).heap[w.heap.size + 1 + 1]? = some z) ∧ Below w.heap.size w (((w.alloc x).alloc y).alloc z) := by
  have h1 := heap_alloc_new w x
  have h2 := heap_alloc_new (w.alloc x) y
  have h3 := heap_alloc_new ((w.alloc x).alloc y) z
  have e1 : (w.alloc x).heap.size = w.heap.size + 1 := by simp
  have e2 : ((w.alloc x).alloc y).heap.size = w.heap.size + 1 + 1 := by simp
  rw [e1] at h2
  rw [e2] at h3
  exact ⟨⟨blk_allocN (blk_allocN h1 _) _, blk_allocN h2 _, h3⟩, below_alloc (below_alloc (below_alloc (Below.refl _ _) _) _) _⟩
theorem two_blks (w : World) (x y : Obj) : (((w.alloc x).alloc y).heap[w.heap.size]? = some x ∧ ((w.alloc x).alloc y).heap[w.heap.size + 1]? = some y) ∧ Below w.heap.size w ((w.alloc x).alloc y) := by
  have h1 := heap_alloc_new w x
  have h2 := heap_alloc_new (w.alloc x) y
  have e1 : (w.alloc x).heap.size = w.heap.size + 1 := by simp
  rw [e1] at h2
  exact ⟨⟨blk_allocN h1 _, h2⟩, below_alloc (below_alloc (Below.refl _ _) _) _⟩
abbrev opCs (o : Opn) : List Value := [.int .i64 o.f0, .string o.f1, .string o.f2, .int .i64 o.f3]
abbrev svC (a0 : Option Addr) (c0 : Nat) (a1 : Option Addr) (c1 : Nat) (a2 : Option Addr) (c2 : Nat) (a3 : Option Addr) (c3 : Nat) (S : PS) : Array Value :=
  #[.slice a0 S.files.length c0, .slice a1 S.dir.length c1, .slice a2 S.dur.length c2, .slice a3 S.pend.length c3, .bool S.lim, .int .i64 S.left]

theorem op_cells {w : World} {b : Nat} {o : Opn} {t : Nat} {fz : Nat × Nat} (h : w.heap[b]? = some (.cells (opCs o).toArray t fz)) : w.cell? ⟨b, 0, none⟩ = some (.int .i64 o.f0) ∧ w.cell? ⟨b, 1, none⟩ = some (.string o.f1) ∧ w.cell? ⟨b, 2, none⟩ = some (.string o.f2) ∧ w.cell? ⟨b, 3, none⟩ = some (.int .i64 o.f3) :=
  ⟨cell_blk h 0, cell_blk h 1, cell_blk h 2, cell_blk h 3⟩
theorem six_cells {w : World} {b : Nat} {x0 x1 x2 x3 x4 x5 : Value} {t : Nat} {fz : Nat × Nat} (h : w.heap[b]? = some (.cells #[x0, x1, x2, x3, x4, x5] t fz)) : w.cell? ⟨b, 0, none⟩ = some x0 ∧ w.cell? ⟨b, 1, none⟩ = some x1 ∧ w.cell? ⟨b, 2, none⟩ = some x2 ∧ w.cell? ⟨b, 3, none⟩ = some x3 ∧ w.cell? ⟨b, 4, none⟩ = some x4 ∧ w.cell? ⟨b, 5, none⟩ = some x5 :=
  ⟨cell_blk h 0, cell_blk h 1, cell_blk h 2, cell_blk h 3, cell_blk h 4, cell_blk h 5⟩
theorem six_frozen {w : World} {b : Nat} {x0 x1 x2 x3 x4 x5 : Value} {t : Nat} (h : w.heap[b]? = some (.cells #[x0, x1, x2, x3, x4, x5] t (0, 0))) : w.frozen? ⟨b, 0, none⟩ = false ∧ w.frozen? ⟨b, 1, none⟩ = false ∧ w.frozen? ⟨b, 2, none⟩ = false ∧ w.frozen? ⟨b, 3, none⟩ = false ∧ w.frozen? ⟨b, 4, none⟩ = false ∧ w.frozen? ⟨b, 5, none⟩ = false :=
  ⟨frozen_blk h 0, frozen_blk h 1, frozen_blk h 2, frozen_blk h 3, frozen_blk h 4, frozen_blk h 5⟩
theorem not_far {v : Value} {n b : Nat} (hf : v.ownBlock = none ∨ ∃ q, v.ownBlock = some q ∧ n + 3 ≤ q) (hb : b < n + 3) : some b ≠ v.ownBlock := fun e => by
  rcases hf with h | ⟨q, h, hq⟩
  · rw [h] at e; cases e
  · rw [h] at e; cases e; omega

/-- Old blocks of ok, or new ones behind the boxes. -/
def OkN (ok : Nat → Prop) (n k : Nat) : Prop := (ok k ∧ k < n) ∨ n + 3 ≤ k
theorem OkN.ne {ok : Nat → Prop} {n k : Nat} (h : OkN ok n k) : k ≠ n ∧ k ≠ n + 1 ∧ k ≠ n + 1 + 1 := by
  rcases h with h | h
  · have := h.2; omega
  · omega
theorem OkN.in {ok : Nat → Prop} {n k : Nat} (h : OkN ok n k) : ok k ∨ n ≤ k := by
  rcases h with h | h
  · exact .inl h.1
  · exact .inr (by omega)
theorem OkN.of {ok : Nat → Prop} {n m k : Nat} (hm : n + 3 ≤ m) (h : (ok k ∧ k < n) ∨ m ≤ k) : OkN ok n k := by
  rcases h with h | h
  · exact .inl h
  · exact .inr (by omega)
theorem set_six {w : World} {b : Nat} {x0 x1 x2 x3 x4 x5 : Value} (y0 y1 y2 y3 y4 y5 : Value) {t : Nat} {fz : Nat × Nat} (h : w.heap[b]? = some (.cells #[x0, x1, x2, x3, x4, x5] t fz)) :
    ((((((w.setCell ⟨b, 0, none⟩ y0).setCell ⟨b, 1, none⟩ y1).setCell ⟨b, 2, none⟩ y2).setCell ⟨b, 3, none⟩ y3).setCell ⟨b, 4, none⟩ y4).setCell ⟨b, 5, none⟩ y5).heap[b]? = some (.cells #[y0, y1, y2, y3, y4, y5] t fz) :=
  blk_set (blk_set (blk_set (blk_set (blk_set (blk_set h 0 y0) 1 y1) 2 y2) 3 y3) 4 y4) 5 y5
theorem below_six {n : Nat} {w0 w : World} (h : Below n w0 w) {b : Nat} (hb : n ≤ b) (y0 y1 y2 y3 y4 y5 : Value) :
    Below n w0 ((((((w.setCell ⟨b, 0, none⟩ y0).setCell ⟨b, 1, none⟩ y1).setCell ⟨b, 2, none⟩ y2).setCell ⟨b, 3, none⟩ y3).setCell ⟨b, 4, none⟩ y4).setCell ⟨b, 5, none⟩ y5) :=
  below_setN (below_setN (below_setN (below_setN (below_setN (below_setN h hb y0) hb y1) hb y2) hb y3) hb y4) hb y5
theorem other_six {w : World} {b k : Nat} (hk : k ≠ b) (y0 y1 y2 y3 y4 y5 : Value) :
    ((((((w.setCell ⟨b, 0, none⟩ y0).setCell ⟨b, 1, none⟩ y1).setCell ⟨b, 2, none⟩ y2).setCell ⟨b, 3, none⟩ y3).setCell ⟨b, 4, none⟩ y4).setCell ⟨b, 5, none⟩ y5).heap[k]? = w.heap[k]? := by
  rw [Below.heap_setCell _ _ _ _ hk, Below.heap_setCell _ _ _ _ hk, Below.heap_setCell _ _ _ _ hk, Below.heap_setCell _ _ _ _ hk, Below.heap_setCell _ _ _ _ hk, Below.heap_setCell _ _ _ _ hk]

set_option maxHeartbeats 4000000 in
theorem directory_calls (w : World) (ok : Nat → Prop) (a0 : Option Addr) (c0 : Nat) (a1 : Option Addr) (c1 : Nat) (a2 : Option Addr) (c2 : Nat) (a3 : Option Addr) (c3 : Nat) (S : PS) (o : Opn) (h : Ref w ok a0 c0 a1 c1 a2 c2 a3 c3 S) (hl : S.dir.length ≤ 549755813888) (hp : S.pend.length ≤ 549755813888) (ho : o.f0 = 1 ∨ o.f0 = 2 ∨ o.f0 = 3) :
    Calls Try.prog 54 #[sv a0 c0 a1 c1 a2 c2 a3 c3 S, .agg #[.int .i64 o.f0, .string o.f1, .string o.f2, .int .i64 o.f3]] w (RefE w ok (pDir S o)) := by
  have H := Lib.hid h
  have HL := Lib.hid hl
  have HP := Lib.hid hp
  have HO := Lib.hid ho
  clear h hl hp ho
  go_enter Try.func54, Try.ntmps54
  go_upto_region 2 with (fail)
  have hw := three_blks w (.cells (svC a0 c0 a1 c1 a2 c2 a3 c3 S) 30) (.cells (opCs o).toArray 79) (.cells #[.slice none 0 0, .slice none 0 0, .slice none 0 0, .slice none 0 0, .bool false, .int .i64 0] 30)
  have HW := Lib.hid hw
  have HWS : Hid (w.heap.size + 3 ≤ (((w.alloc (.cells (svC a0 c0 a1 c1 a2 c2 a3 c3 S) 30)).alloc (.cells (opCs o).toArray 79)).alloc (.cells #[.slice none 0 0, .slice none 0 0, .slice none 0 0, .slice none 0 0, .bool false, .int .i64 0] 30)).heap.size) := by simp [Hid]
  have HOK := Lib.hid (H.out.mono (ok' := fun k => ok k ∧ k < w.heap.size) (fun k h1 h2 => ⟨h1, h2⟩))
  clear hw
  go_wp2_with (first | (at_builtin; refine Kd.N_append_rows kO (w0 := w) w.heap.size rfl (.tmp 6) (.tmp 8) 28 79 _ 48 rfl Try.underlying28 info79 rfl (by decide) (by omega) (.slice none 0 0) [] S.pend a3 S.pend.length c3 (OkN ok w.heap.size) (fun k => ok k ∧ k < w.heap.size) rfl rfl (Kd.N_nil _ _ _ _ _) (HOK.out.below HW.out.2).pend.f (fun k hk => ⟨.inl hk, by simp [Value.ownBlock]⟩) (fun k hk => .inr (Nat.le_trans HWS.out hk)) HW.out.2 HW.out.2.size (by have := HP.out; simp only [List.length_nil]; omega) ?_; intro v1 w1 hn hb hg hat; rw [List.nil_append] at hn; have b0 := Lib.hid (blk_grownN HW.out.1.1 hg (by simp [Value.ownBlock])); have b1 := Lib.hid (blk_grownN HW.out.1.2.1 hg (by simp [Value.ownBlock])); have b2 := Lib.hid (blk_grownN HW.out.1.2.2 hg (by simp [Value.ownBlock])); obtain ⟨p0, p1, p2, p3⟩ := op_cells b1.out; have HN1 := Lib.hid hn; have HB1 := Lib.hid hb; have hfar : v1.ownBlock = none ∨ ∃ q, v1.ownBlock = some q ∧ w.heap.size + 3 ≤ q := (by rcases hat with e | ⟨q, e1, e2⟩; exact .inl e; exact .inr ⟨q, e1, by have hs := HW.out.2.size; simp at e2; omega⟩); have HF1 := Lib.hid hfar; have HS1 := Lib.hid (Nat.le_trans HWS.out hg.size); clear hn hb hg hat hfar) | (at_builtin; refine Kd.N_append kO (w0 := w) w.heap.size rfl (.tmp 10) (.tmp 12) 28 79 _ 48 rfl Try.underlying28 info79 rfl (by decide) (by omega) v1 S.pend o (opCs o) (OkN ok w.heap.size) (fun _ => False) rfl rfl (k79_mkF _ _ _) (fun k hk => hk.elim) (fun k hk => .inr (Nat.le_trans HS1.out hk)) HN1.out HB1.out HB1.out.size (by have := HP.out; omega) ?_; intro v2 w2 hn hb hg hat; have k0 := Lib.hid (blk_grownN b0.out hg (not_far HF1.out (by omega))); have k1 := Lib.hid (blk_grownN b1.out hg (not_far HF1.out (by omega))); have k2 := Lib.hid (blk_grownN b2.out hg (not_far HF1.out (by omega))); clear p0 p1 p2 p3 b0 b1 b2; obtain ⟨p0, p1, p2, p3⟩ := op_cells k1.out; obtain ⟨s0, s1, s2, s3, s4, s5⟩ := six_cells k0.out; obtain ⟨f0, f1, f2, f3, f4, f5⟩ := six_frozen k0.out; obtain ⟨A2, cc2, rfl, hr2⟩ := Rd.ofN hn; have HR2 := Lib.hid (hr2.mono (ok' := OkN ok w.heap.size) (fun k hk _ => hk.1)); have HB2 := Lib.hid hb; have HS2 := Lib.hid (Nat.le_trans HS1.out hg.size); clear hn hb hg hat hr2 HN1) | (go_at_call 33; refine (refApply_calls _ (fun k => ok k ∧ k < w.heap.size) a1 c1 S.dir o (HOK.out.below (below_setN HB2.out (Nat.le_refl _) _)).dir HL.out HO.out).mono ?_; rintro e w3 ⟨A3, cc3, rfl, hr3, hb3⟩; go_loud ( have k0' : w3.heap[w.heap.size]? = some (.cells #[.slice a0 S.files.length c0, .slice a1 S.dir.length c1, .slice a2 S.dur.length c2, .slice A2 (S.pend.length + 1) cc2, .bool S.lim, .int .i64 S.left] 30 (0, 0)) := blk_below (blk_set k0.out 3 _) hb3; have k2' := blk_below (blk_set_other k2.out (p := ⟨w.heap.size, 3, none⟩) (by show w.heap.size + 1 + 1 ≠ w.heap.size; omega) _) hb3; have HB3 := Lib.hid ((below_setN HB2.out (b := w.heap.size) (j := 3) (Nat.le_refl _) (.slice A2 (S.pend.length + 1) cc2)).trans (hb3.mono (below_setN HB2.out (b := w.heap.size) (j := 3) (Nat.le_refl _) (.slice A2 (S.pend.length + 1) cc2)).size)); have HR3 := Lib.hid (hr3.mono (ok' := OkN ok w.heap.size) (fun k hk _ => OkN.of (by have := HS2.out; simpa [World.setCell] using this) hk)); have HR23 := Lib.hid ((HR2.out.move (w' := w2.setCell ⟨w.heap.size, 3, none⟩ (.slice A2 (S.pend.length + 1) cc2)) (fun k hk _ => Below.heap_setCell _ _ _ _ hk.ne.1)).below hb3); clear p0 p1 p2 p3 s0 s1 s2 s3 s4 s5 f0 f1 f2 f3 f4 f5 k0 k1 k2; obtain ⟨s0, s1, s2, s3, s4, s5⟩ := six_cells k0'; obtain ⟨f0, f1, f2, f3, f4, f5⟩ := six_frozen k0'; obtain ⟨g0, g1, g2, g3, g4, g5⟩ := six_frozen k2'; obtain ⟨e0, e1, e2, e3, e4, e5⟩ := six_cells k2'; have K0 := Lib.hid k0'; have K2 := Lib.hid k2'; clear hr3 hb3 k0' k2')) | fail)
  have hset := @set_six (w3.setCell ⟨w.heap.size, 1, none⟩ (.slice A3 (pApply S.dir o).length cc3)) (w.heap.size + 1 + 1) _ _ _ _ _ _ (.slice a0 S.files.length c0) (.slice A3 (pApply S.dir o).length cc3) (.slice a2 S.dur.length c2) (.slice A2 (S.pend.length + 1) cc2) (.bool S.lim) (.int .i64 S.left) _ _ (blk_set_other K2.out (by show w.heap.size + 1 + 1 ≠ w.heap.size; omega) _)
  have hbel := below_six (below_setN HB3.out (b := w.heap.size) (j := 1) (Nat.le_refl _) (.slice A3 (pApply S.dir o).length cc3)) (b := w.heap.size + 1 + 1) (by omega) (.slice a0 S.files.length c0) (.slice A3 (pApply S.dir o).length cc3) (.slice a2 S.dur.length c2) (.slice A2 (S.pend.length + 1) cc2) (.bool S.lim) (.int .i64 S.left)
  have hoth := fun k h1 h2 => (@other_six (w3.setCell ⟨w.heap.size, 1, none⟩ (.slice A3 (pApply S.dir o).length cc3)) (w.heap.size + 1 + 1) k h2 (.slice a0 S.files.length c0) (.slice A3 (pApply S.dir o).length cc3) (.slice a2 S.dur.length c2) (.slice A2 (S.pend.length + 1) cc2) (.bool S.lim) (.int .i64 S.left)).trans (Below.heap_setCell w3 ⟨w.heap.size, 1, none⟩ _ k h1)
  refine bodyPost_ret (results_cell_row rfl _ _ (w.heap.size + 1 + 1) 30 _ (0, 0) _ rfl hset Try.underlying30 rfl (by kernel_rfl)) rfl ⟨_, rfl, ⟨a0, c0, A3, cc3, a2, c2, A2, cc2, by simp [sv, pDir], ⟨(H.out.files.below hbel).mono (fun k hk _ => .inl hk), ?_, (H.out.dur.below hbel).mono (fun k hk _ => .inl hk), ?_⟩⟩, hbel⟩
  · exact (HR3.out.move (fun k hk _ => hoth k hk.ne.1 hk.ne.2.2)).mono (fun k hk _ => hk.in)
  · exact (HR23.out.move (fun k hk _ => hoth k hk.ne.1 hk.ne.2.2)).mono (fun k hk _ => hk.in)
end Go.Proofs.Ytpffeafoangegaa.Disk

/- The reference's functions: Remove, Rename, SyncDir, Create. -/
namespace Go.Proofs.Ytpffeafoangegaa.Disk
open Go Go.RowKit Go.Proofs.YtpffeafoangegaaW.PrintWords Go.Proofs.YtpffeafoangegaaW.PrintLast Go.Proofs.YtpffeafoangegaaW.PrintMore Go.Proofs.Ytpffeafoangegaa.PSimdiskOperations
abbrev tState : Nat := 30
abbrev zeroC : Array Value := #[.slice none 0 0, .slice none 0 0, .slice none 0 0, .slice none 0 0, .bool false, .int .i64 0]
theorem refcheck_calls (w : World) (ok : Nat → Prop) (a0 : Option Addr) (c0 : Nat) (a1 : Option Addr) (c1 : Nat) (a2 : Option Addr) (c2 : Nat) (a3 : Option Addr) (c3 : Nat) (S : PS) (A : Option Addr) (cc : Nat) (names : List ByteArray) (c : Int) (h : Ref w ok a0 c0 a1 c1 a2 c2 a3 c3 S) (hn : Kd.C Kd.string w A names.length names) (hcc : names.length ≤ cc) (hl : names.length < 1000) (hc : pCheck S.lim S.left names = c) :
    Calls Try.prog 52 #[sv a0 c0 a1 c1 a2 c2 a3 c3 S, .slice A names.length cc] w fun e w' => e = .returned (.int .i64 c) ∧ Below w.heap.size w w' :=
  laminaref20_check.calls 1071 _ _ _ _ _ _ _ _ _ _ _ _ _ _ _ _ _ _ w h.files.now h.files.le h.dir.now h.dir.le h.dur.now h.dur.le h.pend.now h.pend.le hn hcc (hc ▸ check_f _ _ _ _ _ _ _ _ hl (by decide))
theorem refcheck_one (w W : World) (ok : Nat → Prop) (a0 : Option Addr) (c0 : Nat) (a1 : Option Addr) (c1 : Nat) (a2 : Option Addr) (c2 : Nat) (a3 : Option Addr) (c3 : Nat) (S : PS) (b : Nat) (n : ByteArray) (c : Int) (h : Ref w ok a0 c0 a1 c1 a2 c2 a3 c3 S) (hW : Below w.heap.size w W) (hb : b = W.heap.size) (hc : pCheck S.lim S.left [n] = c) :
    Calls Try.prog 52 #[sv a0 c0 a1 c1 a2 c2 a3 c3 S, .slice (some ⟨b, 0, none⟩) 1 1] (W.alloc (.cells #[.string n] 9)) fun e w' => e = .returned (.int .i64 c) ∧ Below W.heap.size W w' := by
  subst hb
  exact (refcheck_calls _ ok a0 c0 a1 c1 a2 c2 a3 c3 S _ 1 [n] c (h.below (below_alloc hW _)) (C_one (heap_alloc_new _ _)) (Nat.le_refl _) (by simp) hc).mono fun e w' q => ⟨q.1, (below_alloc (Below.refl _ _) _).trans (q.2.mono (by simp))⟩
theorem refcheck_two (w W : World) (ok : Nat → Prop) (a0 : Option Addr) (c0 : Nat) (a1 : Option Addr) (c1 : Nat) (a2 : Option Addr) (c2 : Nat) (a3 : Option Addr) (c3 : Nat) (S : PS) (b : Nat) (m n : ByteArray) (c : Int) (h : Ref w ok a0 c0 a1 c1 a2 c2 a3 c3 S) (hW : Below w.heap.size w W) (hb : b = W.heap.size) (hc : pCheck S.lim S.left [m, n] = c) :
    Calls Try.prog 52 #[sv a0 c0 a1 c1 a2 c2 a3 c3 S, .slice (some ⟨b, 0, none⟩) 2 2] (W.alloc (.cells #[.string m, .string n] 9)) fun e w' => e = .returned (.int .i64 c) ∧ Below W.heap.size W w' := by
  subst hb
  exact (refcheck_calls _ ok a0 c0 a1 c1 a2 c2 a3 c3 S _ 2 [m, n] c (h.below (below_alloc hW _)) (C_two (heap_alloc_new _ _)) (Nat.le_refl _) (by simp) hc).mono fun e w' q => ⟨q.1, (below_alloc (Below.refl _ _) _).trans (q.2.mono (by simp))⟩
/-- performed, on a state. -/
theorem refdone_calls (w : World) (a0 : Option Addr) (c0 : Nat) (a1 : Option Addr) (c1 : Nat) (a2 : Option Addr) (c2 : Nat) (a3 : Option Addr) (c3 : Nat) (n0 n1 n2 n3 : Nat) (lim : Bool) (left : Int) (h : lim = true → 0 < left ∧ left ≤ 9223372036854775807) :
    Calls Try.prog 53 #[.agg #[.slice a0 n0 c0, .slice a1 n1 c1, .slice a2 n2 c2, .slice a3 n3 c3, .bool lim, .int .i64 left]] w fun e w' =>
      e = .returned (.agg #[.slice a0 n0 c0, .slice a1 n1 c1, .slice a2 n2 c2, .slice a3 n3 c3, .bool lim, .int .i64 (doneLeft lim left)]) ∧ Below w.heap.size w w' :=
  performed_calls w a0 a1 a2 a3 n0 c0 n1 c1 n2 c2 n3 c3 lim left h
/-- At the end of a method of the reference: the state is laid in the result's block. -/
theorem fin_ref {w w4 : World} {ok : Nat → Prop} {b0 : Option Addr} {d0 : Nat} {b1 : Option Addr} {d1 : Nat} {b2 : Option Addr} {d2 : Nat} {b3 : Option Addr} {d3 : Nat} {S : PS} {x0 x1 x2 x3 x4 x5 : Value} (hb : Below w.heap.size w w4) (h1 : w4.heap[w.heap.size + 1]? = some (.cells #[x0, x1, x2, x3, x4, x5] tState (0, 0))) (hr : Ref w4 (fun k => (ok k ∧ k < w.heap.size) ∨ w.heap.size + 2 ≤ k) b0 d0 b1 d1 b2 d2 b3 d3 S) :
    ((((((w4.setCell ⟨w.heap.size + 1, 0, none⟩ (.slice b0 S.files.length d0)).setCell ⟨w.heap.size + 1, 1, none⟩ (.slice b1 S.dir.length d1)).setCell ⟨w.heap.size + 1, 2, none⟩ (.slice b2 S.dur.length d2)).setCell ⟨w.heap.size + 1, 3, none⟩ (.slice b3 S.pend.length d3)).setCell ⟨w.heap.size + 1, 4, none⟩ (.bool S.lim)).setCell ⟨w.heap.size + 1, 5, none⟩ (.int .i64 S.left)).heap[w.heap.size + 1]? = some (.cells (svC b0 d0 b1 d1 b2 d2 b3 d3 S) tState (0, 0)) ∧
    Below w.heap.size w ((((((w4.setCell ⟨w.heap.size + 1, 0, none⟩ (.slice b0 S.files.length d0)).setCell ⟨w.heap.size + 1, 1, none⟩ (.slice b1 S.dir.length d1)).setCell ⟨w.heap.size + 1, 2, none⟩ (.slice b2 S.dur.length d2)).setCell ⟨w.heap.size + 1, 3, none⟩ (.slice b3 S.pend.length d3)).setCell ⟨w.heap.size + 1, 4, none⟩ (.bool S.lim)).setCell ⟨w.heap.size + 1, 5, none⟩ (.int .i64 S.left)) ∧
    Ref ((((((w4.setCell ⟨w.heap.size + 1, 0, none⟩ (.slice b0 S.files.length d0)).setCell ⟨w.heap.size + 1, 1, none⟩ (.slice b1 S.dir.length d1)).setCell ⟨w.heap.size + 1, 2, none⟩ (.slice b2 S.dur.length d2)).setCell ⟨w.heap.size + 1, 3, none⟩ (.slice b3 S.pend.length d3)).setCell ⟨w.heap.size + 1, 4, none⟩ (.bool S.lim)).setCell ⟨w.heap.size + 1, 5, none⟩ (.int .i64 S.left)) (fun k => ok k ∨ w.heap.size ≤ k) b0 d0 b1 d1 b2 d2 b3 d3 S :=
  ⟨set_six _ _ _ _ _ _ h1, below_six hb (by omega) _ _ _ _ _ _, (hr.move (fun k hk _ => other_six (by rcases hk with hk | hk; have := hk.2; omega; omega) _ _ _ _ _ _)).mono (fun k hk _ => by rcases hk with hk | hk; exact .inl hk.1; exact .inr (by omega))⟩
theorem Ref.done {w : World} {ok : Nat → Prop} {a0 c0 a1 c1 a2 c2 a3 c3} {S : PS} (h : Ref w ok a0 c0 a1 c1 a2 c2 a3 c3 S) : Ref w ok a0 c0 a1 c1 a2 c2 a3 c3 (pDone S) := ⟨h.files, h.dir, h.dur, h.pend⟩
theorem okin {w w2 : World} {ok : Nat → Prop} {o : Obj} {k : Nat} (h : w2.heap[w.heap.size + 1]? = some o) (hk : (ok k ∧ k < w.heap.size) ∨ w2.heap.size ≤ k) : (ok k ∧ k < w.heap.size) ∨ w.heap.size + 2 ≤ k := by
  rcases hk with hk | hk
  · exact .inl hk
  · exact .inr (by have := lt_blk h; omega)
theorem okin2 {w w2 : World} {ok : Nat → Prop} {o : Obj} {k : Nat} (h : w2.heap[w.heap.size + 1]? = some o) (hk : ((ok k ∧ k < w.heap.size) ∨ w.heap.size + 2 ≤ k) ∨ w2.heap.size ≤ k) : (ok k ∧ k < w.heap.size) ∨ w.heap.size + 2 ≤ k := by
  rcases hk with hk | hk
  · exact hk
  · exact .inr (by have := lt_blk h; omega)

set_option maxHeartbeats 4000000 in
theorem refRemove_calls (w : World) (ok : Nat → Prop) (a0 : Option Addr) (c0 : Nat) (a1 : Option Addr) (c1 : Nat) (a2 : Option Addr) (c2 : Nat) (a3 : Option Addr) (c3 : Nat) (S : PS) (B : Nat) (n : ByteArray) (h : Ref w ok a0 c0 a1 c1 a2 c2 a3 c3 S) (hg : Good S B) (hB : B ≤ 549755813888) :
    Calls Try.prog 42 #[sv a0 c0 a1 c1 a2 c2 a3 c3 S, .string n] w (RefE2 w ok (pRemove S n)) := by
  have H := Lib.hid h
  have HG := Lib.hid hg
  have HB := Lib.hid hB
  have HW := Lib.hid (two_blks w (.cells (svC a0 c0 a1 c1 a2 c2 a3 c3 S) tState) (.cells zeroC tState))
  have HOK := Lib.hid (h.mono (ok' := fun k => ok k ∧ k < w.heap.size) (fun k h1 h2 => ⟨h1, h2⟩))
  clear h hg hB
  by_cases hc : pCheck S.lim S.left [n] = 0
  · have HC := Lib.hid hc
    have HN := Lib.hid (pCheck_zero hc)
    cases hp : pLook S.dir n with
    | none =>
      have e : pRemove S n = (S, 15) := by simp [pRemove, hc, hp]
      rw [e]
      have HP := Lib.hid hp
      clear hc hp e
      go_enter Try.func42, Try.ntmps42
      go_wp2_with (first | (go_at_call 52; refine (refcheck_one w _ ok a0 c0 a1 c1 a2 c2 a3 c3 S _ n 0 H.out HW.out.2 (by simp) HC.out).mono ?_; rintro e w1 ⟨rfl, hb⟩; have HB1 := Lib.hid (HW.out.2.trans (hb.mono HW.out.2.size)); have j0 := Lib.hid (blk_below HW.out.1.1 hb); have j1 := Lib.hid (blk_below HW.out.1.2 hb); obtain ⟨s0, s1, s2, s3, s4, s5⟩ := six_cells j0.out; obtain ⟨e0, e1, e2, e3, e4, e5⟩ := six_cells j1.out; obtain ⟨g0, g1, g2, g3, g4, g5⟩ := six_frozen j1.out; obtain ⟨f0, f1, f2, f3, f4, f5⟩ := six_frozen j0.out; clear hb) | (go_at_call 48; refine (find_none_calls w1 ok a1 c1 S.dir n (H.out.below HB1.out).dir (by have := HG.out.nDir; have := HB.out; omega) HP.out).mono ?_; rintro e w2 ⟨rfl, hd⟩; have hb := drawn_below hd; have HB2 := Lib.hid (HB1.out.trans (hb.mono HB1.out.size)); have k0 := Lib.hid (blk_below j0.out hb); have k1 := Lib.hid (blk_below j1.out hb); clear s0 s1 s2 s3 s4 s5 e0 e1 e2 e3 e4 e5 g0 g1 g2 g3 g4 g5 f0 f1 f2 f3 f4 f5; clear j0 j1; have j0 := k0; have j1 := k1; clear k0 k1; obtain ⟨s0, s1, s2, s3, s4, s5⟩ := six_cells j0.out; obtain ⟨e0, e1, e2, e3, e4, e5⟩ := six_cells j1.out; obtain ⟨g0, g1, g2, g3, g4, g5⟩ := six_frozen j1.out; obtain ⟨f0, f1, f2, f3, f4, f5⟩ := six_frozen j0.out; clear hb hd) | fail)
      obtain ⟨q1, q2, q3⟩ := fin_ref (ok := ok) (S := S) HB2.out j1.out (HOK.out.below HB2.out |>.mono (fun k hk _ => .inl hk))
      exact bodyPost_ret (results_ct rfl _ _ (w.heap.size + 1) tState _ (0, 0) _ rfl q1 Try.underlying30 rfl (by kernel_rfl)) rfl ⟨_, rfl, ⟨a0, c0, a1, c1, a2, c2, a3, c3, rfl, q3⟩, q2⟩
    | some x =>
      have e : pRemove S n = (pDone (pDir S ⟨3, n, ⟨#[]⟩, 0⟩), 0) := by simp [pRemove, hc, hp]
      rw [e]
      have HP := Lib.hid hp
      clear hc hp e
      go_enter Try.func42, Try.ntmps42
      go_wp2_with (first | (go_at_call 52; refine (refcheck_one w _ ok a0 c0 a1 c1 a2 c2 a3 c3 S _ n 0 H.out HW.out.2 (by simp) HC.out).mono ?_; rintro e w1 ⟨rfl, hb⟩; have HB1 := Lib.hid (HW.out.2.trans (hb.mono HW.out.2.size)); have j0 := Lib.hid (blk_below HW.out.1.1 hb); have j1 := Lib.hid (blk_below HW.out.1.2 hb); obtain ⟨s0, s1, s2, s3, s4, s5⟩ := six_cells j0.out; obtain ⟨e0, e1, e2, e3, e4, e5⟩ := six_cells j1.out; obtain ⟨g0, g1, g2, g3, g4, g5⟩ := six_frozen j1.out; obtain ⟨f0, f1, f2, f3, f4, f5⟩ := six_frozen j0.out; clear hb) | (go_at_call 48; obtain ⟨t, ht, hx, hcall⟩ := find_some_calls w1 ok a1 c1 S.dir n x (H.out.below HB1.out).dir (by have := HG.out.nDir; have := HB.out; omega) HP.out; have HX := Lib.hid hx; refine hcall.mono ?_; rintro e w2 ⟨rfl, hd⟩; have hb := drawn_below hd; have HB2 := Lib.hid (HB1.out.trans (hb.mono HB1.out.size)); have htb : t < 549755813888 := (by have := HG.out.nDir; have := HB.out; omega); have k0 := Lib.hid (blk_below j0.out hb); have k1 := Lib.hid (blk_below j1.out hb); clear s0 s1 s2 s3 s4 s5 e0 e1 e2 e3 e4 e5 g0 g1 g2 g3 g4 g5 f0 f1 f2 f3 f4 f5; clear j0 j1; have j0 := k0; have j1 := k1; clear k0 k1; obtain ⟨s0, s1, s2, s3, s4, s5⟩ := six_cells j0.out; obtain ⟨e0, e1, e2, e3, e4, e5⟩ := six_cells j1.out; obtain ⟨g0, g1, g2, g3, g4, g5⟩ := six_frozen j1.out; obtain ⟨f0, f1, f2, f3, f4, f5⟩ := six_frozen j0.out; clear hb hd hcall hx) | (go_at_call 54; refine (directory_calls w2 (fun k => ok k ∧ k < w.heap.size) a0 c0 a1 c1 a2 c2 a3 c3 S ⟨3, n, ⟨#[]⟩, 0⟩ (HOK.out.below HB2.out) (by have := HG.out.nDir; have := HB.out; show S.dir.length ≤ 549755813888; omega) (by have := HG.out.nPend; have := HB.out; show S.pend.length ≤ 549755813888; omega) (.inr (.inr rfl))).mono ?_; rintro e w3 ⟨v, rfl, ⟨b0, d0, b1, d1, b2, d2, b3, d3, rfl, hr⟩, hb⟩; have HB3 := Lib.hid (HB2.out.trans (hb.mono HB2.out.size)); have HR3 := Lib.hid (hr.mono (ok' := fun k => (ok k ∧ k < w.heap.size) ∨ w.heap.size + 2 ≤ k) (fun k hk _ => okin j1.out hk)); have k0 := Lib.hid (blk_below j0.out hb); have k1 := Lib.hid (blk_below j1.out hb); clear s0 s1 s2 s3 s4 s5 e0 e1 e2 e3 e4 e5 g0 g1 g2 g3 g4 g5 f0 f1 f2 f3 f4 f5; clear j0 j1; have j0 := k0; have j1 := k1; clear k0 k1; obtain ⟨s0, s1, s2, s3, s4, s5⟩ := six_cells j0.out; obtain ⟨e0, e1, e2, e3, e4, e5⟩ := six_cells j1.out; obtain ⟨g0, g1, g2, g3, g4, g5⟩ := six_frozen j1.out; obtain ⟨f0, f1, f2, f3, f4, f5⟩ := six_frozen j0.out; clear hb hr) | (go_at_call 53; refine (refdone_calls w3 _ _ _ _ _ _ _ _ _ _ _ _ _ _ (fun e => ⟨HN.out.1 e, (HG.out.left e).2⟩)).mono ?_; rintro e w4 ⟨rfl, hb⟩; have HB4 := Lib.hid (HB3.out.trans (hb.mono HB3.out.size)); have HR4 := Lib.hid (HR3.out.below hb); have k0 := Lib.hid (blk_below j0.out hb); have k1 := Lib.hid (blk_below j1.out hb); clear s0 s1 s2 s3 s4 s5 e0 e1 e2 e3 e4 e5 g0 g1 g2 g3 g4 g5 f0 f1 f2 f3 f4 f5; clear j0 j1; have j0 := k0; have j1 := k1; clear k0 k1; obtain ⟨s0, s1, s2, s3, s4, s5⟩ := six_cells j0.out; obtain ⟨e0, e1, e2, e3, e4, e5⟩ := six_cells j1.out; obtain ⟨g0, g1, g2, g3, g4, g5⟩ := six_frozen j1.out; obtain ⟨f0, f1, f2, f3, f4, f5⟩ := six_frozen j0.out; clear hb) | fail)
      obtain ⟨q1, q2, q3⟩ := fin_ref (ok := ok) (S := pDone (pDir S ⟨3, n, ⟨#[]⟩, 0⟩)) HB4.out j1.out (HR4.out.done)
      exact bodyPost_ret (results_ct rfl _ _ (w.heap.size + 1) tState _ (0, 0) _ rfl q1 Try.underlying30 rfl (by kernel_rfl)) rfl ⟨_, rfl, ⟨b0, d0, b1, d1, b2, d2, b3, d3, rfl, q3⟩, q2⟩
  · have e : pRemove S n = (S, pCheck S.lim S.left [n]) := by simp [pRemove, hc]
    rw [e]
    obtain ⟨c, hcc⟩ : ∃ c, pCheck S.lim S.left [n] = c := ⟨_, rfl⟩
    have HC := Lib.hid hcc
    have hc1 : (c == 0) = false := by rw [← hcc]; simpa using hc
    have hc2 : ¬ c = 0 := by rw [← hcc]; exact hc
    rw [hcc]
    clear e hc hcc
    go_enter Try.func42, Try.ntmps42
    go_wp2_with (first | (go_at_call 52; refine (refcheck_one w _ ok a0 c0 a1 c1 a2 c2 a3 c3 S _ n c H.out HW.out.2 (by simp) HC.out).mono ?_; rintro e w1 ⟨rfl, hb⟩; have HB1 := Lib.hid (HW.out.2.trans (hb.mono HW.out.2.size)); have j0 := Lib.hid (blk_below HW.out.1.1 hb); have j1 := Lib.hid (blk_below HW.out.1.2 hb); obtain ⟨s0, s1, s2, s3, s4, s5⟩ := six_cells j0.out; obtain ⟨e0, e1, e2, e3, e4, e5⟩ := six_cells j1.out; obtain ⟨g0, g1, g2, g3, g4, g5⟩ := six_frozen j1.out; obtain ⟨f0, f1, f2, f3, f4, f5⟩ := six_frozen j0.out; clear hb) | fail)
    obtain ⟨q1, q2, q3⟩ := fin_ref (ok := ok) (S := S) HB1.out j1.out (HOK.out.below HB1.out |>.mono (fun k hk _ => .inl hk))
    exact bodyPost_ret (results_ct rfl _ _ (w.heap.size + 1) tState _ (0, 0) _ rfl q1 Try.underlying30 rfl (by kernel_rfl)) rfl ⟨_, rfl, ⟨a0, c0, a1, c1, a2, c2, a3, c3, rfl, q3⟩, q2⟩
/-- Behind six stores into the state's box and a call that only grows. -/
theorem six_in {w w3 w4 : World} {ok : Nat → Prop} {b0 : Option Addr} {d0 : Nat} {b1 : Option Addr} {d1 : Nat} {b2 : Option Addr} {d2 : Nat} {b3 : Option Addr} {d3 : Nat} {S : PS} {y0 y1 y2 y3 y4 y5 : Value} {o : Obj} (hb : Below w.heap.size w w3) (hr : Ref w3 (fun k => (ok k ∧ k < w.heap.size) ∨ w.heap.size + 2 ≤ k) b0 d0 b1 d1 b2 d2 b3 d3 S) (h1 : w3.heap[w.heap.size + 1]? = some o)
    (h4 : Below ((((((w3.setCell ⟨w.heap.size, 0, none⟩ y0).setCell ⟨w.heap.size, 1, none⟩ y1).setCell ⟨w.heap.size, 2, none⟩ y2).setCell ⟨w.heap.size, 3, none⟩ y3).setCell ⟨w.heap.size, 4, none⟩ y4).setCell ⟨w.heap.size, 5, none⟩ y5).heap.size ((((((w3.setCell ⟨w.heap.size, 0, none⟩ y0).setCell ⟨w.heap.size, 1, none⟩ y1).setCell ⟨w.heap.size, 2, none⟩ y2).setCell ⟨w.heap.size, 3, none⟩ y3).setCell ⟨w.heap.size, 4, none⟩ y4).setCell ⟨w.heap.size, 5, none⟩ y5) w4) :
    Below w.heap.size w w4 ∧ Ref w4 (fun k => (ok k ∧ k < w.heap.size) ∨ w.heap.size + 2 ≤ k) b0 d0 b1 d1 b2 d2 b3 d3 S ∧ w4.heap[w.heap.size + 1]? = some o := by
  have q := below_six hb (Nat.le_refl w.heap.size) y0 y1 y2 y3 y4 y5
  exact ⟨q.trans (h4.mono q.size), (hr.move (fun k hk _ => other_six (by rcases hk with hk | hk; have := hk.2; omega; omega) y0 y1 y2 y3 y4 y5)).below h4, blk_below ((other_six (by omega) y0 y1 y2 y3 y4 y5).trans h1) h4⟩

set_option maxHeartbeats 4000000 in
theorem refRename_calls (w : World) (ok : Nat → Prop) (a0 : Option Addr) (c0 : Nat) (a1 : Option Addr) (c1 : Nat) (a2 : Option Addr) (c2 : Nat) (a3 : Option Addr) (c3 : Nat) (S : PS) (B : Nat) (m n : ByteArray) (h : Ref w ok a0 c0 a1 c1 a2 c2 a3 c3 S) (hg : Good S B) (hB : B ≤ 549755813888) :
    Calls Try.prog 41 #[sv a0 c0 a1 c1 a2 c2 a3 c3 S, .string m, .string n] w (RefE2 w ok (pRename S m n)) := by
  have H := Lib.hid h
  have HG := Lib.hid hg
  have HB := Lib.hid hB
  have HW := Lib.hid (two_blks w (.cells (svC a0 c0 a1 c1 a2 c2 a3 c3 S) tState) (.cells zeroC tState))
  have HOK := Lib.hid (h.mono (ok' := fun k => ok k ∧ k < w.heap.size) (fun k h1 h2 => ⟨h1, h2⟩))
  clear h hg hB
  by_cases hc : pCheck S.lim S.left [m, n] = 0
  · have HC := Lib.hid hc
    have HN := Lib.hid (pCheck_zero hc)
    cases hp : pLook S.dir m with
    | none =>
      have e : pRename S m n = (S, 15) := by simp [pRename, hc, hp]
      rw [e]
      have HP := Lib.hid hp
      clear hc hp e
      go_enter Try.func41, Try.ntmps41
      go_wp2_with (first | (go_at_call 52; refine (refcheck_two w _ ok a0 c0 a1 c1 a2 c2 a3 c3 S _ m n 0 H.out HW.out.2 (by simp) HC.out).mono ?_; rintro e w1 ⟨rfl, hb⟩; have HB1 := Lib.hid (HW.out.2.trans (hb.mono HW.out.2.size)); have j0 := Lib.hid (blk_below HW.out.1.1 hb); have j1 := Lib.hid (blk_below HW.out.1.2 hb); obtain ⟨s0, s1, s2, s3, s4, s5⟩ := six_cells j0.out; obtain ⟨e0, e1, e2, e3, e4, e5⟩ := six_cells j1.out; obtain ⟨g0, g1, g2, g3, g4, g5⟩ := six_frozen j1.out; obtain ⟨f0, f1, f2, f3, f4, f5⟩ := six_frozen j0.out; clear hb) | (go_at_call 48; refine (find_none_calls w1 ok a1 c1 S.dir m (H.out.below HB1.out).dir (by have := HG.out.nDir; have := HB.out; omega) HP.out).mono ?_; rintro e w2 ⟨rfl, hd⟩; have hb := drawn_below hd; have HB2 := Lib.hid (HB1.out.trans (hb.mono HB1.out.size)); have k0 := Lib.hid (blk_below j0.out hb); have k1 := Lib.hid (blk_below j1.out hb); clear s0 s1 s2 s3 s4 s5 e0 e1 e2 e3 e4 e5 g0 g1 g2 g3 g4 g5 f0 f1 f2 f3 f4 f5; clear j0 j1; have j0 := k0; have j1 := k1; clear k0 k1; obtain ⟨s0, s1, s2, s3, s4, s5⟩ := six_cells j0.out; obtain ⟨e0, e1, e2, e3, e4, e5⟩ := six_cells j1.out; obtain ⟨g0, g1, g2, g3, g4, g5⟩ := six_frozen j1.out; obtain ⟨f0, f1, f2, f3, f4, f5⟩ := six_frozen j0.out; clear hb hd) | fail)
      obtain ⟨q1, q2, q3⟩ := fin_ref (ok := ok) (S := S) HB2.out j1.out (HOK.out.below HB2.out |>.mono (fun k hk _ => .inl hk))
      exact bodyPost_ret (results_ct rfl _ _ (w.heap.size + 1) tState _ (0, 0) _ rfl q1 Try.underlying30 rfl (by kernel_rfl)) rfl ⟨_, rfl, ⟨a0, c0, a1, c1, a2, c2, a3, c3, rfl, q3⟩, q2⟩
    | some x =>
      by_cases hmn : m = n
      · subst hmn
        have e : pRename S m m = (pDone S, 0) := by simp [pRename, hc, hp]
        rw [e]
        have HP := Lib.hid hp
        clear hc hp e
        go_enter Try.func41, Try.ntmps41
        go_wp2_with (first | (go_at_call 52; refine (refcheck_two w _ ok a0 c0 a1 c1 a2 c2 a3 c3 S _ m m 0 H.out HW.out.2 (by simp) HC.out).mono ?_; rintro e w1 ⟨rfl, hb⟩; have HB1 := Lib.hid (HW.out.2.trans (hb.mono HW.out.2.size)); have j0 := Lib.hid (blk_below HW.out.1.1 hb); have j1 := Lib.hid (blk_below HW.out.1.2 hb); obtain ⟨s0, s1, s2, s3, s4, s5⟩ := six_cells j0.out; obtain ⟨e0, e1, e2, e3, e4, e5⟩ := six_cells j1.out; obtain ⟨g0, g1, g2, g3, g4, g5⟩ := six_frozen j1.out; obtain ⟨f0, f1, f2, f3, f4, f5⟩ := six_frozen j0.out; clear hb) | (go_at_call 48; obtain ⟨t, ht, hx, hcall⟩ := find_some_calls w1 ok a1 c1 S.dir m x (H.out.below HB1.out).dir (by have := HG.out.nDir; have := HB.out; omega) HP.out; have HX := Lib.hid hx; refine hcall.mono ?_; rintro e w2 ⟨rfl, hd⟩; have hb := drawn_below hd; have HB2 := Lib.hid (HB1.out.trans (hb.mono HB1.out.size)); have htb : t < 549755813888 := (by have := HG.out.nDir; have := HB.out; omega); have k0 := Lib.hid (blk_below j0.out hb); have k1 := Lib.hid (blk_below j1.out hb); clear s0 s1 s2 s3 s4 s5 e0 e1 e2 e3 e4 e5 g0 g1 g2 g3 g4 g5 f0 f1 f2 f3 f4 f5; clear j0 j1; have j0 := k0; have j1 := k1; clear k0 k1; obtain ⟨s0, s1, s2, s3, s4, s5⟩ := six_cells j0.out; obtain ⟨e0, e1, e2, e3, e4, e5⟩ := six_cells j1.out; obtain ⟨g0, g1, g2, g3, g4, g5⟩ := six_frozen j1.out; obtain ⟨f0, f1, f2, f3, f4, f5⟩ := six_frozen j0.out; clear hb hd hcall hx) | (go_at_call 53; refine (refdone_calls w2 _ _ _ _ _ _ _ _ _ _ _ _ _ _ (fun e => ⟨HN.out.1 e, (HG.out.left e).2⟩)).mono ?_; have HOK2 := Lib.hid (HOK.out.below HB2.out); rintro e w4 ⟨rfl, hb⟩; have HB4 := Lib.hid (HB2.out.trans (hb.mono HB2.out.size)); have HR4 := Lib.hid (HOK2.out.below hb); have k0 := Lib.hid (blk_below j0.out hb); have k1 := Lib.hid (blk_below j1.out hb); clear s0 s1 s2 s3 s4 s5 e0 e1 e2 e3 e4 e5 g0 g1 g2 g3 g4 g5 f0 f1 f2 f3 f4 f5; clear j0 j1; have j0 := k0; have j1 := k1; clear k0 k1; obtain ⟨s0, s1, s2, s3, s4, s5⟩ := six_cells j0.out; obtain ⟨e0, e1, e2, e3, e4, e5⟩ := six_cells j1.out; obtain ⟨g0, g1, g2, g3, g4, g5⟩ := six_frozen j1.out; obtain ⟨f0, f1, f2, f3, f4, f5⟩ := six_frozen j0.out; clear hb) | fail)
        obtain ⟨q1, q2, q3⟩ := fin_ref (ok := ok) (S := pDone S) HB4.out j1.out (HR4.out.done.mono (fun k hk _ => .inl hk))
        exact bodyPost_ret (results_ct rfl _ _ (w.heap.size + 1) tState _ (0, 0) _ rfl q1 Try.underlying30 rfl (by kernel_rfl)) rfl ⟨_, rfl, ⟨a0, c0, a1, c1, a2, c2, a3, c3, rfl, q3⟩, q2⟩
      · have e : pRename S m n = (pDone (pDir S ⟨2, m, n, 0⟩), 0) := by simp [pRename, hc, hp, hmn]
        rw [e]
        have hmn1 : ¬ m.toList = n.toList := fun e => hmn ((toList_eq_iff m n).1 e)
        have hmn2 : (m.toList == n.toList) = false := by simpa using hmn1
        have HP := Lib.hid hp
        clear hc hp e
        go_enter Try.func41, Try.ntmps41
        go_wp2_with (first | (go_at_call 52; refine (refcheck_two w _ ok a0 c0 a1 c1 a2 c2 a3 c3 S _ m n 0 H.out HW.out.2 (by simp) HC.out).mono ?_; rintro e w1 ⟨rfl, hb⟩; have HB1 := Lib.hid (HW.out.2.trans (hb.mono HW.out.2.size)); have j0 := Lib.hid (blk_below HW.out.1.1 hb); have j1 := Lib.hid (blk_below HW.out.1.2 hb); obtain ⟨s0, s1, s2, s3, s4, s5⟩ := six_cells j0.out; obtain ⟨e0, e1, e2, e3, e4, e5⟩ := six_cells j1.out; obtain ⟨g0, g1, g2, g3, g4, g5⟩ := six_frozen j1.out; obtain ⟨f0, f1, f2, f3, f4, f5⟩ := six_frozen j0.out; clear hb) | (go_at_call 48; obtain ⟨t, ht, hx, hcall⟩ := find_some_calls w1 ok a1 c1 S.dir m x (H.out.below HB1.out).dir (by have := HG.out.nDir; have := HB.out; omega) HP.out; have HX := Lib.hid hx; refine hcall.mono ?_; rintro e w2 ⟨rfl, hd⟩; have hb := drawn_below hd; have HB2 := Lib.hid (HB1.out.trans (hb.mono HB1.out.size)); have htb : t < 549755813888 := (by have := HG.out.nDir; have := HB.out; omega); have k0 := Lib.hid (blk_below j0.out hb); have k1 := Lib.hid (blk_below j1.out hb); clear s0 s1 s2 s3 s4 s5 e0 e1 e2 e3 e4 e5 g0 g1 g2 g3 g4 g5 f0 f1 f2 f3 f4 f5; clear j0 j1; have j0 := k0; have j1 := k1; clear k0 k1; obtain ⟨s0, s1, s2, s3, s4, s5⟩ := six_cells j0.out; obtain ⟨e0, e1, e2, e3, e4, e5⟩ := six_cells j1.out; obtain ⟨g0, g1, g2, g3, g4, g5⟩ := six_frozen j1.out; obtain ⟨f0, f1, f2, f3, f4, f5⟩ := six_frozen j0.out; clear hb hd hcall hx) | (go_at_call 54; refine (directory_calls w2 (fun k => ok k ∧ k < w.heap.size) a0 c0 a1 c1 a2 c2 a3 c3 S ⟨2, m, n, 0⟩ (HOK.out.below HB2.out) (by have := HG.out.nDir; have := HB.out; show S.dir.length ≤ 549755813888; omega) (by have := HG.out.nPend; have := HB.out; show S.pend.length ≤ 549755813888; omega) (.inr (.inl rfl))).mono ?_; rintro e w3 ⟨v, rfl, ⟨b0, d0, b1, d1, b2, d2, b3, d3, rfl, hr⟩, hb⟩; have HB3 := Lib.hid (HB2.out.trans (hb.mono HB2.out.size)); have HR3 := Lib.hid (hr.mono (ok' := fun k => (ok k ∧ k < w.heap.size) ∨ w.heap.size + 2 ≤ k) (fun k hk _ => okin j1.out hk)); have k0 := Lib.hid (blk_below j0.out hb); have k1 := Lib.hid (blk_below j1.out hb); clear s0 s1 s2 s3 s4 s5 e0 e1 e2 e3 e4 e5 g0 g1 g2 g3 g4 g5 f0 f1 f2 f3 f4 f5; clear j0 j1; have j0 := k0; have j1 := k1; clear k0 k1; obtain ⟨s0, s1, s2, s3, s4, s5⟩ := six_cells j0.out; obtain ⟨e0, e1, e2, e3, e4, e5⟩ := six_cells j1.out; obtain ⟨g0, g1, g2, g3, g4, g5⟩ := six_frozen j1.out; obtain ⟨f0, f1, f2, f3, f4, f5⟩ := six_frozen j0.out; clear hb hr) | (go_at_call 53; refine (refdone_calls _ _ _ _ _ _ _ _ _ _ _ _ _ _ _ (fun e => ⟨HN.out.1 e, (HG.out.left e).2⟩)).mono ?_; rintro e w4 ⟨rfl, hb⟩; have HX6 := Lib.hid (six_in HB3.out HR3.out j1.out hb); have HB4 := Lib.hid HX6.out.1; have HR4 := Lib.hid HX6.out.2.1; have k1 := Lib.hid HX6.out.2.2; clear s0 s1 s2 s3 s4 s5 e0 e1 e2 e3 e4 e5 g0 g1 g2 g3 g4 g5 f0 f1 f2 f3 f4 f5; clear j0 j1; have j1 := k1; clear k1; obtain ⟨e0, e1, e2, e3, e4, e5⟩ := six_cells j1.out; obtain ⟨g0, g1, g2, g3, g4, g5⟩ := six_frozen j1.out; clear hb) | fail)
        obtain ⟨q1, q2, q3⟩ := fin_ref (ok := ok) (S := pDone (pDir S ⟨2, m, n, 0⟩)) HB4.out j1.out (HR4.out.done)
        exact bodyPost_ret (results_ct rfl _ _ (w.heap.size + 1) tState _ (0, 0) _ rfl q1 Try.underlying30 rfl (by kernel_rfl)) rfl ⟨_, rfl, ⟨b0, d0, b1, d1, b2, d2, b3, d3, rfl, q3⟩, q2⟩
  · have e : pRename S m n = (S, pCheck S.lim S.left [m, n]) := by simp [pRename, hc]
    rw [e]
    obtain ⟨c, hcc⟩ : ∃ c, pCheck S.lim S.left [m, n] = c := ⟨_, rfl⟩
    have HC := Lib.hid hcc
    have hc1 : (c == 0) = false := by rw [← hcc]; simpa using hc
    have hc2 : ¬ c = 0 := by rw [← hcc]; exact hc
    rw [hcc]
    clear e hc hcc
    go_enter Try.func41, Try.ntmps41
    go_wp2_with (first | (go_at_call 52; refine (refcheck_two w _ ok a0 c0 a1 c1 a2 c2 a3 c3 S _ m n c H.out HW.out.2 (by simp) HC.out).mono ?_; rintro e w1 ⟨rfl, hb⟩; have HB1 := Lib.hid (HW.out.2.trans (hb.mono HW.out.2.size)); have j0 := Lib.hid (blk_below HW.out.1.1 hb); have j1 := Lib.hid (blk_below HW.out.1.2 hb); obtain ⟨s0, s1, s2, s3, s4, s5⟩ := six_cells j0.out; obtain ⟨e0, e1, e2, e3, e4, e5⟩ := six_cells j1.out; obtain ⟨g0, g1, g2, g3, g4, g5⟩ := six_frozen j1.out; obtain ⟨f0, f1, f2, f3, f4, f5⟩ := six_frozen j0.out; clear hb) | fail)
    obtain ⟨q1, q2, q3⟩ := fin_ref (ok := ok) (S := S) HB1.out j1.out (HOK.out.below HB1.out |>.mono (fun k hk _ => .inl hk))
    exact bodyPost_ret (results_ct rfl _ _ (w.heap.size + 1) tState _ (0, 0) _ rfl q1 Try.underlying30 rfl (by kernel_rfl)) rfl ⟨_, rfl, ⟨a0, c0, a1, c1, a2, c2, a3, c3, rfl, q3⟩, q2⟩
end Go.Proofs.Ytpffeafoangegaa.Disk

/- The reference's functions: SyncDir, Create. -/
namespace Go.Proofs.Ytpffeafoangegaa.Disk
open Go Go.RowKit Go.Proofs.YtpffeafoangegaaW.PrintWords Go.Proofs.YtpffeafoangegaaW.PrintLast Go.Proofs.YtpffeafoangegaaW.PrintMore Go.Proofs.Ytpffeafoangegaa.PSimdiskOperations
theorem refcheck_nil (w W : World) (ok : Nat → Prop) (a0 : Option Addr) (c0 : Nat) (a1 : Option Addr) (c1 : Nat) (a2 : Option Addr) (c2 : Nat) (a3 : Option Addr) (c3 : Nat) (S : PS) (c : Int) (h : Ref w ok a0 c0 a1 c1 a2 c2 a3 c3 S) (hW : Below w.heap.size w W) (hc : pCheck S.lim S.left [] = c) :
    Calls Try.prog 52 #[sv a0 c0 a1 c1 a2 c2 a3 c3 S, .slice none 0 0] W fun e w' => e = .returned (.int .i64 c) ∧ Below W.heap.size W w' :=
  refcheck_calls _ ok a0 c0 a1 c1 a2 c2 a3 c3 S none 0 [] c (h.below hW) (Kd.C_nil _ _) (Nat.le_refl _) (by simp) hc
/-- Behind two stores into the state's box and a call that only grows. -/
theorem two_in {w w3 w4 : World} {ok : Nat → Prop} {b0 : Option Addr} {d0 : Nat} {b1 : Option Addr} {d1 : Nat} {b2 : Option Addr} {d2 : Nat} {b3 : Option Addr} {d3 : Nat} {S : PS} {y2 y3 : Value} {o : Obj} (hb : Below w.heap.size w w3) (hr : Ref w3 (fun k => (ok k ∧ k < w.heap.size) ∨ w.heap.size + 2 ≤ k) b0 d0 b1 d1 b2 d2 b3 d3 S) (h1 : w3.heap[w.heap.size + 1]? = some o)
    (h4 : Below ((w3.setCell ⟨w.heap.size, 2, none⟩ y2).setCell ⟨w.heap.size, 3, none⟩ y3).heap.size ((w3.setCell ⟨w.heap.size, 2, none⟩ y2).setCell ⟨w.heap.size, 3, none⟩ y3) w4) :
    Below w.heap.size w w4 ∧ Ref w4 (fun k => (ok k ∧ k < w.heap.size) ∨ w.heap.size + 2 ≤ k) b0 d0 b1 d1 b2 d2 b3 d3 S ∧ w4.heap[w.heap.size + 1]? = some o := by
  have q := below_setN (below_setN hb (Nat.le_refl w.heap.size) (j := 2) y2) (Nat.le_refl w.heap.size) (j := 3) y3
  have oth : ∀ k, k ≠ w.heap.size → ((w3.setCell ⟨w.heap.size, 2, none⟩ y2).setCell ⟨w.heap.size, 3, none⟩ y3).heap[k]? = w3.heap[k]? := fun k hk => by rw [Below.heap_setCell _ _ _ _ hk, Below.heap_setCell _ _ _ _ hk]
  exact ⟨q.trans (h4.mono q.size), (hr.move (fun k hk _ => oth k (by rcases hk with hk | hk; have := hk.2; omega; omega))).below h4, blk_below ((oth _ (by omega)).trans h1) h4⟩
theorem Ref.synced {w : World} {ok : Nat → Prop} {a0 c0 a1 c1 a2 c2 a3 c3} {S : PS} (h : Ref w ok a0 c0 a1 c1 a2 c2 a3 c3 S) : Ref w ok a0 c0 a1 c1 a1 c1 none 0 (pDone (pSynced S)) := ⟨h.files, h.dir, h.dir, Rd.nil _ _ _⟩
theorem directory_new (W : World) (ok : Nat → Prop) (A : Option Addr) (cc : Nat) (a1 : Option Addr) (c1 : Nat) (a2 : Option Addr) (c2 : Nat) (a3 : Option Addr) (c3 : Nat) (S : PS) (n : ByteArray) (hf : Rd kF W ok A cc (S.files ++ [⟨[], 0⟩])) (h1 : Rd kE W ok a1 c1 S.dir) (h2 : Rd kE W ok a2 c2 S.dur) (h3 : Rd kO W ok a3 c3 S.pend) (hl : S.dir.length ≤ 549755813888) (hp : S.pend.length ≤ 549755813888) :
    Calls Try.prog 54 #[.agg #[.slice A (S.files.length + 1) cc, .slice a1 S.dir.length c1, .slice a2 S.dur.length c2, .slice a3 S.pend.length c3, .bool S.lim, .int .i64 S.left], .agg #[.int .i64 1, .string n, .string ⟨#[]⟩, .int .i64 S.files.length]] W (RefE W ok (pDir { S with files := S.files ++ [⟨[], 0⟩] } ⟨1, n, ⟨#[]⟩, S.files.length⟩)) := by
  have := directory_calls W ok A cc a1 c1 a2 c2 a3 c3 { S with files := S.files ++ [⟨[], 0⟩] } ⟨1, n, ⟨#[]⟩, S.files.length⟩ ⟨hf, h1, h2, h3⟩ hl hp (.inl rfl)
  rwa [show sv A cc a1 c1 a2 c2 a3 c3 { S with files := S.files ++ [⟨[], 0⟩] } = .agg #[.slice A (S.files.length + 1) cc, .slice a1 S.dir.length c1, .slice a2 S.dur.length c2, .slice a3 S.pend.length c3, .bool S.lim, .int .i64 S.left] by simp [sv]] at this
theorem not_far2 {v : Value} {n b : Nat} (hf : v.ownBlock = none ∨ ∃ q, v.ownBlock = some q ∧ n + 2 ≤ q) (hb : b < n + 2) : some b ≠ v.ownBlock := fun e => by
  rcases hf with h | ⟨q, h, hq⟩
  · rw [h] at e; cases e
  · rw [h] at e; cases e; omega
/-- Behind one store into the state's box and a call that only grows. -/
theorem one_in {w w3 w4 : World} {j : Nat} {y : Value} {o : Obj} (hb : Below w.heap.size w w3) (h1 : w3.heap[w.heap.size + 1]? = some o)
    (h4 : Below (w3.setCell ⟨w.heap.size, j, none⟩ y).heap.size (w3.setCell ⟨w.heap.size, j, none⟩ y) w4) : Below w.heap.size w w4 ∧ w4.heap[w.heap.size + 1]? = some o := by
  have q := below_setN hb (Nat.le_refl w.heap.size) (j := j) y
  exact ⟨q.trans (h4.mono q.size), blk_below ((Below.heap_setCell _ _ _ _ (show w.heap.size + 1 ≠ w.heap.size by omega)).trans h1) h4⟩
theorem Rd.set0 {α : Type} {d : Kd α} {w w3 : World} {ok : Nat → Prop} {A : Option Addr} {c : Nat} {xs : List α} {j : Nat} {y : Value} (h : Rd d w3 (fun k => (ok k ∧ k < w.heap.size) ∨ w.heap.size + 2 ≤ k) A c xs) : Rd d (w3.setCell ⟨w.heap.size, j, none⟩ y) (fun k => (ok k ∧ k < w.heap.size) ∨ w.heap.size + 2 ≤ k) A c xs :=
  h.move (fun k hk _ => Below.heap_setCell _ _ _ _ (by show k ≠ w.heap.size; rcases hk with hk | hk; have := hk.2; omega; omega))

set_option maxHeartbeats 4000000 in
theorem refSyncDir_calls (w : World) (ok : Nat → Prop) (a0 : Option Addr) (c0 : Nat) (a1 : Option Addr) (c1 : Nat) (a2 : Option Addr) (c2 : Nat) (a3 : Option Addr) (c3 : Nat) (S : PS) (B : Nat) (h : Ref w ok a0 c0 a1 c1 a2 c2 a3 c3 S) (hg : Good S B) (hB : B ≤ 549755813888) :
    Calls Try.prog 43 #[sv a0 c0 a1 c1 a2 c2 a3 c3 S] w (RefE2 w ok (pSyncDir S)) := by
  have H := Lib.hid h
  have HG := Lib.hid hg
  have HB := Lib.hid hB
  have HW := Lib.hid (two_blks w (.cells (svC a0 c0 a1 c1 a2 c2 a3 c3 S) tState) (.cells zeroC tState))
  have HOK := Lib.hid (h.mono (ok' := fun k => ok k ∧ k < w.heap.size) (fun k h1 h2 => ⟨h1, h2⟩))
  clear h hg hB
  by_cases hc : pCheck S.lim S.left [] = 0
  · have HC := Lib.hid hc
    have HN := Lib.hid (pCheck_zero hc)
    have e : pSyncDir S = (pDone (pSynced S), 0) := by simp [pSyncDir, hc]
    rw [e]
    clear hc e
    go_enter Try.func43, Try.ntmps43
    go_wp2_with (first | (go_at_call 52; refine (refcheck_nil w _ ok a0 c0 a1 c1 a2 c2 a3 c3 S 0 H.out HW.out.2 HC.out).mono ?_; rintro e w1 ⟨rfl, hb⟩; have HB1 := Lib.hid (HW.out.2.trans (hb.mono HW.out.2.size)); have j0 := Lib.hid (blk_below HW.out.1.1 hb); have j1 := Lib.hid (blk_below HW.out.1.2 hb); obtain ⟨s0, s1, s2, s3, s4, s5⟩ := six_cells j0.out; obtain ⟨e0, e1, e2, e3, e4, e5⟩ := six_cells j1.out; obtain ⟨g0, g1, g2, g3, g4, g5⟩ := six_frozen j1.out; obtain ⟨f0, f1, f2, f3, f4, f5⟩ := six_frozen j0.out; clear hb) | (go_at_call 53; refine (refdone_calls _ _ _ _ _ _ _ _ _ _ _ _ _ _ _ (fun e => ⟨HN.out.1 e, (HG.out.left e).2⟩)).mono ?_; rintro e w4 ⟨rfl, hb⟩; have HX6 := Lib.hid (two_in HB1.out ((HOK.out.below HB1.out).mono (fun k hk _ => .inl hk)) j1.out hb); have HB4 := Lib.hid HX6.out.1; have HR4 := Lib.hid HX6.out.2.1; have k1 := Lib.hid HX6.out.2.2; clear s0 s1 s2 s3 s4 s5 e0 e1 e2 e3 e4 e5 g0 g1 g2 g3 g4 g5 f0 f1 f2 f3 f4 f5; clear j0 j1; have j1 := k1; clear k1; obtain ⟨e0, e1, e2, e3, e4, e5⟩ := six_cells j1.out; obtain ⟨g0, g1, g2, g3, g4, g5⟩ := six_frozen j1.out; clear hb) | fail)
    obtain ⟨q1, q2, q3⟩ := fin_ref (ok := ok) (S := pDone (pSynced S)) HB4.out j1.out (HR4.out.synced)
    exact bodyPost_ret (results_ct rfl _ _ (w.heap.size + 1) tState _ (0, 0) _ rfl q1 Try.underlying30 rfl (by kernel_rfl)) rfl ⟨_, rfl, ⟨a0, c0, a1, c1, a1, c1, none, 0, rfl, q3⟩, q2⟩
  · have e : pSyncDir S = (S, pCheck S.lim S.left []) := by simp [pSyncDir, hc]
    rw [e]
    obtain ⟨c, hcc⟩ : ∃ c, pCheck S.lim S.left [] = c := ⟨_, rfl⟩
    have HC := Lib.hid hcc
    have hc1 : (c == 0) = false := by rw [← hcc]; simpa using hc
    have hc2 : ¬ c = 0 := by rw [← hcc]; exact hc
    rw [hcc]
    clear e hc hcc
    go_enter Try.func43, Try.ntmps43
    go_wp2_with (first | (go_at_call 52; refine (refcheck_nil w _ ok a0 c0 a1 c1 a2 c2 a3 c3 S c H.out HW.out.2 HC.out).mono ?_; rintro e w1 ⟨rfl, hb⟩; have HB1 := Lib.hid (HW.out.2.trans (hb.mono HW.out.2.size)); have j0 := Lib.hid (blk_below HW.out.1.1 hb); have j1 := Lib.hid (blk_below HW.out.1.2 hb); obtain ⟨s0, s1, s2, s3, s4, s5⟩ := six_cells j0.out; obtain ⟨e0, e1, e2, e3, e4, e5⟩ := six_cells j1.out; obtain ⟨g0, g1, g2, g3, g4, g5⟩ := six_frozen j1.out; obtain ⟨f0, f1, f2, f3, f4, f5⟩ := six_frozen j0.out; clear hb) | fail)
    obtain ⟨q1, q2, q3⟩ := fin_ref (ok := ok) (S := S) HB1.out j1.out (HOK.out.below HB1.out |>.mono (fun k hk _ => .inl hk))
    exact bodyPost_ret (results_ct rfl _ _ (w.heap.size + 1) tState _ (0, 0) _ rfl q1 Try.underlying30 rfl (by kernel_rfl)) rfl ⟨_, rfl, ⟨a0, c0, a1, c1, a2, c2, a3, c3, rfl, q3⟩, q2⟩

set_option maxHeartbeats 4000000 in
theorem refCreate_calls (w : World) (ok : Nat → Prop) (a0 : Option Addr) (c0 : Nat) (a1 : Option Addr) (c1 : Nat) (a2 : Option Addr) (c2 : Nat) (a3 : Option Addr) (c3 : Nat) (S : PS) (B : Nat) (n : ByteArray) (h : Ref w ok a0 c0 a1 c1 a2 c2 a3 c3 S) (hg : Good S B) (hB : B ≤ 549755813888) :
    Calls Try.prog 38 #[sv a0 c0 a1 c1 a2 c2 a3 c3 S, .string n] w (RefE2 w ok (pCreate S n)) := by
  have H := Lib.hid h
  have HG := Lib.hid hg
  have HB := Lib.hid hB
  have HW := Lib.hid (two_blks w (.cells (svC a0 c0 a1 c1 a2 c2 a3 c3 S) tState) (.cells zeroC tState))
  have HOK := Lib.hid (h.mono (ok' := fun k => ok k ∧ k < w.heap.size) (fun k h1 h2 => ⟨h1, h2⟩))
  clear h hg hB
  by_cases hc : pCheck S.lim S.left [n] = 0
  · have HC := Lib.hid hc
    have HN := Lib.hid (pCheck_zero hc)
    cases hp : pLook S.dir n with
    | some x =>
      have e : pCreate S n = (S, 9) := by simp [pCreate, hc, hp]
      rw [e]
      have HP := Lib.hid hp
      clear hc hp e
      go_enter Try.func38, Try.ntmps38
      go_wp2_with (first | (go_at_call 52; refine (refcheck_one w _ ok a0 c0 a1 c1 a2 c2 a3 c3 S _ n 0 H.out HW.out.2 (by simp) HC.out).mono ?_; rintro e w1 ⟨rfl, hb⟩; have HB1 := Lib.hid (HW.out.2.trans (hb.mono HW.out.2.size)); have j0 := Lib.hid (blk_below HW.out.1.1 hb); have j1 := Lib.hid (blk_below HW.out.1.2 hb); obtain ⟨s0, s1, s2, s3, s4, s5⟩ := six_cells j0.out; obtain ⟨e0, e1, e2, e3, e4, e5⟩ := six_cells j1.out; obtain ⟨g0, g1, g2, g3, g4, g5⟩ := six_frozen j1.out; obtain ⟨f0, f1, f2, f3, f4, f5⟩ := six_frozen j0.out; clear hb) | (go_at_call 48; obtain ⟨t, ht, hx, hcall⟩ := find_some_calls w1 ok a1 c1 S.dir n x (H.out.below HB1.out).dir (by have := HG.out.nDir; have := HB.out; omega) HP.out; have HX := Lib.hid hx; refine hcall.mono ?_; rintro e w2 ⟨rfl, hd⟩; have hb := drawn_below hd; have HB2 := Lib.hid (HB1.out.trans (hb.mono HB1.out.size)); have htb : t < 549755813888 := (by have := HG.out.nDir; have := HB.out; omega); have k0 := Lib.hid (blk_below j0.out hb); have k1 := Lib.hid (blk_below j1.out hb); clear s0 s1 s2 s3 s4 s5 e0 e1 e2 e3 e4 e5 g0 g1 g2 g3 g4 g5 f0 f1 f2 f3 f4 f5; clear j0 j1; have j0 := k0; have j1 := k1; clear k0 k1; obtain ⟨s0, s1, s2, s3, s4, s5⟩ := six_cells j0.out; obtain ⟨e0, e1, e2, e3, e4, e5⟩ := six_cells j1.out; obtain ⟨g0, g1, g2, g3, g4, g5⟩ := six_frozen j1.out; obtain ⟨f0, f1, f2, f3, f4, f5⟩ := six_frozen j0.out; clear hb hd hcall hx) | fail)
      obtain ⟨q1, q2, q3⟩ := fin_ref (ok := ok) (S := S) HB2.out j1.out (HOK.out.below HB2.out |>.mono (fun k hk _ => .inl hk))
      exact bodyPost_ret (results_ct rfl _ _ (w.heap.size + 1) tState _ (0, 0) _ rfl q1 Try.underlying30 rfl (by kernel_rfl)) rfl ⟨_, rfl, ⟨a0, c0, a1, c1, a2, c2, a3, c3, rfl, q3⟩, q2⟩
    | none =>
      have e : pCreate S n = (pDone (pDir { S with files := S.files ++ [⟨[], 0⟩] } ⟨1, n, ⟨#[]⟩, S.files.length⟩), 0) := by simp [pCreate, hc, hp]
      rw [e]
      have HP := Lib.hid hp
      have hnf : S.files.length ≤ 549755813888 := by have := HG.out.nFiles; have := HB.out; omega
      clear hc hp e
      go_enter Try.func38, Try.ntmps38
      go_wp2_with (first | (go_at_call 52; refine (refcheck_one w _ ok a0 c0 a1 c1 a2 c2 a3 c3 S _ n 0 H.out HW.out.2 (by simp) HC.out).mono ?_; rintro e w1 ⟨rfl, hb⟩; have HB1 := Lib.hid (HW.out.2.trans (hb.mono HW.out.2.size)); have j0 := Lib.hid (blk_below HW.out.1.1 hb); have j1 := Lib.hid (blk_below HW.out.1.2 hb); obtain ⟨s0, s1, s2, s3, s4, s5⟩ := six_cells j0.out; obtain ⟨e0, e1, e2, e3, e4, e5⟩ := six_cells j1.out; obtain ⟨g0, g1, g2, g3, g4, g5⟩ := six_frozen j1.out; obtain ⟨f0, f1, f2, f3, f4, f5⟩ := six_frozen j0.out; clear hb) | (go_at_call 48; refine (find_none_calls w1 ok a1 c1 S.dir n (H.out.below HB1.out).dir (by have := HG.out.nDir; have := HB.out; omega) HP.out).mono ?_; rintro e w2 ⟨rfl, hd⟩; have hb := drawn_below hd; have HB2 := Lib.hid (HB1.out.trans (hb.mono HB1.out.size)); have k0 := Lib.hid (blk_below j0.out hb); have k1 := Lib.hid (blk_below j1.out hb); clear s0 s1 s2 s3 s4 s5 e0 e1 e2 e3 e4 e5 g0 g1 g2 g3 g4 g5 f0 f1 f2 f3 f4 f5; clear j0 j1; have j0 := k0; have j1 := k1; clear k0 k1; obtain ⟨s0, s1, s2, s3, s4, s5⟩ := six_cells j0.out; obtain ⟨e0, e1, e2, e3, e4, e5⟩ := six_cells j1.out; obtain ⟨g0, g1, g2, g3, g4, g5⟩ := six_frozen j1.out; obtain ⟨f0, f1, f2, f3, f4, f5⟩ := six_frozen j0.out; clear hb hd) | (at_builtin; refine Kd.N_append_rows kF (w0 := w) w.heap.size rfl (.tmp 22) (.tmp 24) 26 81 _ 32 rfl Try.underlying26 info81 rfl (by decide) (by omega) (.slice none 0 0) [] S.files a0 S.files.length c0 (fun k => (ok k ∧ k < w.heap.size) ∨ w.heap.size + 2 ≤ k) (fun k => ok k ∧ k < w.heap.size) rfl rfl (Kd.N_nil _ _ _ _ _) (HOK.out.below HB2.out).files.f (fun k hk => ⟨.inl hk, by simp [Value.ownBlock]⟩) (fun k hk => .inr (by have := lt_blk j1.out; omega)) HB2.out HB2.out.size (by simp only [List.length_nil]; omega) ?_; intro v3 w3 hn hb hg hat; rw [List.nil_append] at hn; have k0 := Lib.hid (blk_grownN j0.out hg (by simp [Value.ownBlock])); have k1 := Lib.hid (blk_grownN j1.out hg (by simp [Value.ownBlock])); have hfar : v3.ownBlock = none ∨ ∃ q, v3.ownBlock = some q ∧ w.heap.size + 2 ≤ q := (by rcases hat with e | ⟨q, e1, e2⟩; exact .inl e; exact .inr ⟨q, e1, by have hs := lt_blk j1.out; omega⟩); have HF3 := Lib.hid hfar; have HN3 := Lib.hid hn; have HB3 := Lib.hid hb; clear j0 j1; have j0 := k0; have j1 := k1; clear k0 k1; clear s0 s1 s2 s3 s4 s5 e0 e1 e2 e3 e4 e5 g0 g1 g2 g3 g4 g5 f0 f1 f2 f3 f4 f5; obtain ⟨s0, s1, s2, s3, s4, s5⟩ := six_cells j0.out; obtain ⟨e0, e1, e2, e3, e4, e5⟩ := six_cells j1.out; obtain ⟨g0, g1, g2, g3, g4, g5⟩ := six_frozen j1.out; obtain ⟨f0, f1, f2, f3, f4, f5⟩ := six_frozen j0.out; clear hn hb hg hat hfar) | (at_builtin; refine Kd.N_append kF (w0 := w) w.heap.size rfl (.tmp 26) (.tmp 28) 26 81 _ 32 rfl Try.underlying26 info81 rfl (by decide) (by omega) v3 S.files ⟨[], 0⟩ [.slice none 0 0, .int .i64 0] (fun k => (ok k ∧ k < w.heap.size) ∨ w.heap.size + 2 ≤ k) (fun _ => False) rfl rfl (k81_mkF _ _ ⟨[], 0⟩ (A0 := none) (c0 := 0) (Nat.le_refl _) (Kd.F_nil _ _ _)) (fun k hk => hk.elim) (fun k hk => .inr (by have := lt_blk j1.out; omega)) HN3.out HB3.out HB3.out.size (by omega) ?_; intro v4 w4 hn hb hg hat; have k0 := Lib.hid (blk_grownN j0.out hg (not_far2 HF3.out (by omega))); have k1 := Lib.hid (blk_grownN j1.out hg (not_far2 HF3.out (by omega))); obtain ⟨A4, cc4, rfl, hr4⟩ := Rd.ofN hn; have HR4 := Lib.hid (hr4.mono (ok' := (fun k => (ok k ∧ k < w.heap.size) ∨ w.heap.size + 2 ≤ k)) (fun k hk _ => hk.1)); have HB4 := Lib.hid hb; clear j0 j1; have j0 := k0; have j1 := k1; clear k0 k1; clear s0 s1 s2 s3 s4 s5 e0 e1 e2 e3 e4 e5 g0 g1 g2 g3 g4 g5 f0 f1 f2 f3 f4 f5; obtain ⟨s0, s1, s2, s3, s4, s5⟩ := six_cells j0.out; obtain ⟨e0, e1, e2, e3, e4, e5⟩ := six_cells j1.out; obtain ⟨g0, g1, g2, g3, g4, g5⟩ := six_frozen j1.out; obtain ⟨f0, f1, f2, f3, f4, f5⟩ := six_frozen j0.out; clear hn hb hg hat hr4 HN3) | (go_at_call 54; have hx := (HOK.out.below HB4.out).mono (ok' := (fun k => (ok k ∧ k < w.heap.size) ∨ w.heap.size + 2 ≤ k)) (fun k hk _ => .inl hk); have hq := directory_new (w4.setCell ⟨w.heap.size, 0, none⟩ (.slice A4 (S.files.length + 1) cc4)) (fun k => (ok k ∧ k < w.heap.size) ∨ w.heap.size + 2 ≤ k) A4 cc4 a1 c1 a2 c2 a3 c3 S n HR4.out.set0 hx.dir.set0 hx.dur.set0 hx.pend.set0 (by have := HG.out.nDir; have := HB.out; omega) (by have := HG.out.nPend; have := HB.out; omega); refine hq.mono ?_; rintro e w5 ⟨v, rfl, ⟨b0, d0, b1, d1, b2, d2, b3, d3, rfl, hr⟩, hb⟩; have HB5 := Lib.hid (one_in HB4.out j1.out hb).1; have k1 := Lib.hid (one_in HB4.out j1.out hb).2; have HR5 := Lib.hid (hr.mono (ok' := (fun k => (ok k ∧ k < w.heap.size) ∨ w.heap.size + 2 ≤ k)) (fun k hk _ => okin2 j1.out (by simpa [World.setCell] using hk))); clear s0 s1 s2 s3 s4 s5 e0 e1 e2 e3 e4 e5 g0 g1 g2 g3 g4 g5 f0 f1 f2 f3 f4 f5; clear j0 j1; have j1 := k1; clear k1 hx hq hb hr) | (go_at_call 53; refine (refdone_calls w5 _ _ _ _ _ _ _ _ _ _ _ _ _ _ (fun e => ⟨HN.out.1 e, (HG.out.left e).2⟩)).mono ?_; rintro e w6 ⟨rfl, hb⟩; have HB6 := Lib.hid (HB5.out.trans (hb.mono HB5.out.size)); have HR6 := Lib.hid (HR5.out.below hb); have k1 := Lib.hid (blk_below j1.out hb); clear j1; have j1 := k1; clear k1; obtain ⟨e0, e1, e2, e3, e4, e5⟩ := six_cells j1.out; obtain ⟨g0, g1, g2, g3, g4, g5⟩ := six_frozen j1.out; clear hb) | fail)
      obtain ⟨q1, q2, q3⟩ := fin_ref (ok := ok) (S := pDone (pDir { S with files := S.files ++ [⟨[], 0⟩] } ⟨1, n, ⟨#[]⟩, S.files.length⟩)) HB6.out j1.out (HR6.out.done)
      exact bodyPost_ret (results_ct rfl _ _ (w.heap.size + 1) tState _ (0, 0) _ rfl q1 Try.underlying30 rfl (by kernel_rfl)) rfl ⟨_, rfl, ⟨b0, d0, b1, d1, b2, d2, b3, d3, rfl, q3⟩, q2⟩
  · have e : pCreate S n = (S, pCheck S.lim S.left [n]) := by simp [pCreate, hc]
    rw [e]
    obtain ⟨c, hcc⟩ : ∃ c, pCheck S.lim S.left [n] = c := ⟨_, rfl⟩
    have HC := Lib.hid hcc
    have hc1 : (c == 0) = false := by rw [← hcc]; simpa using hc
    have hc2 : ¬ c = 0 := by rw [← hcc]; exact hc
    rw [hcc]
    clear e hc hcc
    go_enter Try.func38, Try.ntmps38
    go_wp2_with (first | (go_at_call 52; refine (refcheck_one w _ ok a0 c0 a1 c1 a2 c2 a3 c3 S _ n c H.out HW.out.2 (by simp) HC.out).mono ?_; rintro e w1 ⟨rfl, hb⟩; have HB1 := Lib.hid (HW.out.2.trans (hb.mono HW.out.2.size)); have j0 := Lib.hid (blk_below HW.out.1.1 hb); have j1 := Lib.hid (blk_below HW.out.1.2 hb); obtain ⟨s0, s1, s2, s3, s4, s5⟩ := six_cells j0.out; obtain ⟨e0, e1, e2, e3, e4, e5⟩ := six_cells j1.out; obtain ⟨g0, g1, g2, g3, g4, g5⟩ := six_frozen j1.out; obtain ⟨f0, f1, f2, f3, f4, f5⟩ := six_frozen j0.out; clear hb) | fail)
    obtain ⟨q1, q2, q3⟩ := fin_ref (ok := ok) (S := S) HB1.out j1.out (HOK.out.below HB1.out |>.mono (fun k hk _ => .inl hk))
    exact bodyPost_ret (results_ct rfl _ _ (w.heap.size + 1) tState _ (0, 0) _ rfl q1 Try.underlying30 rfl (by kernel_rfl)) rfl ⟨_, rfl, ⟨a0, c0, a1, c1, a2, c2, a3, c3, rfl, q3⟩, q2⟩
end Go.Proofs.Ytpffeafoangegaa.Disk

/- The reference's functions: Append, Sync. -/
namespace Go.Proofs.Ytpffeafoangegaa.Disk
open Go Go.RowKit Go.Proofs.YtpffeafoangegaaW.PrintWords Go.Proofs.YtpffeafoangegaaW.PrintLast Go.Proofs.YtpffeafoangegaaW.PrintMore Go.Proofs.Ytpffeafoangegaa.PSimdiskOperations
abbrev kB : Kd Int := Kd.int .u8
theorem file_cells {w : World} {ok : Nat → Prop} {A : Option Addr} {c : Nat} {S : PS} (h : Rd kF w ok A c S.files) (i : Int) (hi : 0 ≤ i ∧ i < S.files.length) : ∃ ad Af cf, A = some ad ∧ w.cell? (ad.add (i.toNat * 2)) = some (.slice Af (fileAt S i).f0.length cf) ∧ w.cell? ⟨(ad.add (i.toNat * 2)).block, (ad.add (i.toNat * 2)).off + 1, none⟩ = some (.int .i64 (fileAt S i).f1) ∧ Rd kB w ok Af cf (fileAt S i).f0 := by
  obtain ⟨ad, cs, e, _, hK, hc0, _⟩ := Kd.F_get h.f z81 i hi.1 hi.2
  have hc : ∀ j u, cs[j]? = some u → w.cell? (ad.add (i.toNat * 2 + j)) = some u := hc0
  obtain ⟨Af, cf, rfl, l0, g0⟩ := k81_openF hK
  exact ⟨ad, Af, cf, e, hc 0 _ rfl, by rw [← add_field _ _ 1 (by omega)]; exact hc 1 _ rfl, l0, g0⟩
theorem refset_calls (w : World) (ok : Nat → Prop) (A : Option Addr) (c : Nat) (l : List Fil) (i : Int) (Ab : Option Addr) (cb : Nat) (bs : List Int) (x : Int) (h : Rd kF w ok A c l) (hb : Rd kB w ok Ab cb bs) (hl : l.length ≤ 549755813888) (hi : 0 ≤ i) :
    Calls Try.prog 55 #[.slice A l.length c, .int .i64 i, .agg #[.slice Ab bs.length cb, .int .i64 x]] w fun e w' => ∃ A' c', e = .returned (.slice A' l.length c') ∧ Rd kF w' (fun k => ok k ∨ w.heap.size ≤ k) A' c' (l.set i.toNat ⟨bs, x⟩) ∧ Below w.heap.size w w' := by
  have hh := laminaref20_set.calls (l.length + 1) ok A c l i.toNat ok Ab cb bs x _ w (Kd.V_mk h.le h.f) (Kd.V_mk hb.le hb.f) (set_f l i.toNat bs x _ (by omega) (by omega))
  rw [show ((i.toNat : Nat) : Int) = i by omega] at hh
  refine hh.mono fun e w' hq => ?_
  obtain ⟨v, q1, q2, q3⟩ := hq
  obtain ⟨A', c', rfl, q4⟩ := Rd.ofN q2
  exact ⟨A', c', by rw [q1]; simp, q4.mono (fun k hk _ => by rcases hk.1 with (hk | hk) | hk; exact .inl hk; exact .inl hk; exact .inr hk), q3⟩
theorem refset_app (w : World) (ok : Nat → Prop) (A : Option Addr) (c : Nat) (l : List Fil) (i : Int) (Ab : Option Addr) (cb : Nat) (bs : List Int) (x : Int) (h : Rd kF w ok A c l) (hb : Rd kB w ok Ab cb bs) (hl : l.length ≤ 549755813888) (hi : 0 ≤ i) {n : Nat} (hn : n = bs.length) :
    Calls Try.prog 55 #[.slice A l.length c, .int .i64 i, .agg #[.slice Ab n cb, .int .i64 x]] w fun e w' => ∃ A' c', e = .returned (.slice A' l.length c') ∧ Rd kF w' (fun k => ok k ∨ w.heap.size ≤ k) A' c' (l.set i.toNat ⟨bs, x⟩) ∧ Below w.heap.size w w' := by
  subst hn
  exact refset_calls w ok A c l i Ab cb bs x h hb hl hi
theorem Ref.set {w : World} {ok : Nat → Prop} {a0 c0 a1 c1 a2 c2 a3 c3 b0 d0} {S : PS} {i : Int} {f : Fil} (h : Ref w ok a0 c0 a1 c1 a2 c2 a3 c3 S) (hf : Rd kF w ok b0 d0 (S.files.set i.toNat f)) : Ref w ok b0 d0 a1 c1 a2 c2 a3 c3 (pDone (pSet S i f)) := ⟨hf, h.dir, h.dur, h.pend⟩
theorem ent_again {w : World} {ad : Addr} {l : List Ent} {x : Int} (h : Kd.C kE w (some ad) l.length l) (t : Nat) (ht : t < l.length) (hx : (rd_T84 l t).f1 = x) : w.cell? ⟨(ad.add (t * 2)).block, (ad.add (t * 2)).off + 1, none⟩ = some (.int .i64 x) := by
  obtain ⟨ad', e, _, h1⟩ := ent_cell h t ht
  cases e
  rw [← hx]
  exact h1
theorem box_drew (w : World) (o : Obj) : (w.alloc o).drew.heap[w.heap.size]? = some o ∧ Below w.heap.size w (w.alloc o).drew := ⟨heap_alloc_new w o, (below_alloc (Below.refl _ _) o).trans ⟨rfl, rfl, rfl, Nat.le_refl _, fun _ _ => rfl⟩⟩
theorem not_fresh {v : Value} {n b : Nat} (hf : v.ownBlock = none ∨ ∃ q, v.ownBlock = some q ∧ n ≤ q) (hb : b < n) : some b ≠ v.ownBlock := fun e => by
  rcases hf with h | ⟨q, h, hq⟩
  · rw [h] at e; cases e
  · rw [h] at e; cases e; omega
theorem two_cells {w : World} {b : Nat} {x0 x1 : Value} {t : Nat} {fz : Nat × Nat} (h : w.heap[b]? = some (.cells #[x0, x1] t fz)) : w.cell? ⟨b, 0, none⟩ = some x0 ∧ w.cell? ⟨b, 1, none⟩ = some x1 := ⟨cell_blk h 0, cell_blk h 1⟩
theorem cell_any {w : World} {a : Addr} {v : Value} (h : w.cell? a = some v) (o : Obj) : (w.alloc o).cell? a = some v := by rw [cell_alloc h]

set_option maxHeartbeats 4000000 in
set_option maxRecDepth 20000 in
theorem refSync_calls (w : World) (ok : Nat → Prop) (a0 : Option Addr) (c0 : Nat) (a1 : Option Addr) (c1 : Nat) (a2 : Option Addr) (c2 : Nat) (a3 : Option Addr) (c3 : Nat) (S : PS) (B : Nat) (n : ByteArray) (h : Ref w ok a0 c0 a1 c1 a2 c2 a3 c3 S) (hg : Good S B) (hB : B ≤ 549755813888) :
    Calls Try.prog 40 #[sv a0 c0 a1 c1 a2 c2 a3 c3 S, .string n] w (RefE2 w ok (pSync S n)) := by
  have H := Lib.hid h
  have HG := Lib.hid hg
  have HB := Lib.hid hB
  have HW := Lib.hid (two_blks w (.cells (svC a0 c0 a1 c1 a2 c2 a3 c3 S) tState) (.cells zeroC tState))
  have HOK := Lib.hid (h.mono (ok' := fun k => ok k ∧ k < w.heap.size) (fun k h1 h2 => ⟨h1, h2⟩))
  clear h hg hB
  by_cases hc : pCheck S.lim S.left [n] = 0
  · have HC := Lib.hid hc
    have HN := Lib.hid (pCheck_zero hc)
    cases hp : pLook S.dir n with
    | none =>
      have e : pSync S n = (S, 15) := by simp [pSync, hc, hp]
      rw [e]
      have HP := Lib.hid hp
      clear hc hp e
      go_enter Try.func40, Try.ntmps40
      go_wp2_with (first | (go_at_call 52; refine (refcheck_one w _ ok a0 c0 a1 c1 a2 c2 a3 c3 S _ n 0 H.out HW.out.2 (by simp) HC.out).mono ?_; rintro e w1 ⟨rfl, hb⟩; have HB1 := Lib.hid (HW.out.2.trans (hb.mono HW.out.2.size)); have j0 := Lib.hid (blk_below HW.out.1.1 hb); have j1 := Lib.hid (blk_below HW.out.1.2 hb); obtain ⟨s0, s1, s2, s3, s4, s5⟩ := six_cells j0.out; obtain ⟨e0, e1, e2, e3, e4, e5⟩ := six_cells j1.out; obtain ⟨g0, g1, g2, g3, g4, g5⟩ := six_frozen j1.out; obtain ⟨f0, f1, f2, f3, f4, f5⟩ := six_frozen j0.out; clear hb) | (go_at_call 48; refine (find_none_calls w1 ok a1 c1 S.dir n (H.out.below HB1.out).dir (by have := HG.out.nDir; have := HB.out; omega) HP.out).mono ?_; rintro e w2 ⟨rfl, hd⟩; have hb := drawn_below hd; have HB2 := Lib.hid (HB1.out.trans (hb.mono HB1.out.size)); have k0 := Lib.hid (blk_below j0.out hb); have k1 := Lib.hid (blk_below j1.out hb); clear s0 s1 s2 s3 s4 s5 e0 e1 e2 e3 e4 e5 g0 g1 g2 g3 g4 g5 f0 f1 f2 f3 f4 f5; clear j0 j1; have j0 := k0; have j1 := k1; clear k0 k1; obtain ⟨s0, s1, s2, s3, s4, s5⟩ := six_cells j0.out; obtain ⟨e0, e1, e2, e3, e4, e5⟩ := six_cells j1.out; obtain ⟨g0, g1, g2, g3, g4, g5⟩ := six_frozen j1.out; obtain ⟨f0, f1, f2, f3, f4, f5⟩ := six_frozen j0.out; clear hb hd) | fail)
      obtain ⟨q1, q2, q3⟩ := fin_ref (ok := ok) (S := S) HB2.out j1.out (HOK.out.below HB2.out |>.mono (fun k hk _ => .inl hk))
      exact bodyPost_ret (results_ct rfl _ _ (w.heap.size + 1) tState _ (0, 0) _ rfl q1 Try.underlying30 rfl (by kernel_rfl)) rfl ⟨_, rfl, ⟨a0, c0, a1, c1, a2, c2, a3, c3, rfl, q3⟩, q2⟩
    | some x =>
      have e : pSync S n = (pDone (pSet S x ⟨(fileAt S x).f0, (fileAt S x).f0.length⟩), 0) := by simp [pSync, hc, hp]
      rw [e]
      have HP := Lib.hid hp
      have hrx := HG.out.range x (live_look hp)
      have hbx : (fileAt S x).f0.length ≤ 549755813888 := by have := HG.out.nBytes _ (fileAt_mem hrx); have := HB.out; omega
      have hlf : S.files.length ≤ 549755813888 := by have := HG.out.nFiles; have := HB.out; omega
      have hx0 := hrx.1
      have hx1 := hrx.2
      have HRX := Lib.hid hrx
      clear hc hp e hrx
      go_enter Try.func40, Try.ntmps40
      go_upto_region 7 with (first | (go_at_call 52; refine (refcheck_one w _ ok a0 c0 a1 c1 a2 c2 a3 c3 S _ n 0 H.out HW.out.2 (by simp) HC.out).mono ?_; rintro e w1 ⟨rfl, hb⟩; have HB1 := Lib.hid (HW.out.2.trans (hb.mono HW.out.2.size)); have j0 := Lib.hid (blk_below HW.out.1.1 hb); have j1 := Lib.hid (blk_below HW.out.1.2 hb); obtain ⟨s0, s1, s2, s3, s4, s5⟩ := six_cells j0.out; obtain ⟨e0, e1, e2, e3, e4, e5⟩ := six_cells j1.out; obtain ⟨g0, g1, g2, g3, g4, g5⟩ := six_frozen j1.out; obtain ⟨f0, f1, f2, f3, f4, f5⟩ := six_frozen j0.out; clear hb) | (go_at_call 48; obtain ⟨t, ht, hx, hcall⟩ := find_some_calls w1 ok a1 c1 S.dir n x (H.out.below HB1.out).dir (by have := HG.out.nDir; have := HB.out; omega) HP.out; have HX := Lib.hid hx; refine hcall.mono ?_; rintro e w2 ⟨rfl, hd⟩; have hb := drawn_below hd; have HB2 := Lib.hid (HB1.out.trans (hb.mono HB1.out.size)); have htb : t < 549755813888 := (by have := HG.out.nDir; have := HB.out; omega); have k0 := Lib.hid (blk_below j0.out hb); have k1 := Lib.hid (blk_below j1.out hb); clear s0 s1 s2 s3 s4 s5 e0 e1 e2 e3 e4 e5 g0 g1 g2 g3 g4 g5 f0 f1 f2 f3 f4 f5; clear j0 j1; have j0 := k0; have j1 := k1; clear k0 k1; obtain ⟨s0, s1, s2, s3, s4, s5⟩ := six_cells j0.out; obtain ⟨e0, e1, e2, e3, e4, e5⟩ := six_cells j1.out; obtain ⟨g0, g1, g2, g3, g4, g5⟩ := six_frozen j1.out; obtain ⟨f0, f1, f2, f3, f4, f5⟩ := six_frozen j0.out; have HT := Lib.hid ht; clear hb hd hcall hx) | fail)
      obtain ⟨adE, hA, u0, u1⟩ := ent_cell (HOK.out.below HB2.out).dir.now t HT.out
      subst hA
      rw [HX.out] at u1
      obtain ⟨adF, Af, cf, hA, v0, v1, hrf⟩ := file_cells (HOK.out.below HB2.out).files x HRX.out
      subst hA
      have HRF := Lib.hid hrf
      have u1' := fun o => cell_any u1 o
      have v0' := fun o => cell_any v0 o
      have v1' := fun o => cell_any v1 o
      have s0' := fun o => cell_any s0 o
      have s1' := fun o => cell_any s1 o
      clear hrf u0
      go_region
      have hq := box_drew w2 (.cells #[.slice Af (fileAt S x).f0.length cf, .int .i64 (fileAt S x).f1] 81)
      generalize hw3 : (w2.alloc (.cells #[.slice Af (fileAt S x).f0.length cf, .int .i64 (fileAt S x).f1] 81)).drew = w3 at hq ⊢
      clear hw3 u1' v0' v1' s0' s1' v0 v1
      have hb := hq.2
      have j2 := Lib.hid hq.1
      have HB3 := Lib.hid (HB2.out.trans (hb.mono HB2.out.size))
      have HRF3 := Lib.hid (HRF.out.below hb)
      have U3 := Lib.hid ((hb.cell (World.block_lt_of_cell? w2 _ u1)).trans u1)
      have k0 := Lib.hid (blk_below j0.out hb)
      have k1 := Lib.hid (blk_below j1.out hb)
      clear s0 s1 s2 s3 s4 s5 e0 e1 e2 e3 e4 e5 g0 g1 g2 g3 g4 g5 f0 f1 f2 f3 f4 f5
      clear j0 j1
      have j0 := k0
      have j1 := k1
      clear k0 k1
      obtain ⟨s0, s1, s2, s3, s4, s5⟩ := six_cells j0.out
      obtain ⟨e0, e1, e2, e3, e4, e5⟩ := six_cells j1.out
      obtain ⟨g0, g1, g2, g3, g4, g5⟩ := six_frozen j1.out
      obtain ⟨f0, f1, f2, f3, f4, f5⟩ := six_frozen j0.out
      clear hb hq u1
      go_upto_region 8 with (fail)
      refine region_tail 14 (by kernel_rfl) (by kernel_rfl) ?_
      intro w4 hd
      have hb := drawn_below hd
      have HB4 := Lib.hid (HB3.out.trans (hb.mono HB3.out.size))
      have k2 := Lib.hid (blk_below j2.out hb)
      clear j2
      obtain ⟨y0, y1⟩ := two_cells k2.out
      have u1 := (hb.cell (World.block_lt_of_cell? w3 _ U3.out)).trans U3.out
      have HRF4 := Lib.hid (HRF3.out.below hb)
      have k0 := Lib.hid (blk_below j0.out hb)
      have k1 := Lib.hid (blk_below j1.out hb)
      clear s0 s1 s2 s3 s4 s5 e0 e1 e2 e3 e4 e5 g0 g1 g2 g3 g4 g5 f0 f1 f2 f3 f4 f5
      clear j0 j1
      have j0 := k0
      have j1 := k1
      clear k0 k1
      obtain ⟨s0, s1, s2, s3, s4, s5⟩ := six_cells j0.out
      obtain ⟨e0, e1, e2, e3, e4, e5⟩ := six_cells j1.out
      obtain ⟨g0, g1, g2, g3, g4, g5⟩ := six_frozen j1.out
      obtain ⟨f0, f1, f2, f3, f4, f5⟩ := six_frozen j0.out
      clear hb hd
      simp only [List.take_succ_cons, List.take_zero, List.drop_succ_cons, List.drop_zero]
      repeat still_step
      refine wpStill_nil ?_
      go_wp2_with (first | (go_at_call 55; have hx := HOK.out.below HB4.out; refine (refset_calls w4 (fun k => ok k ∧ k < w.heap.size) (some adF) c0 S.files x Af cf (fileAt S x).f0 _ hx.files (HRF4.out) hlf hx0).mono ?_; rintro e w7 ⟨A7, cc7, rfl, hr7, hb⟩; have HB7 := Lib.hid (HB4.out.trans (hb.mono HB4.out.size)); have HR7 := Lib.hid (hr7.mono (ok' := (fun k => (ok k ∧ k < w.heap.size) ∨ w.heap.size + 2 ≤ k)) (fun k hk _ => okin j1.out hk)); have k0 := Lib.hid (blk_below j0.out hb); have k1 := Lib.hid (blk_below j1.out hb); clear s0 s1 s2 s3 s4 s5 e0 e1 e2 e3 e4 e5 g0 g1 g2 g3 g4 g5 f0 f1 f2 f3 f4 f5; clear j0 j1; have j0 := k0; have j1 := k1; clear k0 k1; obtain ⟨s0, s1, s2, s3, s4, s5⟩ := six_cells j0.out; obtain ⟨e0, e1, e2, e3, e4, e5⟩ := six_cells j1.out; obtain ⟨g0, g1, g2, g3, g4, g5⟩ := six_frozen j1.out; obtain ⟨f0, f1, f2, f3, f4, f5⟩ := six_frozen j0.out; clear hb hr7 hx) | (go_at_call 53; refine (refdone_calls _ _ _ _ _ _ _ _ _ _ _ _ _ _ _ (fun e => ⟨HN.out.1 e, (HG.out.left e).2⟩)).mono ?_; rintro e w8 ⟨rfl, hb⟩; have HB8 := Lib.hid (one_in HB7.out j1.out hb).1; have k1 := Lib.hid (one_in HB7.out j1.out hb).2; have HR8 := Lib.hid ((((HOK.out.below HB8.out).mono (fun k hk _ => .inl hk)).set (HR7.out.set0.below hb) : Ref w8 (fun k => (ok k ∧ k < w.heap.size) ∨ w.heap.size + 2 ≤ k) A7 cc7 (some adE) c1 a2 c2 a3 c3 (pDone (pSet S x ⟨(fileAt S x).f0, (fileAt S x).f0.length⟩)))); clear s0 s1 s2 s3 s4 s5 e0 e1 e2 e3 e4 e5 g0 g1 g2 g3 g4 g5 f0 f1 f2 f3 f4 f5; clear j0 j1; have j1 := k1; clear k1; obtain ⟨e0, e1, e2, e3, e4, e5⟩ := six_cells j1.out; obtain ⟨g0, g1, g2, g3, g4, g5⟩ := six_frozen j1.out; clear hb) | fail)
      obtain ⟨q1, q2, q3⟩ := fin_ref (ok := ok) HB8.out j1.out HR8.out
      rw [show (pDone (pSet S x ⟨(fileAt S x).f0, (fileAt S x).f0.length⟩)).files.length = S.files.length by simp [pDone, pSet]] at q1 q2 q3
      exact bodyPost_ret (results_ct rfl _ _ (w.heap.size + 1) tState _ (0, 0) _ rfl q1 Try.underlying30 rfl (by kernel_rfl)) rfl ⟨_, rfl, ⟨A7, cc7, some adE, c1, a2, c2, a3, c3, by simp [sv, pDone, pSet], q3⟩, q2⟩
  · have e : pSync S n = (S, pCheck S.lim S.left [n]) := by simp [pSync, hc]
    rw [e]
    obtain ⟨c, hcc⟩ : ∃ c, pCheck S.lim S.left [n] = c := ⟨_, rfl⟩
    have HC := Lib.hid hcc
    have hc1 : (c == 0) = false := by rw [← hcc]; simpa using hc
    have hc2 : ¬ c = 0 := by rw [← hcc]; exact hc
    rw [hcc]
    clear e hc hcc
    go_enter Try.func40, Try.ntmps40
    go_wp2_with (first | (go_at_call 52; refine (refcheck_one w _ ok a0 c0 a1 c1 a2 c2 a3 c3 S _ n c H.out HW.out.2 (by simp) HC.out).mono ?_; rintro e w1 ⟨rfl, hb⟩; have HB1 := Lib.hid (HW.out.2.trans (hb.mono HW.out.2.size)); have j0 := Lib.hid (blk_below HW.out.1.1 hb); have j1 := Lib.hid (blk_below HW.out.1.2 hb); obtain ⟨s0, s1, s2, s3, s4, s5⟩ := six_cells j0.out; obtain ⟨e0, e1, e2, e3, e4, e5⟩ := six_cells j1.out; obtain ⟨g0, g1, g2, g3, g4, g5⟩ := six_frozen j1.out; obtain ⟨f0, f1, f2, f3, f4, f5⟩ := six_frozen j0.out; clear hb) | fail)
    obtain ⟨q1, q2, q3⟩ := fin_ref (ok := ok) (S := S) HB1.out j1.out (HOK.out.below HB1.out |>.mono (fun k hk _ => .inl hk))
    exact bodyPost_ret (results_ct rfl _ _ (w.heap.size + 1) tState _ (0, 0) _ rfl q1 Try.underlying30 rfl (by kernel_rfl)) rfl ⟨_, rfl, ⟨a0, c0, a1, c1, a2, c2, a3, c3, rfl, q3⟩, q2⟩

set_option maxHeartbeats 4000000 in
set_option maxRecDepth 20000 in
theorem refAppend_calls (w : World) (ok : Nat → Prop) (a0 : Option Addr) (c0 : Nat) (a1 : Option Addr) (c1 : Nat) (a2 : Option Addr) (c2 : Nat) (a3 : Option Addr) (c3 : Nat) (S : PS) (B : Nat) (n : ByteArray) (Ab : Option Addr) (cb : Nat) (bs : List Int) (h : Ref w ok a0 c0 a1 c1 a2 c2 a3 c3 S) (hg : Good S B) (hB : B ≤ 549755813888) (hbs : Rd kB w ok Ab cb bs) (hbl : bs.length ≤ 549755813888) :
    Calls Try.prog 39 #[sv a0 c0 a1 c1 a2 c2 a3 c3 S, .string n, .slice Ab bs.length cb] w (RefE2 w ok (pAppend S n bs)) := by
  have H := Lib.hid h
  have HG := Lib.hid hg
  have HBS := Lib.hid (hbs.mono (ok' := fun k => ok k ∧ k < w.heap.size) (fun k h1 h2 => ⟨h1, h2⟩))
  have HB := Lib.hid hB
  have HW := Lib.hid (two_blks w (.cells (svC a0 c0 a1 c1 a2 c2 a3 c3 S) tState) (.cells zeroC tState))
  have HOK := Lib.hid (h.mono (ok' := fun k => ok k ∧ k < w.heap.size) (fun k h1 h2 => ⟨h1, h2⟩))
  clear h hg hB hbs
  by_cases hc : pCheck S.lim S.left [n] = 0
  · have HC := Lib.hid hc
    have HN := Lib.hid (pCheck_zero hc)
    cases hp : pLook S.dir n with
    | none =>
      have e : pAppend S n bs = (S, 15) := by simp [pAppend, hc, hp]
      rw [e]
      have HP := Lib.hid hp
      clear hc hp e
      go_enter Try.func39, Try.ntmps39
      go_wp2_with (first | (go_at_call 52; refine (refcheck_one w _ ok a0 c0 a1 c1 a2 c2 a3 c3 S _ n 0 H.out HW.out.2 (by simp) HC.out).mono ?_; rintro e w1 ⟨rfl, hb⟩; have HB1 := Lib.hid (HW.out.2.trans (hb.mono HW.out.2.size)); have j0 := Lib.hid (blk_below HW.out.1.1 hb); have j1 := Lib.hid (blk_below HW.out.1.2 hb); obtain ⟨s0, s1, s2, s3, s4, s5⟩ := six_cells j0.out; obtain ⟨e0, e1, e2, e3, e4, e5⟩ := six_cells j1.out; obtain ⟨g0, g1, g2, g3, g4, g5⟩ := six_frozen j1.out; obtain ⟨f0, f1, f2, f3, f4, f5⟩ := six_frozen j0.out; clear hb) | (go_at_call 48; refine (find_none_calls w1 ok a1 c1 S.dir n (H.out.below HB1.out).dir (by have := HG.out.nDir; have := HB.out; omega) HP.out).mono ?_; rintro e w2 ⟨rfl, hd⟩; have hb := drawn_below hd; have HB2 := Lib.hid (HB1.out.trans (hb.mono HB1.out.size)); have k0 := Lib.hid (blk_below j0.out hb); have k1 := Lib.hid (blk_below j1.out hb); clear s0 s1 s2 s3 s4 s5 e0 e1 e2 e3 e4 e5 g0 g1 g2 g3 g4 g5 f0 f1 f2 f3 f4 f5; clear j0 j1; have j0 := k0; have j1 := k1; clear k0 k1; obtain ⟨s0, s1, s2, s3, s4, s5⟩ := six_cells j0.out; obtain ⟨e0, e1, e2, e3, e4, e5⟩ := six_cells j1.out; obtain ⟨g0, g1, g2, g3, g4, g5⟩ := six_frozen j1.out; obtain ⟨f0, f1, f2, f3, f4, f5⟩ := six_frozen j0.out; clear hb hd) | fail)
      obtain ⟨q1, q2, q3⟩ := fin_ref (ok := ok) (S := S) HB2.out j1.out (HOK.out.below HB2.out |>.mono (fun k hk _ => .inl hk))
      exact bodyPost_ret (results_ct rfl _ _ (w.heap.size + 1) tState _ (0, 0) _ rfl q1 Try.underlying30 rfl (by kernel_rfl)) rfl ⟨_, rfl, ⟨a0, c0, a1, c1, a2, c2, a3, c3, rfl, q3⟩, q2⟩
    | some x =>
      have e : pAppend S n bs = (pDone (pSet S x ⟨(fileAt S x).f0 ++ bs, (fileAt S x).f1⟩), 0) := by simp [pAppend, hc, hp]
      rw [e]
      have HP := Lib.hid hp
      have hrx := HG.out.range x (live_look hp)
      have hbx : (fileAt S x).f0.length ≤ 549755813888 := by have := HG.out.nBytes _ (fileAt_mem hrx); have := HB.out; omega
      have hlf : S.files.length ≤ 549755813888 := by have := HG.out.nFiles; have := HB.out; omega
      have hx0 := hrx.1
      have hx1 := hrx.2
      have HRX := Lib.hid hrx
      clear hc hp e hrx
      go_enter Try.func39, Try.ntmps39
      go_upto_region 7 with (first | (go_at_call 52; refine (refcheck_one w _ ok a0 c0 a1 c1 a2 c2 a3 c3 S _ n 0 H.out HW.out.2 (by simp) HC.out).mono ?_; rintro e w1 ⟨rfl, hb⟩; have HB1 := Lib.hid (HW.out.2.trans (hb.mono HW.out.2.size)); have j0 := Lib.hid (blk_below HW.out.1.1 hb); have j1 := Lib.hid (blk_below HW.out.1.2 hb); obtain ⟨s0, s1, s2, s3, s4, s5⟩ := six_cells j0.out; obtain ⟨e0, e1, e2, e3, e4, e5⟩ := six_cells j1.out; obtain ⟨g0, g1, g2, g3, g4, g5⟩ := six_frozen j1.out; obtain ⟨f0, f1, f2, f3, f4, f5⟩ := six_frozen j0.out; clear hb) | (go_at_call 48; obtain ⟨t, ht, hx, hcall⟩ := find_some_calls w1 ok a1 c1 S.dir n x (H.out.below HB1.out).dir (by have := HG.out.nDir; have := HB.out; omega) HP.out; have HX := Lib.hid hx; refine hcall.mono ?_; rintro e w2 ⟨rfl, hd⟩; have hb := drawn_below hd; have HB2 := Lib.hid (HB1.out.trans (hb.mono HB1.out.size)); have htb : t < 549755813888 := (by have := HG.out.nDir; have := HB.out; omega); have k0 := Lib.hid (blk_below j0.out hb); have k1 := Lib.hid (blk_below j1.out hb); clear s0 s1 s2 s3 s4 s5 e0 e1 e2 e3 e4 e5 g0 g1 g2 g3 g4 g5 f0 f1 f2 f3 f4 f5; clear j0 j1; have j0 := k0; have j1 := k1; clear k0 k1; obtain ⟨s0, s1, s2, s3, s4, s5⟩ := six_cells j0.out; obtain ⟨e0, e1, e2, e3, e4, e5⟩ := six_cells j1.out; obtain ⟨g0, g1, g2, g3, g4, g5⟩ := six_frozen j1.out; obtain ⟨f0, f1, f2, f3, f4, f5⟩ := six_frozen j0.out; have HT := Lib.hid ht; clear hb hd hcall hx) | fail)
      obtain ⟨adE, hA, u0, u1⟩ := ent_cell (HOK.out.below HB2.out).dir.now t HT.out
      subst hA
      rw [HX.out] at u1
      obtain ⟨adF, Af, cf, hA, v0, v1, hrf⟩ := file_cells (HOK.out.below HB2.out).files x HRX.out
      subst hA
      have HRF := Lib.hid hrf
      have u1' := fun o => cell_any u1 o
      have v0' := fun o => cell_any v0 o
      have v1' := fun o => cell_any v1 o
      have s0' := fun o => cell_any s0 o
      have s1' := fun o => cell_any s1 o
      clear hrf u0
      go_region
      have hq := box_drew w2 (.cells #[.slice Af (fileAt S x).f0.length cf, .int .i64 (fileAt S x).f1] 81)
      generalize hw3 : (w2.alloc (.cells #[.slice Af (fileAt S x).f0.length cf, .int .i64 (fileAt S x).f1] 81)).drew = w3 at hq ⊢
      clear hw3 u1' v0' v1' s0' s1' v0 v1
      have hb := hq.2
      have j2 := Lib.hid hq.1
      have HB3 := Lib.hid (HB2.out.trans (hb.mono HB2.out.size))
      have HRF3 := Lib.hid (HRF.out.below hb)
      have U3 := Lib.hid ((hb.cell (World.block_lt_of_cell? w2 _ u1)).trans u1)
      have k0 := Lib.hid (blk_below j0.out hb)
      have k1 := Lib.hid (blk_below j1.out hb)
      clear s0 s1 s2 s3 s4 s5 e0 e1 e2 e3 e4 e5 g0 g1 g2 g3 g4 g5 f0 f1 f2 f3 f4 f5
      clear j0 j1
      have j0 := k0
      have j1 := k1
      clear k0 k1
      obtain ⟨s0, s1, s2, s3, s4, s5⟩ := six_cells j0.out
      obtain ⟨e0, e1, e2, e3, e4, e5⟩ := six_cells j1.out
      obtain ⟨g0, g1, g2, g3, g4, g5⟩ := six_frozen j1.out
      obtain ⟨f0, f1, f2, f3, f4, f5⟩ := six_frozen j0.out
      clear hb hq u1
      obtain ⟨y0, y1⟩ := two_cells j2.out
      go_upto_region 11 with (first | (at_builtin; refine Kd.N_append_rows kB (w0 := w) w.heap.size rfl (.tmp 37) (.tmp 39) 41 5 _ 1 rfl Try.underlying41 infoB rfl (by decide) (by omega) (.slice none 0 0) [] (fileAt S x).f0 Af (fileAt S x).f0.length cf (fun k => (ok k ∧ k < w.heap.size) ∨ w.heap.size + 2 ≤ k) (fun k => ok k ∧ k < w.heap.size) rfl rfl (Kd.N_nil _ _ _ _ _) HRF3.out.f (fun k hk => ⟨.inl hk, by simp [Value.ownBlock]⟩) (fun k hk => .inr (by have := lt_blk j1.out; omega)) HB3.out HB3.out.size (by simp only [List.length_nil]; omega) ?_; intro v4 w4 hn hb hg hat; rw [List.nil_append] at hn; have k2 := Lib.hid (blk_grownN j2.out hg (by simp [Value.ownBlock])); clear y0 y1; have k0 := Lib.hid (blk_grownN j0.out hg (by simp [Value.ownBlock])); have k1 := Lib.hid (blk_grownN j1.out hg (by simp [Value.ownBlock])); have hfar : v4.ownBlock = none ∨ ∃ q, v4.ownBlock = some q ∧ w3.heap.size ≤ q := (by rcases hat with e | ⟨q, e1, e2⟩; exact .inl e; exact .inr ⟨q, e1, e2⟩); have HF4 := Lib.hid hfar; have HL0 := Lib.hid (lt_blk j0.out); have HL1 := Lib.hid (lt_blk j1.out); have HL2 := Lib.hid (lt_blk j2.out); have HN4 := Lib.hid hn; have HB4 := Lib.hid hb; clear j0 j1 j2; have j0 := k0; have j1 := k1; have j2 := k2; clear k0 k1 k2; clear s0 s1 s2 s3 s4 s5 e0 e1 e2 e3 e4 e5 g0 g1 g2 g3 g4 g5 f0 f1 f2 f3 f4 f5; obtain ⟨s0, s1, s2, s3, s4, s5⟩ := six_cells j0.out; obtain ⟨e0, e1, e2, e3, e4, e5⟩ := six_cells j1.out; obtain ⟨g0, g1, g2, g3, g4, g5⟩ := six_frozen j1.out; obtain ⟨f0, f1, f2, f3, f4, f5⟩ := six_frozen j0.out; clear hn hb hg hat hfar) | (at_builtin; refine Kd.N_append_rows kB (w0 := w) w.heap.size rfl (.tmp 41) (.tmp 42) 41 5 _ 1 rfl Try.underlying41 infoB rfl (by decide) (by omega) v4 (fileAt S x).f0 bs Ab bs.length cb (fun k => (ok k ∧ k < w.heap.size) ∨ w.heap.size + 2 ≤ k) (fun k => ok k ∧ k < w.heap.size) rfl rfl HN4.out (HBS.out.below HB4.out).f (fun k hk => ⟨.inl hk, not_fresh HF4.out (by have := hk.2; have := HB3.out.size; omega)⟩) (fun k hk => .inr (by have := lt_blk j1.out; omega)) HB4.out HB4.out.size (by omega) ?_; intro v5 w5 hn hb hg hat; have k2 := Lib.hid (blk_grownN j2.out hg (not_fresh HF4.out HL2.out)); have k0 := Lib.hid (blk_grownN j0.out hg (not_fresh HF4.out HL0.out)); have k1 := Lib.hid (blk_grownN j1.out hg (not_fresh HF4.out HL1.out)); obtain ⟨A5, cc5, hv5, hr5⟩ := Rd.ofN hn; rw [List.length_append] at hv5; subst hv5; have HR5 := Lib.hid (hr5.mono (ok' := (fun k => (ok k ∧ k < w.heap.size) ∨ w.heap.size + 2 ≤ k)) (fun k hk _ => hk.1)); have HB5 := Lib.hid hb; clear j0 j1 j2; have j0 := k0; have j1 := k1; have j2 := k2; clear k0 k1 k2; clear s0 s1 s2 s3 s4 s5 e0 e1 e2 e3 e4 e5 g0 g1 g2 g3 g4 g5 f0 f1 f2 f3 f4 f5; obtain ⟨s0, s1, s2, s3, s4, s5⟩ := six_cells j0.out; obtain ⟨e0, e1, e2, e3, e4, e5⟩ := six_cells j1.out; obtain ⟨g0, g1, g2, g3, g4, g5⟩ := six_frozen j1.out; obtain ⟨f0, f1, f2, f3, f4, f5⟩ := six_frozen j0.out; clear hn hb hg hat hr5 HN4) | fail)
      refine region_tail 12 (by kernel_rfl) (by kernel_rfl) ?_
      intro w6 hd
      have hb := drawn_below hd
      have HB6 := Lib.hid (HB5.out.trans (hb.mono HB5.out.size))
      have k2 := Lib.hid (blk_below j2.out hb)
      clear j2
      obtain ⟨y0, y1⟩ := two_cells k2.out
      have u1 := ent_again (HOK.out.below HB6.out).dir.now t HT.out HX.out
      have HR6 := Lib.hid (HR5.out.below hb)
      have k0 := Lib.hid (blk_below j0.out hb)
      have k1 := Lib.hid (blk_below j1.out hb)
      clear s0 s1 s2 s3 s4 s5 e0 e1 e2 e3 e4 e5 g0 g1 g2 g3 g4 g5 f0 f1 f2 f3 f4 f5
      clear j0 j1
      have j0 := k0
      have j1 := k1
      clear k0 k1
      obtain ⟨s0, s1, s2, s3, s4, s5⟩ := six_cells j0.out
      obtain ⟨e0, e1, e2, e3, e4, e5⟩ := six_cells j1.out
      obtain ⟨g0, g1, g2, g3, g4, g5⟩ := six_frozen j1.out
      obtain ⟨f0, f1, f2, f3, f4, f5⟩ := six_frozen j0.out
      clear hb hd
      simp only [List.take_succ_cons, List.take_zero, List.drop_succ_cons, List.drop_zero]
      repeat still_step
      refine wpStill_nil ?_
      go_wp2_with (first | (go_at_call 55; have hx := HOK.out.below HB6.out; refine (refset_app w6 (fun k => (ok k ∧ k < w.heap.size) ∨ w.heap.size + 2 ≤ k) (some adF) c0 S.files x A5 cc5 ((fileAt S x).f0 ++ bs) _ (hx.files.mono (fun k hk _ => .inl hk)) (HR6.out) hlf hx0 (by simp)).mono ?_; rintro e w7 ⟨A7, cc7, rfl, hr7, hb⟩; have HB7 := Lib.hid (HB6.out.trans (hb.mono HB6.out.size)); have HR7 := Lib.hid (hr7.mono (ok' := (fun k => (ok k ∧ k < w.heap.size) ∨ w.heap.size + 2 ≤ k)) (fun k hk _ => okin2 j1.out hk)); have k0 := Lib.hid (blk_below j0.out hb); have k1 := Lib.hid (blk_below j1.out hb); clear s0 s1 s2 s3 s4 s5 e0 e1 e2 e3 e4 e5 g0 g1 g2 g3 g4 g5 f0 f1 f2 f3 f4 f5; clear j0 j1; have j0 := k0; have j1 := k1; clear k0 k1; obtain ⟨s0, s1, s2, s3, s4, s5⟩ := six_cells j0.out; obtain ⟨e0, e1, e2, e3, e4, e5⟩ := six_cells j1.out; obtain ⟨g0, g1, g2, g3, g4, g5⟩ := six_frozen j1.out; obtain ⟨f0, f1, f2, f3, f4, f5⟩ := six_frozen j0.out; clear hb hr7 hx) | (go_at_call 53; refine (refdone_calls _ _ _ _ _ _ _ _ _ _ _ _ _ _ _ (fun e => ⟨HN.out.1 e, (HG.out.left e).2⟩)).mono ?_; rintro e w8 ⟨rfl, hb⟩; have HB8 := Lib.hid (one_in HB7.out j1.out hb).1; have k1 := Lib.hid (one_in HB7.out j1.out hb).2; have HR8 := Lib.hid ((((HOK.out.below HB8.out).mono (fun k hk _ => .inl hk)).set (HR7.out.set0.below hb) : Ref w8 (fun k => (ok k ∧ k < w.heap.size) ∨ w.heap.size + 2 ≤ k) A7 cc7 (some adE) c1 a2 c2 a3 c3 (pDone (pSet S x ⟨(fileAt S x).f0 ++ bs, (fileAt S x).f1⟩)))); clear s0 s1 s2 s3 s4 s5 e0 e1 e2 e3 e4 e5 g0 g1 g2 g3 g4 g5 f0 f1 f2 f3 f4 f5; clear j0 j1; have j1 := k1; clear k1; obtain ⟨e0, e1, e2, e3, e4, e5⟩ := six_cells j1.out; obtain ⟨g0, g1, g2, g3, g4, g5⟩ := six_frozen j1.out; clear hb) | fail)
      obtain ⟨q1, q2, q3⟩ := fin_ref (ok := ok) HB8.out j1.out HR8.out
      rw [show (pDone (pSet S x ⟨(fileAt S x).f0 ++ bs, (fileAt S x).f1⟩)).files.length = S.files.length by simp [pDone, pSet]] at q1 q2 q3
      exact bodyPost_ret (results_ct rfl _ _ (w.heap.size + 1) tState _ (0, 0) _ rfl q1 Try.underlying30 rfl (by kernel_rfl)) rfl ⟨_, rfl, ⟨A7, cc7, some adE, c1, a2, c2, a3, c3, by simp [sv, pDone, pSet], q3⟩, q2⟩
  · have e : pAppend S n bs = (S, pCheck S.lim S.left [n]) := by simp [pAppend, hc]
    rw [e]
    obtain ⟨c, hcc⟩ : ∃ c, pCheck S.lim S.left [n] = c := ⟨_, rfl⟩
    have HC := Lib.hid hcc
    have hc1 : (c == 0) = false := by rw [← hcc]; simpa using hc
    have hc2 : ¬ c = 0 := by rw [← hcc]; exact hc
    rw [hcc]
    clear e hc hcc
    go_enter Try.func39, Try.ntmps39
    go_wp2_with (first | (go_at_call 52; refine (refcheck_one w _ ok a0 c0 a1 c1 a2 c2 a3 c3 S _ n c H.out HW.out.2 (by simp) HC.out).mono ?_; rintro e w1 ⟨rfl, hb⟩; have HB1 := Lib.hid (HW.out.2.trans (hb.mono HW.out.2.size)); have j0 := Lib.hid (blk_below HW.out.1.1 hb); have j1 := Lib.hid (blk_below HW.out.1.2 hb); obtain ⟨s0, s1, s2, s3, s4, s5⟩ := six_cells j0.out; obtain ⟨e0, e1, e2, e3, e4, e5⟩ := six_cells j1.out; obtain ⟨g0, g1, g2, g3, g4, g5⟩ := six_frozen j1.out; obtain ⟨f0, f1, f2, f3, f4, f5⟩ := six_frozen j0.out; clear hb) | fail)
    obtain ⟨q1, q2, q3⟩ := fin_ref (ok := ok) (S := S) HB1.out j1.out (HOK.out.below HB1.out |>.mono (fun k hk _ => .inl hk))
    exact bodyPost_ret (results_ct rfl _ _ (w.heap.size + 1) tState _ (0, 0) _ rfl q1 Try.underlying30 rfl (by kernel_rfl)) rfl ⟨_, rfl, ⟨a0, c0, a1, c1, a2, c2, a3, c3, rfl, q3⟩, q2⟩
end Go.Proofs.Ytpffeafoangegaa.Disk

/- The reference's left. -/
namespace Go.Proofs.Ytpffeafoangegaa.Disk
open Go Go.RowKit Go.Proofs.YtpffeafoangegaaW.PrintWords Go.Proofs.YtpffeafoangegaaW.PrintLast Go.Proofs.YtpffeafoangegaaW.PrintMore Go.Proofs.Ytpffeafoangegaa.PSimdiskOperations
attribute [local go_sem] max2_int min2_int max_two min_two max_three min_three max_four min_four
theorem Rd.ofOwn {w : World} {base : Nat} {A : Option Addr} {n c : Nat} {xs : List Int} (h : w.ownsRow base 5 1 (.slice A n c) xs.length (nums .u8 xs)) : Rd kB w (fun k => base ≤ k) A c xs := by
  have hn : n = xs.length ∧ n ≤ c := by
    rcases h.2 with ⟨h1, h2⟩ | ⟨g, cap, cur, h1, _, _, h2, _⟩
    · simp only [Value.slice.injEq] at h1
      exact ⟨by omega, by omega⟩
    · simp only [Value.slice.injEq] at h1
      exact ⟨h1.2.1, by omega⟩
  have hn1 := hn.1
  subst hn1
  exact ⟨hn.2, fun W' hW => C_of_reads (own_reads' (own_move h (fun k hk => hW k (h.lt k hk).1 (h.lt k hk).2)))⟩
theorem Kd.F_mn {α : Type} {d : Kd α} {w : World} {ok : Nat → Prop} {A : Option Addr} {c : Nat} {xs : List α} (h : Rd d w ok A c xs) : Kd.F d w ok A xs.length xs := h.f
theorem left_form (f : Fil) (c : Cf) (hd : 0 ≤ f.f1 ∧ f.f1 ≤ f.f0.length) : ∃ (du kp : Nat) (y : Int), f.f1 = (du : Int) ∧ du + kp ≤ f.f0.length ∧ (if ((f.f0.length : Int) - (du : Int)) < c.f0 then (f.f0.length : Int) - (du : Int) else c.f0) = y ∧ (if (0 : Int) < y then y else 0) = (kp : Int) ∧ pKept f c = (kp : Int) := by
  obtain ⟨du, hdu⟩ := Int.eq_ofNat_of_zero_le hd.1
  have h1 := hd.2
  refine ⟨du, (pKept f c).toNat, _, hdu, ?_, rfl, ?_, ?_⟩
  · unfold pKept mn mx; rw [hdu] at h1 ⊢; split <;> split <;> omega
  · unfold pKept mn mx; rw [hdu] at h1 ⊢; repeat' split
    all_goals omega
  · have : 0 ≤ pKept f c := by unfold pKept mn mx; rw [hdu] at h1 ⊢; split <;> split <;> omega
    omega

set_option maxHeartbeats 4000000 in
theorem left_calls (w : World) (ok : Nat → Prop) (Af : Option Addr) (cf : Nat) (f : Fil) (c : Cf) (h : Rd kB w ok Af cf f.f0) (hd : 0 ≤ f.f1 ∧ f.f1 ≤ f.f0.length) (hl : f.f0.length ≤ 549755813888) :
    Calls Try.prog 34 #[.agg #[.slice Af f.f0.length cf, .int .i64 f.f1], .agg #[.int .i64 c.f0, .bool c.f1]] w fun e w' => ∃ A' c', e = .returned (.agg #[.slice A' (pLeft f c).length c', .int .i64 (pLeft f c).length]) ∧ Rd kB w' (fun k => w.heap.size ≤ k) A' c' (pLeft f c) ∧ Below w.heap.size w w' := by
  obtain ⟨du, kp, y, hdu, hle, e1, e2, e3⟩ := left_form f c hd
  obtain ⟨mk, hmk⟩ : ∃ mk : Nat, mk = du + kp := ⟨_, rfl⟩
  obtain ⟨b0, hb0⟩ : ∃ b0, b0 = f.f0.take mk := ⟨_, rfl⟩
  have hbl : b0.length = mk := by rw [hb0, List.length_take]; omega
  have hp : pLeft f c = if c.f1 = true ∧ 0 < (kp : Int) then b0.set (b0.length - 1) (Go.bits .xor .u8 (rd b0 ((b0.length : Int) - 1)) 255) else b0 := by
    unfold pLeft
    rw [e3, hdu, show ((du : Int) + (kp : Int)).toNat = mk by omega, ← hb0]
  rw [hp, hdu]
  have HR : Hid (Kd.F kB w ok Af mk b0) := by
    have := Kd.F_take (m := mk) h.f (by omega)
    rw [← hb0, hbl] at this
    exact this
  obtain ⟨dn, hdn⟩ : ∃ dn, dn = f.f0.length := ⟨_, rfl⟩
  obtain ⟨c0, ct⟩ := c
  have hlc := h.le
  rw [← hdn] at e1 hl hle hlc ⊢
  simp only at e1 ⊢
  have HW := Lib.hid (three_blks w (.cells #[.slice Af dn cf, .int .i64 du] 81) (.cells #[.int .i64 c0, .bool ct] 60) (.cells #[.slice none 0 0, .int .i64 0] 81))
  have hwr : IntKind.i64.wrap ((dn : Int) - (du : Int)) = (dn : Int) - (du : Int) := IntWalk.i64_in _ (by omega)
  have hws : IntKind.i64.wrap ((du : Int) + (kp : Int)) = (mk : Int) := by rw [IntWalk.i64_in _ (by omega)]; omega
  have hk5 : mk ≤ cf := by omega
  have hk6 : mk ≤ 549755813888 := by omega
  have HBL := Lib.hid hbl
  have HMK := Lib.hid hmk
  have hle2 : du ≤ dn := by omega
  clear h hd hdu e3 hp hb0 hdn hle hbl hmk
  have hkp : kp ≤ mk := by have := HMK.out; omega
  have hways : (ct = true ∧ 0 < kp ∧ y = (kp : Int)) ∨ (ct = false ∧ 0 < kp ∧ y = (kp : Int)) ∨ (ct = true ∧ kp = 0 ∧ y ≤ 0) ∨ (ct = false ∧ kp = 0 ∧ y ≤ 0) := by
    have hy : (0 < kp ∧ y = (kp : Int)) ∨ (kp = 0 ∧ y ≤ 0) := by
      split at e2 <;> omega
    cases ct <;> rcases hy with hy | hy <;> simp [hy]
  rcases hways with ⟨rfl, hk0, rfl⟩ | hw
  · obtain ⟨mp, rfl⟩ : ∃ mp, mk = mp + 1 := ⟨mk - 1, by omega⟩
    have hws' : (du : Int) + (kp : Int) = (mp : Int) + 1 := by have := HMK.out; omega
    have hk0' : (0 : Int) < (kp : Int) := by omega
    rw [if_pos ⟨rfl, hk0'⟩]
    go_enter Try.func34, Try.ntmps34
    go_wp2_with (first | (at_builtin; go_loud (refine print_append_row (w0 := w) w.heap.size rfl (.tmp 17) (.tmp 24) 41 5 .u8 1 rfl Try.underlying41 infoB (by decide) (.slice none 0 0) [] b0 Af (mp + 1) cf rfl rfl (World.ownsRow_nil _ _ _ _) (reads_of_C (Kd.F_now (Kd.F_below HR.out HW.out.2))) HW.out.2 HW.out.2.size (by simp only [List.length_nil]; omega) ?_); intro v1 w1 ho hb hg hat; rw [List.nil_append] at ho; have k0 := Lib.hid (blk_grownN HW.out.1.1 hg (by simp [Value.ownBlock])); have k1 := Lib.hid (blk_grownN HW.out.1.2.1 hg (by simp [Value.ownBlock])); have k2 := Lib.hid (blk_grownN HW.out.1.2.2 hg (by simp [Value.ownBlock])); obtain ⟨vg, vcap, rfl, hvg, hq1, hq2⟩ := torn_form (mp := mp) ho HBL.out; obtain ⟨y0, y1⟩ := two_cells k1.out; obtain ⟨z0, z1⟩ := two_cells k2.out; have g0 := frozen_blk k2.out 0; have g1 := frozen_blk k2.out 1; have HO := Lib.hid ho; have HB := Lib.hid hb; have hv3 : w.heap.size + 3 ≤ vg := (by rcases hat with e | ⟨q, e4, e5⟩; simp [Value.ownBlock] at e; simp only [Value.ownBlock, Option.some.injEq] at e4; have := HW.out.2.size; simp at e5; omega); have hn1 : ¬ vg = w.heap.size + 1 + 1 := (by omega); have hn2 : ¬ w.heap.size + 1 + 1 = vg := (by omega); have HV3 := Lib.hid hv3; clear ho hb hg hat hvg hv3) | fail)
    have hlen := HBL.out
    have hv3 := HV3.out
    have hs := own_store (by have := HO.out; rw [hlen] at this; exact this) (mp : Int) (Go.bits .xor .u8 (rd b0 (mp : Int)) 255)
    simp only [Int.toNat_natCast] at hs
    have hs1 := own_move (w1 := ((w1.setCell ⟨vg, mp, none⟩ (.int .u8 (Go.bits .xor .u8 (rd b0 (mp : Int)) 255))).setCell ⟨w.heap.size + 1 + 1, 0, none⟩ (.slice (some ⟨vg, 0, none⟩) (mp + 1) vcap)).setCell ⟨w.heap.size + 1 + 1, 1, none⟩ (.int .i64 ((mp : Int) + 1))) hs.1 (fun k hk => by simp only [Value.ownBlock, Option.some.injEq] at hk; rw [Below.heap_setCell _ _ _ _ (show k ≠ w.heap.size + 1 + 1 by omega), Below.heap_setCell _ _ _ _ (show k ≠ w.heap.size + 1 + 1 by omega)])
    have e4 : (b0.set mp (Go.bits .xor .u8 (rd b0 (mp : Int)) 255)).length = mp + 1 := by rw [List.length_set, hlen]
    rw [hlen, show mp + 1 - 1 = mp by omega, show ((mp + 1 : Nat) : Int) - 1 = (mp : Int) by omega, e4]
    exact bodyPost_ret (results_cell_row rfl _ _ (w.heap.size + 1 + 1) 81 #[.slice (some ⟨vg, 0, none⟩) (mp + 1) vcap, .int .i64 ((mp : Int) + 1)] (0, 0) _ rfl (blk_set (blk_set (blk_set_other k2.out (p := ⟨vg, mp, none⟩) hn2 _) 0 _) 1 _) Try.underlying81 rfl (by kernel_rfl)) rfl ⟨some ⟨vg, 0, none⟩, vcap, rfl, Rd.ofOwn (by rw [e4]; exact hs1), below_setN (below_setN (below_setN HB.out (by omega) _) (by omega) _) (by omega) _⟩
  · have hno : ¬ (ct = true ∧ 0 < (kp : Int)) := by rcases hw with h | h | h <;> (rintro ⟨z1, z2⟩; obtain ⟨h1, h2, h3⟩ := h; first | omega | (rw [h1] at z1; cases z1))
    rw [if_neg hno, HBL.out]
    have hws' : (du : Int) + (kp : Int) = (mk : Int) := by have := HMK.out; omega
    have hk0 : ∀ z : Int, z ≤ 0 → ¬ 0 < z := fun z h => by omega
    rcases hw with ⟨rfl, hk0, rfl⟩ | ⟨rfl, rfl, hy⟩ | ⟨rfl, rfl, hy⟩
    all_goals try (replace hy := hk0 _ hy; obtain rfl : mk = du := (by have := HMK.out; omega); clear e2 hws hws')
    all_goals
      go_enter Try.func34, Try.ntmps34
      go_wp2_with (first | (at_builtin; go_loud (refine print_append_row (w0 := w) w.heap.size rfl (.tmp 17) (.tmp 24) 41 5 .u8 1 rfl Try.underlying41 infoB (by decide) (.slice none 0 0) [] b0 Af mk cf rfl rfl (World.ownsRow_nil _ _ _ _) (reads_of_C (Kd.F_now (Kd.F_below HR.out HW.out.2))) HW.out.2 HW.out.2.size (by simp only [List.length_nil]; omega) ?_); intro v1 w1 ho hb hg hat; rw [List.nil_append] at ho; have k1 := Lib.hid (blk_grownN HW.out.1.2.1 hg (by simp [Value.ownBlock])); have k2 := Lib.hid (blk_grownN HW.out.1.2.2 hg (by simp [Value.ownBlock])); obtain ⟨vA, vn, vc, rfl, hvn, hvc⟩ := data_form2 (own_weaken ho (Nat.zero_le _)); rw [HBL.out] at hvn; subst hvn; obtain ⟨y0, y1⟩ := two_cells k1.out; obtain ⟨z0, z1⟩ := two_cells k2.out; have g0 := frozen_blk k2.out 0; have g1 := frozen_blk k2.out 1; have HO := Lib.hid ho; have HB := Lib.hid hb; have hfar : ∀ k, (Value.slice vA vn vc).ownBlock = some k → k ≠ w.heap.size + 1 + 1 := (fun k hk => by rcases hat with e | ⟨q, e4, e5⟩; rw [e] at hk; cases hk; rw [e4] at hk; cases hk; have := lt_blk HW.out.1.2.2; omega); have HFAR := Lib.hid hfar; clear ho hb hg hat hfar) | fail)
      have hs1 := own_move (w1 := (w1.setCell ⟨w.heap.size + 1 + 1, 0, none⟩ (.slice vA vn vc)).setCell ⟨w.heap.size + 1 + 1, 1, none⟩ (.int .i64 (vn : Int))) HO.out (fun k hk => by rw [Below.heap_setCell _ _ _ _ (HFAR.out k hk), Below.heap_setCell _ _ _ _ (HFAR.out k hk)])
      exact bodyPost_ret (results_cell_row rfl _ _ (w.heap.size + 1 + 1) 81 #[.slice vA vn vc, .int .i64 (vn : Int)] (0, 0) _ rfl (blk_set (blk_set k2.out 0 _) 1 _) Try.underlying81 rfl (by kernel_rfl)) rfl ⟨vA, vc, rfl, Rd.ofOwn hs1, below_setN (below_setN HB.out (by omega) _) (by omega) _⟩
end Go.Proofs.Ytpffeafoangegaa.Disk
