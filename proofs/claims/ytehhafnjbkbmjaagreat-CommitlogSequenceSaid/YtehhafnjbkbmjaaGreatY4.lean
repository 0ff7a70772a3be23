/- Rows of bytes, the steps of a replacement. -/
import Derived.Test.YtehhafnjbkbmjaaGreatY2
import Derived.Test.YtehhafnjbkbmjaaGreatY3
import Derived.Deep.RegionHeld3
import Derived.OpenShut
import Derived.Test.YtehhafnjbkbmjaaGreatShelf2
import Derived.Lib.SlBytesConst
import Derived.Deep.Slices
import Derived.ChangeOld
import Derived.SizedLaws
/- The reference's functions on a state: performed, FailAfter. -/
namespace Go.Proofs.YtehhafnjbkbmjaaGreat.Disk
open Go Go.RowKit Go.Proofs.YtehhafnjbkbmjaaGreatW.PrintWords Go.Proofs.YtehhafnjbkbmjaaGreatW.PrintLast Go.Proofs.YtehhafnjbkbmjaaGreatW.PrintMore Go.Proofs.YtehhafnjbkbmjaaGreat.PCommitlogSequence
attribute [local go_sem] max2_int min2_int max_two min_two max_three min_three max_four min_four

set_option maxHeartbeats 2000000 in
theorem performed_calls (w : World) (a0 a1 a2 a3 : Option Addr) (n0 c0 n1 c1 n2 c2 n3 c3 : Nat) (lim : Bool) (left : Int) (h : lim = true → 0 < left ∧ left ≤ 9223372036854775807) :
    Calls Tryz.prog 85 #[.agg #[.slice a0 n0 c0, .slice a1 n1 c1, .slice a2 n2 c2, .slice a3 n3 c3, .bool lim, .int .i64 left]] w fun e w' =>
      e = .returned (.agg #[.slice a0 n0 c0, .slice a1 n1 c1, .slice a2 n2 c2, .slice a3 n3 c3, .bool lim, .int .i64 (doneLeft lim left)]) ∧ Below w.heap.size w w' := by
  cases lim
  · go_enter Tryz.func85, Tryz.ntmps85
    go_wp2
    exact bodyPost_ret (v := .agg #[.slice a0 n0 c0, .slice a1 n1 c1, .slice a2 n2 c2, .slice a3 n3 c3, .bool false, .int .i64 left]) (by simp [results, Tryz.results85, go_sem]) rfl ⟨rfl, ((Below.refl _ _).alloc (Nat.le_refl _) _).alloc (by simp) _⟩
  · obtain ⟨h0, h1⟩ := h rfl
    go_enter Tryz.func85, Tryz.ntmps85
    go_wp2
    exact bodyPost_ret (v := .agg #[.slice a0 n0 c0, .slice a1 n1 c1, .slice a2 n2 c2, .slice a3 n3 c3, .bool true, .int .i64 (left - 1)]) (by simp [results, Tryz.results85, go_sem]) rfl ⟨rfl, ((Below.refl _ _).alloc (Nat.le_refl _) _).alloc (by simp) _⟩
set_option maxHeartbeats 2000000 in
theorem refFail_calls (w : World) (a0 a1 a2 a3 : Option Addr) (n0 c0 n1 c1 n2 c2 n3 c3 : Nat) (lim : Bool) (left n : Int) :
    Calls Tryz.prog 28 #[.agg #[.slice a0 n0 c0, .slice a1 n1 c1, .slice a2 n2 c2, .slice a3 n3 c3, .bool lim, .int .i64 left], .int .i64 n] w fun e w' =>
      e = .returned (.agg #[.slice a0 n0 c0, .slice a1 n1 c1, .slice a2 n2 c2, .slice a3 n3 c3, .bool (decide (0 ≤ n)), .int .i64 (if n < 0 then 0 else n)]) ∧ Below w.heap.size w w' := by
  obtain ⟨m, hm⟩ : ∃ m, (if n < 0 then (0 : Int) else n) = m := ⟨_, rfl⟩
  rw [hm]
  go_enter Tryz.func28, Tryz.ntmps28
  go_wp2
  exact bodyPost_ret (v := .agg #[.slice a0 n0 c0, .slice a1 n1 c1, .slice a2 n2 c2, .slice a3 n3 c3, .bool (decide (0 ≤ n)), .int .i64 m]) (by simp [results, Tryz.results28, go_sem]) rfl ⟨rfl, ((Below.refl _ _).alloc (Nat.le_refl _) _).alloc (by simp) _⟩
end Go.Proofs.YtehhafnjbkbmjaaGreat.Disk

/- The reference's functions on directories: find, without, with, apply. -/
namespace Go.Proofs.YtehhafnjbkbmjaaGreat.Disk
open Go Go.RowKit Go.Proofs.YtehhafnjbkbmjaaGreatW.PrintWords Go.Proofs.YtehhafnjbkbmjaaGreatW.PrintLast Go.Proofs.YtehhafnjbkbmjaaGreatW.PrintMore Go.Proofs.YtehhafnjbkbmjaaGreat.PCommitlogSequence
abbrev kE : Kd Ent := k109
abbrev kO : Kd Opn := k124
abbrev kF : Kd Fil := k107
/-- A row that is read, wherever it lies; ok: in which blocks. -/
structure Rd {α : Type} (d : Kd α) (w : World) (ok : Nat → Prop) (A : Option Addr) (c : Nat) (xs : List α) : Prop where
  le : xs.length ≤ c
  f : Kd.F d w ok A xs.length xs
section
variable {α : Type} {d : Kd α} {w w' : World} {ok ok' : Nat → Prop} {A : Option Addr} {c : Nat} {xs : List α}
theorem Rd.now (h : Rd d w ok A c xs) : Kd.C d w A xs.length xs := Kd.F_now h.f
theorem Rd.mono (h : Rd d w ok A c xs) (hok : ∀ k, ok k → k < w.heap.size → ok' k) : Rd d w ok' A c xs := ⟨h.le, Kd.F_mono (Kd.F_bound h.f) (fun k hk => hok k hk.1 hk.2)⟩
theorem Rd.below (h : Rd d w ok A c xs) (hb : Below w.heap.size w w') : Rd d w' ok A c xs := ⟨h.le, Kd.F_below h.f hb⟩
theorem Rd.move (h : Rd d w ok A c xs) (hm : ∀ k, ok k → k < w.heap.size → w'.heap[k]? = w.heap[k]?) : Rd d w' ok A c xs := ⟨h.le, Kd.F_step h.f hm⟩
theorem Rd.nil (d : Kd α) (w : World) (ok : Nat → Prop) : Rd d w ok none 0 [] := ⟨Nat.le_refl _, Kd.F_nil d w ok⟩
end
theorem Rd.ofR {α : Type} {d : Kd α} {w : World} {e base : Nat} {ok : Nat → Prop} {v : Value} {xs : List α} (h : d.R e w base ok v xs) : ∃ A c, v = .slice A xs.length c ∧ Rd d w (fun k => base ≤ k ∧ k < w.heap.size) A c xs := by
  obtain ⟨A, c, e1, hl, hF⟩ := Kd.R_V (base' := base) (Kd.R_mono (Kd.R_bound h) (ok' := fun k => base ≤ k ∧ k < w.heap.size) (fun k hk => ⟨hk.2.1, hk.2.2.1⟩))
  exact ⟨A, c, e1, hl, hF⟩
theorem Rd.ofN {α : Type} {d : Kd α} {w : World} {e base : Nat} {ok : Nat → Prop} {v : Value} {xs : List α} (h : Kd.N d e w base ok v xs) : ∃ A c, v = .slice A xs.length c ∧ Rd d w (fun k => ok k ∧ k < w.heap.size) A c xs := by
  obtain ⟨A, c, e1, hl, hF⟩ := Kd.N_V (base' := base) (Kd.N_bound h)
  exact ⟨A, c, e1, hl, hF⟩

theorem find_none_calls (w : World) (ok : Nat → Prop) (A : Option Addr) (c : Nat) (l : List Ent) (n : ByteArray) (h : Rd kE w ok A c l) (hl : l.length ≤ 1099511627776) (hn : pLook l n = none) :
    Calls Tryz.prog 53 #[.slice A l.length c, .string n] w fun e w' => e = .returned (.int .i64 (-1)) ∧ Drawn0 w w' :=
  laminaref20_find.calls (l.length + 1) A c l n (-1) w h.now h.le (find_none l n _ (by omega) (by omega) hn)
theorem find_some_calls (w : World) (ok : Nat → Prop) (A : Option Addr) (c : Nat) (l : List Ent) (n : ByteArray) (x : Int) (h : Rd kE w ok A c l) (hl : l.length ≤ 1099511627776) (hn : pLook l n = some x) :
    ∃ t : Nat, t < l.length ∧ (rd_T109 l t).f1 = x ∧ Calls Tryz.prog 53 #[.slice A l.length c, .string n] w fun e w' => e = .returned (.int .i64 t) ∧ Drawn0 w w' := by
  obtain ⟨t, h1, h2, h3⟩ := find_some l n (l.length + 1) (by omega) (by omega) hn
  exact ⟨t, h2, h3, laminaref20_find.calls (l.length + 1) A c l n t w h.now h.le h1⟩
theorem without_calls (w : World) (ok : Nat → Prop) (A : Option Addr) (c : Nat) (l : List Ent) (n : ByteArray) (h : Rd kE w ok A c l) (hl : l.length ≤ 1099511627776) :
    Calls Tryz.prog 117 #[.slice A l.length c, .string n] w fun e w' => ∃ A' c', e = .returned (.slice A' (pWithout l n).length c') ∧ Rd kE w' (fun k => w.heap.size ≤ k ∧ k < w'.heap.size) A' c' (pWithout l n) ∧ Below w.heap.size w w' := by
  refine (laminaref20_without.calls (l.length + 1) A c l n (pWithout l n) w h.now h.le (without_f l n _ (by omega) (by omega))).mono fun e w' hq => ?_
  obtain ⟨v, q1, q2, q3⟩ := hq
  obtain ⟨A', c', rfl, q4⟩ := Rd.ofR q2
  exact ⟨A', c', q1, q4, q3⟩
theorem with_calls (w : World) (ok : Nat → Prop) (A : Option Addr) (c : Nat) (l : List Ent) (n : ByteArray) (x : Int) (h : Rd kE w ok A c l) (hl : l.length ≤ 1099511627776) :
    Calls Tryz.prog 116 #[.slice A l.length c, .string n, .int .i64 x] w fun e w' => ∃ A' c', e = .returned (.slice A' (pWith l n x).length c') ∧ Rd kE w' (fun k => w.heap.size ≤ k ∧ k < w'.heap.size) A' c' (pWith l n x) ∧ Below w.heap.size w w' := by
  refine (laminaref20_with.calls (l.length + 1) A c l n x (pWith l n x) w h.now h.le (with_f l n x _ (by omega) (by omega))).mono fun e w' hq => ?_
  obtain ⟨v, q1, q2, q3⟩ := hq
  obtain ⟨A', c', rfl, q4⟩ := Rd.ofR q2
  exact ⟨A', c', q1, q4, q3⟩
theorem below_trans {a b c : World} (h : Below a.heap.size a b) (k : Below b.heap.size b c) : Below a.heap.size a c := h.trans (k.mono h.size)
theorem drawn_below {a b : World} (h : Drawn0 a b) : Below a.heap.size a b := by
  obtain ⟨m, rfl⟩ := h.out
  exact pw_below_drewN (Below.refl _ _) m
theorem drew_below {a b : World} (h : Below a.drew.heap.size a.drew b) : Below a.heap.size a b := ⟨h.os, h.tape, h.output, h.size, h.block⟩
theorem ent_cell {w : World} {A : Option Addr} {l : List Ent} (h : Kd.C kE w A l.length l) (t : Nat) (ht : t < l.length) : ∃ ad, A = some ad ∧ w.cell? (ad.add (t * 2)) = some (.string (rd_T109 l t).f0) ∧ w.cell? ⟨(ad.add (t * 2)).block, (ad.add (t * 2)).off + 1, none⟩ = some (.int .i64 (rd_T109 l t).f1) := by
  obtain ⟨ad, h1, h2, h3⟩ := at_T109 h (t : Int) (by omega) (by omega)
  exact ⟨ad, h1, h2, h3⟩

/-- What apply gives: a directory, read in old blocks of ok or in new ones. -/
def Dired (w : World) (ok : Nat → Prop) (l : List Ent) (e : Ending) (w' : World) : Prop := ∃ A c, e = .returned (.slice A l.length c) ∧ Rd kE w' (fun k => ok k ∨ w.heap.size ≤ k) A c l ∧ Below w.heap.size w w'

set_option maxHeartbeats 4000000 in
theorem refApply_calls (w : World) (ok : Nat → Prop) (A : Option Addr) (c : Nat) (l : List Ent) (o : Opn) (h : Rd kE w ok A c l) (hl : l.length ≤ 549755813888) (ho : o.f0 = 1 ∨ o.f0 = 2 ∨ o.f0 = 3) :
    Calls Tryz.prog 82 #[.slice A l.length c, .agg #[.int .i64 o.f0, .string o.f1, .string o.f2, .int .i64 o.f3]] w (Dired w ok (pApply l o)) := by
  have H := Lib.hid h
  have HL := Lib.hid hl
  obtain ⟨f0, f1, f2, f3⟩ := o
  simp only at ho ⊢
  clear h hl
  rcases ho with rfl | rfl | rfl
  · have e : pApply l ⟨1, f1, f2, f3⟩ = pWith l f1 f3 := by simp [pApply]
    rw [e]
    clear e
    go_enter Tryz.func82, Tryz.ntmps82
    go_wp2_with (first | (go_at_call 116; refine (with_calls _ ok A c l f1 f3 (H.out.below (below_alloc (Below.refl _ _) _)) (by have := HL.out; omega)).mono ?_; rintro e w1 ⟨A', c', rfl, hr1, hb1⟩; have HR1 := Lib.hid hr1; have HB1 := Lib.hid hb1; clear hr1 hb1) | fail)
    go_ret
    exact ⟨_, _, rfl, HR1.out.mono (fun k hk _ => .inr (by have := hk.1; simp at this; omega)), below_trans (below_alloc (Below.refl _ _) _) HB1.out⟩
  · cases hp : pLook l f1 with
    | none =>
      have e : pApply l ⟨2, f1, f2, f3⟩ = l := by simp [pApply, hp]
      rw [e]
      have HP := Lib.hid hp
      clear e hp
      go_enter Tryz.func82, Tryz.ntmps82
      go_wp2_with (first | (go_at_call 53; refine (find_none_calls _ ok A c l f1 (H.out.below (below_alloc (Below.refl _ _) _)) (by have := HL.out; omega) HP.out).mono ?_; rintro e w1 ⟨rfl, hd1⟩; have HD1 := Lib.hid hd1; clear hd1) | fail)
      go_ret
      have hb := below_trans (below_alloc (Below.refl w.heap.size w) _) (drawn_below HD1.out)
      exact ⟨_, _, rfl, (H.out.below hb).mono (fun k hk _ => .inl hk), hb⟩
    | some x =>
      have e : pApply l ⟨2, f1, f2, f3⟩ = pWith (pWithout l f1) f2 x := by simp [pApply, hp]
      rw [e]
      obtain ⟨t, ht, hx, hcall⟩ := find_some_calls (w.alloc (.cells #[.int .i64 2, .string f1, .string f2, .int .i64 f3] 124)) ok A c l f1 x (H.out.below (below_alloc (Below.refl _ _) _)) (by have := HL.out; omega) hp
      have HCALL := Lib.hid hcall
      have HX := Lib.hid hx
      clear e hp hcall hx
      have ht5 : t < 549755813888 := by have := HL.out; omega
      go_enter Tryz.func82, Tryz.ntmps82
      go_wp2_with (first | (go_at_call 53; refine HCALL.out.mono ?_; rintro e w1 ⟨rfl, hd1⟩; have HD1 := Lib.hid hd1; clear hd1) | fail)
      have hB1 : w1.heap[w.heap.size]? = some (.cells #[.int .i64 2, .string f1, .string f2, .int .i64 f3] 124 (0, 0)) := by obtain ⟨m, hm⟩ := HD1.out.out; rw [hm]; exact heap_alloc_new w _
      have hb01 : Below w.heap.size w w1 := below_trans (below_alloc (Below.refl w.heap.size w) _) (drawn_below HD1.out)
      have HR1 := Lib.hid (H.out.below hb01)
      have HB1 := Lib.hid hb01
      obtain ⟨Bk, hBk⟩ : ∃ Bk, Bk = w.heap.size := ⟨_, rfl⟩
      rw [← hBk] at hB1 ⊢
      have HBK := Lib.hid hBk
      obtain ⟨ad, hA, q0, q1⟩ := ent_cell HR1.out.now t ht
      subst hA
      rw [HX.out] at q1
      have HBL := Lib.hid hB1
      have b1 := cell_blk hB1 1
      have b2 := cell_blk hB1 2
      simp at b1 b2
      clear hB1 hb01 hBk
      go_region_with (first | (go_at_call 117; refine (without_calls w1.drew ok _ c l f1 (HR1.out.move (fun _ _ _ => rfl)) (by have := HL.out; omega)).mono ?_; rintro e w2 ⟨A', c', rfl, hr2, hb2⟩; have HR2 := Lib.hid hr2; have HB2 := Lib.hid hb2; have b22 : w2.cell? ⟨Bk, 2, none⟩ = _ := (hb2.cell (p := ⟨Bk, 2, none⟩) (lt_blk HBL.out)).trans b2; have q12 : w2.cell? ⟨(ad.add (t * 2)).block, (ad.add (t * 2)).off + 1, none⟩ = _ := (hb2.cell (p := ⟨(ad.add (t * 2)).block, (ad.add (t * 2)).off + 1, none⟩) (World.block_lt_of_cell? w1 _ q1)).trans q1; clear hr2 hb2) | (go_at_call 116; refine (with_calls _ _ _ c' (pWithout l f1) f2 x HR2.out (by have := pWithout_length l f1; have := HL.out; omega)).mono ?_; rintro e w3 ⟨A3, c3, rfl, hr3, hb3⟩; have HR3 := Lib.hid hr3; have HB3 := Lib.hid hb3; clear hr3 hb3))
      all_goals
        go_wp2
        go_ret
        have hb := below_trans HB1.out (below_trans (drew_below HB2.out) HB3.out)
        exact ⟨_, _, rfl, HR3.out.mono (fun k hk _ => .inr (by have h1 := hk.1; have h2 := (drew_below HB2.out).size; have h3 := HB1.out.size; omega)), hb⟩
  · have e : pApply l ⟨3, f1, f2, f3⟩ = pWithout l f1 := by simp [pApply]
    rw [e]
    clear e
    go_enter Tryz.func82, Tryz.ntmps82
    go_wp2_with (first | (go_at_call 117; refine (without_calls _ ok A c l f1 (H.out.below (below_alloc (Below.refl _ _) _)) (by have := HL.out; omega)).mono ?_; rintro e w1 ⟨A', c', rfl, hr1, hb1⟩; have HR1 := Lib.hid hr1; have HB1 := Lib.hid hb1; clear hr1 hb1) | fail)
    go_ret
    exact ⟨_, _, rfl, HR1.out.mono (fun k hk _ => .inr (by have := hk.1; simp at this; omega)), below_trans (below_alloc (Below.refl _ _) _) HB1.out⟩
theorem Rd.ofOwn {w : World} {base : Nat} {A : Option Addr} {n c : Nat} {xs : List Int} (h : w.ownsRow base 5 1 (.slice A n c) xs.length (nums .u8 xs)) : Rd kB w (fun k => base ≤ k) A c xs := by
  have hn : n = xs.length ∧ n ≤ c := by
    rcases h.2 with ⟨h1, h2⟩ | ⟨g, cap, cur, h1, _, _, h2, _⟩
    · simp only [Value.slice.injEq] at h1
      exact ⟨by omega, by omega⟩
    · simp only [Value.slice.injEq] at h1
      exact ⟨h1.2.1, by omega⟩
  have hn1 := hn.1
  subst hn1
  exact ⟨hn.2, fun W' hW => C_of_reads (own_reads' (own_move h (fun k hk => hW k (h.lt k hk).1 (h.lt k hk).2)))⟩
end Go.Proofs.YtehhafnjbkbmjaaGreat.Disk

/- objstore: has. -/
namespace Go.Proofs.YtehhafnjbkbmjaaGreat.Disk
open Go Go.RowKit Go.Proofs.YtehhafnjbkbmjaaGreatW.PrintWords Go.Proofs.YtehhafnjbkbmjaaGreatW.PrintLast Go.Proofs.YtehhafnjbkbmjaaGreatW.PrintMore Go.Proofs.YtehhafnjbkbmjaaGreat.PCommitlogSequence
/-- Whether a file of that name is in the current directory. -/
def pHas (S : PS) (n : ByteArray) : Bool := (S.dir.map (·.f0)).any fun y => decide (y = n)
theorem contains_calls (w : World) (base : Nat) (v : Value) (zs : List ByteArray) (x : ByteArray) (h : w.ownsRow base 9 1 v zs.length (pw_strs zs)) (hl : zs.length ≤ 1099511627776) :
    Calls Tryz.prog 101 #[v, .string x] w fun e w' => e = .returned (.bool (zs.any fun y => decide (y = x))) ∧ w' = w := by
  have hlen := h.1
  rcases h.2 with ⟨h1, h2⟩ | ⟨g, cap, cur, h1, _⟩
  · have e : zs = [] := List.eq_nil_of_length_eq_zero h2
    subst h1
    subst e
    simpa using Tryz.slices_Contains_string_empty none 0 x w
  · subst h1
    have h3 := Tryz.slices_Contains_string g 0 zs.length cap zs x w (Nat.le_refl _) (by omega) (fun j hj => by
      have := h.cells (g := g) rfl j (.string (zs.getD j ByteArray.empty)) (by simp [pw_strs, List.getD, hj])
      rw [Addr.add_lit] at this
      exact this)
    rw [List.take_length] at h3
    have e : Lib.containsS zs x = zs.any fun y => decide (y = x) := by
      rw [Bool.eq_iff_iff, Lib.containsS_iff]
      simp
    rw [e] at h3
    exact h3
end Go.Proofs.YtehhafnjbkbmjaaGreat.Disk

/- objstore: object names. -/
namespace Go.Proofs.YtehhafnjbkbmjaaGreat.Disk
open Go Go.RowKit Go.Proofs.YtehhafnjbkbmjaaGreatW.PrintWords Go.Proofs.YtehhafnjbkbmjaaGreatW.PrintLast Go.Proofs.YtehhafnjbkbmjaaGreatW.PrintMore Go.Proofs.YtehhafnjbkbmjaaGreat.PCommitlogSequence
def sTmp : ByteArray := ⟨#[116, 109, 112, 45]⟩
end Go.Proofs.YtehhafnjbkbmjaaGreat.Disk

/- objstore: Exists. -/
namespace Go.Proofs.YtehhafnjbkbmjaaGreat.Disk
open Go Go.RowKit Go.Proofs.YtehhafnjbkbmjaaGreatW.PrintWords Go.Proofs.YtehhafnjbkbmjaaGreatW.PrintLast Go.Proofs.YtehhafnjbkbmjaaGreatW.PrintMore Go.Proofs.YtehhafnjbkbmjaaGreat.PCommitlogSequence
end Go.Proofs.YtehhafnjbkbmjaaGreat.Disk

/- objstore: the steps of Put, each a closure. -/
namespace Go.Proofs.YtehhafnjbkbmjaaGreat.Disk
open Go Go.RowKit Go.Proofs.YtehhafnjbkbmjaaGreatW.PrintWords Go.Proofs.YtehhafnjbkbmjaaGreatW.PrintLast Go.Proofs.YtehhafnjbkbmjaaGreatW.PrintMore Go.Proofs.YtehhafnjbkbmjaaGreat.PCommitlogSequence
/-- A file of that name, if there is one, is removed. -/
def pClear (S : PS) (t : ByteArray) : PS × Int := if pHas S t then pRemove S t else (S, 0)
theorem fr_below {w w' : World} (h : Fr (fun _ => False) w w') : Below w.heap.size w w' := h.toBelow (Nat.le_refl _) (fun _ hk => hk.elim)
theorem cell_below {w w' : World} {a : Addr} {x : Value} (hb : Below w.heap.size w w') (h : w.cell? a = some x) : w'.cell? a = some x := (hb.cell (World.block_lt_of_cell? w _ h)).trans h
section
variable (w : World) (F : Nat → Prop) (d : Nat) (L : Lay) (S : PS) (B : Nat) (b0 b1 b2 : Nat) (t n : ByteArray)
end
end Go.Proofs.YtehhafnjbkbmjaaGreat.Disk

/- objstore: the step of Put that writes. -/
namespace Go.Proofs.YtehhafnjbkbmjaaGreat.Disk
open Go Go.RowKit Go.Proofs.YtehhafnjbkbmjaaGreatW.PrintWords Go.Proofs.YtehhafnjbkbmjaaGreatW.PrintLast Go.Proofs.YtehhafnjbkbmjaaGreatW.PrintMore Go.Proofs.YtehhafnjbkbmjaaGreat.PCommitlogSequence
theorem cell_after {w w' : World} {F : Nat → Prop} {d : Nat} {S : PS} {b : Nat} {x : Value} (h : After w F d S w') (hb : ¬ F b) (hc : w.cell? ⟨b, 0, none⟩ = some x) : w'.cell? ⟨b, 0, none⟩ = some x := by
  obtain ⟨_, _, _, h2⟩ := h
  exact (World.cell?_of_block (h2.fr.block b (World.block_lt_of_cell? w ⟨b, 0, none⟩ hc) hb)).trans hc
end Go.Proofs.YtehhafnjbkbmjaaGreat.Disk

/- The plain states: what every operation keeps. -/
namespace Go.Proofs.YtehhafnjbkbmjaaGreat.Disk
open Go Go.RowKit Go.Proofs.YtehhafnjbkbmjaaGreatW.PrintWords Go.Proofs.YtehhafnjbkbmjaaGreatW.PrintLast Go.Proofs.YtehhafnjbkbmjaaGreatW.PrintMore Go.Proofs.YtehhafnjbkbmjaaGreat.PCommitlogSequence

def OpName (o : Opn) : Prop := (o.f0 = 1 → okName o.f1 = true) ∧ (o.f0 = 2 → okName o.f2 = true)
/-- Good, with what a crash needs. -/
structure Sound (S : PS) (B : Nat) : Prop where
  good : Good S B
  dp : S.dur.length + S.pend.length ≤ B
  opN : ∀ o ∈ S.pend, OpName o
theorem Good.mono {S : PS} {B B' : Nat} (h : Good S B) (hB : B ≤ B') : Good S B' :=
  { h with
    nFiles := Nat.le_trans h.nFiles hB
    nDir := Nat.le_trans h.nDir hB
    nDur := Nat.le_trans h.nDur hB
    nPend := Nat.le_trans h.nPend hB
    nBytes := fun f hf => Nat.le_trans (h.nBytes f hf) hB }
theorem Sound.mono {S : PS} {B B' : Nat} (h : Sound S B) (hB : B ≤ B') : Sound S B' := ⟨h.good.mono hB, Nat.le_trans h.dp hB, h.opN⟩
theorem Good.done {S : PS} {B : Nat} (h : Good S B) (h0 : S.lim = true → 0 < S.left) : Good (pDone S) B :=
  { nFiles := h.nFiles
    nDir := h.nDir
    nDur := h.nDur
    nPend := h.nPend
    left := fun hl => by
      have hl' : S.lim = true := hl
      have h1 := h.left hl'
      have h2 := h0 hl'
      have e : (pDone S).left = S.left - 1 := by simp [pDone, doneLeft, hl']
      rw [e]
      omega
    range := h.range
    nBytes := h.nBytes
    dur := h.dur
    bytes := h.bytes
    nameD := h.nameD
    nameU := h.nameU
    ops := h.ops }
theorem Sound.done {S : PS} {B : Nat} (h : Sound S B) (h0 : S.lim = true → 0 < S.left) : Sound (pDone S) B := ⟨h.good.done h0, h.dp, h.opN⟩
theorem pApply_names {l : List Ent} {o : Opn} (hl : ∀ e ∈ l, okName e.f0 = true) (ho : OpName o) : ∀ e ∈ pApply l o, okName e.f0 = true := by
  intro e he
  unfold pApply at he
  split at he
  · rcases mem_pWith he with rfl | h
    · exact ho.1 ‹_›
    · exact hl e h
  · split at he
    · split at he
      · rcases mem_pWith he with rfl | h
        · exact ho.2 ‹_›
        · exact hl e (List.mem_filter.1 h).1
      · exact hl e he
    · exact hl e (List.mem_filter.1 he).1
theorem live_dir {S : PS} {o : Opn} {i : Int} (h : Live (pDir S o) i) : Live S i ∨ (o.f0 = 1 ∧ i = o.f3) := live_pDir (S := S) (o := o) h
theorem Sound.dir {S : PS} {B : Nat} {o : Opn} (h : Sound S B) (ho : OpnOk o) (hn : OpName o) (hr : o.f0 = 1 → 0 ≤ o.f3 ∧ o.f3 < S.files.length) : Sound (pDir S o) (B + 1) where
  good :=
    { nFiles := Nat.le_succ_of_le h.good.nFiles
      nDir := by have := pApply_length S.dir o; have := h.good.nDir; show (pApply S.dir o).length ≤ B + 1; omega
      nDur := Nat.le_succ_of_le h.good.nDur
      nPend := by have := h.good.nPend; show (S.pend ++ [o]).length ≤ B + 1; rw [List.length_append, List.length_singleton]; omega
      left := h.good.left
      range := fun i hi => by
        rcases live_dir hi with h1 | ⟨h1, rfl⟩
        · exact h.good.range i h1
        · exact hr h1
      nBytes := fun f hf => Nat.le_succ_of_le (h.good.nBytes f hf)
      dur := h.good.dur
      bytes := h.good.bytes
      nameD := pApply_names h.good.nameD hn
      nameU := h.good.nameU
      ops := fun p hp => by
        rcases List.mem_append.1 hp with hp | hp
        · exact h.good.ops p hp
        · rw [List.mem_singleton.1 hp]
          exact ho }
  dp := by have := h.dp; show S.dur.length + (S.pend ++ [o]).length ≤ B + 1; rw [List.length_append, List.length_singleton]; omega
  opN := fun p hp => by
    rcases List.mem_append.1 hp with hp | hp
    · exact h.opN p hp
    · rw [List.mem_singleton.1 hp]
      exact hn
theorem Sound.file {S : PS} {B : Nat} (h : Sound S B) : Sound { S with files := S.files ++ [⟨[], 0⟩] } (B + 1) where
  good :=
    { nFiles := by have := h.good.nFiles; show (S.files ++ [_]).length ≤ B + 1; rw [List.length_append, List.length_singleton]; omega
      nDir := Nat.le_succ_of_le h.good.nDir
      nDur := Nat.le_succ_of_le h.good.nDur
      nPend := Nat.le_succ_of_le h.good.nPend
      left := h.good.left
      range := fun i hi => by
        have h1 := h.good.range i hi
        refine ⟨h1.1, ?_⟩
        show i < ((S.files ++ [_]).length : Nat)
        rw [List.length_append, List.length_singleton]
        omega
      nBytes := fun f hf => by
        rcases List.mem_append.1 hf with hf | hf
        · exact Nat.le_succ_of_le (h.good.nBytes f hf)
        · rw [List.mem_singleton.1 hf]
          simp
      dur := fun f hf => by
        rcases List.mem_append.1 hf with hf | hf
        · exact h.good.dur f hf
        · rw [List.mem_singleton.1 hf]
          simp
      bytes := fun f hf => by
        rcases List.mem_append.1 hf with hf | hf
        · exact h.good.bytes f hf
        · rw [List.mem_singleton.1 hf]
          intro x hx
          cases hx
      nameD := h.good.nameD
      nameU := h.good.nameU
      ops := h.good.ops }
  dp := Nat.le_succ_of_le h.dp
  opN := h.opN
theorem Sound.set {S : PS} {B n : Nat} {i : Int} {f : Fil} (h : Sound S B) (h1 : f.f0.length ≤ B + n) (h2 : 0 ≤ f.f1 ∧ f.f1 ≤ f.f0.length) (h3 : ∀ x ∈ f.f0, 0 ≤ x ∧ x ≤ 255) : Sound (pSet S i f) (B + n) where
  good :=
    { nFiles := by have := h.good.nFiles; show (S.files.set _ _).length ≤ B + n; rw [List.length_set]; omega
      nDir := Nat.le_add_right_of_le h.good.nDir
      nDur := Nat.le_add_right_of_le h.good.nDur
      nPend := Nat.le_add_right_of_le h.good.nPend
      left := h.good.left
      range := fun i hi => by
        have h1 := h.good.range i hi
        refine ⟨h1.1, ?_⟩
        show i < ((S.files.set _ _).length : Nat)
        rw [List.length_set]
        omega
      nBytes := fun g hg => by
        rcases List.mem_or_eq_of_mem_set hg with hg | rfl
        · exact Nat.le_add_right_of_le (h.good.nBytes g hg)
        · exact h1
      dur := fun g hg => by
        rcases List.mem_or_eq_of_mem_set hg with hg | rfl
        · exact h.good.dur g hg
        · exact h2
      bytes := fun g hg => by
        rcases List.mem_or_eq_of_mem_set hg with hg | rfl
        · exact h.good.bytes g hg
        · exact h3
      nameD := h.good.nameD
      nameU := h.good.nameU
      ops := h.good.ops }
  dp := Nat.le_add_right_of_le h.dp
  opN := h.opN
theorem opn_ok {k i : Int} {m n : ByteArray} (hk : k = 1 ∨ k = 2 ∨ k = 3) (hm : m.size ≤ 64) (hn : n.size ≤ 64) : OpnOk ⟨k, m, n, i⟩ := ⟨hk, hm, hn⟩
theorem size_nil : (⟨#[]⟩ : ByteArray).size ≤ 64 := by decide
theorem Sound.create {S : PS} {B : Nat} {n : ByteArray} (h : Sound S B) : Sound (pCreate S n).1 (B + 100) := by
  unfold pCreate
  split
  · rename_i hc
    obtain ⟨h0, hn⟩ := pCheck_zero hc
    have hn' := hn n (by simp)
    split
    · exact h.mono (by omega)
    · refine Sound.mono (B := B + 1 + 1) (Sound.done (Sound.dir h.file (opn_ok (.inl rfl) (okName_size hn') size_nil) ⟨fun _ => hn', fun e => ?_⟩ (fun _ => ?_)) h0) (by omega)
      · exact absurd (show (1 : Int) = 2 from e) (by decide)
      · exact ⟨by simp, by simp; omega⟩
  · exact h.mono (by omega)
theorem Sound.remove {S : PS} {B : Nat} {n : ByteArray} (h : Sound S B) : Sound (pRemove S n).1 (B + 100) := by
  unfold pRemove
  split
  · rename_i hc
    obtain ⟨h0, hn⟩ := pCheck_zero hc
    have hn' := hn n (by simp)
    split
    · refine Sound.mono (B := B + 1) (Sound.done (Sound.dir h (opn_ok (.inr (.inr rfl)) (okName_size hn') size_nil) ⟨fun e => ?_, fun e => ?_⟩ (fun e => ?_)) h0) (by omega)
      · exact absurd (show (3 : Int) = 1 from e) (by decide)
      · exact absurd (show (3 : Int) = 2 from e) (by decide)
      · exact absurd (show (3 : Int) = 1 from e) (by decide)
    · exact h.mono (by omega)
  · exact h.mono (by omega)
theorem Sound.rename {S : PS} {B : Nat} {m n : ByteArray} (h : Sound S B) : Sound (pRename S m n).1 (B + 100) := by
  unfold pRename
  split
  · rename_i hc
    obtain ⟨h0, hn⟩ := pCheck_zero hc
    have hm' := hn m (by simp)
    have hn' := hn n (by simp)
    split
    · split
      · exact (h.done h0).mono (by omega)
      · refine Sound.mono (B := B + 1) (Sound.done (Sound.dir h (opn_ok (.inr (.inl rfl)) (okName_size hm') (okName_size hn')) ⟨fun e => ?_, fun _ => hn'⟩ (fun e => ?_)) h0) (by omega)
        · exact absurd (show (2 : Int) = 1 from e) (by decide)
        · exact absurd (show (2 : Int) = 1 from e) (by decide)
    · exact h.mono (by omega)
  · exact h.mono (by omega)
theorem Sound.sync {S : PS} {B : Nat} {n : ByteArray} (h : Sound S B) : Sound (pSync S n).1 (B + 100) := by
  unfold pSync
  split
  · rename_i hc
    obtain ⟨h0, _⟩ := pCheck_zero hc
    split
    · rename_i i hi
      have hm := fileAt_mem (h.good.range i (live_look hi))
      refine Sound.done (h.set (n := 100) ?_ ⟨by simp, by simp⟩ (fun x hx => h.good.bytes _ hm x hx)) h0
      have := h.good.nBytes _ hm
      simp only
      omega
    · exact h.mono (by omega)
  · exact h.mono (by omega)
theorem Sound.synced {S : PS} {B : Nat} (h : Sound S B) : Sound (pSynced S) B where
  good :=
    { h.good with
      nDur := h.good.nDir
      nPend := by simp [pSynced]
      range := fun i hi => h.good.range i (live_synced hi)
      nameU := h.good.nameD
      ops := fun o ho => by simp [pSynced] at ho }
  dp := by have := h.good.nDir; simp [pSynced]; omega
  opN := fun o ho => by simp [pSynced] at ho
theorem Sound.syncDir {S : PS} {B : Nat} (h : Sound S B) : Sound (pSyncDir S).1 (B + 100) := by
  unfold pSyncDir
  split
  · rename_i hc
    exact (h.synced.done (pCheck_zero hc).1).mono (by omega)
  · exact h.mono (by omega)
theorem Sound.fail {S : PS} {B : Nat} {n : Int} (h : Sound S B) (hn : n ≤ 9223372036854775807) : Sound (pFail S n) (B + 100) := by
  refine Sound.mono (B := B) ⟨?_, h.dp, h.opN⟩ (by omega)
  exact
    { h.good with
      left := fun hl => by
        simp only [pFail]
        split <;> omega
      range := h.good.range }
theorem names_at (S : PS) (hu : ∀ e ∈ S.dur, okName e.f0 = true) (hp : ∀ o ∈ S.pend, OpName o) : ∀ (k : Nat) (e : Ent), e ∈ dirAt S k → okName e.f0 = true := by
  intro k
  induction k with
  | zero => intro e he; exact hu e (by simpa [dirAt] using he)
  | succ k ih =>
    intro e he
    by_cases hk : k < S.pend.length
    · rw [dirAt_succ S k hk] at he
      exact pApply_names ih (hp _ (List.getElem_mem hk)) e he
    · have : dirAt S (k + 1) = dirAt S k := by
        unfold dirAt
        rw [List.take_of_length_le (by omega), List.take_of_length_le (by omega)]
      rw [this] at he
      exact ih e he
theorem crashDir_length (S : PS) (n : Int) : (pCrashDir S n).length ≤ S.dur.length + S.pend.length := by
  have h1 : pCrashDir S n = dirAt S n.toNat := rfl
  rw [h1]
  by_cases h : n.toNat ≤ S.pend.length
  · have := dirAt_length S n.toNat; omega
  · have e : dirAt S n.toNat = dirAt S S.pend.length := by unfold dirAt; rw [List.take_of_length_le (by omega), List.take_of_length_le (Nat.le_refl _)]
    rw [e]
    exact dirAt_length S _
theorem pLeft_le (f : Fil) (c : Cf) : (pLeft f c).length ≤ f.f0.length := by
  unfold pLeft
  split <;> simp only [List.length_set, List.length_take] <;> omega
theorem bits_u8 (x : Int) : 0 ≤ Go.bits .xor .u8 x 255 ∧ Go.bits .xor .u8 x 255 ≤ 255 := by
  have h := wf_bits .xor .u8 x 255
  exact bounds_u8 h
theorem pLeft_bytes {f : Fil} {c : Cf} (h : ∀ x ∈ f.f0, 0 ≤ x ∧ x ≤ 255) : ∀ x ∈ pLeft f c, 0 ≤ x ∧ x ≤ 255 := by
  intro x hx
  unfold pLeft at hx
  split at hx
  · rcases List.mem_or_eq_of_mem_set hx with hx | rfl
    · exact h x (List.mem_of_mem_take hx)
    · exact bits_u8 _
  · exact h x (List.mem_of_mem_take hx)
theorem newFiles_mem {S : PS} {l : List Ent} {cs : List Cf} {f : Fil} (h : f ∈ newFiles S l cs) : ∃ e ∈ l, ∃ c, f = ⟨pLeft (fileAt S e.f1) c, (pLeft (fileAt S e.f1) c).length⟩ := by
  unfold newFiles at h
  obtain ⟨⟨e, j⟩, hx, rfl⟩ := List.mem_map.1 h
  have hx1 := List.mem_zipIdx hx
  exact ⟨e, by rw [hx1.2.2]; exact List.getElem_mem _, _, rfl⟩
theorem Sound.crash {S : PS} {B : Nat} {n : Int} {cs : List Cf} (h : Sound S B) : Sound (pCrash S n cs) B where
  good :=
    { nFiles := by have := crashDir_length S n; have := h.dp; show (newFiles _ _ _).length ≤ B; rw [newFiles_length]; omega
      nDir := by have := crashDir_length S n; have := h.dp; show (newDir _ _).length ≤ B; rw [newDir_length _ _ (Nat.le_refl _)]; omega
      nDur := by have := crashDir_length S n; have := h.dp; show (newDir _ _).length ≤ B; rw [newDir_length _ _ (Nat.le_refl _)]; omega
      nPend := by simp [pCrash]
      left := fun e => by cases e
      range := fun i hi => by
        obtain ⟨j, hj, rfl⟩ := live_crash hi
        refine ⟨by omega, ?_⟩
        show (j : Int) < ((newFiles _ _ _).length : Nat)
        rw [newFiles_length]
        omega
      nBytes := fun f hf => by
        obtain ⟨e, he, c, rfl⟩ := newFiles_mem hf
        have h1 := dirAt_live S n.toNat e he
        have h2 := h.good.nBytes _ (fileAt_mem (h.good.range _ h1))
        have h3 := pLeft_le (fileAt S e.f1) c
        simp only
        omega
      dur := fun f hf => by
        obtain ⟨e, he, c, rfl⟩ := newFiles_mem hf
        simp
      bytes := fun f hf => by
        obtain ⟨e, he, c, rfl⟩ := newFiles_mem hf
        exact pLeft_bytes (h.good.bytes _ (fileAt_mem (h.good.range _ (dirAt_live S n.toNat e he))))
      nameD := fun e he => by
        obtain ⟨j, _, _, _, hj, h2⟩ := newDir_mem he
        rw [h2]
        exact names_at S h.good.nameU h.opN n.toNat _ (List.getElem_mem hj)
      nameU := fun e he => by
        obtain ⟨j, _, _, _, hj, h2⟩ := newDir_mem he
        rw [h2]
        exact names_at S h.good.nameU h.opN n.toNat _ (List.getElem_mem hj)
      ops := fun o ho => by simp [pCrash] at ho }
  dp := by
    have := crashDir_length S n
    have := h.dp
    show (newDir _ _).length + ([] : List Opn).length ≤ B
    rw [newDir_length _ _ (Nat.le_refl _)]
    simp
    omega
  opN := fun o ho => by simp [pCrash] at ho
theorem Sound.new : Sound pNew 0 where
  good :=
    { nFiles := by decide
      nDir := by decide
      nDur := by decide
      nPend := by decide
      left := fun e => by cases e
      range := fun i hi => by rcases hi with ⟨e, he, _⟩ | ⟨e, he, _⟩ | ⟨e, he, _⟩ <;> simp [pNew] at he
      nBytes := fun f hf => by simp [pNew] at hf
      dur := fun f hf => by simp [pNew] at hf
      bytes := fun f hf => by simp [pNew] at hf
      nameD := fun f hf => by simp [pNew] at hf
      nameU := fun f hf => by simp [pNew] at hf
      ops := fun f hf => by simp [pNew] at hf }
  dp := by decide
  opN := fun f hf => by simp [pNew] at hf
end Go.Proofs.YtehhafnjbkbmjaaGreat.Disk

/- objstore: run over the six steps of Put. -/
namespace Go.Proofs.YtehhafnjbkbmjaaGreat.Disk
open Go Go.RowKit Go.Proofs.YtehhafnjbkbmjaaGreatW.PrintWords Go.Proofs.YtehhafnjbkbmjaaGreatW.PrintLast Go.Proofs.YtehhafnjbkbmjaaGreatW.PrintMore Go.Proofs.YtehhafnjbkbmjaaGreat.PCommitlogSequence
theorem Sound.append_any {S : PS} {B m : Nat} {n : ByteArray} {b : List Int} (h : Sound S B) (hb : b.length ≤ m) (hw : ∀ x ∈ b, 0 ≤ x ∧ x ≤ 255) : Sound (pAppend S n b).1 (B + m) := by
  unfold pAppend
  split
  · rename_i hc
    obtain ⟨h0, _⟩ := pCheck_zero hc
    split
    · rename_i i hi
      have hm := fileAt_mem (h.good.range i (live_look hi))
      have h1 := h.good.dur _ hm
      refine Sound.done (h.set (n := m) ?_ ⟨h1.1, ?_⟩ ?_) h0
      · have := h.good.nBytes _ hm
        simp only [List.length_append]
        omega
      · simp only [List.length_append]
        omega
      · intro x hx
        rcases List.mem_append.1 hx with hx | hx
        · exact h.good.bytes _ hm x hx
        · exact hw x hx
    · exact h.mono (by omega)
  · exact h.mono (by omega)
/-- Step j of the writing of file n by way of file t. -/
def stepF (t n : ByteArray) (bs : List Int) : Nat → PS → PS × Int
  | 0, S => pClear S t
  | 1, S => pCreate S t
  | 2, S => pAppend S t bs
  | 3, S => pSync S t
  | 4, S => pRename S t n
  | _, S => pSyncDir S
/-- The first j steps, as far as none fails. -/
def runTo (S : PS) (t n : ByteArray) (bs : List Int) : Nat → PS × Int
  | 0 => (S, 0)
  | j + 1 => if (runTo S t n bs j).2 = 0 then stepF t n bs j (runTo S t n bs j).1 else runTo S t n bs j
def pReplace (S : PS) (t n : ByteArray) (bs : List Int) : PS × Int := runTo S t n bs 6
theorem runTo_go {S : PS} {t n : ByteArray} {bs : List Int} {j : Nat} (h : (runTo S t n bs j).2 = 0) : runTo S t n bs (j + 1) = stepF t n bs j (runTo S t n bs j).1 := by
  show (if _ then _ else _) = _
  rw [if_pos h]
theorem runTo_stop {S : PS} {t n : ByteArray} {bs : List Int} {j : Nat} (h : (runTo S t n bs j).2 ≠ 0) : ∀ m, runTo S t n bs (j + m) = runTo S t n bs j
  | 0 => rfl
  | m + 1 => by
    have ih := runTo_stop h m
    show (if (runTo S t n bs (j + m)).2 = 0 then _ else runTo S t n bs (j + m)) = _
    rw [ih, if_neg h]
theorem Sound.stepF {S : PS} {B m : Nat} {t n : ByteArray} {bs : List Int} (h : Sound S B) (hm : 100 ≤ m) (hb : bs.length ≤ m) (hw : ∀ x ∈ bs, 0 ≤ x ∧ x ≤ 255) (j : Nat) : Sound (stepF t n bs j S).1 (B + m) := by
  unfold Disk.stepF
  split
  · unfold pClear
    split
    · exact h.remove.mono (by omega)
    · exact h.mono (by omega)
  · exact h.create.mono (by omega)
  · exact h.append_any hb hw
  · exact h.sync.mono (by omega)
  · exact h.rename.mono (by omega)
  · exact h.syncDir.mono (by omega)
theorem Sound.runTo {S : PS} {B m : Nat} {t n : ByteArray} {bs : List Int} (h : Sound S B) (hm : 100 ≤ m) (hb : bs.length ≤ m) (hw : ∀ x ∈ bs, 0 ≤ x ∧ x ≤ 255) : ∀ j, Sound (runTo S t n bs j).1 (B + m * j)
  | 0 => h
  | j + 1 => by
    have ih := Sound.runTo (t := t) (n := n) h hm hb hw j
    have e : B + m * (j + 1) = B + m * j + m := by rw [Nat.mul_add]; omega
    rw [e]
    show Sound (if _ then _ else _ : PS × Int).1 _
    split
    · exact ih.stepF hm hb hw j
    · exact ih.mono (by omega)
/-- What the closures hold on to. -/
structure Env (w : World) (F : Nat → Prop) (d b0 b1 b2 b3 : Nat) (t n : ByteArray) (A : Option Addr) (c : Nat) (l : List Int) : Prop where
  q0 : w.cell? ⟨b0, 0, none⟩ = some (.pointer (some ⟨d, 0, none⟩))
  q1 : w.cell? ⟨b1, 0, none⟩ = some (.string t)
  q2 : w.cell? ⟨b2, 0, none⟩ = some (.slice A l.length c)
  q3 : w.cell? ⟨b3, 0, none⟩ = some (.string n)
  row : Rd kB w (fun k => ¬ F k) A c l
  n0 : ¬ F b0
  n1 : ¬ F b1
  n2 : ¬ F b2
  n3 : ¬ F b3
theorem Env.chg {w w' : World} {F F' : Nat → Prop} {d b0 b1 b2 b3 : Nat} {t n : ByteArray} {A : Option Addr} {c : Nat} {l : List Int} (h : Env w F d b0 b1 b2 b3 t n A c l) (hc : Chg w F w' F') : Env w' F' d b0 b1 b2 b3 t n A c l := by
  have keep := fun {b : Nat} {x : Value} (hb : ¬ F b) (hq : w.cell? ⟨b, 0, none⟩ = some x) => (World.cell?_of_block (hc.fr.block b (World.block_lt_of_cell? w ⟨b, 0, none⟩ hq) hb)).trans hq
  have out : ∀ {b : Nat} {x : Value}, ¬ F b → w.cell? ⟨b, 0, none⟩ = some x → ¬ F' b := fun {b x} hb hq e => by
    rcases hc.new b e with h1 | h1
    · exact hb h1
    · have h2 := World.block_lt_of_cell? w ⟨b, 0, none⟩ hq
      simp only at h2
      omega
  exact ⟨keep h.n0 h.q0, keep h.n1 h.q1, keep h.n2 h.q2, keep h.n3 h.q3, (h.row.mono (ok' := fun k => ¬ F k ∧ k < w.heap.size) (fun k h1 h2 => ⟨h1, h2⟩)).move (fun k hk hlt => hc.fr.block k hlt hk.1) |>.mono (fun k hk _ e => by
    rcases hc.new k e with h1 | h1
    · exact hk.1 h1
    · have := hk.2; omega), out h.n0 h.q0, out h.n1 h.q1, out h.n2 h.q2, out h.n3 h.q3⟩
end Go.Proofs.YtehhafnjbkbmjaaGreat.Disk

/- objstore: run over the six steps of Put: the walk. -/
namespace Go.Proofs.YtehhafnjbkbmjaaGreat.Disk
open Go Go.RowKit Go.Proofs.YtehhafnjbkbmjaaGreatW.PrintWords Go.Proofs.YtehhafnjbkbmjaaGreatW.PrintLast Go.Proofs.YtehhafnjbkbmjaaGreatW.PrintMore Go.Proofs.YtehhafnjbkbmjaaGreat.PCommitlogSequence
theorem run_stop {w w3 wx : World} {F F' : Nat → Prop} {d j : Nat} {S : PS} {t n : ByteArray} {bs : List Int} (hj : j < 6) (hc : Chg w F wx F') (ha : After wx F' d (runTo S t n bs (j + 1)).1 w3) (h1 : (runTo S t n bs (j + 1)).2 ≠ 0) : runTo S t n bs (j + 1) = pReplace S t n bs ∧ After w F d (pReplace S t n bs).1 w3 := by
  have e : runTo S t n bs (j + 1) = pReplace S t n bs := by
    have := runTo_stop h1 (6 - (j + 1))
    rw [show j + 1 + (6 - (j + 1)) = 6 by omega] at this
    exact this.symm
  obtain ⟨F3, L3, hr, hc3⟩ := ha
  rw [← e]
  exact ⟨rfl, F3, L3, hr, hc.trans hc3⟩
theorem run_end {w w3 wx : World} {F F' : Nat → Prop} {d j : Nat} {S : PS} {t n : ByteArray} {bs : List Int} {r : PS × Int} {cd : Int} (hj : j < 6) (hc : Chg w F wx F') (hr : r = runTo S t n bs (j + 1)) (hcd : cd = r.2) (ha : After wx F' d r.1 w3) (h1 : (cd != 0) = true) :
    Ending.returned (.int .i64 cd) = .returned (.int .i64 (pReplace S t n bs).2) ∧ After w F d (pReplace S t n bs).1 w3 := by
  subst hr
  subst hcd
  obtain ⟨e, h⟩ := run_stop hj hc ha (by simpa using h1)
  rw [e] 
  exact ⟨rfl, h⟩
end Go.Proofs.YtehhafnjbkbmjaaGreat.Disk

/- objstore: Put. -/
namespace Go.Proofs.YtehhafnjbkbmjaaGreat.Disk
open Go Go.RowKit Go.Proofs.YtehhafnjbkbmjaaGreatW.PrintWords Go.Proofs.YtehhafnjbkbmjaaGreatW.PrintLast Go.Proofs.YtehhafnjbkbmjaaGreatW.PrintMore Go.Proofs.YtehhafnjbkbmjaaGreat.PCommitlogSequence
/-- The name of the file that an object is written to first. -/
def tmpOf (n : ByteArray) : ByteArray := sTmp ++ n
theorem cell_new {w : World} {x : Value} {t k : Nat} (hk : k = w.heap.size) : (w.alloc (.cells #[x] t)).cell? ⟨k, 0, none⟩ = some x := by
  subst hk
  exact cell_blk (heap_alloc_new w (.cells #[x] t)) 0
theorem boxes {w w1 : World} {x y z : Value} {tx ty tz : Nat} (hd : Drawn0 (((w.alloc (.cells #[x] tx)).alloc (.cells #[y] ty)).alloc (.cells #[z] tz)) w1) :
    w1.cell? ⟨w.heap.size, 0, none⟩ = some x ∧ w1.cell? ⟨w.heap.size + 1, 0, none⟩ = some y ∧ w1.cell? ⟨w.heap.size + 1 + 1, 0, none⟩ = some z :=
  ⟨(drawn_cell hd _).trans (cell_alloc (cell_alloc (cell_new rfl) _) _), (drawn_cell hd _).trans (cell_alloc (cell_new (by simp)) _), (drawn_cell hd _).trans (cell_new (by simp))⟩
end Go.Proofs.YtehhafnjbkbmjaaGreat.Disk

/- objstore: Get. -/
namespace Go.Proofs.YtehhafnjbkbmjaaGreat.Disk
open Go Go.RowKit Go.Proofs.YtehhafnjbkbmjaaGreatW.PrintWords Go.Proofs.YtehhafnjbkbmjaaGreatW.PrintLast Go.Proofs.YtehhafnjbkbmjaaGreatW.PrintMore Go.Proofs.YtehhafnjbkbmjaaGreat.PCommitlogSequence
theorem pRead_ok {S : PS} {B : Nat} (hg : Good S B) (n : ByteArray) : (pRead S n).1.length ≤ B ∧ ∀ x ∈ (pRead S n).1, 0 ≤ x ∧ x ≤ 255 := by
  unfold pRead
  split
  · split
    · rename_i i hi
      have hm := fileAt_mem (hg.range i (live_look hi))
      exact ⟨hg.nBytes _ hm, hg.bytes _ hm⟩
    · exact ⟨Nat.zero_le _, fun x hx => by simp at hx⟩
  · exact ⟨Nat.zero_le _, fun x hx => by simp at hx⟩
end Go.Proofs.YtehhafnjbkbmjaaGreat.Disk

/- objstore: the rows of names that List and RemoveTemporary make. -/
namespace Go.Proofs.YtehhafnjbkbmjaaGreat.Disk
open Go Go.RowKit Go.Proofs.YtehhafnjbkbmjaaGreatW.PrintWords Go.Proofs.YtehhafnjbkbmjaaGreatW.PrintLast Go.Proofs.YtehhafnjbkbmjaaGreatW.PrintMore Go.Proofs.YtehhafnjbkbmjaaGreat.PCommitlogSequence
end Go.Proofs.YtehhafnjbkbmjaaGreat.Disk

/- objstore: List. -/
namespace Go.Proofs.YtehhafnjbkbmjaaGreat.Disk
open Go Go.RowKit Go.Proofs.YtehhafnjbkbmjaaGreatW.PrintWords Go.Proofs.YtehhafnjbkbmjaaGreatW.PrintLast Go.Proofs.YtehhafnjbkbmjaaGreatW.PrintMore Go.Proofs.YtehhafnjbkbmjaaGreat.PCommitlogSequence
end Go.Proofs.YtehhafnjbkbmjaaGreat.Disk

/- objstore: remove, RemoveTemporary. -/
namespace Go.Proofs.YtehhafnjbkbmjaaGreat.Disk
open Go Go.RowKit Go.Proofs.YtehhafnjbkbmjaaGreatW.PrintWords Go.Proofs.YtehhafnjbkbmjaaGreatW.PrintLast Go.Proofs.YtehhafnjbkbmjaaGreatW.PrintMore Go.Proofs.YtehhafnjbkbmjaaGreat.PCommitlogSequence
theorem Rd.chg {α : Type} {dk : Kd α} {w w' : World} {F F' : Nat → Prop} {A : Option Addr} {c : Nat} {xs : List α} (h : Rd dk w (fun k => ¬ F k) A c xs) (hc : Chg w F w' F') : Rd dk w' (fun k => ¬ F' k) A c xs :=
  ((h.mono (ok' := fun k => ¬ F k ∧ k < w.heap.size) (fun k h1 h2 => ⟨h1, h2⟩)).move (fun k hk hlt => hc.fr.block k hlt hk.1)).mono (fun k hk _ e => by
    rcases hc.new k e with h1 | h1
    · exact hk.1 h1
    · have := hk.2; omega)
end Go.Proofs.YtehhafnjbkbmjaaGreat.Disk

/- objstore: RemoveTemporary, Delete. -/
namespace Go.Proofs.YtehhafnjbkbmjaaGreat.Disk
open Go Go.RowKit Go.Proofs.YtehhafnjbkbmjaaGreatW.PrintWords Go.Proofs.YtehhafnjbkbmjaaGreatW.PrintLast Go.Proofs.YtehhafnjbkbmjaaGreatW.PrintMore Go.Proofs.YtehhafnjbkbmjaaGreat.PCommitlogSequence
theorem Rd.ofC {α : Type} {dd : Kd α} (hd : Kd.Heap dd) {w : World} {A : Option Addr} {c : Nat} {xs : List α} (h : dd.C w A xs.length xs) (hc : xs.length ≤ c) : Rd dd w (fun k => k < w.heap.size) A c xs := ⟨hc, fun _ hW => hd.C (fun k hk => hW k hk hk) h⟩
end Go.Proofs.YtehhafnjbkbmjaaGreat.Disk

/- objstore: lives, the chapter's examples. -/
namespace Go.Proofs.YtehhafnjbkbmjaaGreat.Disk
open Go Go.RowKit Go.Proofs.YtehhafnjbkbmjaaGreatW.PrintWords Go.Proofs.YtehhafnjbkbmjaaGreatW.PrintLast Go.Proofs.YtehhafnjbkbmjaaGreatW.PrintMore Go.Proofs.YtehhafnjbkbmjaaGreat.PCommitlogSequence
theorem C_blk {α : Type} {enc : α → Value} {h1 : ∀ x, (enc x).oneCell' = true} {w : World} {b t : Nat} {fz : Nat × Nat} {xs : List α} (h : w.heap[b]? = some (.cells (xs.map enc).toArray t fz)) (hl : xs.length ≤ 9223372036854775807) : Kd.C (Kd.scalar enc h1) w (some ⟨b, 0, none⟩) xs.length xs :=
  ⟨rfl, hl, fun _ => ⟨_, rfl, fun j p hj => ⟨[enc p], rfl, rfl, fun i u hu => by
    have hi0 : i = 0 := by
      have := (List.getElem?_eq_some_iff.1 hu).1
      simpa using this
    subst hi0
    simp at hu
    subst hu
    rw [show (Kd.scalar enc h1).sz = 1 from rfl, Addr.add_lit]
    have h2 := cell_blk h j
    have e2 : (xs.map enc).toArray[j]? = some (enc p) := by simp [hj]
    simp only [Nat.zero_add, Nat.mul_one, Nat.add_zero]
    rw [h2, e2]⟩⟩⟩
theorem Chg.up {a b : World} {F G : Nat → Prop} (h : Chg a F b G) (o : Obj) : Chg a F (b.alloc o) G := ⟨h.fr.alloc o, h.new, fun k hk => by have := h.lt k hk; simp; omega⟩
theorem Chg.fr2 {a b c : World} {F G : Nat → Prop} (h : Chg a F b G) (hf : Fr (fun _ => False) b c) : Chg a F c G := ⟨h.fr.trans hf (fun _ (e : False) => e.elim), h.new, fun k hk => Nat.lt_of_lt_of_le (h.lt k hk) hf.size⟩
end Go.Proofs.YtehhafnjbkbmjaaGreat.Disk

/- objstore: lives, the walk. -/
namespace Go.Proofs.YtehhafnjbkbmjaaGreat.Disk
open Go Go.RowKit Go.Proofs.YtehhafnjbkbmjaaGreatW.PrintWords Go.Proofs.YtehhafnjbkbmjaaGreatW.PrintLast Go.Proofs.YtehhafnjbkbmjaaGreatW.PrintMore Go.Proofs.YtehhafnjbkbmjaaGreat.PCommitlogSequence
abbrev kCf : Kd Cf := k62
theorem str_run {w : World} {A : Option Addr} {c : Nat} {ok : Nat → Prop} {bs : List Int} (h : Rd kB w ok A c bs) : (convert 36 9 (.slice A bs.length c)).run Tryz.prog w = .ok (.string (strOfNums bs)) w :=
  Kd.C_string Tryz.underlying36 Tryz.underlying5 Tryz.underlying9 h.now
end Go.Proofs.YtehhafnjbkbmjaaGreat.Disk

/- What is read out of the arguments of a law: any row of the kinds at hand. -/
namespace Go.Proofs.YtehhafnjbkbmjaaGreat.Disk
open Go Go.RowKit Go.Proofs.YtehhafnjbkbmjaaGreatW.PrintWords Go.Proofs.YtehhafnjbkbmjaaGreatW.PrintLast Go.Proofs.YtehhafnjbkbmjaaGreatW.PrintMore Go.Proofs.YtehhafnjbkbmjaaGreat.PCommitlogSequence
open Go.ChangeShapes Go.WideShapes Go.Deep
/-- Whatever of type t can be read as data is read by the kind dd. -/
def Opens {α : Type} (dd : Kd α) (t : Nat) (Wf : α → Prop) : Prop := ∀ (H : Type) (enc : TypeId × Value → H) (w : World) (fuel : Nat) (cs : List Value) (x : DataW H × List MemPlace), DataW.trod enc Tryz.prog w 0 (fun _ => true) true fuel t cs = some x → ∃ a, dd.K w a cs ∧ Wf a
theorem opens_int {t : Nat} {k : IntKind} (ht : Tryz.prog.underlying t = some (.int k)) : Opens (Kd.int k) t (fun n => (Lit.int k n).wf = true) := fun _ _ _ _ _ _ h => by
  obtain ⟨n, rfl, _, hw⟩ := DataW.trod_int ht h
  exact ⟨n, rfl, hw⟩
theorem opens_bool {t : Nat} (ht : Tryz.prog.underlying t = some .bool) : Opens Kd.bool t (fun _ => True) := fun _ _ _ _ _ _ h => by
  obtain ⟨n, rfl, _⟩ := DataW.trod_bool ht h
  exact ⟨n, rfl, trivial⟩
theorem opens_string {t : Nat} (ht : Tryz.prog.underlying t = some .string) : Opens Kd.string t (fun s => s.size ≤ maxLen) := fun _ _ _ _ _ _ h => by
  obtain ⟨n, rfl, _, hw⟩ := DataW.trod_string ht h
  exact ⟨n, rfl, hw⟩
theorem opens_row {α : Type} [Inhabited α] {dd : Kd α} {t e : Nat} {Wf : α → Prop} (ht : Tryz.prog.underlying t = some (.slice e)) (hc : Tryz.prog.cellsOf e = dd.sz) (he : Opens dd e Wf) {H : Type} {enc : TypeId × Value → H} {w : World} {fuel : Nat} {cs : List Value} {x : DataW H × List MemPlace}
    (h : DataW.trod enc Tryz.prog w 0 (fun _ => true) true fuel t cs = some x) : ∃ (l : List α) (A : Option Addr) (c : Nat), cs = [.slice A l.length c] ∧ l.length ≤ c ∧ dd.C w A l.length l ∧ ∀ y ∈ l, Wf y := by
  rcases open_slice ht h with ⟨rfl, _⟩ | ⟨a, len, cap, m, n, D, Pl, rfl, _, hl, hm, hmm, _, hx⟩
  · exact ⟨[], none, 0, rfl, Nat.le_refl _, Kd.C_nil _ _, fun y hy => by cases hy⟩
  · have hm' : m = cap := by rw [hmm]; rfl
    obtain ⟨f, hf⟩ := choose_lt (n := len) (p := fun i (y : α) => ∃ cs', w.cells? 0 (a.add (i * Tryz.prog.cellsOf e)) (Tryz.prog.cellsOf e) = some cs' ∧ dd.K w y cs' ∧ Wf y) (fun i hi => by
      obtain ⟨cs', h1, h2⟩ := hx i (by omega)
      obtain ⟨y, h3, h4⟩ := he H enc w n cs' _ h2
      exact ⟨y, cs', h1, h3, h4⟩)
    have hlen : ((List.range len).map f).length = len := by simp
    refine ⟨(List.range len).map f, some a, cap, by rw [hlen], by rw [hlen]; exact hl, ⟨rfl, by rw [hlen]; unfold maxLen at hm; omega, fun _ => ⟨a, rfl, fun j p hj => ?_⟩⟩, fun y hy => ?_⟩
    · obtain ⟨hjl, hjp⟩ := List.getElem?_eq_some_iff.1 hj
      rw [hlen] at hjl
      have hp : f j = p := by simpa using hjp
      obtain ⟨cs', h1, h2, _⟩ := hf j hjl
      obtain ⟨_, hs, hcell⟩ := World.cells?_some h1
      rw [hc] at hs
      refine ⟨cs', hs, hp ▸ h2, fun i u hu => ?_⟩
      have hi : i < dd.sz := by rw [← hs]; exact (List.getElem?_eq_some_iff.1 hu).1
      have := hcell i (by rw [hc]; exact hi)
      rw [Deep.add_add, hc] at this
      rw [this, hu]
    · obtain ⟨j, hj, rfl⟩ := List.mem_map.1 hy
      obtain ⟨cs', _, _, h3⟩ := hf j (List.mem_range.1 hj)
      exact h3
/-- A struct all of whose fields are one cell each. -/
theorem struct_cells {H : Type} {enc : TypeId × Value → H} {w : World} {fuel t : Nat} {cs : List Value} {x : DataW H × List MemPlace} {fs : Array Field} (ht : Tryz.prog.underlying t = some (.struct fs)) (hsz : Tryz.prog.cellsOf t = fs.size) (hone : ∀ (i : Nat) (f : Field), fs[i]? = some f → f.offset = i ∧ Tryz.prog.cellsOf f.type = 1)
    (h : DataW.trod enc Tryz.prog w 0 (fun _ => true) true fuel t cs = some x) : cs.length = fs.size ∧ ∃ n, ∀ (i : Nat) (f : Field) (u : Value), fs[i]? = some f → cs[i]? = some u → ∃ y, DataW.trod enc Tryz.prog w 0 (fun _ => true) true n f.type [u] = some y := by
  obtain ⟨xs, n, _, _, hl, hx, hf⟩ := DataW.trod_struct ht h
  refine ⟨by rw [hl, hsz], n, fun i f u hfi hu => ?_⟩
  have h1 := hf i f hfi
  obtain ⟨h2, h3⟩ := hone i f hfi
  rw [h2, h3] at h1
  have hi : i < cs.length := (List.getElem?_eq_some_iff.1 hu).1
  have e : (cs.drop i).take 1 = [u] := by
    rw [List.drop_eq_getElem_cons hi]
    simp [(List.getElem?_eq_some_iff.1 hu).2]
  rw [e] at h1
  have hfs : i < fs.size := (Array.getElem?_eq_some_iff.1 hfi).1
  exact ⟨xs[i]'(by omega), by rw [h1]; exact List.getElem?_eq_getElem _⟩
instance : Inhabited Cf := ⟨⟨0, false⟩⟩
end Go.Proofs.YtehhafnjbkbmjaaGreat.Disk
