/- Rows of bytes, the steps of a replacement. -/
import Derived.Test.YtehhafnjbkbmjaaGreatY2
import Derived.Test.YtehhafnjbkbmjaaGreatY3
import Derived.Deep.RegionHeld3
import Derived.Test.YtehhafnjbkbmjaaGreatQo
import Derived.OpenShut
import Derived.Test.YtehhafnjbkbmjaaGreatShelf2
import Derived.Lib.SlBytesConst
import Derived.Deep.Slices
import Derived.ChangeOld
import Derived.SizedLaws
/- The reference's functions on a state: performed, FailAfter. -/
namespace Go.Proofs.YtehhafnjbkbmjaaGreat.Disk
open Go Go.RowKit Go.Proofs.YtehhafnjbkbmjaaGreatW.PrintWords Go.Proofs.YtehhafnjbkbmjaaGreatW.PrintLast Go.Proofs.YtehhafnjbkbmjaaGreatW.PrintMore Go.Proofs.YtehhafnjbkbmjaaGreat.PCommitlogSequence
attribute [local go_sem] max2_int min2_int max_two min_two max_three min_three max_four min_four

set_option maxHeartbeats 2000000 in
theorem performed_calls (w : World) (a0 a1 a2 a3 : Option Addr) (n0 c0 n1 c1 n2 c2 n3 c3 : Nat) (lim : Bool) (left : Int) (h : lim = true → 0 < left ∧ left ≤ 9223372036854775807) :
    Calls Tryz.prog 85 #[.agg #[.slice a0 n0 c0, .slice a1 n1 c1, .slice a2 n2 c2, .slice a3 n3 c3, .bool lim, .int .i64 left]] w fun e w' =>
      e = .returned (.agg #[.slice a0 n0 c0, .slice a1 n1 c1, .slice a2 n2 c2, .slice a3 n3 c3, .bool lim, .int .i64 (doneLeft lim left)]) ∧ Below w.heap.size w w' := by
  cases lim
  · go_enter Tryz.func85, Tryz.ntmps85
    go_wp2
    exact bodyPost_ret (v := .agg #[.slice a0 n0 c0, .slice a1 n1 c1, .slice a2 n2 c2, .slice a3 n3 c3, .bool false, .int .i64 left]) (by simp [results, Tryz.results85, go_sem]) rfl ⟨rfl, ((Below.refl _ _).alloc (Nat.le_refl _) _).alloc (by simp) _⟩
  · obtain ⟨h0, h1⟩ := h rfl
    go_enter Tryz.func85, Tryz.ntmps85
    go_wp2
    exact bodyPost_ret (v := .agg #[.slice a0 n0 c0, .slice a1 n1 c1, .slice a2 n2 c2, .slice a3 n3 c3, .bool true, .int .i64 (left - 1)]) (by simp [results, Tryz.results85, go_sem]) rfl ⟨rfl, ((Below.refl _ _).alloc (Nat.le_refl _) _).alloc (by simp) _⟩
set_option maxHeartbeats 2000000 in
theorem refFail_calls (w : World) (a0 a1 a2 a3 : Option Addr) (n0 c0 n1 c1 n2 c2 n3 c3 : Nat) (lim : Bool) (left n : Int) :
    Calls Tryz.prog 28 #[.agg #[.slice a0 n0 c0, .slice a1 n1 c1, .slice a2 n2 c2, .slice a3 n3 c3, .bool lim, .int .i64 left], .int .i64 n] w fun e w' =>
      e = .returned (.agg #[.slice a0 n0 c0, .slice a1 n1 c1, .slice a2 n2 c2, .slice a3 n3 c3, .bool (decide (0 ≤ n)), .int .i64 (if n < 0 then 0 else n)]) ∧ Below w.heap.size w w' := by
  obtain ⟨m, hm⟩ : ∃ m, (if n < 0 then (0 : Int) else n) = m := ⟨_, rfl⟩
  rw [hm]
  go_enter Tryz.func28, Tryz.ntmps28
  go_wp2
  exact bodyPost_ret (v := .agg #[.slice a0 n0 c0, .slice a1 n1 c1, .slice a2 n2 c2, .slice a3 n3 c3, .bool (decide (0 ≤ n)), .int .i64 m]) (by simp [results, Tryz.results28, go_sem]) rfl ⟨rfl, ((Below.refl _ _).alloc (Nat.le_refl _) _).alloc (by simp) _⟩
end Go.Proofs.YtehhafnjbkbmjaaGreat.Disk

/- The reference's functions on directories: find, without, with, apply. -/
namespace Go.Proofs.YtehhafnjbkbmjaaGreat.Disk
open Go Go.RowKit Go.Proofs.YtehhafnjbkbmjaaGreatW.PrintWords Go.Proofs.YtehhafnjbkbmjaaGreatW.PrintLast Go.Proofs.YtehhafnjbkbmjaaGreatW.PrintMore Go.Proofs.YtehhafnjbkbmjaaGreat.PCommitlogSequence
abbrev kE : Kd Ent := k109
abbrev kO : Kd Opn := k124
abbrev kF : Kd Fil := k107
/-- A row that is read, wherever it lies; ok: in which blocks. -/
structure Rd {α : Type} (d : Kd α) (w : World) (ok : Nat → Prop) (A : Option Addr) (c : Nat) (xs : List α) : Prop where
  le : xs.length ≤ c
  f : Kd.F d w ok A xs.length xs
section
variable {α : Type} {d : Kd α} {w w' : World} {ok ok' : Nat → Prop} {A : Option Addr} {c : Nat} {xs : List α}
theorem Rd.now (h : Rd d w ok A c xs) : Kd.C d w A xs.length xs := Kd.F_now h.f
theorem Rd.mono (h : Rd d w ok A c xs) (hok : ∀ k, ok k → k < w.heap.size → ok' k) : Rd d w ok' A c xs := ⟨h.le, Kd.F_mono (Kd.F_bound h.f) (fun k hk => hok k hk.1 hk.2)⟩
theorem Rd.below (h : Rd d w ok A c xs) (hb : Below w.heap.size w w') : Rd d w' ok A c xs := ⟨h.le, Kd.F_below h.f hb⟩
theorem Rd.move (h : Rd d w ok A c xs) (hm : ∀ k, ok k → k < w.heap.size → w'.heap[k]? = w.heap[k]?) : Rd d w' ok A c xs := ⟨h.le, Kd.F_step h.f hm⟩
theorem Rd.nil (d : Kd α) (w : World) (ok : Nat → Prop) : Rd d w ok none 0 [] := ⟨Nat.le_refl _, Kd.F_nil d w ok⟩
end
theorem Rd.ofR {α : Type} {d : Kd α} {w : World} {e base : Nat} {ok : Nat → Prop} {v : Value} {xs : List α} (h : d.R e w base ok v xs) : ∃ A c, v = .slice A xs.length c ∧ Rd d w (fun k => base ≤ k ∧ k < w.heap.size) A c xs := by
  obtain ⟨A, c, e1, hl, hF⟩ := Kd.R_V (base' := base) (Kd.R_mono (Kd.R_bound h) (ok' := fun k => base ≤ k ∧ k < w.heap.size) (fun k hk => ⟨hk.2.1, hk.2.2.1⟩))
  exact ⟨A, c, e1, hl, hF⟩
theorem Rd.ofN {α : Type} {d : Kd α} {w : World} {e base : Nat} {ok : Nat → Prop} {v : Value} {xs : List α} (h : Kd.N d e w base ok v xs) : ∃ A c, v = .slice A xs.length c ∧ Rd d w (fun k => ok k ∧ k < w.heap.size) A c xs := by
  obtain ⟨A, c, e1, hl, hF⟩ := Kd.N_V (base' := base) (Kd.N_bound h)
  exact ⟨A, c, e1, hl, hF⟩

theorem find_none_calls (w : World) (ok : Nat → Prop) (A : Option Addr) (c : Nat) (l : List Ent) (n : ByteArray) (h : Rd kE w ok A c l) (hl : l.length ≤ 1099511627776) (hn : pLook l n = none) :
    Calls Tryz.prog 53 #[.slice A l.length c, .string n] w fun e w' => e = .returned (.int .i64 (-1)) ∧ Drawn0 w w' :=
  laminaref20_find.calls (l.length + 1) A c l n (-1) w h.now h.le (find_none l n _ (by omega) (by omega) hn)
theorem find_some_calls (w : World) (ok : Nat → Prop) (A : Option Addr) (c : Nat) (l : List Ent) (n : ByteArray) (x : Int) (h : Rd kE w ok A c l) (hl : l.length ≤ 1099511627776) (hn : pLook l n = some x) :
    ∃ t : Nat, t < l.length ∧ (rd_T109 l t).f1 = x ∧ Calls Tryz.prog 53 #[.slice A l.length c, .string n] w fun e w' => e = .returned (.int .i64 t) ∧ Drawn0 w w' := by
  obtain ⟨t, h1, h2, h3⟩ := find_some l n (l.length + 1) (by omega) (by omega) hn
  exact ⟨t, h2, h3, laminaref20_find.calls (l.length + 1) A c l n t w h.now h.le h1⟩
theorem without_calls (w : World) (ok : Nat → Prop) (A : Option Addr) (c : Nat) (l : List Ent) (n : ByteArray) (h : Rd kE w ok A c l) (hl : l.length ≤ 1099511627776) :
    Calls Tryz.prog 117 #[.slice A l.length c, .string n] w fun e w' => ∃ A' c', e = .returned (.slice A' (pWithout l n).length c') ∧ Rd kE w' (fun k => w.heap.size ≤ k ∧ k < w'.heap.size) A' c' (pWithout l n) ∧ Below w.heap.size w w' := by
  refine (laminaref20_without.calls (l.length + 1) A c l n (pWithout l n) w h.now h.le (without_f l n _ (by omega) (by omega))).mono fun e w' hq => ?_
  obtain ⟨v, q1, q2, q3⟩ := hq
  obtain ⟨A', c', rfl, q4⟩ := Rd.ofR q2
  exact ⟨A', c', q1, q4, q3⟩
theorem with_calls (w : World) (ok : Nat → Prop) (A : Option Addr) (c : Nat) (l : List Ent) (n : ByteArray) (x : Int) (h : Rd kE w ok A c l) (hl : l.length ≤ 1099511627776) :
    Calls Tryz.prog 116 #[.slice A l.length c, .string n, .int .i64 x] w fun e w' => ∃ A' c', e = .returned (.slice A' (pWith l n x).length c') ∧ Rd kE w' (fun k => w.heap.size ≤ k ∧ k < w'.heap.size) A' c' (pWith l n x) ∧ Below w.heap.size w w' := by
  refine (laminaref20_with.calls (l.length + 1) A c l n x (pWith l n x) w h.now h.le (with_f l n x _ (by omega) (by omega))).mono fun e w' hq => ?_
  obtain ⟨v, q1, q2, q3⟩ := hq
  obtain ⟨A', c', rfl, q4⟩ := Rd.ofR q2
  exact ⟨A', c', q1, q4, q3⟩
theorem below_trans {a b c : World} (h : Below a.heap.size a b) (k : Below b.heap.size b c) : Below a.heap.size a c := h.trans (k.mono h.size)
theorem drawn_below {a b : World} (h : Drawn0 a b) : Below a.heap.size a b := by
  obtain ⟨m, rfl⟩ := h.out
  exact pw_below_drewN (Below.refl _ _) m
theorem drew_below {a b : World} (h : Below a.drew.heap.size a.drew b) : Below a.heap.size a b := ⟨h.os, h.tape, h.output, h.size, h.block⟩
theorem ent_cell {w : World} {A : Option Addr} {l : List Ent} (h : Kd.C kE w A l.length l) (t : Nat) (ht : t < l.length) : ∃ ad, A = some ad ∧ w.cell? (ad.add (t * 2)) = some (.string (rd_T109 l t).f0) ∧ w.cell? ⟨(ad.add (t * 2)).block, (ad.add (t * 2)).off + 1, none⟩ = some (.int .i64 (rd_T109 l t).f1) := by
  obtain ⟨ad, h1, h2, h3⟩ := at_T109 h (t : Int) (by omega) (by omega)
  exact ⟨ad, h1, h2, h3⟩

/-- What apply gives: a directory, read in old blocks of ok or in new ones. -/
def Dired (w : World) (ok : Nat → Prop) (l : List Ent) (e : Ending) (w' : World) : Prop := ∃ A c, e = .returned (.slice A l.length c) ∧ Rd kE w' (fun k => ok k ∨ w.heap.size ≤ k) A c l ∧ Below w.heap.size w w'

set_option maxHeartbeats 4000000 in
theorem refApply_calls (w : World) (ok : Nat → Prop) (A : Option Addr) (c : Nat) (l : List Ent) (o : Opn) (h : Rd kE w ok A c l) (hl : l.length ≤ 549755813888) (ho : o.f0 = 1 ∨ o.f0 = 2 ∨ o.f0 = 3) :
    Calls Tryz.prog 82 #[.slice A l.length c, .agg #[.int .i64 o.f0, .string o.f1, .string o.f2, .int .i64 o.f3]] w (Dired w ok (pApply l o)) := by
  have H := Lib.hid h
  have HL := Lib.hid hl
  obtain ⟨f0, f1, f2, f3⟩ := o
  simp only at ho ⊢
  clear h hl
  rcases ho with rfl | rfl | rfl
  · have e : pApply l ⟨1, f1, f2, f3⟩ = pWith l f1 f3 := by simp [pApply]
    rw [e]
    clear e
    go_enter Tryz.func82, Tryz.ntmps82
    go_wp2_with (first | (go_at_call 116; refine (with_calls _ ok A c l f1 f3 (H.out.below (below_alloc (Below.refl _ _) _)) (by have := HL.out; omega)).mono ?_; rintro e w1 ⟨A', c', rfl, hr1, hb1⟩; have HR1 := Lib.hid hr1; have HB1 := Lib.hid hb1; clear hr1 hb1) | fail)
    go_ret
    exact ⟨_, _, rfl, HR1.out.mono (fun k hk _ => .inr (by have := hk.1; simp at this; omega)), below_trans (below_alloc (Below.refl _ _) _) HB1.out⟩
  · cases hp : pLook l f1 with
    | none =>
      have e : pApply l ⟨2, f1, f2, f3⟩ = l := by simp [pApply, hp]
      rw [e]
      have HP := Lib.hid hp
      clear e hp
      go_enter Tryz.func82, Tryz.ntmps82
      go_wp2_with (first | (go_at_call 53; refine (find_none_calls _ ok A c l f1 (H.out.below (below_alloc (Below.refl _ _) _)) (by have := HL.out; omega) HP.out).mono ?_; rintro e w1 ⟨rfl, hd1⟩; have HD1 := Lib.hid hd1; clear hd1) | fail)
      go_ret
      have hb := below_trans (below_alloc (Below.refl w.heap.size w) _) (drawn_below HD1.out)
      exact ⟨_, _, rfl, (H.out.below hb).mono (fun k hk _ => .inl hk), hb⟩
    | some x =>
      have e : pApply l ⟨2, f1, f2, f3⟩ = pWith (pWithout l f1) f2 x := by simp [pApply, hp]
      rw [e]
      obtain ⟨t, ht, hx, hcall⟩ := find_some_calls (w.alloc (.cells #[.int .i64 2, .string f1, .string f2, .int .i64 f3] 124)) ok A c l f1 x (H.out.below (below_alloc (Below.refl _ _) _)) (by have := HL.out; omega) hp
      have HCALL := Lib.hid hcall
      have HX := Lib.hid hx
      clear e hp hcall hx
      have ht5 : t < 549755813888 := by have := HL.out; omega
      go_enter Tryz.func82, Tryz.ntmps82
      go_wp2_with (first | (go_at_call 53; refine HCALL.out.mono ?_; rintro e w1 ⟨rfl, hd1⟩; have HD1 := Lib.hid hd1; clear hd1) | fail)
      have hB1 : w1.heap[w.heap.size]? = some (.cells #[.int .i64 2, .string f1, .string f2, .int .i64 f3] 124 (0, 0)) := by obtain ⟨m, hm⟩ := HD1.out.out; rw [hm]; exact heap_alloc_new w _
      have hb01 : Below w.heap.size w w1 := below_trans (below_alloc (Below.refl w.heap.size w) _) (drawn_below HD1.out)
      have HR1 := Lib.hid (H.out.below hb01)
      have HB1 := Lib.hid hb01
      obtain ⟨Bk, hBk⟩ : ∃ Bk, Bk = w.heap.size := ⟨_, rfl⟩
      rw [← hBk] at hB1 ⊢
      have HBK := Lib.hid hBk
      obtain ⟨ad, hA, q0, q1⟩ := ent_cell HR1.out.now t ht
      subst hA
      rw [HX.out] at q1
      have HBL := Lib.hid hB1
      have b1 := cell_blk hB1 1
      have b2 := cell_blk hB1 2
      simp at b1 b2
      clear hB1 hb01 hBk
      go_region_with (first | (go_at_call 117; refine (without_calls w1.drew ok _ c l f1 (HR1.out.move (fun _ _ _ => rfl)) (by have := HL.out; omega)).mono ?_; rintro e w2 ⟨A', c', rfl, hr2, hb2⟩; have HR2 := Lib.hid hr2; have HB2 := Lib.hid hb2; have b22 : w2.cell? ⟨Bk, 2, none⟩ = _ := (hb2.cell (p := ⟨Bk, 2, none⟩) (lt_blk HBL.out)).trans b2; have q12 : w2.cell? ⟨(ad.add (t * 2)).block, (ad.add (t * 2)).off + 1, none⟩ = _ := (hb2.cell (p := ⟨(ad.add (t * 2)).block, (ad.add (t * 2)).off + 1, none⟩) (World.block_lt_of_cell? w1 _ q1)).trans q1; clear hr2 hb2) | (go_at_call 116; refine (with_calls _ _ _ c' (pWithout l f1) f2 x HR2.out (by have := pWithout_length l f1; have := HL.out; omega)).mono ?_; rintro e w3 ⟨A3, c3, rfl, hr3, hb3⟩; have HR3 := Lib.hid hr3; have HB3 := Lib.hid hb3; clear hr3 hb3))
      all_goals
        go_wp2
        go_ret
        have hb := below_trans HB1.out (below_trans (drew_below HB2.out) HB3.out)
        exact ⟨_, _, rfl, HR3.out.mono (fun k hk _ => .inr (by have h1 := hk.1; have h2 := (drew_below HB2.out).size; have h3 := HB1.out.size; omega)), hb⟩
  · have e : pApply l ⟨3, f1, f2, f3⟩ = pWithout l f1 := by simp [pApply]
    rw [e]
    clear e
    go_enter Tryz.func82, Tryz.ntmps82
    go_wp2_with (first | (go_at_call 117; refine (without_calls _ ok A c l f1 (H.out.below (below_alloc (Below.refl _ _) _)) (by have := HL.out; omega)).mono ?_; rintro e w1 ⟨A', c', rfl, hr1, hb1⟩; have HR1 := Lib.hid hr1; have HB1 := Lib.hid hb1; clear hr1 hb1) | fail)
    go_ret
    exact ⟨_, _, rfl, HR1.out.mono (fun k hk _ => .inr (by have := hk.1; simp at this; omega)), below_trans (below_alloc (Below.refl _ _) _) HB1.out⟩
theorem Rd.ofOwn {w : World} {base : Nat} {A : Option Addr} {n c : Nat} {xs : List Int} (h : w.ownsRow base 5 1 (.slice A n c) xs.length (nums .u8 xs)) : Rd kB w (fun k => base ≤ k) A c xs := by
  have hn : n = xs.length ∧ n ≤ c := by
    rcases h.2 with ⟨h1, h2⟩ | ⟨g, cap, cur, h1, _, _, h2, _⟩
    · simp only [Value.slice.injEq] at h1
      exact ⟨by omega, by omega⟩
    · simp only [Value.slice.injEq] at h1
      exact ⟨h1.2.1, by omega⟩
  have hn1 := hn.1
  subst hn1
  exact ⟨hn.2, fun W' hW => C_of_reads (own_reads' (own_move h (fun k hk => hW k (h.lt k hk).1 (h.lt k hk).2)))⟩
end Go.Proofs.YtehhafnjbkbmjaaGreat.Disk

/- objstore: has. -/
namespace Go.Proofs.YtehhafnjbkbmjaaGreat.Disk
open Go Go.RowKit Go.Proofs.YtehhafnjbkbmjaaGreatW.PrintWords Go.Proofs.YtehhafnjbkbmjaaGreatW.PrintLast Go.Proofs.YtehhafnjbkbmjaaGreatW.PrintMore Go.Proofs.YtehhafnjbkbmjaaGreat.PCommitlogSequence
/-- Whether a file of that name is in the current directory. -/
def pHas (S : PS) (n : ByteArray) : Bool := (S.dir.map (·.f0)).any fun y => decide (y = n)
theorem contains_calls (w : World) (base : Nat) (v : Value) (zs : List ByteArray) (x : ByteArray) (h : w.ownsRow base 9 1 v zs.length (pw_strs zs)) (hl : zs.length ≤ 1099511627776) :
    Calls Tryz.prog 101 #[v, .string x] w fun e w' => e = .returned (.bool (zs.any fun y => decide (y = x))) ∧ w' = w := by
  have hlen := h.1
  rcases h.2 with ⟨h1, h2⟩ | ⟨g, cap, cur, h1, _⟩
  · have e : zs = [] := List.eq_nil_of_length_eq_zero h2
    subst h1
    subst e
    simpa using Tryz.slices_Contains_string_empty none 0 x w
  · subst h1
    have h3 := Tryz.slices_Contains_string g 0 zs.length cap zs x w (Nat.le_refl _) (by omega) (fun j hj => by
      have := h.cells (g := g) rfl j (.string (zs.getD j ByteArray.empty)) (by simp [pw_strs, List.getD, hj])
      rw [Addr.add_lit] at this
      exact this)
    rw [List.take_length] at h3
    have e : Lib.containsS zs x = zs.any fun y => decide (y = x) := by
      rw [Bool.eq_iff_iff, Lib.containsS_iff]
      simp
    rw [e] at h3
    exact h3
theorem has_calls (w : World) (F : Nat → Prop) (d : Nat) (L : Lay) (S : PS) (B : Nat) (n : ByteArray) (h : Rep w F d L S (Live S)) (hg : Good S B) (hB : B ≤ 549755813888) :
    Calls Tryz.prog 57 #[.pointer (some ⟨d, 0, none⟩), .string n] w fun e w' => e = .returned (.bool (pHas S n)) ∧ Fr (fun _ => False) w w' := by
  have H := Lib.hid h
  have HG := Lib.hid hg
  have hlen : (S.dir.map (·.f0)).length ≤ 1099511627776 := by simp; have := hg.nDir; omega
  clear h hg
  go_enter Tryz.func57, Tryz.ntmps57
  go_wp2_with (first
    | (go_at_call 24; refine (List_calls w F d L S B H.out HG.out hB).mono ?_; rintro e w1 ⟨v, rfl, ho, hf⟩; have HO := Lib.hid ho; have HF := Lib.hid hf; clear ho hf)
    | (go_at_call 101; refine (contains_calls _ w.heap.size v (S.dir.map (·.f0)) n (by have h := HO.out; rwa [show S.dir.length = (S.dir.map (·.f0)).length by simp] at h) hlen).mono ?_; rintro e w2 ⟨rfl, rfl⟩)
    | fail)
  go_ret
  exact ⟨by unfold pHas; rw [List.any_map]; rfl, HF.out⟩
end Go.Proofs.YtehhafnjbkbmjaaGreat.Disk

/- objstore: object names. -/
namespace Go.Proofs.YtehhafnjbkbmjaaGreat.Disk
open Go.Proofs.YtehhafnjbkbmjaaGreat.PObjstoreSequence (objstore_object.f objstore_object.l0 objstore_object.j0 objstore_object.calls strings_HasPrefix.f strings_HasPrefix.calls stringslite_HasPrefix.f)
open Go Go.RowKit Go.Proofs.YtehhafnjbkbmjaaGreatW.PrintWords Go.Proofs.YtehhafnjbkbmjaaGreatW.PrintLast Go.Proofs.YtehhafnjbkbmjaaGreatW.PrintMore Go.Proofs.YtehhafnjbkbmjaaGreat.PCommitlogSequence
def okC (c : UInt8) : Bool := decide (c.toNat = 45 ∨ (48 ≤ c.toNat ∧ c.toNat ≤ 57) ∨ (97 ≤ c.toNat ∧ c.toNat ≤ 122))
def sTmp : ByteArray := ⟨#[116, 109, 112, 45]⟩
/-- Whether a name begins with 'tmp-'. -/
def isTmp (s : ByteArray) : Bool := decide (4 ≤ s.size) && ((s.extract 0 4).toList == sTmp.toList)
def okObj (s : ByteArray) : Bool := decide (1 ≤ s.size ∧ s.size ≤ 60) && (!isTmp s && s.data.toList.all okC)
theorem obj_round (k : Nat) (s : ByteArray) (i : Nat) (h : i < s.size) (h60 : s.size ≤ 60) : objstore_object.l0 (k + 1) s s.size i = if okC s[i] then objstore_object.l0 k s s.size ((i + 1 : Nat) : Int) else some false := by
  have e : wrap64 ((i : Int) + 1) = ((i + 1 : Nat) : Int) := by unfold wrap64; omega
  simp only [objstore_object.l0, bt_at s i h, e]
  unfold okC
  rw [if_pos (show (i : Int) < s.size by omega), if_pos (show (0 : Int) ≤ i by omega), if_pos (show (i : Int) < s.size by omega)]
  by_cases hb : s[i].toNat = 45 ∨ (48 ≤ s[i].toNat ∧ s[i].toNat ≤ 57) ∨ (97 ≤ s[i].toNat ∧ s[i].toNat ≤ 122)
  · simp only [hb, decide_true, if_true]
    repeat' split
    all_goals first | rfl | (exfalso; omega)
  · simp only [hb, decide_false]
    repeat' split
    all_goals first | rfl | (exfalso; omega) | contradiction
theorem obj_l0 (s : ByteArray) (h60 : s.size ≤ 60) : ∀ (d k i : Nat), s.size - i = d → i ≤ s.size → d < k → objstore_object.l0 k s s.size i = some ((s.data.toList.drop i).all okC) := by
  intro d
  induction d with
  | zero =>
    intro k i hd hi hk
    obtain ⟨k, rfl⟩ : ∃ m, k = m + 1 := ⟨k - 1, by omega⟩
    obtain rfl : i = s.size := by omega
    simp only [objstore_object.l0]
    rw [if_neg (by omega), List.drop_of_length_le (by rw [data_length]; omega)]
    rfl
  | succ d ih =>
    intro k i hd hi hk
    obtain ⟨k, rfl⟩ : ∃ m, k = m + 1 := ⟨k - 1, by omega⟩
    have hlt : i < s.size := by omega
    rw [obj_round k s i hlt h60, drop_at s i hlt, List.all_cons]
    cases hb : okC s[i]
    · simp
    · simp only [if_true, Bool.true_and]
      exact ih k (i + 1) (by omega) (by omega) (by omega)
theorem prefix_f (s : ByteArray) : strings_HasPrefix.f s sTmp = some (isTmp s) := by
  have e4 : (sTmp.size : Int) = 4 := rfl
  unfold strings_HasPrefix.f stringslite_HasPrefix.f isTmp
  rw [e4]
  by_cases h : 4 ≤ s.size
  · rw [if_pos (by omega), if_pos (by omega), if_pos (by omega)]
    simp [h]
  · rw [if_neg (by omega)]
    simp [h]
theorem obj_f (s : ByteArray) (k : Nat) (hk : 62 < k) : objstore_object.f k s = some (okObj s) := by
  obtain ⟨k, rfl⟩ : ∃ m, k = m + 1 := ⟨k - 1, by omega⟩
  unfold objstore_object.f okObj
  by_cases h1 : 1 ≤ s.size
  · rw [if_neg (by omega)]
    by_cases h60 : s.size ≤ 60
    · rw [if_neg (by omega)]
      rw [show (⟨#[116, 109, 112, 45]⟩ : ByteArray) = sTmp from rfl, prefix_f]
      simp only [Option.bind_some, objstore_object.j0]
      cases ht : isTmp s
      · rw [if_neg (by simp), show (0 : Int) = ((0 : Nat) : Int) from rfl, obj_l0 s h60 s.size k 0 (by omega) (by omega) (by omega)]
        simp [h1, h60]
      · simp
    · rw [if_pos (by omega)]
      simp [objstore_object.j0, h60]
  · rw [if_pos (by omega)]
    simp [objstore_object.j0, h1]
theorem object_calls (w : World) (n : ByteArray) : Calls Tryz.prog 54 #[.string n] w fun e w' => e = .returned (.bool (okObj n)) ∧ Drawn0 w w' := objstore_object.calls 63 n _ w (obj_f n 63 (by omega))
end Go.Proofs.YtehhafnjbkbmjaaGreat.Disk

/- objstore: Exists. -/
namespace Go.Proofs.YtehhafnjbkbmjaaGreat.Disk
open Go Go.RowKit Go.Proofs.YtehhafnjbkbmjaaGreatW.PrintWords Go.Proofs.YtehhafnjbkbmjaaGreatW.PrintLast Go.Proofs.YtehhafnjbkbmjaaGreatW.PrintMore Go.Proofs.YtehhafnjbkbmjaaGreat.PCommitlogSequence
def pExists (S : PS) (n : ByteArray) : Bool := okObj n && pHas S n
theorem Exists_nil (w : World) (n : ByteArray) : Calls Tryz.prog 22 #[.pointer none, .string n] w fun e w' => e = .returned (.bool false) ∧ w = w' := by
  go_enter Tryz.func22, Tryz.ntmps22
  go_wp2_with fail
  go_ret
  exact ⟨rfl, rfl⟩
theorem Exists_calls (w : World) (F : Nat → Prop) (d : Nat) (L : Lay) (S : PS) (B : Nat) (n : ByteArray) (h : Rep w F d L S (Live S)) (hg : Good S B) (hB : B ≤ 549755813888) :
    Calls Tryz.prog 22 #[.pointer (some ⟨d, 0, none⟩), .string n] w fun e w' => e = .returned (.bool (pExists S n)) ∧ Fr (fun _ => False) w w' := by
  have H := Lib.hid h
  have HG := Lib.hid hg
  clear h hg
  cases ho : okObj n
  · have HO := Lib.hid ho
    clear ho
    go_enter Tryz.func22, Tryz.ntmps22
    go_wp2_with (first | (go_at_call 54; refine (object_calls w n).mono ?_; rw [HO.out]; rintro e w1 ⟨rfl, hd⟩; have HD := Lib.hid hd; clear hd) | fail)
    go_ret
    exact ⟨by unfold pExists; rw [HO.out]; rfl, (Fr.refl _ w).drawn HD.out⟩
  · have HO := Lib.hid ho
    clear ho
    go_enter Tryz.func22, Tryz.ntmps22
    go_wp2_with (first | (go_at_call 54; refine (object_calls w n).mono ?_; rw [HO.out]; rintro e w1 ⟨rfl, hd⟩; have HD := Lib.hid hd; clear hd) | (go_at_call 57; refine (has_calls _ F d L S B n (H.out.drawn HD.out) HG.out hB).mono ?_; rintro e w2 ⟨rfl, hf⟩; have HF := Lib.hid hf; clear hf) | fail)
    go_ret
    exact ⟨by unfold pExists; rw [HO.out]; rfl, ((Fr.refl _ w).drawn HD.out).trans HF.out (fun _ => .inl)⟩
end Go.Proofs.YtehhafnjbkbmjaaGreat.Disk

/- objstore: the steps of Put, each a closure. -/
namespace Go.Proofs.YtehhafnjbkbmjaaGreat.Disk
open Go Go.RowKit Go.Proofs.YtehhafnjbkbmjaaGreatW.PrintWords Go.Proofs.YtehhafnjbkbmjaaGreatW.PrintLast Go.Proofs.YtehhafnjbkbmjaaGreatW.PrintMore Go.Proofs.YtehhafnjbkbmjaaGreat.PCommitlogSequence
/-- A file of that name, if there is one, is removed. -/
def pClear (S : PS) (t : ByteArray) : PS × Int := if pHas S t then pRemove S t else (S, 0)
theorem fr_below {w w' : World} (h : Fr (fun _ => False) w w') : Below w.heap.size w w' := h.toBelow (Nat.le_refl _) (fun _ hk => hk.elim)
theorem cell_below {w w' : World} {a : Addr} {x : Value} (hb : Below w.heap.size w w') (h : w.cell? a = some x) : w'.cell? a = some x := (hb.cell (World.block_lt_of_cell? w _ h)).trans h
section
variable (w : World) (F : Nat → Prop) (d : Nat) (L : Lay) (S : PS) (B : Nat) (b0 b1 b2 : Nat) (t n : ByteArray)
theorem step1_calls (h : Rep w F d L S (Live S)) (hg : Good S B) (hB : B ≤ 549755813888) (h0 : w.cell? ⟨b0, 0, none⟩ = some (.pointer (some ⟨d, 0, none⟩))) (h1 : w.cell? ⟨b1, 0, none⟩ = some (.string t)) :
    Calls Tryz.prog 56 #[.pointer (some ⟨b0, 0, none⟩), .pointer (some ⟨b1, 0, none⟩)] w fun e w' => e = .returned (.int .i64 (pClear S t).2) ∧ After w F d (pClear S t).1 w' := by
  have H := Lib.hid h
  have HG := Lib.hid hg
  clear h hg
  cases hh : pHas S t
  · have HH := Lib.hid hh
    clear hh
    go_enter Tryz.func56, Tryz.ntmps56
    go_wp2_with (first | (go_at_call 57; refine (has_calls _ F d L S B t H.out HG.out hB).mono ?_; rw [HH.out]; rintro e w2 ⟨rfl, hf⟩; have HF := Lib.hid hf; clear hf) | fail)
    go_ret
    unfold pClear
    rw [HH.out]
    exact ⟨rfl, After.same (H.out.fr HF.out (fun _ _ e => e)) HF.out⟩
  · have HH := Lib.hid hh
    clear hh
    go_enter Tryz.func56, Tryz.ntmps56
    go_wp2_with (first | (go_at_call 57; refine (has_calls _ F d L S B t H.out HG.out hB).mono ?_; rw [HH.out]; rintro e w2 ⟨rfl, hf⟩; have HF := Lib.hid hf; have q0 := cell_below (fr_below hf) h0; have q1 := cell_below (fr_below hf) h1; clear hf) | (go_at_call 58; refine (Remove_calls _ F d L S B t (H.out.fr HF.out (fun _ _ e => e)) HG.out hB).mono ?_; rintro e w3 ⟨rfl, ha⟩; have HA := Lib.hid ha; clear ha) | fail)
    go_ret
    unfold pClear
    rw [HH.out]
    exact ⟨rfl, HA.out.behind (HF.out.mono (fun _ hk => hk.elim)) (fun _ hk => .inl hk)⟩
theorem step2_calls (h : Rep w F d L S (Live S)) (hg : Good S B) (hB : B ≤ 549755813888) (h0 : w.cell? ⟨b0, 0, none⟩ = some (.pointer (some ⟨d, 0, none⟩))) (h1 : w.cell? ⟨b1, 0, none⟩ = some (.string t)) :
    Calls Tryz.prog 59 #[.pointer (some ⟨b0, 0, none⟩), .pointer (some ⟨b1, 0, none⟩)] w fun e w' => e = .returned (.int .i64 (pCreate S t).2) ∧ After w F d (pCreate S t).1 w' := by
  have H := Lib.hid h
  have HG := Lib.hid hg
  clear h hg
  go_enter Tryz.func59, Tryz.ntmps59
  go_wp2_with (first | (go_at_call 31; refine (Create_calls _ F d L S B t H.out HG.out hB).mono ?_; rintro e w3 ⟨rfl, ha⟩; have HA := Lib.hid ha; clear ha) | fail)
  go_ret
  exact ⟨rfl, HA.out⟩
theorem step4_calls (h : Rep w F d L S (Live S)) (hg : Good S B) (hB : B ≤ 549755813888) (h0 : w.cell? ⟨b0, 0, none⟩ = some (.pointer (some ⟨d, 0, none⟩))) (h1 : w.cell? ⟨b1, 0, none⟩ = some (.string t)) :
    Calls Tryz.prog 62 #[.pointer (some ⟨b0, 0, none⟩), .pointer (some ⟨b1, 0, none⟩)] w fun e w' => e = .returned (.int .i64 (pSync S t).2) ∧ After w F d (pSync S t).1 w' := by
  have H := Lib.hid h
  have HG := Lib.hid hg
  clear h hg
  go_enter Tryz.func62, Tryz.ntmps62
  go_wp2_with (first | (go_at_call 63; refine (Sync_calls _ F d L S B t H.out HG.out hB).mono ?_; rintro e w3 ⟨rfl, ha⟩; have HA := Lib.hid ha; clear ha) | fail)
  go_ret
  exact ⟨rfl, HA.out⟩
theorem step5_calls (h : Rep w F d L S (Live S)) (hg : Good S B) (hB : B ≤ 549755813888) (h0 : w.cell? ⟨b0, 0, none⟩ = some (.pointer (some ⟨d, 0, none⟩))) (h1 : w.cell? ⟨b1, 0, none⟩ = some (.string t)) (h2 : w.cell? ⟨b2, 0, none⟩ = some (.string n)) :
    Calls Tryz.prog 64 #[.pointer (some ⟨b0, 0, none⟩), .pointer (some ⟨b1, 0, none⟩), .pointer (some ⟨b2, 0, none⟩)] w fun e w' => e = .returned (.int .i64 (pRename S t n).2) ∧ After w F d (pRename S t n).1 w' := by
  have H := Lib.hid h
  have HG := Lib.hid hg
  clear h hg
  go_enter Tryz.func64, Tryz.ntmps64
  go_wp2_with (first | (go_at_call 65; refine (Rename_calls _ F d L S B t n H.out HG.out hB).mono ?_; rintro e w3 ⟨rfl, ha⟩; have HA := Lib.hid ha; clear ha) | fail)
  go_ret
  exact ⟨rfl, HA.out⟩
end
end Go.Proofs.YtehhafnjbkbmjaaGreat.Disk

/- objstore: the step of Put that writes. -/
namespace Go.Proofs.YtehhafnjbkbmjaaGreat.Disk
open Go Go.RowKit Go.Proofs.YtehhafnjbkbmjaaGreatW.PrintWords Go.Proofs.YtehhafnjbkbmjaaGreatW.PrintLast Go.Proofs.YtehhafnjbkbmjaaGreatW.PrintMore Go.Proofs.YtehhafnjbkbmjaaGreat.PCommitlogSequence
theorem cell_after {w w' : World} {F : Nat → Prop} {d : Nat} {S : PS} {b : Nat} {x : Value} (h : After w F d S w') (hb : ¬ F b) (hc : w.cell? ⟨b, 0, none⟩ = some x) : w'.cell? ⟨b, 0, none⟩ = some x := by
  obtain ⟨_, _, _, h2⟩ := h
  exact (World.cell?_of_block (h2.fr.block b (World.block_lt_of_cell? w ⟨b, 0, none⟩ hc) hb)).trans hc
set_option maxHeartbeats 2000000 in
theorem step3_calls (w : World) (F : Nat → Prop) (d : Nat) (L : Lay) (S : PS) (B : Nat) (b0 b1 b2 : Nat) (t : ByteArray) (A : Option Addr) (c : Nat) (l : List Int) (h : Rep w F d L S (Live S)) (hg : Good S B) (hB : B ≤ 549755813888) (n0 : ¬ F b0) (n1 : ¬ F b1) (n2 : ¬ F b2)
    (h0 : w.cell? ⟨b0, 0, none⟩ = some (.pointer (some ⟨d, 0, none⟩))) (h1 : w.cell? ⟨b1, 0, none⟩ = some (.string t)) (h2 : w.cell? ⟨b2, 0, none⟩ = some (.slice A l.length c)) (hC : Kd.C kB w A l.length l) (hl : l.length ≤ 549755813888) (hw : ∀ x ∈ l, 0 ≤ x ∧ x ≤ 255) :
    Calls Tryz.prog 60 #[.pointer (some ⟨b0, 0, none⟩), .pointer (some ⟨b1, 0, none⟩), .pointer (some ⟨b2, 0, none⟩)] w fun e w' => e = .returned (.int .i64 (pAppend S t (sealF l)).2) ∧ After w F d (pAppend S t (sealF l)).1 w' := by
  have H := Lib.hid h
  have HG := Lib.hid hg
  have HC := Lib.hid hC
  have HW := Lib.hid hw
  have HQ := Lib.hid (And.intro h0 (And.intro h1 h2))
  clear h hg hC hw
  go_enter Tryz.func60, Tryz.ntmps60
  go_upto_region 1 with (fail)
  go_region_held3 (fun w' => w'.cell? ⟨b0, 0, none⟩ = some (.pointer (some ⟨d, 0, none⟩)) ∧ w'.cell? ⟨b1, 0, none⟩ = some (.string t) ∧ w'.cell? ⟨b2, 0, none⟩ = some (.slice A l.length c))
    (first | exact HQ.out | exact Q2.out | exact ⟨cell_after HA.out n0 Q2.out.1, cell_after HA.out n1 Q2.out.2.1, cell_after HA.out n2 Q2.out.2.2⟩)
    (first
      | (go_at_call 61; refine (Seal_calls w.drew A c l (Kd.C_below HC.out (fr_below ((Fr.refl (fun _ => False) w).drew))) hl HW.out).mono ?_; rintro e w2 ⟨v, rfl, ho, hb⟩; have hb' : Below w.heap.size w w2 := ⟨hb.os, hb.tape, hb.output, hb.size, hb.block⟩; obtain ⟨A2, c2, rfl, hC2⟩ := own_bytes ho; have HC2 := Lib.hid hC2; have HB2 := Lib.hid hb'; have Q2 := Lib.hid (show w2.cell? ⟨b0, 0, none⟩ = some (.pointer (some ⟨d, 0, none⟩)) ∧ w2.cell? ⟨b1, 0, none⟩ = some (.string t) ∧ w2.cell? ⟨b2, 0, none⟩ = some (.slice A l.length c) from ⟨cell_below hb' h0, cell_below hb' h1, cell_below hb' h2⟩); clear ho hb hb' hC2)
      | (go_at_call 33; refine (Append_calls w2 F d L S B t A2 (sealF l) c2 HC2.out (by rw [sealF_length]; omega) (H.out.below HB2.out) HG.out hB).mono ?_; rintro e w3 ⟨rfl, ha⟩; have HA := Lib.hid ha; clear ha))
  go_wp2_with fail
  go_ret
  exact ⟨rfl, HA.out.behind (Below.toFr HB2.out F) (fun _ hk => .inl hk)⟩
end Go.Proofs.YtehhafnjbkbmjaaGreat.Disk

/- The plain states: what every operation keeps. -/
namespace Go.Proofs.YtehhafnjbkbmjaaGreat.Disk
open Go Go.RowKit Go.Proofs.YtehhafnjbkbmjaaGreatW.PrintWords Go.Proofs.YtehhafnjbkbmjaaGreatW.PrintLast Go.Proofs.YtehhafnjbkbmjaaGreatW.PrintMore Go.Proofs.YtehhafnjbkbmjaaGreat.PCommitlogSequence

def OpName (o : Opn) : Prop := (o.f0 = 1 → okName o.f1 = true) ∧ (o.f0 = 2 → okName o.f2 = true)
/-- Good, with what a crash needs. -/
structure Sound (S : PS) (B : Nat) : Prop where
  good : Good S B
  dp : S.dur.length + S.pend.length ≤ B
  opN : ∀ o ∈ S.pend, OpName o
theorem Good.mono {S : PS} {B B' : Nat} (h : Good S B) (hB : B ≤ B') : Good S B' :=
  { h with
    nFiles := Nat.le_trans h.nFiles hB
    nDir := Nat.le_trans h.nDir hB
    nDur := Nat.le_trans h.nDur hB
    nPend := Nat.le_trans h.nPend hB
    nBytes := fun f hf => Nat.le_trans (h.nBytes f hf) hB }
theorem Sound.mono {S : PS} {B B' : Nat} (h : Sound S B) (hB : B ≤ B') : Sound S B' := ⟨h.good.mono hB, Nat.le_trans h.dp hB, h.opN⟩
theorem Good.done {S : PS} {B : Nat} (h : Good S B) (h0 : S.lim = true → 0 < S.left) : Good (pDone S) B :=
  { nFiles := h.nFiles
    nDir := h.nDir
    nDur := h.nDur
    nPend := h.nPend
    left := fun hl => by
      have hl' : S.lim = true := hl
      have h1 := h.left hl'
      have h2 := h0 hl'
      have e : (pDone S).left = S.left - 1 := by simp [pDone, doneLeft, hl']
      rw [e]
      omega
    range := h.range
    nBytes := h.nBytes
    dur := h.dur
    bytes := h.bytes
    nameD := h.nameD
    nameU := h.nameU
    ops := h.ops }
theorem Sound.done {S : PS} {B : Nat} (h : Sound S B) (h0 : S.lim = true → 0 < S.left) : Sound (pDone S) B := ⟨h.good.done h0, h.dp, h.opN⟩
theorem pApply_names {l : List Ent} {o : Opn} (hl : ∀ e ∈ l, okName e.f0 = true) (ho : OpName o) : ∀ e ∈ pApply l o, okName e.f0 = true := by
  intro e he
  unfold pApply at he
  split at he
  · rcases mem_pWith he with rfl | h
    · exact ho.1 ‹_›
    · exact hl e h
  · split at he
    · split at he
      · rcases mem_pWith he with rfl | h
        · exact ho.2 ‹_›
        · exact hl e (List.mem_filter.1 h).1
      · exact hl e he
    · exact hl e (List.mem_filter.1 he).1
theorem live_dir {S : PS} {o : Opn} {i : Int} (h : Live (pDir S o) i) : Live S i ∨ (o.f0 = 1 ∧ i = o.f3) := live_pDir (S := S) (o := o) h
theorem Sound.dir {S : PS} {B : Nat} {o : Opn} (h : Sound S B) (ho : OpnOk o) (hn : OpName o) (hr : o.f0 = 1 → 0 ≤ o.f3 ∧ o.f3 < S.files.length) : Sound (pDir S o) (B + 1) where
  good :=
    { nFiles := Nat.le_succ_of_le h.good.nFiles
      nDir := by have := pApply_length S.dir o; have := h.good.nDir; show (pApply S.dir o).length ≤ B + 1; omega
      nDur := Nat.le_succ_of_le h.good.nDur
      nPend := by have := h.good.nPend; show (S.pend ++ [o]).length ≤ B + 1; rw [List.length_append, List.length_singleton]; omega
      left := h.good.left
      range := fun i hi => by
        rcases live_dir hi with h1 | ⟨h1, rfl⟩
        · exact h.good.range i h1
        · exact hr h1
      nBytes := fun f hf => Nat.le_succ_of_le (h.good.nBytes f hf)
      dur := h.good.dur
      bytes := h.good.bytes
      nameD := pApply_names h.good.nameD hn
      nameU := h.good.nameU
      ops := fun p hp => by
        rcases List.mem_append.1 hp with hp | hp
        · exact h.good.ops p hp
        · rw [List.mem_singleton.1 hp]
          exact ho }
  dp := by have := h.dp; show S.dur.length + (S.pend ++ [o]).length ≤ B + 1; rw [List.length_append, List.length_singleton]; omega
  opN := fun p hp => by
    rcases List.mem_append.1 hp with hp | hp
    · exact h.opN p hp
    · rw [List.mem_singleton.1 hp]
      exact hn
theorem Sound.file {S : PS} {B : Nat} (h : Sound S B) : Sound { S with files := S.files ++ [⟨[], 0⟩] } (B + 1) where
  good :=
    { nFiles := by have := h.good.nFiles; show (S.files ++ [_]).length ≤ B + 1; rw [List.length_append, List.length_singleton]; omega
      nDir := Nat.le_succ_of_le h.good.nDir
      nDur := Nat.le_succ_of_le h.good.nDur
      nPend := Nat.le_succ_of_le h.good.nPend
      left := h.good.left
      range := fun i hi => by
        have h1 := h.good.range i hi
        refine ⟨h1.1, ?_⟩
        show i < ((S.files ++ [_]).length : Nat)
        rw [List.length_append, List.length_singleton]
        omega
      nBytes := fun f hf => by
        rcases List.mem_append.1 hf with hf | hf
        · exact Nat.le_succ_of_le (h.good.nBytes f hf)
        · rw [List.mem_singleton.1 hf]
          simp
      dur := fun f hf => by
        rcases List.mem_append.1 hf with hf | hf
        · exact h.good.dur f hf
        · rw [List.mem_singleton.1 hf]
          simp
      bytes := fun f hf => by
        rcases List.mem_append.1 hf with hf | hf
        · exact h.good.bytes f hf
        · rw [List.mem_singleton.1 hf]
          intro x hx
          cases hx
      nameD := h.good.nameD
      nameU := h.good.nameU
      ops := h.good.ops }
  dp := Nat.le_succ_of_le h.dp
  opN := h.opN
theorem Sound.set {S : PS} {B n : Nat} {i : Int} {f : Fil} (h : Sound S B) (h1 : f.f0.length ≤ B + n) (h2 : 0 ≤ f.f1 ∧ f.f1 ≤ f.f0.length) (h3 : ∀ x ∈ f.f0, 0 ≤ x ∧ x ≤ 255) : Sound (pSet S i f) (B + n) where
  good :=
    { nFiles := by have := h.good.nFiles; show (S.files.set _ _).length ≤ B + n; rw [List.length_set]; omega
      nDir := Nat.le_add_right_of_le h.good.nDir
      nDur := Nat.le_add_right_of_le h.good.nDur
      nPend := Nat.le_add_right_of_le h.good.nPend
      left := h.good.left
      range := fun i hi => by
        have h1 := h.good.range i hi
        refine ⟨h1.1, ?_⟩
        show i < ((S.files.set _ _).length : Nat)
        rw [List.length_set]
        omega
      nBytes := fun g hg => by
        rcases List.mem_or_eq_of_mem_set hg with hg | rfl
        · exact Nat.le_add_right_of_le (h.good.nBytes g hg)
        · exact h1
      dur := fun g hg => by
        rcases List.mem_or_eq_of_mem_set hg with hg | rfl
        · exact h.good.dur g hg
        · exact h2
      bytes := fun g hg => by
        rcases List.mem_or_eq_of_mem_set hg with hg | rfl
        · exact h.good.bytes g hg
        · exact h3
      nameD := h.good.nameD
      nameU := h.good.nameU
      ops := h.good.ops }
  dp := Nat.le_add_right_of_le h.dp
  opN := h.opN
theorem opn_ok {k i : Int} {m n : ByteArray} (hk : k = 1 ∨ k = 2 ∨ k = 3) (hm : m.size ≤ 64) (hn : n.size ≤ 64) : OpnOk ⟨k, m, n, i⟩ := ⟨hk, hm, hn⟩
theorem size_nil : (⟨#[]⟩ : ByteArray).size ≤ 64 := by decide
theorem Sound.create {S : PS} {B : Nat} {n : ByteArray} (h : Sound S B) : Sound (pCreate S n).1 (B + 100) := by
  unfold pCreate
  split
  · rename_i hc
    obtain ⟨h0, hn⟩ := pCheck_zero hc
    have hn' := hn n (by simp)
    split
    · exact h.mono (by omega)
    · refine Sound.mono (B := B + 1 + 1) (Sound.done (Sound.dir h.file (opn_ok (.inl rfl) (okName_size hn') size_nil) ⟨fun _ => hn', fun e => ?_⟩ (fun _ => ?_)) h0) (by omega)
      · exact absurd (show (1 : Int) = 2 from e) (by decide)
      · exact ⟨by simp, by simp; omega⟩
  · exact h.mono (by omega)
theorem Sound.remove {S : PS} {B : Nat} {n : ByteArray} (h : Sound S B) : Sound (pRemove S n).1 (B + 100) := by
  unfold pRemove
  split
  · rename_i hc
    obtain ⟨h0, hn⟩ := pCheck_zero hc
    have hn' := hn n (by simp)
    split
    · refine Sound.mono (B := B + 1) (Sound.done (Sound.dir h (opn_ok (.inr (.inr rfl)) (okName_size hn') size_nil) ⟨fun e => ?_, fun e => ?_⟩ (fun e => ?_)) h0) (by omega)
      · exact absurd (show (3 : Int) = 1 from e) (by decide)
      · exact absurd (show (3 : Int) = 2 from e) (by decide)
      · exact absurd (show (3 : Int) = 1 from e) (by decide)
    · exact h.mono (by omega)
  · exact h.mono (by omega)
theorem Sound.rename {S : PS} {B : Nat} {m n : ByteArray} (h : Sound S B) : Sound (pRename S m n).1 (B + 100) := by
  unfold pRename
  split
  · rename_i hc
    obtain ⟨h0, hn⟩ := pCheck_zero hc
    have hm' := hn m (by simp)
    have hn' := hn n (by simp)
    split
    · split
      · exact (h.done h0).mono (by omega)
      · refine Sound.mono (B := B + 1) (Sound.done (Sound.dir h (opn_ok (.inr (.inl rfl)) (okName_size hm') (okName_size hn')) ⟨fun e => ?_, fun _ => hn'⟩ (fun e => ?_)) h0) (by omega)
        · exact absurd (show (2 : Int) = 1 from e) (by decide)
        · exact absurd (show (2 : Int) = 1 from e) (by decide)
    · exact h.mono (by omega)
  · exact h.mono (by omega)
theorem Sound.sync {S : PS} {B : Nat} {n : ByteArray} (h : Sound S B) : Sound (pSync S n).1 (B + 100) := by
  unfold pSync
  split
  · rename_i hc
    obtain ⟨h0, _⟩ := pCheck_zero hc
    split
    · rename_i i hi
      have hm := fileAt_mem (h.good.range i (live_look hi))
      refine Sound.done (h.set (n := 100) ?_ ⟨by simp, by simp⟩ (fun x hx => h.good.bytes _ hm x hx)) h0
      have := h.good.nBytes _ hm
      simp only
      omega
    · exact h.mono (by omega)
  · exact h.mono (by omega)
theorem Sound.synced {S : PS} {B : Nat} (h : Sound S B) : Sound (pSynced S) B where
  good :=
    { h.good with
      nDur := h.good.nDir
      nPend := by simp [pSynced]
      range := fun i hi => h.good.range i (live_synced hi)
      nameU := h.good.nameD
      ops := fun o ho => by simp [pSynced] at ho }
  dp := by have := h.good.nDir; simp [pSynced]; omega
  opN := fun o ho => by simp [pSynced] at ho
theorem Sound.syncDir {S : PS} {B : Nat} (h : Sound S B) : Sound (pSyncDir S).1 (B + 100) := by
  unfold pSyncDir
  split
  · rename_i hc
    exact (h.synced.done (pCheck_zero hc).1).mono (by omega)
  · exact h.mono (by omega)
theorem Sound.fail {S : PS} {B : Nat} {n : Int} (h : Sound S B) (hn : n ≤ 9223372036854775807) : Sound (pFail S n) (B + 100) := by
  refine Sound.mono (B := B) ⟨?_, h.dp, h.opN⟩ (by omega)
  exact
    { h.good with
      left := fun hl => by
        simp only [pFail]
        split <;> omega
      range := h.good.range }
theorem names_at (S : PS) (hu : ∀ e ∈ S.dur, okName e.f0 = true) (hp : ∀ o ∈ S.pend, OpName o) : ∀ (k : Nat) (e : Ent), e ∈ dirAt S k → okName e.f0 = true := by
  intro k
  induction k with
  | zero => intro e he; exact hu e (by simpa [dirAt] using he)
  | succ k ih =>
    intro e he
    by_cases hk : k < S.pend.length
    · rw [dirAt_succ S k hk] at he
      exact pApply_names ih (hp _ (List.getElem_mem hk)) e he
    · have : dirAt S (k + 1) = dirAt S k := by
        unfold dirAt
        rw [List.take_of_length_le (by omega), List.take_of_length_le (by omega)]
      rw [this] at he
      exact ih e he
theorem crashDir_length (S : PS) (n : Int) : (pCrashDir S n).length ≤ S.dur.length + S.pend.length := by
  have h1 : pCrashDir S n = dirAt S n.toNat := rfl
  rw [h1]
  by_cases h : n.toNat ≤ S.pend.length
  · have := dirAt_length S n.toNat; omega
  · have e : dirAt S n.toNat = dirAt S S.pend.length := by unfold dirAt; rw [List.take_of_length_le (by omega), List.take_of_length_le (Nat.le_refl _)]
    rw [e]
    exact dirAt_length S _
theorem pLeft_le (f : Fil) (c : Cf) : (pLeft f c).length ≤ f.f0.length := by
  unfold pLeft
  split <;> simp only [List.length_set, List.length_take] <;> omega
theorem bits_u8 (x : Int) : 0 ≤ Go.bits .xor .u8 x 255 ∧ Go.bits .xor .u8 x 255 ≤ 255 := by
  have h := wf_bits .xor .u8 x 255
  exact bounds_u8 h
theorem pLeft_bytes {f : Fil} {c : Cf} (h : ∀ x ∈ f.f0, 0 ≤ x ∧ x ≤ 255) : ∀ x ∈ pLeft f c, 0 ≤ x ∧ x ≤ 255 := by
  intro x hx
  unfold pLeft at hx
  split at hx
  · rcases List.mem_or_eq_of_mem_set hx with hx | rfl
    · exact h x (List.mem_of_mem_take hx)
    · exact bits_u8 _
  · exact h x (List.mem_of_mem_take hx)
theorem newFiles_mem {S : PS} {l : List Ent} {cs : List Cf} {f : Fil} (h : f ∈ newFiles S l cs) : ∃ e ∈ l, ∃ c, f = ⟨pLeft (fileAt S e.f1) c, (pLeft (fileAt S e.f1) c).length⟩ := by
  unfold newFiles at h
  obtain ⟨⟨e, j⟩, hx, rfl⟩ := List.mem_map.1 h
  have hx1 := List.mem_zipIdx hx
  exact ⟨e, by rw [hx1.2.2]; exact List.getElem_mem _, _, rfl⟩
theorem Sound.crash {S : PS} {B : Nat} {n : Int} {cs : List Cf} (h : Sound S B) : Sound (pCrash S n cs) B where
  good :=
    { nFiles := by have := crashDir_length S n; have := h.dp; show (newFiles _ _ _).length ≤ B; rw [newFiles_length]; omega
      nDir := by have := crashDir_length S n; have := h.dp; show (newDir _ _).length ≤ B; rw [newDir_length _ _ (Nat.le_refl _)]; omega
      nDur := by have := crashDir_length S n; have := h.dp; show (newDir _ _).length ≤ B; rw [newDir_length _ _ (Nat.le_refl _)]; omega
      nPend := by simp [pCrash]
      left := fun e => by cases e
      range := fun i hi => by
        obtain ⟨j, hj, rfl⟩ := live_crash hi
        refine ⟨by omega, ?_⟩
        show (j : Int) < ((newFiles _ _ _).length : Nat)
        rw [newFiles_length]
        omega
      nBytes := fun f hf => by
        obtain ⟨e, he, c, rfl⟩ := newFiles_mem hf
        have h1 := dirAt_live S n.toNat e he
        have h2 := h.good.nBytes _ (fileAt_mem (h.good.range _ h1))
        have h3 := pLeft_le (fileAt S e.f1) c
        simp only
        omega
      dur := fun f hf => by
        obtain ⟨e, he, c, rfl⟩ := newFiles_mem hf
        simp
      bytes := fun f hf => by
        obtain ⟨e, he, c, rfl⟩ := newFiles_mem hf
        exact pLeft_bytes (h.good.bytes _ (fileAt_mem (h.good.range _ (dirAt_live S n.toNat e he))))
      nameD := fun e he => by
        obtain ⟨j, _, _, _, hj, h2⟩ := newDir_mem he
        rw [h2]
        exact names_at S h.good.nameU h.opN n.toNat _ (List.getElem_mem hj)
      nameU := fun e he => by
        obtain ⟨j, _, _, _, hj, h2⟩ := newDir_mem he
        rw [h2]
        exact names_at S h.good.nameU h.opN n.toNat _ (List.getElem_mem hj)
      ops := fun o ho => by simp [pCrash] at ho }
  dp := by
    have := crashDir_length S n
    have := h.dp
    show (newDir _ _).length + ([] : List Opn).length ≤ B
    rw [newDir_length _ _ (Nat.le_refl _)]
    simp
    omega
  opN := fun o ho => by simp [pCrash] at ho
theorem Sound.new : Sound pNew 0 where
  good :=
    { nFiles := by decide
      nDir := by decide
      nDur := by decide
      nPend := by decide
      left := fun e => by cases e
      range := fun i hi => by rcases hi with ⟨e, he, _⟩ | ⟨e, he, _⟩ | ⟨e, he, _⟩ <;> simp [pNew] at he
      nBytes := fun f hf => by simp [pNew] at hf
      dur := fun f hf => by simp [pNew] at hf
      bytes := fun f hf => by simp [pNew] at hf
      nameD := fun f hf => by simp [pNew] at hf
      nameU := fun f hf => by simp [pNew] at hf
      ops := fun f hf => by simp [pNew] at hf }
  dp := by decide
  opN := fun f hf => by simp [pNew] at hf
end Go.Proofs.YtehhafnjbkbmjaaGreat.Disk

/- objstore: run over the six steps of Put. -/
namespace Go.Proofs.YtehhafnjbkbmjaaGreat.Disk
open Go Go.RowKit Go.Proofs.YtehhafnjbkbmjaaGreatW.PrintWords Go.Proofs.YtehhafnjbkbmjaaGreatW.PrintLast Go.Proofs.YtehhafnjbkbmjaaGreatW.PrintMore Go.Proofs.YtehhafnjbkbmjaaGreat.PCommitlogSequence
theorem Sound.append_any {S : PS} {B m : Nat} {n : ByteArray} {b : List Int} (h : Sound S B) (hb : b.length ≤ m) (hw : ∀ x ∈ b, 0 ≤ x ∧ x ≤ 255) : Sound (pAppend S n b).1 (B + m) := by
  unfold pAppend
  split
  · rename_i hc
    obtain ⟨h0, _⟩ := pCheck_zero hc
    split
    · rename_i i hi
      have hm := fileAt_mem (h.good.range i (live_look hi))
      have h1 := h.good.dur _ hm
      refine Sound.done (h.set (n := m) ?_ ⟨h1.1, ?_⟩ ?_) h0
      · have := h.good.nBytes _ hm
        simp only [List.length_append]
        omega
      · simp only [List.length_append]
        omega
      · intro x hx
        rcases List.mem_append.1 hx with hx | hx
        · exact h.good.bytes _ hm x hx
        · exact hw x hx
    · exact h.mono (by omega)
  · exact h.mono (by omega)
/-- Step j of the writing of file n by way of file t. -/
def stepF (t n : ByteArray) (bs : List Int) : Nat → PS → PS × Int
  | 0, S => pClear S t
  | 1, S => pCreate S t
  | 2, S => pAppend S t bs
  | 3, S => pSync S t
  | 4, S => pRename S t n
  | _, S => pSyncDir S
/-- The first j steps, as far as none fails. -/
def runTo (S : PS) (t n : ByteArray) (bs : List Int) : Nat → PS × Int
  | 0 => (S, 0)
  | j + 1 => if (runTo S t n bs j).2 = 0 then stepF t n bs j (runTo S t n bs j).1 else runTo S t n bs j
def pReplace (S : PS) (t n : ByteArray) (bs : List Int) : PS × Int := runTo S t n bs 6
theorem runTo_go {S : PS} {t n : ByteArray} {bs : List Int} {j : Nat} (h : (runTo S t n bs j).2 = 0) : runTo S t n bs (j + 1) = stepF t n bs j (runTo S t n bs j).1 := by
  show (if _ then _ else _) = _
  rw [if_pos h]
theorem runTo_stop {S : PS} {t n : ByteArray} {bs : List Int} {j : Nat} (h : (runTo S t n bs j).2 ≠ 0) : ∀ m, runTo S t n bs (j + m) = runTo S t n bs j
  | 0 => rfl
  | m + 1 => by
    have ih := runTo_stop h m
    show (if (runTo S t n bs (j + m)).2 = 0 then _ else runTo S t n bs (j + m)) = _
    rw [ih, if_neg h]
theorem Sound.stepF {S : PS} {B m : Nat} {t n : ByteArray} {bs : List Int} (h : Sound S B) (hm : 100 ≤ m) (hb : bs.length ≤ m) (hw : ∀ x ∈ bs, 0 ≤ x ∧ x ≤ 255) (j : Nat) : Sound (stepF t n bs j S).1 (B + m) := by
  unfold Disk.stepF
  split
  · unfold pClear
    split
    · exact h.remove.mono (by omega)
    · exact h.mono (by omega)
  · exact h.create.mono (by omega)
  · exact h.append_any hb hw
  · exact h.sync.mono (by omega)
  · exact h.rename.mono (by omega)
  · exact h.syncDir.mono (by omega)
theorem Sound.runTo {S : PS} {B m : Nat} {t n : ByteArray} {bs : List Int} (h : Sound S B) (hm : 100 ≤ m) (hb : bs.length ≤ m) (hw : ∀ x ∈ bs, 0 ≤ x ∧ x ≤ 255) : ∀ j, Sound (runTo S t n bs j).1 (B + m * j)
  | 0 => h
  | j + 1 => by
    have ih := Sound.runTo (t := t) (n := n) h hm hb hw j
    have e : B + m * (j + 1) = B + m * j + m := by rw [Nat.mul_add]; omega
    rw [e]
    show Sound (if _ then _ else _ : PS × Int).1 _
    split
    · exact ih.stepF hm hb hw j
    · exact ih.mono (by omega)
/-- What the closures hold on to. -/
structure Env (w : World) (F : Nat → Prop) (d b0 b1 b2 b3 : Nat) (t n : ByteArray) (A : Option Addr) (c : Nat) (l : List Int) : Prop where
  q0 : w.cell? ⟨b0, 0, none⟩ = some (.pointer (some ⟨d, 0, none⟩))
  q1 : w.cell? ⟨b1, 0, none⟩ = some (.string t)
  q2 : w.cell? ⟨b2, 0, none⟩ = some (.slice A l.length c)
  q3 : w.cell? ⟨b3, 0, none⟩ = some (.string n)
  row : Rd kB w (fun k => ¬ F k) A c l
  n0 : ¬ F b0
  n1 : ¬ F b1
  n2 : ¬ F b2
  n3 : ¬ F b3
theorem Env.chg {w w' : World} {F F' : Nat → Prop} {d b0 b1 b2 b3 : Nat} {t n : ByteArray} {A : Option Addr} {c : Nat} {l : List Int} (h : Env w F d b0 b1 b2 b3 t n A c l) (hc : Chg w F w' F') : Env w' F' d b0 b1 b2 b3 t n A c l := by
  have keep := fun {b : Nat} {x : Value} (hb : ¬ F b) (hq : w.cell? ⟨b, 0, none⟩ = some x) => (World.cell?_of_block (hc.fr.block b (World.block_lt_of_cell? w ⟨b, 0, none⟩ hq) hb)).trans hq
  have out : ∀ {b : Nat} {x : Value}, ¬ F b → w.cell? ⟨b, 0, none⟩ = some x → ¬ F' b := fun {b x} hb hq e => by
    rcases hc.new b e with h1 | h1
    · exact hb h1
    · have h2 := World.block_lt_of_cell? w ⟨b, 0, none⟩ hq
      simp only at h2
      omega
  exact ⟨keep h.n0 h.q0, keep h.n1 h.q1, keep h.n2 h.q2, keep h.n3 h.q3, (h.row.mono (ok' := fun k => ¬ F k ∧ k < w.heap.size) (fun k h1 h2 => ⟨h1, h2⟩)).move (fun k hk hlt => hc.fr.block k hlt hk.1) |>.mono (fun k hk _ e => by
    rcases hc.new k e with h1 | h1
    · exact hk.1 h1
    · have := hk.2; omega), out h.n0 h.q0, out h.n1 h.q1, out h.n2 h.q2, out h.n3 h.q3⟩
end Go.Proofs.YtehhafnjbkbmjaaGreat.Disk

/- objstore: run over the six steps of Put: the walk. -/
namespace Go.Proofs.YtehhafnjbkbmjaaGreat.Disk
open Go Go.RowKit Go.Proofs.YtehhafnjbkbmjaaGreatW.PrintWords Go.Proofs.YtehhafnjbkbmjaaGreatW.PrintLast Go.Proofs.YtehhafnjbkbmjaaGreatW.PrintMore Go.Proofs.YtehhafnjbkbmjaaGreat.PCommitlogSequence
/-- The six closures, in a row. -/
structure Fns (w : World) (F : Nat → Prop) (d b0 b1 b2 b3 g : Nat) : Prop where
  g0 : w.cell? ⟨g, 0, none⟩ = some (Value.func (Fn.func 56) #[] #[.pointer (some ⟨b0, 0, none⟩), .pointer (some ⟨b1, 0, none⟩)])
  g1 : w.cell? ⟨g, 1, none⟩ = some (Value.func (Fn.func 59) #[] #[.pointer (some ⟨b0, 0, none⟩), .pointer (some ⟨b1, 0, none⟩)])
  g2 : w.cell? ⟨g, 2, none⟩ = some (Value.func (Fn.func 60) #[] #[.pointer (some ⟨b0, 0, none⟩), .pointer (some ⟨b1, 0, none⟩), .pointer (some ⟨b2, 0, none⟩)])
  g3 : w.cell? ⟨g, 3, none⟩ = some (Value.func (Fn.func 62) #[] #[.pointer (some ⟨b0, 0, none⟩), .pointer (some ⟨b1, 0, none⟩)])
  g4 : w.cell? ⟨g, 4, none⟩ = some (Value.func (Fn.func 64) #[] #[.pointer (some ⟨b0, 0, none⟩), .pointer (some ⟨b1, 0, none⟩), .pointer (some ⟨b3, 0, none⟩)])
  g5 : w.cell? ⟨g, 5, none⟩ = some (Value.func (Fn.func 66) #[.pointer (some ⟨d, 0, none⟩)] #[])
  ng : ¬ F g
theorem Fns.chg {w w' : World} {F F' : Nat → Prop} {d b0 b1 b2 b3 g : Nat} (h : Fns w F d b0 b1 b2 b3 g) (hc : Chg w F w' F') : Fns w' F' d b0 b1 b2 b3 g := by
  have lt : g < w.heap.size := World.block_lt_of_cell? w ⟨g, 0, none⟩ h.g0
  have keep : ∀ {j : Nat} {x : Value}, w.cell? ⟨g, j, none⟩ = some x → w'.cell? ⟨g, j, none⟩ = some x := fun {j x} hq => (World.cell?_of_block (hc.fr.block g lt h.ng)).trans hq
  refine ⟨keep h.g0, keep h.g1, keep h.g2, keep h.g3, keep h.g4, keep h.g5, fun e => ?_⟩
  rcases hc.new g e with h1 | h1
  · exact h.ng h1
  · omega
def RunRel (w : World) (F : Nat → Prop) (d b0 b1 b2 b3 g : Nat) (S : PS) (t n : ByteArray) (A : Option Addr) (c : Nat) (l bs : List Int) (i : Value) (wx : World) : Prop :=
  ∃ (j : Nat) (F' : Nat → Prop) (L' : Lay), j ≤ 6 ∧ i = .int .i64 j ∧ (runTo S t n bs j).2 = 0 ∧ Rep wx F' d L' (runTo S t n bs j).1 (Live (runTo S t n bs j).1) ∧ Chg w F wx F' ∧ Env wx F' d b0 b1 b2 b3 t n A c l ∧ Fns wx F' d b0 b1 b2 b3 g
theorem run_next0 {w w3 wx : World} {F F' : Nat → Prop} {d b0 b1 b2 b3 g j : Nat} {S : PS} {t n : ByteArray} {A : Option Addr} {c : Nat} {l bs : List Int} (hj : j < 6) (hc : Chg w F wx F') (he : Env wx F' d b0 b1 b2 b3 t n A c l) (hf : Fns wx F' d b0 b1 b2 b3 g) (ha : After wx F' d (runTo S t n bs (j + 1)).1 w3) (h1 : (runTo S t n bs (j + 1)).2 = 0) :
    RunRel w F d b0 b1 b2 b3 g S t n A c l bs (.int .i64 ((j + 1 : Nat) : Int)) w3 := by
  obtain ⟨F3, L3, hr, hc3⟩ := ha
  exact ⟨j + 1, F3, L3, by omega, rfl, h1, hr, hc.trans hc3, he.chg hc3, hf.chg hc3⟩
theorem run_stop {w w3 wx : World} {F F' : Nat → Prop} {d j : Nat} {S : PS} {t n : ByteArray} {bs : List Int} (hj : j < 6) (hc : Chg w F wx F') (ha : After wx F' d (runTo S t n bs (j + 1)).1 w3) (h1 : (runTo S t n bs (j + 1)).2 ≠ 0) : runTo S t n bs (j + 1) = pReplace S t n bs ∧ After w F d (pReplace S t n bs).1 w3 := by
  have e : runTo S t n bs (j + 1) = pReplace S t n bs := by
    have := runTo_stop h1 (6 - (j + 1))
    rw [show j + 1 + (6 - (j + 1)) = 6 by omega] at this
    exact this.symm
  obtain ⟨F3, L3, hr, hc3⟩ := ha
  rw [← e]
  exact ⟨rfl, F3, L3, hr, hc.trans hc3⟩
theorem run_next {w w3 wx : World} {F F' : Nat → Prop} {d b0 b1 b2 b3 g j : Nat} {S : PS} {t n : ByteArray} {A : Option Addr} {c : Nat} {l bs : List Int} {r : PS × Int} {cd : Int} (hj : j < 6) (hc : Chg w F wx F') (he : Env wx F' d b0 b1 b2 b3 t n A c l) (hf : Fns wx F' d b0 b1 b2 b3 g) (hr : r = runTo S t n bs (j + 1)) (hcd : cd = r.2) (ha : After wx F' d r.1 w3) (h1 : (cd != 0) = false) :
    RunRel w F d b0 b1 b2 b3 g S t n A c l bs (.int .i64 ((j + 1 : Nat) : Int)) w3 := by
  subst hr
  subst hcd
  exact run_next0 hj hc he hf ha (by simpa using h1)
theorem run_end {w w3 wx : World} {F F' : Nat → Prop} {d j : Nat} {S : PS} {t n : ByteArray} {bs : List Int} {r : PS × Int} {cd : Int} (hj : j < 6) (hc : Chg w F wx F') (hr : r = runTo S t n bs (j + 1)) (hcd : cd = r.2) (ha : After wx F' d r.1 w3) (h1 : (cd != 0) = true) :
    Ending.returned (.int .i64 cd) = .returned (.int .i64 (pReplace S t n bs).2) ∧ After w F d (pReplace S t n bs).1 w3 := by
  subst hr
  subst hcd
  obtain ⟨e, h⟩ := run_stop hj hc ha (by simpa using h1)
  rw [e] 
  exact ⟨rfl, h⟩
set_option maxHeartbeats 8000000 in
set_option maxRecDepth 100000 in
theorem run6_calls (w : World) (F : Nat → Prop) (d b0 b1 b2 b3 g : Nat) (L : Lay) (S : PS) (B m : Nat) (t n : ByteArray) (A : Option Addr) (c : Nat) (l : List Int) (cap : Nat) (h : Rep w F d L S (Live S)) (hF : ∀ k, F k → k < w.heap.size) (hs : Sound S B) (hm : 100 ≤ m) (hbm : l.length + 4 ≤ m) (hB : B + m * 6 ≤ 549755813888) (hw : ∀ x ∈ l, 0 ≤ x ∧ x ≤ 255) (he : Env w F d b0 b1 b2 b3 t n A c l) (hf : Fns w F d b0 b1 b2 b3 g) :
    Calls Tryz.prog 55 #[.slice (some ⟨g, 0, none⟩) 6 cap] w fun e w' => e = .returned (.int .i64 (pReplace S t n (sealF l)).2) ∧ After w F d (pReplace S t n (sealF l)).1 w' := by
  have H := Lib.hid h
  have HF := Lib.hid hF
  have HS := Lib.hid hs
  have HW := Lib.hid hw
  have HE := Lib.hid he
  have HN := Lib.hid hf
  clear h hF hs hw he hf
  go_enter Tryz.func55, Tryz.ntmps55
  go_wp2
  go_loopw [8] (fun i wx => RunRel w F d b0 b1 b2 b3 g S t n A c l (sealF l) i wx) (fun i _ => 6 - (intOf i).toNat)
  case atStart => exact ⟨0, F, L, by omega, rfl, rfl, H.out, ⟨Fr.refl _ _, fun k hk => .inl hk, HF.out⟩, HE.out, HN.out⟩
  case round =>
    obtain ⟨j, F', L', hj, rfl, h0, hr, hc, he, hf⟩ := hrel
    have HR := Lib.hid hr
    have HC := Lib.hid hc
    have HE' := Lib.hid he
    have HN' := Lib.hid hf
    have HZ := Lib.hid h0
    have HSJ := Lib.hid (HS.out.runTo (t := t) (n := n) (bs := sealF l) hm (by rw [sealF_length]; exact hbm) (sealF_ok HW.out) j)
    have hbj : B + m * j ≤ 549755813888 := Nat.le_trans (Nat.add_le_add_left (Nat.mul_le_mul_left m hj) B) hB
    have HGO := Lib.hid (runTo_go h0)
    clear hr hc he hf h0
    by_cases hlt : j < 6
    · obtain ⟨Sj, hSj⟩ : ∃ Sj, Sj = (runTo S t n (sealF l) j).1 := ⟨_, rfl⟩
      rw [← hSj] at HR HSJ HGO
      clear hSj
      obtain ⟨r, hr⟩ : ∃ r, r = runTo S t n (sealF l) (j + 1) := ⟨_, rfl⟩
      have HRR := Lib.hid hr
      rw [← hr] at HGO
      clear hr
      obtain rfl | rfl | rfl | rfl | rfl | rfl : j = 0 ∨ j = 1 ∨ j = 2 ∨ j = 3 ∨ j = 4 ∨ j = 5 := by omega
      · have q0 := HN'.out.g0
        have HGO' := Lib.hid (show r = pClear Sj t from HGO.out)
        go_wp2_with (first | (go_at_call 56; refine (step1_calls _ F' d L' Sj _ b0 b1 t HR.out HSJ.out.good hbj HE'.out.q0 HE'.out.q1).mono ?_; rw [← HGO'.out]; rintro e w3 ⟨rfl, ha⟩; have HA := Lib.hid ha; clear ha; obtain ⟨cd, hcd⟩ : ∃ cd, cd = r.2 := ⟨_, rfl⟩; rw [← hcd]; have HCD := Lib.hid hcd; clear hcd) | fail)
        · go_ret
          exact run_end hlt HC.out HRR.out HCD.out HA.out (by assumption)
        · exact ⟨run_next hlt HC.out HE'.out HN'.out HRR.out HCD.out HA.out (by assumption), by simp [intOf]⟩
      · have q0 := HN'.out.g1
        have HGO' := Lib.hid (show r = pCreate Sj t from HGO.out)
        go_wp2_with (first | (go_at_call 59; refine (step2_calls _ F' d L' Sj _ b0 b1 t HR.out HSJ.out.good hbj HE'.out.q0 HE'.out.q1).mono ?_; rw [← HGO'.out]; rintro e w3 ⟨rfl, ha⟩; have HA := Lib.hid ha; clear ha; obtain ⟨cd, hcd⟩ : ∃ cd, cd = r.2 := ⟨_, rfl⟩; rw [← hcd]; have HCD := Lib.hid hcd; clear hcd) | fail)
        · go_ret
          exact run_end hlt HC.out HRR.out HCD.out HA.out (by assumption)
        · exact ⟨run_next hlt HC.out HE'.out HN'.out HRR.out HCD.out HA.out (by assumption), by simp [intOf]⟩
      · have q0 := HN'.out.g2
        have HGO' := Lib.hid (show r = pAppend Sj t (sealF l) from HGO.out)
        go_wp2_with (first | (go_at_call 60; refine (step3_calls _ F' d L' Sj _ b0 b1 b2 t A c l HR.out HSJ.out.good hbj HE'.out.n0 HE'.out.n1 HE'.out.n2 HE'.out.q0 HE'.out.q1 HE'.out.q2 HE'.out.row.now (by omega) HW.out).mono ?_; rw [← HGO'.out]; rintro e w3 ⟨rfl, ha⟩; have HA := Lib.hid ha; clear ha; obtain ⟨cd, hcd⟩ : ∃ cd, cd = r.2 := ⟨_, rfl⟩; rw [← hcd]; have HCD := Lib.hid hcd; clear hcd) | fail)
        · go_ret
          exact run_end hlt HC.out HRR.out HCD.out HA.out (by assumption)
        · exact ⟨run_next hlt HC.out HE'.out HN'.out HRR.out HCD.out HA.out (by assumption), by simp [intOf]⟩
      · have q0 := HN'.out.g3
        have HGO' := Lib.hid (show r = pSync Sj t from HGO.out)
        go_wp2_with (first | (go_at_call 62; refine (step4_calls _ F' d L' Sj _ b0 b1 t HR.out HSJ.out.good hbj HE'.out.q0 HE'.out.q1).mono ?_; rw [← HGO'.out]; rintro e w3 ⟨rfl, ha⟩; have HA := Lib.hid ha; clear ha; obtain ⟨cd, hcd⟩ : ∃ cd, cd = r.2 := ⟨_, rfl⟩; rw [← hcd]; have HCD := Lib.hid hcd; clear hcd) | fail)
        · go_ret
          exact run_end hlt HC.out HRR.out HCD.out HA.out (by assumption)
        · exact ⟨run_next hlt HC.out HE'.out HN'.out HRR.out HCD.out HA.out (by assumption), by simp [intOf]⟩
      · have q0 := HN'.out.g4
        have HGO' := Lib.hid (show r = pRename Sj t n from HGO.out)
        go_wp2_with (first | (go_at_call 64; refine (step5_calls _ F' d L' Sj _ b0 b1 b3 t n HR.out HSJ.out.good hbj HE'.out.q0 HE'.out.q1 HE'.out.q3).mono ?_; rw [← HGO'.out]; rintro e w3 ⟨rfl, ha⟩; have HA := Lib.hid ha; clear ha; obtain ⟨cd, hcd⟩ : ∃ cd, cd = r.2 := ⟨_, rfl⟩; rw [← hcd]; have HCD := Lib.hid hcd; clear hcd) | fail)
        · go_ret
          exact run_end hlt HC.out HRR.out HCD.out HA.out (by assumption)
        · exact ⟨run_next hlt HC.out HE'.out HN'.out HRR.out HCD.out HA.out (by assumption), by simp [intOf]⟩
      · have q0 := HN'.out.g5
        have HGO' := Lib.hid (show r = pSyncDir Sj from HGO.out)
        go_wp2_with (first | (go_at_call 66; refine (SyncDir_calls _ F' d L' Sj _ HR.out HSJ.out.good hbj).mono ?_; rw [← HGO'.out]; rintro e w3 ⟨rfl, ha⟩; have HA := Lib.hid ha; clear ha; obtain ⟨cd, hcd⟩ : ∃ cd, cd = r.2 := ⟨_, rfl⟩; rw [← hcd]; have HCD := Lib.hid hcd; clear hcd) | fail)
        · go_ret
          exact run_end hlt HC.out HRR.out HCD.out HA.out (by assumption)
        · exact ⟨run_next hlt HC.out HE'.out HN'.out HRR.out HCD.out HA.out (by assumption), by simp [intOf]⟩
    · obtain rfl : j = 6 := by omega
      go_wp2_with fail
      go_ret
      have e : (pReplace S t n (sealF l)).2 = 0 := HZ.out
      rw [e]
      exact ⟨rfl, F', L', HR.out, HC.out⟩
end Go.Proofs.YtehhafnjbkbmjaaGreat.Disk

/- objstore: Put. -/
namespace Go.Proofs.YtehhafnjbkbmjaaGreat.Disk
open Go Go.RowKit Go.Proofs.YtehhafnjbkbmjaaGreatW.PrintWords Go.Proofs.YtehhafnjbkbmjaaGreatW.PrintLast Go.Proofs.YtehhafnjbkbmjaaGreatW.PrintMore Go.Proofs.YtehhafnjbkbmjaaGreat.PCommitlogSequence
/-- The name of the file that an object is written to first. -/
def tmpOf (n : ByteArray) : ByteArray := sTmp ++ n
def pPut (S : PS) (n : ByteArray) (l : List Int) : PS × Int :=
  if okObj n = false then (S, 1) else if pHas S n then (S, 9) else pReplace S (tmpOf n) n (sealF l)
theorem Put_nil (w : World) (n : ByteArray) (A : Option Addr) (k c : Nat) : Calls Tryz.prog 16 #[.pointer none, .string n, .slice A k c] w fun e w' => e = .returned (.int .i64 1) ∧ Below w.heap.size w w' := by
  go_enter Tryz.func16, Tryz.ntmps16
  go_wp2_with fail
  go_ret
  exact ⟨rfl, (((Below.refl _ _).alloc (Nat.le_refl _) _).alloc (by simp) _).alloc (by simp; omega) _⟩
theorem cell_new {w : World} {x : Value} {t k : Nat} (hk : k = w.heap.size) : (w.alloc (.cells #[x] t)).cell? ⟨k, 0, none⟩ = some x := by
  subst hk
  exact cell_blk (heap_alloc_new w (.cells #[x] t)) 0
theorem boxes {w w1 : World} {x y z : Value} {tx ty tz : Nat} (hd : Drawn0 (((w.alloc (.cells #[x] tx)).alloc (.cells #[y] ty)).alloc (.cells #[z] tz)) w1) :
    w1.cell? ⟨w.heap.size, 0, none⟩ = some x ∧ w1.cell? ⟨w.heap.size + 1, 0, none⟩ = some y ∧ w1.cell? ⟨w.heap.size + 1 + 1, 0, none⟩ = some z :=
  ⟨(drawn_cell hd _).trans (cell_alloc (cell_alloc (cell_new rfl) _) _), (drawn_cell hd _).trans (cell_alloc (cell_new (by simp)) _), (drawn_cell hd _).trans (cell_new (by simp))⟩
theorem okObj_size {n : ByteArray} (h : okObj n = true) : n.size ≤ 60 := by
  unfold okObj at h
  simp only [Bool.and_eq_true, decide_eq_true_eq] at h
  omega
def sixFns (d b0 b1 b2 b3 : Nat) : Array Value := #[Value.func (Fn.func 56) #[] #[.pointer (some ⟨b0, 0, none⟩), .pointer (some ⟨b1, 0, none⟩)], Value.func (Fn.func 59) #[] #[.pointer (some ⟨b0, 0, none⟩), .pointer (some ⟨b1, 0, none⟩)], Value.func (Fn.func 60) #[] #[.pointer (some ⟨b0, 0, none⟩), .pointer (some ⟨b1, 0, none⟩), .pointer (some ⟨b2, 0, none⟩)], Value.func (Fn.func 62) #[] #[.pointer (some ⟨b0, 0, none⟩), .pointer (some ⟨b1, 0, none⟩)], Value.func (Fn.func 64) #[] #[.pointer (some ⟨b0, 0, none⟩), .pointer (some ⟨b1, 0, none⟩), .pointer (some ⟨b3, 0, none⟩)], Value.func (Fn.func 66) #[.pointer (some ⟨d, 0, none⟩)] #[]]
theorem put_env {w w2 W : World} {F : Nat → Prop} {d : Nat} {n t : ByteArray} {A : Option Addr} {c : Nat} {l : List Int} {ts tf : Nat} (hF : ∀ k, F k → k < w.heap.size) (hr : Rd kB w (fun k => ¬ F k) A c l) (hfr : Fr (fun _ => False) w w2)
    (r0 : w2.cell? ⟨w.heap.size, 0, none⟩ = some (.pointer (some ⟨d, 0, none⟩))) (r1 : w2.cell? ⟨w.heap.size + 1, 0, none⟩ = some (.string n)) (r2 : w2.cell? ⟨w.heap.size + 1 + 1, 0, none⟩ = some (.slice A l.length c))
    (hW : W = (w2.alloc (.cells #[.string t] ts)).alloc (.cells (sixFns d w.heap.size w2.heap.size (w.heap.size + 1 + 1) (w.heap.size + 1)) tf)) :
    Env W F d w.heap.size w2.heap.size (w.heap.size + 1 + 1) (w.heap.size + 1) t n A c l ∧ Fns W F d w.heap.size w2.heap.size (w.heap.size + 1 + 1) (w.heap.size + 1) (w2.heap.size + 1) ∧ Fr (fun _ => False) w W := by
  subst hW
  have hs : w.heap.size + 1 + 1 < w2.heap.size := World.block_lt_of_cell? w2 ⟨w.heap.size + 1 + 1, 0, none⟩ r2
  have hfr' := (hfr.alloc (.cells #[.string t] ts)).alloc (.cells (sixFns d w.heap.size w2.heap.size (w.heap.size + 1 + 1) (w.heap.size + 1)) tf)
  have six : ∀ j, ((w2.alloc (.cells #[.string t] ts)).alloc (.cells (sixFns d w.heap.size w2.heap.size (w.heap.size + 1 + 1) (w.heap.size + 1)) tf)).cell? ⟨w2.heap.size + 1, j, none⟩ = (sixFns d w.heap.size w2.heap.size (w.heap.size + 1 + 1) (w.heap.size + 1))[j]? := fun j => by
    have h := heap_alloc_new (w2.alloc (.cells #[.string t] ts)) (.cells (sixFns d w.heap.size w2.heap.size (w.heap.size + 1 + 1) (w.heap.size + 1)) tf)
    rw [show (w2.alloc (.cells #[.string t] ts)).heap.size = w2.heap.size + 1 by simp] at h
    exact cell_blk h j
  have nf : ∀ k, w.heap.size ≤ k → ¬ F k := fun k hk hf => by have := hF k hf; omega
  exact ⟨⟨cell_alloc (cell_alloc r0 _) _, cell_alloc (cell_new rfl) _, cell_alloc (cell_alloc r2 _) _, cell_alloc (cell_alloc r1 _) _, hr.below (fr_below hfr'), nf _ (by omega), nf _ (by omega), nf _ (by omega), nf _ (by omega)⟩,
    ⟨six 0, six 1, six 2, six 3, six 4, six 5, nf _ (by omega)⟩, hfr'⟩
theorem rep_boxes {w w1 : World} {F : Nat → Prop} {d : Nat} {L : Lay} {S : PS} {x y z : Obj} (h : Rep w F d L S (Live S)) (hd : Drawn0 (((w.alloc x).alloc y).alloc z) w1) : Rep w1 F d L S (Live S) := (((h.alloc x).alloc y).alloc z).drawn hd
set_option maxHeartbeats 4000000 in
theorem Put_calls (w : World) (F : Nat → Prop) (d : Nat) (L : Lay) (S : PS) (B m : Nat) (n : ByteArray) (A : Option Addr) (c : Nat) (l : List Int) (h : Rep w F d L S (Live S)) (hF : ∀ k, F k → k < w.heap.size) (hs : Sound S B) (hm : 100 ≤ m) (hbm : l.length + 4 ≤ m) (hB : B + m * 6 ≤ 549755813888) (hw : ∀ x ∈ l, 0 ≤ x ∧ x ≤ 255) (hr : Rd kB w (fun k => ¬ F k) A c l) :
    Calls Tryz.prog 16 #[.pointer (some ⟨d, 0, none⟩), .string n, .slice A l.length c] w fun e w' => e = .returned (.int .i64 (pPut S n l).2) ∧ After w F d (pPut S n l).1 w' := by
  have H := Lib.hid h
  have HF := Lib.hid hF
  have HS := Lib.hid hs
  have HW := Lib.hid hw
  have HR := Lib.hid hr
  clear h hF hs hw hr
  cases ho : okObj n
  · have HO := Lib.hid ho
    have HP := Lib.hid (show pPut S n l = (S, 1) by unfold pPut; rw [ho]; rfl)
    clear ho
    go_enter Tryz.func16, Tryz.ntmps16
    go_wp2_with (first | (go_at_call 54; refine (object_calls _ n).mono ?_; rw [HO.out]; rintro e w1 ⟨rfl, hd⟩; have HD := Lib.hid hd; clear hd) | fail)
    go_ret
    rw [HP.out]
    have hfr := ((((Fr.refl (fun _ => False) w).alloc (.cells #[.pointer (some ⟨d, 0, none⟩)] 25)).alloc (.cells #[.string n] 9)).alloc (.cells #[.slice A l.length c] 36)).drawn HD.out
    exact ⟨rfl, After.same (H.out.fr hfr (fun _ _ e => e)) hfr⟩
  · have HO := Lib.hid ho
    have hn60 := okObj_size ho
    clear ho
    have HE := Lib.hid (show pExists S n = pHas S n by unfold pExists; rw [HO.out]; rfl)
    cases hh : pHas S n
    · have HH := Lib.hid hh
      clear hh
      go_enter Tryz.func16, Tryz.ntmps16
      go_wp2_with (first
        | (go_at_call 54; refine (object_calls _ n).mono ?_; rw [HO.out]; rintro e w1 ⟨rfl, hd⟩; have HD := Lib.hid hd; obtain ⟨q0, q1, q2⟩ := boxes hd; clear hd)
        | (go_at_call 22; refine (Exists_calls _ F d L S B n (rep_boxes H.out HD.out) HS.out.good (by omega)).mono ?_; rw [HE.out, HH.out]; rintro e w2 ⟨rfl, hf⟩; have HF2 := Lib.hid hf; have r0 := cell_below (fr_below hf) q0; have r1 := cell_below (fr_below hf) q1; have r2 := cell_below (fr_below hf) q2; have s0 := fun o => cell_alloc r0 o; have HE2 := Lib.hid (put_env (t := tmpOf n) (ts := 9) (tf := 111) HF.out HR.out (((((Fr.refl _ w).alloc _).alloc _).alloc _).drawn HD.out |>.trans hf (fun _ => .inl)) r0 r1 r2 rfl); clear q0 q1 q2 hf r2)
        | (go_at_call 55; refine (run6_calls _ F d w.heap.size w2.heap.size (w.heap.size + 1 + 1) (w.heap.size + 1) (w2.heap.size + 1) L S B m (tmpOf n) n A c l 6 (H.out.fr HE2.out.2.2 (fun _ _ e => e)) (fun k hk => Nat.lt_of_lt_of_le (HF.out k hk) HE2.out.2.2.size) HS.out hm hbm hB HW.out HE2.out.1 HE2.out.2.1).mono ?_; rintro e w3 ⟨rfl, ha⟩; have HA := Lib.hid ha; clear ha)
        | fail)
      go_ret
      have hp : pPut S n l = pReplace S (tmpOf n) n (sealF l) := by unfold pPut; rw [HO.out, HH.out]; rfl
      rw [hp]
      exact ⟨rfl, HA.out.behind (HE2.out.2.2.mono (fun _ hk => hk.elim)) (fun _ => .inl)⟩
    · have HH := Lib.hid hh
      clear hh
      go_enter Tryz.func16, Tryz.ntmps16
      go_wp2_with (first
        | (go_at_call 54; refine (object_calls _ n).mono ?_; rw [HO.out]; rintro e w1 ⟨rfl, hd⟩; have HD := Lib.hid hd; obtain ⟨q0, q1, q2⟩ := boxes hd; clear hd)
        | (go_at_call 22; refine (Exists_calls _ F d L S B n (rep_boxes H.out HD.out) HS.out.good (by omega)).mono ?_; rw [HE.out, HH.out]; rintro e w2 ⟨rfl, hf⟩; have HF2 := Lib.hid (((((Fr.refl (fun _ => False) w).alloc _).alloc _).alloc _).drawn HD.out |>.trans hf (fun _ => .inl)); clear q0 q1 q2 hf)
        | fail)
      go_ret
      have hp : pPut S n l = (S, 9) := by unfold pPut; rw [HO.out, HH.out]; rfl
      rw [hp]
      exact ⟨rfl, After.same (H.out.fr HF2.out (fun _ _ e => e)) HF2.out⟩
end Go.Proofs.YtehhafnjbkbmjaaGreat.Disk

/- objstore: Get. -/
namespace Go.Proofs.YtehhafnjbkbmjaaGreat.Disk
open Go Go.RowKit Go.Proofs.YtehhafnjbkbmjaaGreatW.PrintWords Go.Proofs.YtehhafnjbkbmjaaGreatW.PrintLast Go.Proofs.YtehhafnjbkbmjaaGreatW.PrintMore Go.Proofs.YtehhafnjbkbmjaaGreat.PCommitlogSequence
def pGet (S : PS) (n : ByteArray) : List Int × Int :=
  if pExists S n = false then ([], 15) else if (pRead S n).2 ≠ 0 then ([], (pRead S n).2) else if (openF (pRead S n).1).2 ≠ 0 then ([], 19) else ((openF (pRead S n).1).1, 0)
theorem pRead_ok {S : PS} {B : Nat} (hg : Good S B) (n : ByteArray) : (pRead S n).1.length ≤ B ∧ ∀ x ∈ (pRead S n).1, 0 ≤ x ∧ x ≤ 255 := by
  unfold pRead
  split
  · split
    · rename_i i hi
      have hm := fileAt_mem (hg.range i (live_look hi))
      exact ⟨hg.nBytes _ hm, hg.bytes _ hm⟩
    · exact ⟨Nat.zero_le _, fun x hx => by simp at hx⟩
  · exact ⟨Nat.zero_le _, fun x hx => by simp at hx⟩
set_option maxHeartbeats 4000000 in
theorem Get_calls (w : World) (F : Nat → Prop) (d : Nat) (L : Lay) (S : PS) (B : Nat) (n : ByteArray) (h : Rep w F d L S (Live S)) (hg : Good S B) (hB : B ≤ 549755813888) :
    Calls Tryz.prog 17 #[.pointer (some ⟨d, 0, none⟩), .string n] w fun e w' => ∃ v, e = .returned (.tuple #[v, .int .i64 (pGet S n).2]) ∧ w'.ownsRow w.heap.size 5 1 v (pGet S n).1.length (nums .u8 (pGet S n).1) ∧ Fr (fun _ => False) w w' := by
  have hrl := (pRead_ok hg n).1
  have HRW := Lib.hid (pRead_ok hg n).2
  have H := Lib.hid h
  have HG := Lib.hid hg
  clear h hg
  cases hx : pExists S n
  · have HX := Lib.hid hx
    have HP := Lib.hid (show pGet S n = ([], 15) by unfold pGet; rw [hx]; rfl)
    clear hx
    go_enter Tryz.func17, Tryz.ntmps17
    go_wp2_with (first | (go_at_call 22; refine (Exists_calls _ F d L S B n H.out HG.out hB).mono ?_; rw [HX.out]; rintro e w1 ⟨rfl, hf⟩; have HF := Lib.hid hf; clear hf) | fail)
    go_ret2
    rw [HP.out]
    exact ⟨_, rfl, World.ownsRow_nil _ _ _ _, HF.out⟩
  · have HX := Lib.hid hx
    obtain ⟨r, hr⟩ : ∃ r, r = pRead S n := ⟨_, rfl⟩
    obtain ⟨rl, rc⟩ := r
    rw [← hr] at hrl HRW
    have HR := Lib.hid hr
    by_cases hc : rc = 0
    · subst hc
      obtain ⟨o, ho⟩ : ∃ o, o = openF rl := ⟨_, rfl⟩
      obtain ⟨ol, oc⟩ := o
      have HO := Lib.hid ho
      by_cases hoc : oc = 0
      · subst hoc
        have HP := Lib.hid (show pGet S n = (ol, 0) by unfold pGet; rw [hx, ← hr]; simp only [← ho]; rfl)
        clear hx hr ho
        go_enter Tryz.func17, Tryz.ntmps17
        go_wp2_with (first
          | (go_at_call 22; refine (Exists_calls _ F d L S B n H.out HG.out hB).mono ?_; rw [HX.out]; rintro e w1 ⟨rfl, hf⟩; have HF := Lib.hid hf; clear hf)
          | (go_at_call 14; refine (Read_calls _ F d L S B n (H.out.fr HF.out (fun _ _ e => e)) HG.out hB).mono ?_; rw [← HR.out]; rintro e w2 ⟨v, rfl, hown, hf2⟩; obtain ⟨A2, c2, rfl, hC2⟩ := own_bytes hown; have hcap := own_cap hown; have HC2 := Lib.hid hC2; have HF2 := Lib.hid (HF.out.trans hf2 (fun _ hk => .inl hk)); clear hown hC2 hf2)
          | (go_at_call 67; refine (Open_calls _ A2 c2 rl HC2.out hcap (Nat.le_trans hrl (by omega)) HRW.out).mono ?_; rw [← HO.out]; rintro e w3 ⟨v3, rfl, hown3, hb3⟩; have HO3 := Lib.hid (own_weaken hown3 HF2.out.size); have HF3 := Lib.hid (HF2.out.below hb3); clear hown3 hb3)
          | fail)
        go_ret2
        rw [HP.out]
        exact ⟨_, rfl, HO3.out, HF3.out⟩
      · have HP := Lib.hid (show pGet S n = ([], 19) by unfold pGet; rw [hx, ← hr]; simp only [← ho]; rw [if_pos hoc]; rfl)
        have hne : (oc != 0) = true := by simpa using hoc
        clear hx hr ho hoc
        go_enter Tryz.func17, Tryz.ntmps17
        go_wp2_with (first
          | (go_at_call 22; refine (Exists_calls _ F d L S B n H.out HG.out hB).mono ?_; rw [HX.out]; rintro e w1 ⟨rfl, hf⟩; have HF := Lib.hid hf; clear hf)
          | (go_at_call 14; refine (Read_calls _ F d L S B n (H.out.fr HF.out (fun _ _ e => e)) HG.out hB).mono ?_; rw [← HR.out]; rintro e w2 ⟨v, rfl, hown, hf2⟩; obtain ⟨A2, c2, rfl, hC2⟩ := own_bytes hown; have hcap := own_cap hown; have HC2 := Lib.hid hC2; have HF2 := Lib.hid (HF.out.trans hf2 (fun _ hk => .inl hk)); clear hown hC2 hf2)
          | (go_at_call 67; refine (Open_calls _ A2 c2 rl HC2.out hcap (Nat.le_trans hrl (by omega)) HRW.out).mono ?_; rw [← HO.out]; rintro e w3 ⟨v3, rfl, hown3, hb3⟩; have HF3 := Lib.hid (HF2.out.below hb3); clear hown3 hb3)
          | fail)
        go_ret2
        rw [HP.out]
        exact ⟨_, rfl, World.ownsRow_nil _ _ _ _, HF3.out⟩
    · have HP := Lib.hid (show pGet S n = ([], rc) by unfold pGet; rw [hx, ← hr]; simp only; rw [if_pos hc]; rfl)
      have hne : (rc != 0) = true := by simpa using hc
      clear hx hr hc
      go_enter Tryz.func17, Tryz.ntmps17
      go_wp2_with (first
        | (go_at_call 22; refine (Exists_calls _ F d L S B n H.out HG.out hB).mono ?_; rw [HX.out]; rintro e w1 ⟨rfl, hf⟩; have HF := Lib.hid hf; clear hf)
        | (go_at_call 14; refine (Read_calls _ F d L S B n (H.out.fr HF.out (fun _ _ e => e)) HG.out hB).mono ?_; rw [← HR.out]; rintro e w2 ⟨v, rfl, hown, hf2⟩; have HF2 := Lib.hid (HF.out.trans hf2 (fun _ hk => .inl hk)); clear hown hf2)
        | fail)
      go_ret2
      rw [HP.out]
      exact ⟨_, rfl, World.ownsRow_nil _ _ _ _, HF2.out⟩
end Go.Proofs.YtehhafnjbkbmjaaGreat.Disk

/- objstore: the rows of names that List and RemoveTemporary make. -/
namespace Go.Proofs.YtehhafnjbkbmjaaGreat.Disk
open Go.Proofs.YtehhafnjbkbmjaaGreat.PObjstoreSequence (objstore_object.f objstore_object.l0 objstore_object.j0 objstore_object.calls strings_HasPrefix.f strings_HasPrefix.calls stringslite_HasPrefix.f)
open Go Go.RowKit Go.Proofs.YtehhafnjbkbmjaaGreatW.PrintWords Go.Proofs.YtehhafnjbkbmjaaGreatW.PrintLast Go.Proofs.YtehhafnjbkbmjaaGreatW.PrintMore Go.Proofs.YtehhafnjbkbmjaaGreat.PCommitlogSequence
theorem drawn_ex {w w' : World} (h : Drawn0 w w') : ∃ q, w' = w.drewN q := by
  obtain ⟨n, rfl⟩ := h.out
  exact ⟨n, rfl⟩
theorem notObj_calls (w : World) (n : ByteArray) : Calls Tryz.prog 70 #[.string n] w fun e w' => e = .returned (.bool (!okObj n)) ∧ ∃ q, w' = w.drewN q := by
  go_enter Tryz.func70, Tryz.ntmps70
  go_wp2_with (first | (go_at_call 54; refine (object_calls _ n).mono ?_; rintro e w1 ⟨rfl, hd⟩; have HD := Lib.hid hd; clear hd) | fail)
  go_ret
  exact ⟨rfl, drawn_ex HD.out⟩
theorem notTmp_calls (w : World) (n : ByteArray) : Calls Tryz.prog 75 #[.string n] w fun e w' => e = .returned (.bool (!isTmp n)) ∧ ∃ q, w' = w.drewN q := by
  go_enter Tryz.func75, Tryz.ntmps75
  go_wp2_with (first | (go_at_call 76; refine (strings_HasPrefix.calls n sTmp _ w (prefix_f n)).mono ?_; rintro e w1 ⟨rfl, hd⟩; have HD := Lib.hid hd; clear hd) | fail)
  go_ret
  exact ⟨rfl, drawn_ex HD.out⟩
theorem putRow_block {α : Type} [Inhabited α] (enc : α → Value) (w : World) (q g : Nat) (d : Array α) {cur : Array Value} {t : Nat} {fz : Nat × Nat} (hb : w.heap[g]? = some (.cells cur t fz)) :
    (Sort.putRow enc (Sort.ahead w q) g 0 d).heap[g]? = some (.cells (Sort.putCells enc 0 d cur) t fz) := by
  have h : (Sort.ahead w q).heap[g]? = some (.cells cur t fz) := hb
  simp only [Sort.putRow, Sort.mapBlock, Array.getElem?_modify, if_true, h, Option.map_some]
  rfl
theorem putRow_below {α : Type} [Inhabited α] (enc : α → Value) (w : World) (q g : Nat) (d : Array α) {B : Nat} (hB : B ≤ g) : Below B w (Sort.putRow enc (Sort.ahead w q) g 0 d) :=
  ⟨rfl, rfl, rfl, by rw [Sort.size_putRow]; exact Nat.le_refl _, fun k hk => by
    have e : g ≠ k := by omega
    simp only [Sort.putRow, Sort.mapBlock, Array.getElem?_modify, if_neg e]
    rfl⟩
theorem putCells_take (ks : List ByteArray) (m : Nat) (cur : Array Value) (hc : ks.length + m ≤ cur.size) : (Sort.putCells Value.string 0 (ks ++ List.replicate m ByteArray.empty).toArray cur).toList.take ks.length = pw_strs ks := by
  apply List.ext_getElem?
  intro j
  rw [List.getElem?_take]
  by_cases hj : j < ks.length
  · rw [if_pos hj]
    have h1 : j < cur.size := by omega
    simp [Sort.putCells, pw_strs, h1, hj, List.getElem?_append_left, getElem!_def]
    omega
  · rw [if_neg hj, eq_comm, List.getElem?_eq_none_iff]
    simp only [pw_strs, List.length_map]
    omega
theorem keep_own {w : World} {base g cap q m : Nat} {cur : Array Value} {ks : List ByteArray} (hb : w.heap[g]? = some (.cells cur 9 (0, 0))) (hg : base ≤ g) (hc : ks.length + m ≤ cap) (hcm : cap ≤ maxLen) (hs : cur.size = cap * 1) :
    (Sort.putRow Value.string (Sort.ahead w q) g 0 (ks ++ List.replicate m ByteArray.empty).toArray).ownsRow base 9 1 (.slice (some ⟨g, 0, none⟩) ks.length cap) ks.length (pw_strs ks) :=
  ⟨by simp [pw_strs], .inr ⟨g, cap, _, rfl, hg, putRow_block _ _ _ _ _ hb, by omega, hcm, by simp [Sort.putCells, hs], by rw [Nat.mul_one]; exact putCells_take ks m cur (by omega)⟩⟩
theorem pw_at (zs : List ByteArray) (j : Nat) (hj : j < zs.length) : (pw_strs zs)[j]? = some (.string (zs.toArray[j]!)) := by
  simp [pw_strs, hj]
/-- slices.DeleteFunc on a row of names of our own: those that p keeps. -/
theorem keep_calls (w : World) (base : Nat) (v : Value) (zs : List ByteArray) (p : ByteArray → Bool) (pg : Nat) (eg : ∀ args w, (callFunc pg args).run Tryz.prog w = .ok (.enter pg args) w)
    (hp : ∀ (W : World) (x : ByteArray), Calls Tryz.prog pg #[.string x] W fun e w' => e = .returned (.bool (!p x)) ∧ ∃ q, w' = W.drewN q) (h : w.ownsRow base 9 1 v zs.length (pw_strs zs)) :
    Calls Tryz.prog 68 #[v, .func (.func pg) #[] #[]] w fun e w' => ∃ v', e = .returned v' ∧ w'.ownsRow base 9 1 v' (zs.filter p).length (pw_strs (zs.filter p)) ∧ Below base w w' := by
  rcases h.2 with ⟨h1, h2⟩ | ⟨g, cap, cur, h1, hg, hb, hn, hcm, hs, ht⟩
  · obtain rfl : zs = [] := List.eq_nil_of_length_eq_zero h2
    subst h1
    go_enter Tryz.func68, Tryz.ntmps68
    go_wp2_with (first | (go_at_call 109; refine (Tryz.slices_IndexFunc_empty (α := Unit) _ _ _ _).mono ?_; rintro e w1 ⟨rfl, rfl⟩) | fail)
    go_ret
    exact ⟨_, rfl, World.ownsRow_nil _ _ _ _, Below.refl _ _⟩
  · subst h1
    have hH : Sort.Holds Value.string w g 0 zs.toArray := fun j hj => by
      have hj' : j < zs.length := by simpa using hj
      rw [Nat.zero_add]
      refine ⟨?_, frozen_blk hb j⟩
      rw [cell_blk hb j]
      have e := pw_at zs j hj'
      rw [← ht, List.getElem?_take, if_pos (by omega)] at e
      simpa using e
    have hcon := Tryz.slices_DeleteFunc Value.string (fun _ => rfl) (fun x => !p x) pg #[] eg ByteArray.empty (fun _ => by kernel_rfl) g 0 cap zs.toArray w (fun W x _ => hp W x) (fun n os dk x _ => hp _ x) hH (by unfold maxLen at hcm; simp; omega) (by simpa using hn)
    have e2 : (zs.toArray.toList.filter fun x => !!p x) = zs.filter p := by simp
    rw [e2, List.size_toArray] at hcon
    refine hcon.mono ?_
    rintro e w' ⟨rfl, q, rfl⟩
    have hle : (zs.filter p).length ≤ zs.length := List.length_filter_le _ _
    exact ⟨_, rfl, keep_own hb hg (by omega) hcm hs, putRow_below _ _ _ _ _ hg⟩
end Go.Proofs.YtehhafnjbkbmjaaGreat.Disk

/- objstore: List. -/
namespace Go.Proofs.YtehhafnjbkbmjaaGreat.Disk
open Go Go.RowKit Go.Proofs.YtehhafnjbkbmjaaGreatW.PrintWords Go.Proofs.YtehhafnjbkbmjaaGreatW.PrintLast Go.Proofs.YtehhafnjbkbmjaaGreatW.PrintMore Go.Proofs.YtehhafnjbkbmjaaGreat.PCommitlogSequence
/-- slices.Clone of a row of names. -/
theorem cloneS_calls (w : World) (base : Nat) (v : Value) (zs : List ByteArray) (h : w.ownsRow base 9 1 v zs.length (pw_strs zs)) (hl : zs.length ≤ 1099511627776) :
    Calls Tryz.prog 69 #[v] w fun e w' => ∃ v', e = .returned v' ∧ w'.ownsRow w.heap.size 9 1 v' zs.length (pw_strs zs) ∧ Below w.heap.size w w' := by
  rcases h.2 with ⟨h1, h2⟩ | ⟨g, cap, cur, h1, _⟩
  · obtain rfl : zs = [] := List.eq_nil_of_length_eq_zero h2
    subst h1
    refine (Tryz.slices_Clone_string_nil 0 0 w).mono ?_
    rintro e w' ⟨rfl, rfl⟩
    exact ⟨_, rfl, World.ownsRow_nil _ _ _ _, Below.refl _ _⟩
  · subst h1
    refine (Tryz.slices_Clone_string g 0 zs.length cap zs w (Nat.le_refl _) (by omega) (fun j hj => by
      have := h.cells (g := g) rfl j (.string (zs.getD j ByteArray.empty)) (by simp [pw_strs, List.getD, hj])
      rw [Addr.add_lit] at this
      exact this)).mono ?_
    rintro e w' ⟨v', rfl, ho, _, hb⟩
    rw [List.take_length] at ho
    exact ⟨_, rfl, ho, hb⟩
def pDirNames (S : PS) : List ByteArray := S.dir.map (·.f0)
def pObjs (S : PS) : List ByteArray := (pDirNames S).filter okObj
def pTmps (S : PS) : List ByteArray := (pDirNames S).filter isTmp
theorem fr_base {w w' : World} {base : Nat} (h : Below base w w') (_hs : base ≤ w.heap.size) : Fr (fun k => base ≤ k) w w' := ⟨h.os, h.tape, h.output, h.size, fun k _ hk => h.block k (by omega)⟩
theorem dirNames_length {S : PS} {B : Nat} (hg : Good S B) (hB : B ≤ 549755813888) : (pDirNames S).length ≤ 1099511627776 := by
  unfold pDirNames
  rw [List.length_map]
  have := hg.nDir
  omega
theorem names_own {w : World} {base : Nat} {v : Value} {S : PS} (h : w.ownsRow base 9 1 v S.dir.length (pw_strs (S.dir.map (·.f0)))) : w.ownsRow base 9 1 v (pDirNames S).length (pw_strs (pDirNames S)) := by
  unfold pDirNames
  rw [List.length_map]
  exact h
theorem objList_calls (w : World) (F : Nat → Prop) (d : Nat) (L : Lay) (S : PS) (B : Nat) (h : Rep w F d L S (Live S)) (hg : Good S B) (hB : B ≤ 549755813888) :
    Calls Tryz.prog 18 #[.pointer (some ⟨d, 0, none⟩)] w fun e w' => ∃ v, e = .returned v ∧ w'.ownsRow w.heap.size 9 1 v (pObjs S).length (pw_strs (pObjs S)) ∧ Fr (fun _ => False) w w' := by
  have H := Lib.hid h
  have HG := Lib.hid hg
  have HL := Lib.hid (dirNames_length hg hB)
  clear h hg
  have eg := Lib.hid (show ∀ args w, (callFunc 70 args).run Tryz.prog w = .ok (.enter 70 args) w from enters_of Tryz.func70 (by kernel_rfl) rfl)
  go_enter Tryz.func18, Tryz.ntmps18
  go_wp2_with (first
    | (go_at_call 24; refine (List_calls _ F d L S B H.out HG.out hB).mono ?_; rintro e w1 ⟨v1, rfl, ho1, hf1⟩; have HO1 := Lib.hid (names_own ho1); have HF1 := Lib.hid hf1; clear ho1 hf1)
    | (go_at_call 69; refine (cloneS_calls _ _ v1 (pDirNames S) HO1.out HL.out).mono ?_; rintro e w2 ⟨v2, rfl, ho2, hb2⟩; have HO2 := Lib.hid (own_weaken ho2 HF1.out.size); have HF2 := Lib.hid (HF1.out.below hb2); clear ho2 hb2)
    | (go_at_call 68; refine (keep_calls _ w.heap.size v2 (pDirNames S) okObj 70 eg.out notObj_calls HO2.out).mono ?_; rintro e w3 ⟨v3, rfl, ho3, hb3⟩; have HO3 := Lib.hid ho3; have HF3 := Lib.hid (HF2.out.trans (fr_base hb3 HF2.out.size) (fun _ => .inr)); clear ho3 hb3)
    | fail)
  go_ret
  exact ⟨_, rfl, HO3.out, HF3.out⟩
end Go.Proofs.YtehhafnjbkbmjaaGreat.Disk

/- objstore: remove, RemoveTemporary. -/
namespace Go.Proofs.YtehhafnjbkbmjaaGreat.Disk
open Go Go.RowKit Go.Proofs.YtehhafnjbkbmjaaGreatW.PrintWords Go.Proofs.YtehhafnjbkbmjaaGreatW.PrintLast Go.Proofs.YtehhafnjbkbmjaaGreatW.PrintMore Go.Proofs.YtehhafnjbkbmjaaGreat.PCommitlogSequence
theorem Rd.chg {α : Type} {dk : Kd α} {w w' : World} {F F' : Nat → Prop} {A : Option Addr} {c : Nat} {xs : List α} (h : Rd dk w (fun k => ¬ F k) A c xs) (hc : Chg w F w' F') : Rd dk w' (fun k => ¬ F' k) A c xs :=
  ((h.mono (ok' := fun k => ¬ F k ∧ k < w.heap.size) (fun k h1 h2 => ⟨h1, h2⟩)).move (fun k hk hlt => hc.fr.block k hlt hk.1)).mono (fun k hk _ e => by
    rcases hc.new k e with h1 | h1
    · exact hk.1 h1
    · have := hk.2; omega)
/-- The first j names are removed, as far as none fails. -/
def rmTo (S : PS) (zs : List ByteArray) : Nat → PS × Int
  | 0 => (S, 0)
  | j + 1 => if (rmTo S zs j).2 = 0 then pRemove (rmTo S zs j).1 (zs.getD j ByteArray.empty) else rmTo S zs j
def pRemoveAll (S : PS) (zs : List ByteArray) : PS × Int :=
  if zs = [] then (S, 0) else if (rmTo S zs zs.length).2 = 0 then pSyncDir (rmTo S zs zs.length).1 else rmTo S zs zs.length
theorem rmTo_go {S : PS} {zs : List ByteArray} {j : Nat} (h : (rmTo S zs j).2 = 0) : rmTo S zs (j + 1) = pRemove (rmTo S zs j).1 (zs.getD j ByteArray.empty) := by
  show (if _ then _ else _) = _
  rw [if_pos h]
theorem rmTo_stop {S : PS} {zs : List ByteArray} {j : Nat} (h : (rmTo S zs j).2 ≠ 0) : ∀ m, rmTo S zs (j + m) = rmTo S zs j
  | 0 => rfl
  | m + 1 => by
    have ih := rmTo_stop h m
    show (if (rmTo S zs (j + m)).2 = 0 then _ else rmTo S zs (j + m)) = _
    rw [ih, if_neg h]
theorem Sound.rmTo {S : PS} {B : Nat} {zs : List ByteArray} (h : Sound S B) : ∀ j, Sound (rmTo S zs j).1 (B + 100 * j)
  | 0 => h
  | j + 1 => by
    have ih := Sound.rmTo (zs := zs) h j
    rw [show B + 100 * (j + 1) = B + 100 * j + 100 by omega]
    show Sound (if _ then _ else _ : PS × Int).1 _
    split
    · exact ih.remove
    · exact ih.mono (by omega)
def RmRel (w : World) (F : Nat → Prop) (d : Nat) (S : PS) (zs : List ByteArray) (A : Option Addr) (c : Nat) (i : Value) (wx : World) : Prop :=
  ∃ (j : Nat) (F' : Nat → Prop) (L' : Lay), j ≤ zs.length ∧ i = .int .i64 j ∧ (rmTo S zs j).2 = 0 ∧ Rep wx F' d L' (rmTo S zs j).1 (Live (rmTo S zs j).1) ∧ Chg w F wx F' ∧ Rd Kd.string wx (fun k => ¬ F' k) A c zs
theorem rm_next {w w3 wx : World} {F F' : Nat → Prop} {d j : Nat} {S Sj : PS} {zs : List ByteArray} {A : Option Addr} {c : Nat} {r : PS × Int} {x : ByteArray} {cd : Int} (hj : j < zs.length) (hc : Chg w F wx F') (hrow : Rd Kd.string wx (fun k => ¬ F' k) A c zs) (h0 : (rmTo S zs j).2 = 0) (hS : Sj = (rmTo S zs j).1) (hx : x = zs.getD j ByteArray.empty) (hr : r = pRemove Sj x) (hcd : cd = r.2) (ha : After wx F' d r.1 w3) (h1 : (cd != 0) = false) :
    RmRel w F d S zs A c (.int .i64 ((j : Int) + 1)) w3 := by
  subst hr
  subst hcd
  subst hx
  subst hS
  have e := rmTo_go h0
  obtain ⟨F3, L3, hr, hc3⟩ := ha
  rw [← e] at hr h1
  exact ⟨j + 1, F3, L3, by omega, by go_num, by simpa using h1, hr, hc.trans hc3, hrow.chg hc3⟩
theorem rm_end {w w3 wx : World} {F F' : Nat → Prop} {d j : Nat} {S Sj : PS} {zs : List ByteArray} {r : PS × Int} {x : ByteArray} {cd : Int} (hj : j < zs.length) (hc : Chg w F wx F') (h0 : (rmTo S zs j).2 = 0) (hS : Sj = (rmTo S zs j).1) (hx : x = zs.getD j ByteArray.empty) (hr : r = pRemove Sj x) (hcd : cd = r.2) (ha : After wx F' d r.1 w3) (h1 : (cd != 0) = true) :
    Ending.returned (.int .i64 cd) = .returned (.int .i64 (pRemoveAll S zs).2) ∧ After w F d (pRemoveAll S zs).1 w3 := by
  subst hr
  subst hcd
  subst hx
  subst hS
  have e := rmTo_go h0
  rw [← e] at ha h1 ⊢
  have h2 : (rmTo S zs (j + 1)).2 ≠ 0 := by simpa using h1
  have e2 := rmTo_stop h2 (zs.length - (j + 1))
  rw [show j + 1 + (zs.length - (j + 1)) = zs.length by omega] at e2
  have e3 : pRemoveAll S zs = rmTo S zs (j + 1) := by
    unfold pRemoveAll
    rw [if_neg (by intro e; rw [e] at hj; simp at hj), e2, if_neg h2]
  rw [e3]
  obtain ⟨F3, L3, hr, hc3⟩ := ha
  exact ⟨rfl, F3, L3, hr, hc.trans hc3⟩
set_option maxHeartbeats 4000000 in
theorem remove_calls (w : World) (F : Nat → Prop) (d : Nat) (L : Lay) (S : PS) (B : Nat) (A : Option Addr) (c : Nat) (zs : List ByteArray) (h : Rep w F d L S (Live S)) (hF : ∀ k, F k → k < w.heap.size) (hs : Sound S B) (hB : B + 100 * zs.length ≤ 549755813888) (hr : Rd Kd.string w (fun k => ¬ F k) A c zs) :
    Calls Tryz.prog 74 #[.pointer (some ⟨d, 0, none⟩), .slice A zs.length c] w fun e w' => e = .returned (.int .i64 (pRemoveAll S zs).2) ∧ After w F d (pRemoveAll S zs).1 w' := by
  have H := Lib.hid h
  have HF := Lib.hid hF
  have HS := Lib.hid hs
  have HR := Lib.hid hr
  clear h hF hs hr
  by_cases hz : zs = []
  · subst hz
    go_enter Tryz.func74, Tryz.ntmps74
    go_wp2_with fail
    go_ret
    exact ⟨rfl, After.same H.out (Fr.refl _ _)⟩
  · have hlen : 0 < zs.length := List.length_pos_iff.2 hz
    have hlb : ((zs.length : Int) == 0) = false := by rw [beq_eq_false_iff_ne]; omega
    have HZ := Lib.hid hz
    clear hz
    go_enter Tryz.func74, Tryz.ntmps74
    go_wp2
    go_loopw [13] (fun i wx => RmRel w F d S zs A c i wx) (fun i _ => zs.length - (intOf i).toNat)
    case atStart => exact ⟨0, F, L, by omega, rfl, rfl, H.out, ⟨Fr.refl _ _, fun k hk => .inl hk, HF.out⟩, HR.out⟩
    case round =>
      obtain ⟨j, F', L', hj, rfl, h0, hr, hc, hrow⟩ := hrel
      have H0 := Lib.hid h0
      have HSJ := Lib.hid (HS.out.rmTo (zs := zs) j)
      obtain ⟨Sj, hSj⟩ : ∃ Sj, Sj = (rmTo S zs j).1 := ⟨_, rfl⟩
      rw [← hSj] at hr HSJ
      have HSQ := Lib.hid hSj
      have HRJ := Lib.hid hr
      have HC := Lib.hid hc
      have HROW := Lib.hid hrow
      clear h0 hr hc hSj
      by_cases hlt : j < zs.length
      · have hbj : B + 100 * j ≤ 549755813888 := by omega
        obtain ⟨ad, hA, hcell⟩ := str_at hrow.now j hlt
        clear hrow
        subst hA
        obtain ⟨x, hx⟩ : ∃ x, x = zs.getD j ByteArray.empty := ⟨_, rfl⟩
        rw [← hx] at hcell
        have HX := Lib.hid hx
        obtain ⟨r, hr⟩ : ∃ r, r = pRemove Sj x := ⟨_, rfl⟩
        have HRR := Lib.hid hr
        clear hx hr
        go_wp2_with (first | (go_at_call 58; refine (Remove_calls _ F' d L' Sj _ x HRJ.out HSJ.out.good hbj).mono ?_; rw [← HRR.out]; rintro e w3 ⟨rfl, ha⟩; have HA := Lib.hid ha; clear ha; obtain ⟨cd, hcd⟩ : ∃ cd, cd = r.2 := ⟨_, rfl⟩; rw [← hcd]; have HCD := Lib.hid hcd; clear hcd) | fail)
        · go_ret
          exact rm_end hlt HC.out H0.out HSQ.out HX.out HRR.out HCD.out HA.out (by assumption)
        · go_roundw
          case rel => exact rm_next hlt HC.out HROW.out H0.out HSQ.out HX.out HRR.out HCD.out HA.out (by assumption)
          case measure => simp [intOf]; omega
      · obtain rfl : j = zs.length := by omega
        clear hrow
        have hbj : B + 100 * zs.length ≤ 549755813888 := hB
        have HP := Lib.hid (show pRemoveAll S zs = pSyncDir Sj by unfold pRemoveAll; rw [if_neg HZ.out, if_pos H0.out, HSQ.out])
        go_wp2_with (first | (go_at_call 66; refine (SyncDir_calls _ F' d L' Sj _ HRJ.out HSJ.out.good hbj).mono ?_; rintro e w3 ⟨rfl, ha⟩; have HA := Lib.hid ha; clear ha) | fail)
        go_ret
        rw [HP.out]
        obtain ⟨F3, L3, hr, hc3⟩ := HA.out
        exact ⟨rfl, F3, L3, hr, HC.out.trans hc3⟩
end Go.Proofs.YtehhafnjbkbmjaaGreat.Disk

/- objstore: RemoveTemporary, Delete. -/
namespace Go.Proofs.YtehhafnjbkbmjaaGreat.Disk
open Go Go.RowKit Go.Proofs.YtehhafnjbkbmjaaGreatW.PrintWords Go.Proofs.YtehhafnjbkbmjaaGreatW.PrintLast Go.Proofs.YtehhafnjbkbmjaaGreatW.PrintMore Go.Proofs.YtehhafnjbkbmjaaGreat.PCommitlogSequence
abbrev kS : Kd ByteArray := Kd.string
theorem Rd.ofOwnS {w : World} {base : Nat} {v : Value} {xs : List ByteArray} (h : w.ownsRow base 9 1 v xs.length (pw_strs xs)) : ∃ A c, v = .slice A xs.length c ∧ Rd kS w (fun k => base ≤ k) A c xs := by
  obtain ⟨A, c, e, hl, hr⟩ := own_reads_of_le (enc := Value.string) (d := ByteArray.empty) h
  subst e
  refine ⟨A, c, rfl, ⟨hl, fun W' hW => ?_⟩⟩
  have h' := own_move (w1 := W') h (fun k hk => hW k (h.lt k hk).1 (h.lt k hk).2)
  obtain ⟨A', c', e', _, hr'⟩ := own_reads_of_le (enc := Value.string) (d := ByteArray.empty) h'
  injection e' with e1
  subst e1
  exact Kd.C_of_reads (enc := Value.string) (d := ByteArray.empty) (h1 := fun _ => rfl) hr'
theorem Rd.ofC {α : Type} {dd : Kd α} (hd : Kd.Heap dd) {w : World} {A : Option Addr} {c : Nat} {xs : List α} (h : dd.C w A xs.length xs) (hc : xs.length ≤ c) : Rd dd w (fun k => k < w.heap.size) A c xs := ⟨hc, fun _ hW => hd.C (fun k hk => hW k hk hk) h⟩
theorem tmps_length (S : PS) : (pTmps S).length ≤ S.dir.length := by
  unfold pTmps pDirNames
  exact Nat.le_trans (List.length_filter_le _ _) (by simp)
set_option maxHeartbeats 1000000 in
theorem RemoveTemporary_calls (w : World) (F : Nat → Prop) (d : Nat) (L : Lay) (S : PS) (B : Nat) (h : Rep w F d L S (Live S)) (hF : ∀ k, F k → k < w.heap.size) (hs : Sound S B) (hB : B + 100 * B ≤ 549755813888) :
    Calls Tryz.prog 21 #[.pointer (some ⟨d, 0, none⟩)] w fun e w' => e = .returned (.int .i64 (pRemoveAll S (pTmps S)).2) ∧ After w F d (pRemoveAll S (pTmps S)).1 w' := by
  have H := Lib.hid h
  have HF := Lib.hid hF
  have HS := Lib.hid hs
  have hB0 : B ≤ 549755813888 := by omega
  have HL := Lib.hid (dirNames_length hs.good hB0)
  have HLT := Lib.hid (show B + 100 * (pTmps S).length ≤ 549755813888 by have := tmps_length S; have := hs.good.nDir; omega)
  clear h hF hs
  have eg := Lib.hid (show ∀ args w, (callFunc 75 args).run Tryz.prog w = .ok (.enter 75 args) w from enters_of Tryz.func75 (by kernel_rfl) rfl)
  go_enter Tryz.func21, Tryz.ntmps21
  go_wp2_with (first
    | (go_at_call 24; refine (List_calls _ F d L S B H.out HS.out.good hB0).mono ?_; rintro e w1 ⟨v1, rfl, ho1, hf1⟩; have HO1 := Lib.hid (names_own ho1); have HF1 := Lib.hid hf1; clear ho1 hf1)
    | (go_at_call 69; refine (cloneS_calls _ _ v1 (pDirNames S) HO1.out HL.out).mono ?_; rintro e w2 ⟨v2, rfl, ho2, hb2⟩; have HO2 := Lib.hid (own_weaken ho2 HF1.out.size); have HF2 := Lib.hid (HF1.out.below hb2); clear ho2 hb2)
    | (go_at_call 68; refine (keep_calls _ w.heap.size v2 (pDirNames S) isTmp 75 eg.out notTmp_calls HO2.out).mono ?_; rintro e w3 ⟨v3, rfl, ho3, hb3⟩; obtain ⟨A3, c3, rfl, hr3⟩ := Rd.ofOwnS ho3; have HR3 := Lib.hid hr3; have HF3 := Lib.hid (show Fr (fun _ => False) w w3 from HF2.out.trans (fr_base hb3 HF2.out.size) (fun _ => .inr)); clear ho3 hb3 hr3)
    | (go_at_call 74; refine (remove_calls _ F d L S B A3 c3 (pTmps S) (H.out.fr HF3.out (fun _ _ e => e)) (fun k hk => Nat.lt_of_lt_of_le (HF.out k hk) HF3.out.size) HS.out HLT.out (HR3.out.mono (fun k hk _ e => by have := HF.out k e; omega))).mono ?_; rintro e w4 ⟨rfl, ha⟩; have HA := Lib.hid ha; clear ha)
    | fail)
  go_ret
  exact ⟨rfl, HA.out.behind (HF3.out.mono (fun _ hk => hk.elim)) (fun _ => .inl)⟩
/-- The objects among the first j names are deleted, as far as nothing fails; and whether there was one. -/
def delTo (S : PS) (zs : List ByteArray) : Nat → (PS × Int) × Bool
  | 0 => ((S, 0), false)
  | j + 1 => if (delTo S zs j).1.2 = 0 then (if pExists (delTo S zs j).1.1 (zs.getD j ByteArray.empty) then (pRemove (delTo S zs j).1.1 (zs.getD j ByteArray.empty), true) else delTo S zs j) else delTo S zs j
def pDelete (S : PS) (zs : List ByteArray) : PS × Int :=
  if (delTo S zs zs.length).1.2 = 0 then (if (delTo S zs zs.length).2 then pSyncDir (delTo S zs zs.length).1.1 else (delTo S zs zs.length).1) else (delTo S zs zs.length).1
theorem delTo_go {S : PS} {zs : List ByteArray} {j : Nat} (h : (delTo S zs j).1.2 = 0) (hx : pExists (delTo S zs j).1.1 (zs.getD j ByteArray.empty) = true) : delTo S zs (j + 1) = (pRemove (delTo S zs j).1.1 (zs.getD j ByteArray.empty), true) := by
  show (if _ then (if _ then _ else _) else _) = _
  rw [if_pos h, if_pos hx]
theorem delTo_pass {S : PS} {zs : List ByteArray} {j : Nat} (h : (delTo S zs j).1.2 = 0) (hx : pExists (delTo S zs j).1.1 (zs.getD j ByteArray.empty) = false) : delTo S zs (j + 1) = delTo S zs j := by
  show (if _ then (if _ then _ else _) else _) = _
  rw [if_pos h, if_neg (by rw [hx]; exact Bool.false_ne_true)]
theorem delTo_stop {S : PS} {zs : List ByteArray} {j : Nat} (h : (delTo S zs j).1.2 ≠ 0) : ∀ m, delTo S zs (j + m) = delTo S zs j
  | 0 => rfl
  | m + 1 => by
    have ih := delTo_stop h m
    show (if (delTo S zs (j + m)).1.2 = 0 then (if _ then _ else _) else delTo S zs (j + m)) = _
    rw [ih, if_neg h]
theorem Sound.delTo {S : PS} {B : Nat} {zs : List ByteArray} (h : Sound S B) : ∀ j, Sound (delTo S zs j).1.1 (B + 100 * j)
  | 0 => h
  | j + 1 => by
    have ih := Sound.delTo (zs := zs) h j
    rw [show B + 100 * (j + 1) = B + 100 * j + 100 by omega]
    show Sound (if _ then (if _ then _ else _) else _ : (PS × Int) × Bool).1.1 _
    split
    · split
      · exact ih.remove
      · exact ih.mono (by omega)
    · exact ih.mono (by omega)
def DelRel (w : World) (F : Nat → Prop) (d : Nat) (S : PS) (zs : List ByteArray) (A : Option Addr) (c : Nat) (r i : Value) (wx : World) : Prop :=
  ∃ (j : Nat) (F' : Nat → Prop) (L' : Lay), j ≤ zs.length ∧ i = .int .i64 j ∧ r = .bool (delTo S zs j).2 ∧ (delTo S zs j).1.2 = 0 ∧ Rep wx F' d L' (delTo S zs j).1.1 (Live (delTo S zs j).1.1) ∧ Chg w F wx F' ∧ Rd Kd.string wx (fun k => ¬ F' k) A c zs
theorem del_next {w w3 wx : World} {F F' : Nat → Prop} {d j : Nat} {S Sj : PS} {zs : List ByteArray} {A : Option Addr} {c : Nat} {r : PS × Int} {x : ByteArray} {cd : Int} (hj : j < zs.length) (hc : Chg w F wx F') (hrow : Rd Kd.string wx (fun k => ¬ F' k) A c zs) (h0 : (delTo S zs j).1.2 = 0) (hS : Sj = (delTo S zs j).1.1) (hx : x = zs.getD j ByteArray.empty) (hex : pExists Sj x = true) (hr : r = pRemove Sj x) (hcd : cd = r.2) (ha : After wx F' d r.1 w3) (h1 : (cd != 0) = false) :
    DelRel w F d S zs A c (.bool true) (.int .i64 ((j : Int) + 1)) w3 := by
  subst hr
  subst hcd
  subst hx
  subst hS
  have e := delTo_go h0 hex
  obtain ⟨F3, L3, hr, hc3⟩ := ha
  exact ⟨j + 1, F3, L3, by omega, by go_num, by rw [e], by rw [e]; simpa using h1, by rw [e]; exact hr, hc.trans hc3, hrow.chg hc3⟩
theorem del_pass {w w2 wx : World} {F F' : Nat → Prop} {d j : Nat} {L' : Lay} {S Sj : PS} {zs : List ByteArray} {A : Option Addr} {c : Nat} {x : ByteArray} {b : Bool} (hj : j < zs.length) (hrep : Rep wx F' d L' Sj (Live Sj)) (hc : Chg w F wx F') (hrow : Rd Kd.string wx (fun k => ¬ F' k) A c zs) (h0 : (delTo S zs j).1.2 = 0) (hb : b = (delTo S zs j).2) (hS : Sj = (delTo S zs j).1.1) (hx : x = zs.getD j ByteArray.empty) (hex : pExists Sj x = false) (hf : Fr (fun _ => False) wx w2) :
    DelRel w F d S zs A c (.bool b) (.int .i64 ((j : Int) + 1)) w2 := by
  subst hx
  subst hS
  subst hb
  have e := delTo_pass h0 hex
  obtain ⟨F3, L3, hr, hc3⟩ := After.same (F := F') (hrep.fr hf (fun _ _ e => e)) hf
  exact ⟨j + 1, F3, L3, by omega, by go_num, by rw [e], by rw [e]; exact h0, by rw [e]; exact hr, hc.trans hc3, hrow.chg hc3⟩
theorem del_end {w w3 wx : World} {F F' : Nat → Prop} {d j : Nat} {S Sj : PS} {zs : List ByteArray} {r : PS × Int} {x : ByteArray} {cd : Int} (hj : j < zs.length) (hc : Chg w F wx F') (h0 : (delTo S zs j).1.2 = 0) (hS : Sj = (delTo S zs j).1.1) (hx : x = zs.getD j ByteArray.empty) (hex : pExists Sj x = true) (hr : r = pRemove Sj x) (hcd : cd = r.2) (ha : After wx F' d r.1 w3) (h1 : (cd != 0) = true) :
    Ending.returned (.int .i64 cd) = .returned (.int .i64 (pDelete S zs).2) ∧ After w F d (pDelete S zs).1 w3 := by
  subst hr
  subst hcd
  subst hx
  subst hS
  have e := delTo_go h0 hex
  have h2 : (delTo S zs (j + 1)).1.2 ≠ 0 := by rw [e]; simpa using h1
  have e2 := delTo_stop h2 (zs.length - (j + 1))
  rw [show j + 1 + (zs.length - (j + 1)) = zs.length by omega] at e2
  have e3 : pDelete S zs = (delTo S zs (j + 1)).1 := by
    unfold pDelete
    rw [e2, if_neg h2]
  rw [e3, e]
  obtain ⟨F3, L3, hr, hc3⟩ := ha
  exact ⟨rfl, F3, L3, hr, hc.trans hc3⟩
set_option maxHeartbeats 4000000 in
theorem Delete_calls (w : World) (F : Nat → Prop) (d : Nat) (L : Lay) (S : PS) (B : Nat) (A : Option Addr) (c : Nat) (zs : List ByteArray) (h : Rep w F d L S (Live S)) (hF : ∀ k, F k → k < w.heap.size) (hs : Sound S B) (hB : B + 100 * zs.length ≤ 549755813888) (hr : Rd Kd.string w (fun k => ¬ F k) A c zs) :
    Calls Tryz.prog 23 #[.pointer (some ⟨d, 0, none⟩), .slice A zs.length c] w fun e w' => e = .returned (.int .i64 (pDelete S zs).2) ∧ After w F d (pDelete S zs).1 w' := by
  have H := Lib.hid h
  have HF := Lib.hid hF
  have HS := Lib.hid hs
  have HR := Lib.hid hr
  clear h hF hs hr
  go_enter Tryz.func23, Tryz.ntmps23
  go_wp2
  go_loopw [5, 13] (fun r i wx => DelRel w F d S zs A c r i wx) (fun _ i _ => zs.length - (intOf i).toNat)
  case atStart => exact ⟨0, F, L, by omega, rfl, rfl, rfl, H.out, ⟨Fr.refl _ _, fun k hk => .inl hk, HF.out⟩, HR.out⟩
  case round =>
    obtain ⟨j, F', L', hj, rfl, rfl, h0, hr, hc, hrow⟩ := hrel
    have H0 := Lib.hid h0
    have HSJ := Lib.hid (HS.out.delTo (zs := zs) j)
    obtain ⟨Sj, hSj⟩ : ∃ Sj, Sj = (delTo S zs j).1.1 := ⟨_, rfl⟩
    obtain ⟨bj, hbj⟩ : ∃ bj, bj = (delTo S zs j).2 := ⟨_, rfl⟩
    rw [← hSj] at hr HSJ
    rw [← hbj]
    have HSQ := Lib.hid hSj
    have HBQ := Lib.hid hbj
    have HRJ := Lib.hid hr
    have HC := Lib.hid hc
    have HROW := Lib.hid hrow
    clear h0 hr hc hSj hbj
    by_cases hlt : j < zs.length
    · have hbj : B + 100 * j ≤ 549755813888 := by omega
      obtain ⟨ad, hA, hcell⟩ := str_at hrow.now j hlt
      clear hrow
      subst hA
      obtain ⟨x, hx⟩ : ∃ x, x = zs.getD j ByteArray.empty := ⟨_, rfl⟩
      rw [← hx] at hcell
      have HX := Lib.hid hx
      clear hx
      cases hex : pExists Sj x
      · have HE := Lib.hid hex
        clear hex
        go_wp2_with (first | (go_at_call 22; refine (Exists_calls _ F' d L' Sj _ x HRJ.out HSJ.out.good hbj).mono ?_; rw [HE.out]; rintro e w2 ⟨rfl, hf⟩; have HF2 := Lib.hid hf; clear hf) | fail)
        go_roundw
        case rel => exact del_pass hlt HRJ.out HC.out HROW.out H0.out HBQ.out HSQ.out HX.out HE.out HF2.out
        case measure => simp [intOf]; omega
      · have HE := Lib.hid hex
        clear hex
        obtain ⟨r, hr⟩ : ∃ r, r = pRemove Sj x := ⟨_, rfl⟩
        have HRR := Lib.hid hr
        clear hr
        go_wp2_with (first | (go_at_call 22; refine (Exists_calls _ F' d L' Sj _ x HRJ.out HSJ.out.good hbj).mono ?_; rw [HE.out]; rintro e w2 ⟨rfl, hf⟩; have HF2 := Lib.hid hf; clear hf) | (go_at_call 58; refine (Remove_calls _ F' d L' Sj _ x (HRJ.out.fr HF2.out (fun _ _ e => e)) HSJ.out.good hbj).mono ?_; rw [← HRR.out]; rintro e w3 ⟨rfl, ha⟩; have HA := Lib.hid (ha.behind (HF2.out.mono (fun _ hk => hk.elim)) (fun _ => .inl)); clear ha; obtain ⟨cd, hcd⟩ : ∃ cd, cd = r.2 := ⟨_, rfl⟩; rw [← hcd]; have HCD := Lib.hid hcd; clear hcd) | fail)
        · go_ret
          exact del_end hlt HC.out H0.out HSQ.out HX.out HE.out HRR.out HCD.out HA.out (by assumption)
        · go_roundw
          case rel => exact del_next hlt HC.out HROW.out H0.out HSQ.out HX.out HE.out HRR.out HCD.out HA.out (by assumption)
          case measure => simp [intOf]; omega
    · obtain rfl : j = zs.length := by omega
      clear hrow
      have hbj : B + 100 * zs.length ≤ 549755813888 := hB
      cases bj
      · have HP := Lib.hid (show pDelete S zs = (Sj, 0) by unfold pDelete; rw [if_pos H0.out, ← HBQ.out, if_neg Bool.false_ne_true, HSQ.out, ← H0.out])
        go_wp2_with fail
        go_ret
        rw [HP.out]
        exact ⟨rfl, F', L', HRJ.out, HC.out⟩
      · have HP := Lib.hid (show pDelete S zs = pSyncDir Sj by unfold pDelete; rw [if_pos H0.out, ← HBQ.out, if_pos rfl, HSQ.out])
        go_wp2_with (first | (go_at_call 66; refine (SyncDir_calls _ F' d L' Sj _ HRJ.out HSJ.out.good hbj).mono ?_; rintro e w3 ⟨rfl, ha⟩; have HA := Lib.hid ha; clear ha) | fail)
        go_ret
        rw [HP.out]
        obtain ⟨F3, L3, hr, hc3⟩ := HA.out
        exact ⟨rfl, F3, L3, hr, HC.out.trans hc3⟩
end Go.Proofs.YtehhafnjbkbmjaaGreat.Disk

/- objstore: lives, the chapter's examples. -/
namespace Go.Proofs.YtehhafnjbkbmjaaGreat.Disk
open Go Go.RowKit Go.Proofs.YtehhafnjbkbmjaaGreatW.PrintWords Go.Proofs.YtehhafnjbkbmjaaGreatW.PrintLast Go.Proofs.YtehhafnjbkbmjaaGreatW.PrintMore Go.Proofs.YtehhafnjbkbmjaaGreat.PCommitlogSequence
theorem C_blk {α : Type} {enc : α → Value} {h1 : ∀ x, (enc x).oneCell' = true} {w : World} {b t : Nat} {fz : Nat × Nat} {xs : List α} (h : w.heap[b]? = some (.cells (xs.map enc).toArray t fz)) (hl : xs.length ≤ 9223372036854775807) : Kd.C (Kd.scalar enc h1) w (some ⟨b, 0, none⟩) xs.length xs :=
  ⟨rfl, hl, fun _ => ⟨_, rfl, fun j p hj => ⟨[enc p], rfl, rfl, fun i u hu => by
    have hi0 : i = 0 := by
      have := (List.getElem?_eq_some_iff.1 hu).1
      simpa using this
    subst hi0
    simp at hu
    subst hu
    rw [show (Kd.scalar enc h1).sz = 1 from rfl, Addr.add_lit]
    have h2 := cell_blk h j
    have e2 : (xs.map enc).toArray[j]? = some (enc p) := by simp [hj]
    simp only [Nat.zero_add, Nat.mul_one, Nat.add_zero]
    rw [h2, e2]⟩⟩⟩
theorem Chg.up {a b : World} {F G : Nat → Prop} (h : Chg a F b G) (o : Obj) : Chg a F (b.alloc o) G := ⟨h.fr.alloc o, h.new, fun k hk => by have := h.lt k hk; simp; omega⟩
theorem Chg.fr2 {a b c : World} {F G : Nat → Prop} (h : Chg a F b G) (hf : Fr (fun _ => False) b c) : Chg a F c G := ⟨h.fr.trans hf (fun _ (e : False) => e.elim), h.new, fun k hk => Nat.lt_of_lt_of_le (h.lt k hk) hf.size⟩
theorem Rd.blk {w : World} {b t : Nat} {fz : Nat × Nat} {xs : List Int} {ok : Nat → Prop} (h : w.heap[b]? = some (.cells (nums .u8 xs).toArray t fz)) (hl : xs.length ≤ 9223372036854775807) (hok : ok b) : Rd kB w ok (some ⟨b, 0, none⟩) xs.length xs :=
  ⟨Nat.le_refl _, fun _ hW => C_blk (enc := Value.int .u8) (h1 := fun _ => rfl) ((hW b hok (lt_blk h)).trans h) hl⟩
theorem Rd.blkS {w : World} {b t : Nat} {fz : Nat × Nat} {xs : List ByteArray} {ok : Nat → Prop} (h : w.heap[b]? = some (.cells (pw_strs xs).toArray t fz)) (hl : xs.length ≤ 9223372036854775807) (hok : ok b) : Rd kS w ok (some ⟨b, 0, none⟩) xs.length xs :=
  ⟨Nat.le_refl _, fun _ hW => C_blk (enc := Value.string) (h1 := fun _ => rfl) ((hW b hok (lt_blk h)).trans h) hl⟩
theorem Sound.put {S : PS} {B m : Nat} {n : ByteArray} {l : List Int} (h : Sound S B) (hm : 100 ≤ m) (hl : l.length + 4 ≤ m) (hw : ∀ x ∈ l, 0 ≤ x ∧ x ≤ 255) : Sound (pPut S n l).1 (B + m * 6) := by
  unfold pPut
  split
  · exact h.mono (by omega)
  · split
    · exact h.mono (by omega)
    · exact h.runTo hm (by rw [sealF_length]; exact hl) (sealF_ok hw) 6
theorem Sound.removeAll {S : PS} {B : Nat} {zs : List ByteArray} (h : Sound S B) : Sound (pRemoveAll S zs).1 (B + 100 * zs.length + 100) := by
  unfold pRemoveAll
  split
  · exact h.mono (by omega)
  · split
    · exact (h.rmTo _).syncDir
    · exact (h.rmTo _).mono (by omega)
theorem Sound.delete {S : PS} {B : Nat} {zs : List ByteArray} (h : Sound S B) : Sound (pDelete S zs).1 (B + 100 * zs.length + 100) := by
  unfold pDelete
  split
  · split
    · exact (h.delTo _).syncDir
    · exact (h.delTo _).mono (by omega)
  · exact (h.delTo _).mono (by omega)
abbrev sM1 : ByteArray := ⟨#[109, 45, 49]⟩
abbrev sM2 : ByteArray := ⟨#[109, 45, 50]⟩
abbrev sM3 : ByteArray := ⟨#[109, 45, 51]⟩
abbrev sUM : ByteArray := ⟨#[77]⟩
def lv1 : PS := (pPut pNew sM1 [120]).1
def lv2 : PS := pFail lv1 2
def lv3 : PS := (pPut lv2 sM2 [121]).1
def lv4 : PS := pCrash lv3 9 [⟨0, false⟩, ⟨9, false⟩]
def lv5 : PS := (pRemoveAll lv4 (pTmps lv4)).1
def lv6 : PS := (pDelete lv5 [sM1, sM3]).1
theorem s_lv1 : Sound lv1 600 := Sound.new.put (m := 100) (by decide) (by decide) (by decide)
theorem s_lv2 : Sound lv2 700 := s_lv1.fail (by decide)
theorem s_lv3 : Sound lv3 1300 := s_lv2.put (m := 100) (by decide) (by decide) (by decide)
theorem s_lv4 : Sound lv4 1300 := s_lv3.crash
theorem l_lv4 : pTmps lv4 = [tmpOf sM2] := by kernel_rfl
theorem s_lv5 : Sound lv5 1500 := by have := s_lv4.removeAll (zs := pTmps lv4); rw [l_lv4] at this; unfold lv5; rw [l_lv4]; exact this
theorem s_lv6 : Sound lv6 1800 := s_lv5.delete (zs := [sM1, sM3])
theorem v_lv1 : (pPut pNew sM1 [120]).2 = 0 := by kernel_rfl
theorem v_lv1b : pPut lv1 sM1 [] = (lv1, 9) := by kernel_rfl
theorem v_lv1c : pGet lv1 sM1 = ([120], 0) := by kernel_rfl
theorem v_lv1d : pGet lv1 sM2 = ([], 15) := by kernel_rfl
theorem v_lv1e : pObjs lv1 = [sM1] := by kernel_rfl
theorem v_lv1f : pPut lv1 sUM [] = (lv1, 1) := by kernel_rfl
theorem v_lv3 : (pPut lv2 sM2 [121]).2 = 16 := by kernel_rfl
theorem v_lv5 : (pRemoveAll lv4 (pTmps lv4)).2 = 0 := by kernel_rfl
theorem v_lv5b : pExists lv5 sM1 = true := by kernel_rfl
theorem v_lv6 : (pDelete lv5 [sM1, sM3]).2 = 0 := by kernel_rfl
theorem v_lv6b : lv6.dir = [] := by kernel_rfl
end Go.Proofs.YtehhafnjbkbmjaaGreat.Disk

/- objstore: lives, the walk. -/
namespace Go.Proofs.YtehhafnjbkbmjaaGreat.Disk
open Go Go.RowKit Go.Proofs.YtehhafnjbkbmjaaGreatW.PrintWords Go.Proofs.YtehhafnjbkbmjaaGreatW.PrintLast Go.Proofs.YtehhafnjbkbmjaaGreatW.PrintMore Go.Proofs.YtehhafnjbkbmjaaGreat.PCommitlogSequence
abbrev kCf : Kd Cf := k62
theorem kCf_mk (w : World) (x : Cf) : kCf.K w x [.int .i64 x.f0, .bool x.f1] := k62_mk w x
theorem C_cf2 {w : World} {b t : Nat} {fz : Nat × Nat} (h : w.heap[b]? = some (.cells #[.int .i64 0, .bool false, .int .i64 9, .bool false] t fz)) : Kd.C kCf w (some ⟨b, 0, none⟩) ([⟨0, false⟩, ⟨9, false⟩] : List Cf).length [⟨0, false⟩, ⟨9, false⟩] :=
  ⟨rfl, by decide, fun _ => ⟨_, rfl, fun j p hj => by
    have hj0 : j = 0 ∨ j = 1 := by
      have := (List.getElem?_eq_some_iff.1 hj).1
      simp at this
      omega
    rcases hj0 with rfl | rfl
    · simp at hj
      subst hj
      refine ⟨[.int .i64 0, .bool false], rfl, kCf_mk w ⟨0, false⟩, fun i u hu => ?_⟩
      rw [Addr.add_lit]
      have hi : i = 0 ∨ i = 1 := by
        have := (List.getElem?_eq_some_iff.1 hu).1
        simp at this
        omega
      rcases hi with rfl | rfl
      · exact (cell_blk h _).trans hu
      · exact (cell_blk h _).trans hu
    · simp at hj
      subst hj
      refine ⟨[.int .i64 9, .bool false], rfl, kCf_mk w ⟨9, false⟩, fun i u hu => ?_⟩
      rw [Addr.add_lit]
      have hi : i = 0 ∨ i = 1 := by
        have := (List.getElem?_eq_some_iff.1 hu).1
        simp at this
        omega
      rcases hi with rfl | rfl
      · exact (cell_blk h _).trans hu
      · exact (cell_blk h _).trans hu⟩⟩
theorem lp1 (fz : Nat × Nat) (w : World) (F : Nat → Prop) (d : Nat) (L : Lay) (h : Rep w F d L pNew (Live pNew)) (hF : ∀ k, F k → k < w.heap.size) :
    Calls Tryz.prog 16 #[.pointer (some ⟨d, 0, none⟩), .string sM1, .slice (some ⟨w.heap.size, 0, none⟩) 1 1] (w.alloc (.cells #[.int .u8 120] 5 fz)) fun e w' => e = .returned (.int .i64 0) ∧ After (w.alloc (.cells #[.int .u8 120] 5 fz)) F d lv1 w' := by
  have := Put_calls (w.alloc (.cells #[.int .u8 120] 5 fz)) F d L pNew 0 100 sM1 (some ⟨w.heap.size, 0, none⟩) 1 [120] (h.alloc _) (fun k hk => by have := hF k hk; simp; omega) Sound.new (by decide) (by decide) (by decide) (by decide) (Rd.blk (xs := [120]) (heap_alloc_new w _) (by decide) (fun e => by have := hF _ e; omega))
  rw [v_lv1] at this
  exact this
theorem lp2 (w : World) (F : Nat → Prop) (d : Nat) (L : Lay) (h : Rep w F d L lv1 (Live lv1)) (hF : ∀ k, F k → k < w.heap.size) :
    Calls Tryz.prog 16 #[.pointer (some ⟨d, 0, none⟩), .string sM1, .slice none 0 0] w fun e w' => e = .returned (.int .i64 9) ∧ After w F d lv1 w' := by
  have := Put_calls w F d L lv1 600 100 sM1 none 0 [] h hF s_lv1 (by decide) (by decide) (by decide) (by decide) (Rd.nil kB w _)
  rw [v_lv1b] at this
  exact this
theorem lp3 (w : World) (F : Nat → Prop) (d : Nat) (L : Lay) (h : Rep w F d L lv1 (Live lv1)) (hF : ∀ k, F k → k < w.heap.size) :
    Calls Tryz.prog 16 #[.pointer (some ⟨d, 0, none⟩), .string sUM, .slice none 0 0] w fun e w' => e = .returned (.int .i64 1) ∧ After w F d lv1 w' := by
  have := Put_calls w F d L lv1 600 100 sUM none 0 [] h hF s_lv1 (by decide) (by decide) (by decide) (by decide) (Rd.nil kB w _)
  rw [v_lv1f] at this
  exact this
theorem lp4 (fz : Nat × Nat) (w : World) (F : Nat → Prop) (d : Nat) (L : Lay) (h : Rep w F d L lv2 (Live lv2)) (hF : ∀ k, F k → k < w.heap.size) :
    Calls Tryz.prog 16 #[.pointer (some ⟨d, 0, none⟩), .string sM2, .slice (some ⟨w.heap.size, 0, none⟩) 1 1] (w.alloc (.cells #[.int .u8 121] 5 fz)) fun e w' => e = .returned (.int .i64 16) ∧ After (w.alloc (.cells #[.int .u8 121] 5 fz)) F d lv3 w' := by
  have := Put_calls (w.alloc (.cells #[.int .u8 121] 5 fz)) F d L lv2 700 100 sM2 (some ⟨w.heap.size, 0, none⟩) 1 [121] (h.alloc _) (fun k hk => by have := hF k hk; simp; omega) s_lv2 (by decide) (by decide) (by decide) (by decide) (Rd.blk (xs := [121]) (heap_alloc_new w _) (by decide) (fun e => by have := hF _ e; omega))
  rw [v_lv3] at this
  exact this
theorem lg1 (w : World) (F : Nat → Prop) (d : Nat) (L : Lay) (h : Rep w F d L lv1 (Live lv1)) : Calls Tryz.prog 17 #[.pointer (some ⟨d, 0, none⟩), .string sM1] w fun e w' => ∃ A c, e = .returned (.tuple #[.slice A 1 c, .int .i64 0]) ∧ Rd kB w' (fun k => w.heap.size ≤ k) A c [120] ∧ Fr (fun _ => False) w w' :=
  (Get_calls w F d L lv1 600 sM1 h s_lv1.good (by decide)).mono fun e w' hq => by
    rw [v_lv1c] at hq
    obtain ⟨v, q1, q2, q3⟩ := hq
    obtain ⟨A, c, e, _⟩ := own_bytes (l := [120]) q2
    subst e
    exact ⟨A, c, q1, Rd.ofOwn q2, q3⟩
theorem lg2 (w : World) (F : Nat → Prop) (d : Nat) (L : Lay) (h : Rep w F d L lv1 (Live lv1)) : Calls Tryz.prog 17 #[.pointer (some ⟨d, 0, none⟩), .string sM2] w fun e w' => ∃ v, e = .returned (.tuple #[v, .int .i64 15]) ∧ Fr (fun _ => False) w w' :=
  (Get_calls w F d L lv1 600 sM2 h s_lv1.good (by decide)).mono fun e w' hq => by
    rw [v_lv1d] at hq
    obtain ⟨v, q1, q2, q3⟩ := hq
    exact ⟨v, q1, q3⟩
theorem ll1 (w : World) (F : Nat → Prop) (d : Nat) (L : Lay) (h : Rep w F d L lv1 (Live lv1)) : Calls Tryz.prog 18 #[.pointer (some ⟨d, 0, none⟩)] w fun e w' => ∃ A c, e = .returned (.slice A 1 c) ∧ Rd kS w' (fun k => w.heap.size ≤ k) A c [sM1] ∧ Fr (fun _ => False) w w' :=
  (objList_calls w F d L lv1 600 h s_lv1.good (by decide)).mono fun e w' hq => by
    rw [v_lv1e] at hq
    obtain ⟨v, q1, q2, q3⟩ := hq
    obtain ⟨A, c, e, hr⟩ := Rd.ofOwnS (xs := [sM1]) q2
    subst e
    exact ⟨A, c, q1, hr, q3⟩
theorem lc4 (w : World) (F : Nat → Prop) (d : Nat) (L : Lay) (h : Rep w F d L lv3 (Live lv3)) : Calls Tryz.prog 20 #[.pointer (some ⟨d, 0, none⟩), .int .i64 9, .slice (some ⟨w.heap.size, 0, none⟩) 2 2] (w.alloc (.cells #[.int .i64 0, .bool false, .int .i64 9, .bool false] 62)) fun e w' => e = .returned (.tuple #[]) ∧ After (w.alloc (.cells #[.int .i64 0, .bool false, .int .i64 9, .bool false] 62)) F d lv4 w' :=
  Crash_calls (w.alloc (.cells #[.int .i64 0, .bool false, .int .i64 9, .bool false] 62)) F d L lv3 1300 9 (some ⟨w.heap.size, 0, none⟩) 2 [⟨0, false⟩, ⟨9, false⟩] (C_cf2 (heap_alloc_new w _)) (h.alloc _) s_lv3.good (by decide)
theorem lr5 (w : World) (F : Nat → Prop) (d : Nat) (L : Lay) (h : Rep w F d L lv4 (Live lv4)) (hF : ∀ k, F k → k < w.heap.size) : Calls Tryz.prog 21 #[.pointer (some ⟨d, 0, none⟩)] w fun e w' => e = .returned (.int .i64 0) ∧ After w F d lv5 w' := by
  have := RemoveTemporary_calls w F d L lv4 1300 h hF s_lv4 (by decide)
  rw [v_lv5] at this
  exact this
theorem lx5 (w : World) (F : Nat → Prop) (d : Nat) (L : Lay) (h : Rep w F d L lv5 (Live lv5)) : Calls Tryz.prog 22 #[.pointer (some ⟨d, 0, none⟩), .string sM1] w fun e w' => e = .returned (.bool true) ∧ Fr (fun _ => False) w w' := by
  have := Exists_calls w F d L lv5 1500 sM1 h s_lv5.good (by decide)
  rw [v_lv5b] at this
  exact this
theorem ld6 (fz : Nat × Nat) (w : World) (F : Nat → Prop) (d : Nat) (L : Lay) (h : Rep w F d L lv5 (Live lv5)) (hF : ∀ k, F k → k < w.heap.size) : Calls Tryz.prog 23 #[.pointer (some ⟨d, 0, none⟩), .slice (some ⟨w.heap.size, 0, none⟩) 2 2] (w.alloc (.cells #[.string sM1, .string sM3] 9 fz)) fun e w' => e = .returned (.int .i64 0) ∧ After (w.alloc (.cells #[.string sM1, .string sM3] 9 fz)) F d lv6 w' := by
  have := Delete_calls (w.alloc (.cells #[.string sM1, .string sM3] 9 fz)) F d L lv5 1500 (some ⟨w.heap.size, 0, none⟩) 2 [sM1, sM3] (h.alloc _) (fun k hk => by have := hF k hk; simp; omega) s_lv5 (by decide) (Rd.blkS (xs := [sM1, sM3]) (heap_alloc_new w _) (by decide) (fun e => by have := hF _ e; omega))
  rw [v_lv6] at this
  exact this
theorem ll6 (w : World) (F : Nat → Prop) (d : Nat) (L : Lay) (h : Rep w F d L lv6 (Live lv6)) : Calls Tryz.prog 24 #[.pointer (some ⟨d, 0, none⟩)] w fun e w' => ∃ A c, e = .returned (.slice A 0 c) ∧ Fr (fun _ => False) w w' :=
  (List_calls w F d L lv6 1800 h s_lv6.good (by decide)).mono fun e w' hq => by
    obtain ⟨v, q1, q2, q3⟩ := hq
    rw [v_lv6b] at q2
    rcases q2.2 with ⟨h1, h2⟩ | ⟨g, cap, cur, h1, _⟩
    · subst h1
      exact ⟨none, 0, q1, q3⟩
    · subst h1
      exact ⟨_, _, q1, q3⟩
theorem str_run {w : World} {A : Option Addr} {c : Nat} {ok : Nat → Prop} {bs : List Int} (h : Rd kB w ok A c bs) : (convert 36 9 (.slice A bs.length c)).run Tryz.prog w = .ok (.string (strOfNums bs)) w :=
  Kd.C_string Tryz.underlying36 Tryz.underlying5 Tryz.underlying9 h.now
theorem lv_str {w : World} {A : Option Addr} {c : Nat} {ok : Nat → Prop} (h : Rd kB w ok A c [120]) : (convert 36 9 (.slice A 1 c)).run Tryz.prog w = .ok (.string ⟨#[120]⟩) w := by
  have := str_run h
  rw [show strOfNums [120] = ⟨#[120]⟩ by kernel_rfl] at this
  exact this
theorem chg_up {a w' : World} {o : Obj} {F F' : Nat → Prop} (h : Chg (a.alloc o) F w' F') : Chg a F w' F' :=
  ⟨((Fr.refl F a).alloc o).trans h.fr (fun _ => .inl), fun k hk => by
    rcases h.new k hk with h1 | h1
    · exact .inl h1
    · simp at h1
      exact .inr (by omega), h.lt⟩
set_option maxHeartbeats 8000000 in
set_option maxRecDepth 100000 in
theorem lives_calls (w : World) : Calls Tryz.prog 6 #[] w fun e w' => e = .returned (.bool true) ∧ Below w.heap.size w w' := by
  have kc := fun (w : World) (C : Array Value) (n c : Nat) => Lib.run_convert_bytes_const (P := Tryz.prog) w 36 5 C n c Tryz.underlying36 Tryz.underlying5
  go_enter Tryz.func6, Tryz.ntmps6
  go_wp2_with (first
    | (go_at_call 22; have hz := B14.out; clear hz; refine (Exists_nil _ _).mono ?_; rintro e w15 ⟨rfl, rfl⟩)
    | (go_at_call 16; have hz := C13.out; clear hz; refine (Put_nil _ _ _ _ _).mono ?_; rintro e w14 ⟨rfl, hb⟩; have B14 := Lib.hid (C13.out.fr.below hb); clear hb C13)
    | (go_at_call 24; refine (ll6 _ _ _ _ R12.out).mono ?_; rintro e w13 ⟨A13, c13, rfl, hf⟩; have C13 := Lib.hid (C12.out.fr2 hf); clear hf R12)
    | (go_at_call 23; refine (ld6 _ _ _ _ _ R11.out C11.out.lt).mono ?_; rintro e w12 ⟨rfl, F12, L12, hr, hc⟩; have hc := chg_up hc; have R12 := Lib.hid hr; have C12 := Lib.hid (C11.out.trans hc); have V12 := V11.out.chg hc; have N12 := N11.out.chg hc; have hcv := lv_str V12; obtain ⟨gN, rfl, hN0⟩ := str_at N12.now 0 (by decide); have hN := (show _ = some (Value.string sM1) from hN0); rw [Addr.add_zero'] at hN; clear hN0; clear hr hc R11 V11 N11 V12 N12)
    | (go_at_call 22; have hz := R10.out; clear hz; refine (lx5 _ _ _ _ R10.out).mono ?_; rintro e w11 ⟨rfl, hf⟩; have R11 := Lib.hid (R10.out.fr hf (fun _ _ => id)); have C11 := Lib.hid (C10.out.fr2 hf); have V11 := Lib.hid (V10.out.below (fr_below hf)); have N11 := Lib.hid (N10.out.below (fr_below hf)); clear hf R10 V10 N10)
    | (go_at_call 21; refine (lr5 _ _ _ _ R9.out C9.out.lt).mono ?_; rintro e w10 ⟨rfl, F10, L10, hr, hc⟩; have R10 := Lib.hid hr; have C10 := Lib.hid (C9.out.trans hc); have V10 := Lib.hid (V9.out.chg hc); have N10 := Lib.hid (N9.out.chg hc); clear hr hc R9 V9 N9)
    | (go_at_call 20; refine (lc4 _ _ _ _ R8.out).mono ?_; rintro e w9 ⟨rfl, F9, L9, hr, hc⟩; have hc := chg_up hc; have R9 := Lib.hid hr; have C9 := Lib.hid (C8.out.trans hc); have V9 := Lib.hid (V8.out.chg hc); have N9 := Lib.hid (N8.out.chg hc); clear hr hc R8 V8 N8)
    | (go_at_call 16; have hz := R7.out; clear hz; refine (lp4 _ _ _ _ _ R7.out C7.out.lt).mono ?_; rintro e w8 ⟨rfl, F8, L8, hr, hc⟩; have hc := chg_up hc; have R8 := Lib.hid hr; have C8 := Lib.hid (C7.out.trans hc); have V8 := Lib.hid (V7.out.chg hc); have N8 := Lib.hid (N7.out.chg hc); clear hr hc R7 V7 N7)
    | (go_at_call 19; refine (FailAfter_calls _ _ _ _ lv1 2 R6.out).mono ?_; rintro e w7 ⟨rfl, F7, L7, hr, hc⟩; have R7 := Lib.hid (show Rep w7 F7 d L7 lv2 (Live lv2) from hr); have C7 := Lib.hid (C6.out.trans hc); have V7 := Lib.hid (V6.out.chg hc); have N7 := Lib.hid (N6.out.chg hc); clear hr hc R6 V6 N6)
    | (go_at_call 16; have hz := R5.out; clear hz; refine (lp3 _ _ _ _ R5.out C5.out.lt).mono ?_; rintro e w6 ⟨rfl, F6, L6, hr, hc⟩; have R6 := Lib.hid hr; have C6 := Lib.hid (C5.out.trans hc); have V6 := Lib.hid (V5.out.chg hc); have N6 := Lib.hid (N5.out.chg hc); clear hr hc R5 V5 N5)
    | (go_at_call 18; refine (ll1 _ _ _ _ R4.out).mono ?_; rintro e w5 ⟨A5, c5, rfl, hv, hf⟩; have R5 := Lib.hid (R4.out.fr hf (fun _ _ => id)); have C5 := Lib.hid (C4.out.fr2 hf); have V5 := Lib.hid (V4.out.below (fr_below hf)); have N5 := Lib.hid (hv.mono (ok' := fun k => ¬ F2 k) (fun k hk _ e => by have := C4.out.lt k e; omega)); clear hv hf R4 V4)
    | (go_at_call 17; have hz := R3.out; clear hz; refine (lg2 _ _ _ _ R3.out).mono ?_; rintro e w4 ⟨v4, rfl, hf⟩; have R4 := Lib.hid (R3.out.fr hf (fun _ _ => id)); have C4 := Lib.hid (C3.out.fr2 hf); have V4 := Lib.hid (V3.out.below (fr_below hf)); clear hf R3 V3)
    | (go_at_call 17; have hz := R2.out; clear hz; refine (lg1 _ _ _ _ R2.out).mono ?_; rintro e w3 ⟨A3, c3, rfl, hv, hf⟩; have R3 := Lib.hid (R2.out.fr hf (fun _ _ => id)); have C3 := Lib.hid (C2.out.fr2 hf); have V3 := Lib.hid (hv.mono (ok' := fun k => ¬ F2 k) (fun k hk _ e => by have := C2.out.lt k e; omega)); clear hv hf R2)
    | (go_at_call 16; have hz := R1.out; clear hz; refine (lp2 _ _ _ _ R1.out C1.out.lt).mono ?_; rintro e w2 ⟨rfl, F2, L2, hr, hc⟩; have R2 := Lib.hid hr; have C2 := Lib.hid (C1.out.trans hc); clear hr hc R1)
    | (go_at_call 16; have hz := R0.out; clear hz; refine (lp1 _ _ _ _ _ R0.out C0.out.lt).mono ?_; rintro e w1 ⟨rfl, F1, L1, hr, hc⟩; have R1 := Lib.hid hr; have C1 := Lib.hid ((C0.out.up _).trans hc); clear hr hc R0)
    | (go_at_call 7; refine (New_calls _).mono ?_; rintro e w0 ⟨d, F0, L0, rfl, hr, hc⟩; have R0 := Lib.hid hr; have C0 := Lib.hid hc; clear hr hc)
    | fail)
  go_ret
  exact ⟨rfl, B14.out.toBelow (Nat.le_refl _) (fun _ hk => hk.elim)⟩
end Go.Proofs.YtehhafnjbkbmjaaGreat.Disk

/- What is read out of the arguments of a law: any row of the kinds at hand. -/
namespace Go.Proofs.YtehhafnjbkbmjaaGreat.Disk
open Go Go.RowKit Go.Proofs.YtehhafnjbkbmjaaGreatW.PrintWords Go.Proofs.YtehhafnjbkbmjaaGreatW.PrintLast Go.Proofs.YtehhafnjbkbmjaaGreatW.PrintMore Go.Proofs.YtehhafnjbkbmjaaGreat.PCommitlogSequence
open Go.ChangeShapes Go.WideShapes Go.Deep
/-- Whatever of type t can be read as data is read by the kind dd. -/
def Opens {α : Type} (dd : Kd α) (t : Nat) (Wf : α → Prop) : Prop := ∀ (H : Type) (enc : TypeId × Value → H) (w : World) (fuel : Nat) (cs : List Value) (x : DataW H × List MemPlace), DataW.trod enc Tryz.prog w 0 (fun _ => true) true fuel t cs = some x → ∃ a, dd.K w a cs ∧ Wf a
theorem opens_int {t : Nat} {k : IntKind} (ht : Tryz.prog.underlying t = some (.int k)) : Opens (Kd.int k) t (fun n => (Lit.int k n).wf = true) := fun _ _ _ _ _ _ h => by
  obtain ⟨n, rfl, _, hw⟩ := DataW.trod_int ht h
  exact ⟨n, rfl, hw⟩
theorem opens_bool {t : Nat} (ht : Tryz.prog.underlying t = some .bool) : Opens Kd.bool t (fun _ => True) := fun _ _ _ _ _ _ h => by
  obtain ⟨n, rfl, _⟩ := DataW.trod_bool ht h
  exact ⟨n, rfl, trivial⟩
theorem opens_string {t : Nat} (ht : Tryz.prog.underlying t = some .string) : Opens Kd.string t (fun s => s.size ≤ maxLen) := fun _ _ _ _ _ _ h => by
  obtain ⟨n, rfl, _, hw⟩ := DataW.trod_string ht h
  exact ⟨n, rfl, hw⟩
theorem opens_row {α : Type} [Inhabited α] {dd : Kd α} {t e : Nat} {Wf : α → Prop} (ht : Tryz.prog.underlying t = some (.slice e)) (hc : Tryz.prog.cellsOf e = dd.sz) (he : Opens dd e Wf) {H : Type} {enc : TypeId × Value → H} {w : World} {fuel : Nat} {cs : List Value} {x : DataW H × List MemPlace}
    (h : DataW.trod enc Tryz.prog w 0 (fun _ => true) true fuel t cs = some x) : ∃ (l : List α) (A : Option Addr) (c : Nat), cs = [.slice A l.length c] ∧ l.length ≤ c ∧ dd.C w A l.length l ∧ ∀ y ∈ l, Wf y := by
  rcases open_slice ht h with ⟨rfl, _⟩ | ⟨a, len, cap, m, n, D, Pl, rfl, _, hl, hm, hmm, _, hx⟩
  · exact ⟨[], none, 0, rfl, Nat.le_refl _, Kd.C_nil _ _, fun y hy => by cases hy⟩
  · have hm' : m = cap := by rw [hmm]; rfl
    obtain ⟨f, hf⟩ := choose_lt (n := len) (p := fun i (y : α) => ∃ cs', w.cells? 0 (a.add (i * Tryz.prog.cellsOf e)) (Tryz.prog.cellsOf e) = some cs' ∧ dd.K w y cs' ∧ Wf y) (fun i hi => by
      obtain ⟨cs', h1, h2⟩ := hx i (by omega)
      obtain ⟨y, h3, h4⟩ := he H enc w n cs' _ h2
      exact ⟨y, cs', h1, h3, h4⟩)
    have hlen : ((List.range len).map f).length = len := by simp
    refine ⟨(List.range len).map f, some a, cap, by rw [hlen], by rw [hlen]; exact hl, ⟨rfl, by rw [hlen]; unfold maxLen at hm; omega, fun _ => ⟨a, rfl, fun j p hj => ?_⟩⟩, fun y hy => ?_⟩
    · obtain ⟨hjl, hjp⟩ := List.getElem?_eq_some_iff.1 hj
      rw [hlen] at hjl
      have hp : f j = p := by simpa using hjp
      obtain ⟨cs', h1, h2, _⟩ := hf j hjl
      obtain ⟨_, hs, hcell⟩ := World.cells?_some h1
      rw [hc] at hs
      refine ⟨cs', hs, hp ▸ h2, fun i u hu => ?_⟩
      have hi : i < dd.sz := by rw [← hs]; exact (List.getElem?_eq_some_iff.1 hu).1
      have := hcell i (by rw [hc]; exact hi)
      rw [Deep.add_add, hc] at this
      rw [this, hu]
    · obtain ⟨j, hj, rfl⟩ := List.mem_map.1 hy
      obtain ⟨cs', _, _, h3⟩ := hf j (List.mem_range.1 hj)
      exact h3
/-- A struct all of whose fields are one cell each. -/
theorem struct_cells {H : Type} {enc : TypeId × Value → H} {w : World} {fuel t : Nat} {cs : List Value} {x : DataW H × List MemPlace} {fs : Array Field} (ht : Tryz.prog.underlying t = some (.struct fs)) (hsz : Tryz.prog.cellsOf t = fs.size) (hone : ∀ (i : Nat) (f : Field), fs[i]? = some f → f.offset = i ∧ Tryz.prog.cellsOf f.type = 1)
    (h : DataW.trod enc Tryz.prog w 0 (fun _ => true) true fuel t cs = some x) : cs.length = fs.size ∧ ∃ n, ∀ (i : Nat) (f : Field) (u : Value), fs[i]? = some f → cs[i]? = some u → ∃ y, DataW.trod enc Tryz.prog w 0 (fun _ => true) true n f.type [u] = some y := by
  obtain ⟨xs, n, _, _, hl, hx, hf⟩ := DataW.trod_struct ht h
  refine ⟨by rw [hl, hsz], n, fun i f u hfi hu => ?_⟩
  have h1 := hf i f hfi
  obtain ⟨h2, h3⟩ := hone i f hfi
  rw [h2, h3] at h1
  have hi : i < cs.length := (List.getElem?_eq_some_iff.1 hu).1
  have e : (cs.drop i).take 1 = [u] := by
    rw [List.drop_eq_getElem_cons hi]
    simp [(List.getElem?_eq_some_iff.1 hu).2]
  rw [e] at h1
  have hfs : i < fs.size := (Array.getElem?_eq_some_iff.1 hfi).1
  exact ⟨xs[i]'(by omega), by rw [h1]; exact List.getElem?_eq_getElem _⟩
instance : Inhabited Cf := ⟨⟨0, false⟩⟩
end Go.Proofs.YtehhafnjbkbmjaaGreat.Disk
