/- The reference's disk. -/
import Derived.Test.YtehhafnjbkbmjaaGreatY4
import Derived.Deep.CutRange
import Derived.Deep.RegionHeld
/- The reference's states: what they read; directory. -/
namespace Go.Proofs.YtehhafnjbkbmjaaGreat.Disk
open Go Go.RowKit Go.Proofs.YtehhafnjbkbmjaaGreatW.PrintWords Go.Proofs.YtehhafnjbkbmjaaGreatW.PrintLast Go.Proofs.YtehhafnjbkbmjaaGreatW.PrintMore Go.Proofs.YtehhafnjbkbmjaaGreat.PCommitlogSequence
/-- A state's four rows, read. -/
structure Ref (w : World) (ok : Nat → Prop) (a0 : Option Addr) (c0 : Nat) (a1 : Option Addr) (c1 : Nat) (a2 : Option Addr) (c2 : Nat) (a3 : Option Addr) (c3 : Nat) (S : PS) : Prop where
  files : Rd kF w ok a0 c0 S.files
  dir : Rd kE w ok a1 c1 S.dir
  dur : Rd kE w ok a2 c2 S.dur
  pend : Rd kO w ok a3 c3 S.pend
abbrev sv (a0 : Option Addr) (c0 : Nat) (a1 : Option Addr) (c1 : Nat) (a2 : Option Addr) (c2 : Nat) (a3 : Option Addr) (c3 : Nat) (S : PS) : Value :=
  .agg #[.slice a0 S.files.length c0, .slice a1 S.dir.length c1, .slice a2 S.dur.length c2, .slice a3 S.pend.length c3, .bool S.lim, .int .i64 S.left]
def RefV (w : World) (ok : Nat → Prop) (v : Value) (S : PS) : Prop := ∃ a0 c0 a1 c1 a2 c2 a3 c3, v = sv a0 c0 a1 c1 a2 c2 a3 c3 S ∧ Ref w ok a0 c0 a1 c1 a2 c2 a3 c3 S
theorem Ref.mono {w : World} {ok ok' : Nat → Prop} {a0 c0 a1 c1 a2 c2 a3 c3} {S : PS} (h : Ref w ok a0 c0 a1 c1 a2 c2 a3 c3 S) (hok : ∀ k, ok k → k < w.heap.size → ok' k) : Ref w ok' a0 c0 a1 c1 a2 c2 a3 c3 S :=
  ⟨h.files.mono hok, h.dir.mono hok, h.dur.mono hok, h.pend.mono hok⟩
theorem Ref.move {w w' : World} {ok : Nat → Prop} {a0 c0 a1 c1 a2 c2 a3 c3} {S : PS} (h : Ref w ok a0 c0 a1 c1 a2 c2 a3 c3 S) (hm : ∀ k, ok k → k < w.heap.size → w'.heap[k]? = w.heap[k]?) : Ref w' ok a0 c0 a1 c1 a2 c2 a3 c3 S :=
  ⟨h.files.move hm, h.dir.move hm, h.dur.move hm, h.pend.move hm⟩
theorem Ref.below {w w' : World} {ok : Nat → Prop} {a0 c0 a1 c1 a2 c2 a3 c3} {S : PS} (h : Ref w ok a0 c0 a1 c1 a2 c2 a3 c3 S) (hb : Below w.heap.size w w') : Ref w' ok a0 c0 a1 c1 a2 c2 a3 c3 S := h.move (fun k _ hk => hb.block k hk)
/-- What an operation gives: a state, in blocks of ok or new ones. -/
def RefE (w : World) (ok : Nat → Prop) (S : PS) (e : Ending) (w' : World) : Prop := ∃ v, e = .returned v ∧ RefV w' (fun k => ok k ∨ w.heap.size ≤ k) v S ∧ Below w.heap.size w w'
def RefE2 (w : World) (ok : Nat → Prop) (S : PS × Int) (e : Ending) (w' : World) : Prop := ∃ v, e = .returned (.tuple #[v, .int .i64 S.2]) ∧ RefV w' (fun k => ok k ∨ w.heap.size ≤ k) v S.1 ∧ Below w.heap.size w w'
theorem blk_below {w w' : World} {b : Nat} {o : Obj} (h : w.heap[b]? = some o) (hb : Below w.heap.size w w') : w'.heap[b]? = some o := (hb.block b (lt_blk h)).trans h
theorem blk_grownN {w w' : World} {b : Nat} {o : Obj} (h : w.heap[b]? = some o) {r : Option Nat} (hg : w.grownBy w' r) (hr : some b ≠ r) : w'.heap[b]? = some o := (hg.block b (lt_blk h) hr).trans h
/-- A world that only grew by stores into a new block stays below. -/
theorem below_setN {n : Nat} {w0 w : World} (h : Below n w0 w) {b j : Nat} (hb : n ≤ b) (v : Value) : Below n w0 (w.setCell ⟨b, j, none⟩ v) :=
  h.trans ⟨rfl, rfl, rfl, by simp [World.setCell], fun k hk => Below.heap_setCell _ _ _ _ (by show k ≠ b; omega)⟩
theorem blk_allocN {w : World} {b : Nat} {o : Obj} (h : w.heap[b]? = some o) (o' : Obj) : (w.alloc o').heap[b]? = some o := (Below.heap_alloc _ _ _ (lt_blk h)).trans h
theorem three_blks (w : World) (x y z : Obj) : ((((w.alloc x).alloc y).alloc z).heap[w.heap.size]? = some x ∧ (((w.alloc x).alloc y).alloc z).heap[w.heap.size + 1]? = some y ∧ (((w.alloc x).alloc y).alloc z).heap[w.heap.size + 1 + 1]? = some z) ∧ Below w.heap.size w (((w.alloc x).alloc y).alloc z) := by
  have h1 := heap_alloc_new w x
  have h2 := heap_alloc_new (w.alloc x) y
  have h3 := heap_alloc_new ((w.alloc x).alloc y) z
  have e1 : (w.alloc x).heap.size = w.heap.size + 1 := by simp
  have e2 : ((w.alloc x).alloc y).heap.size = w.heap.size + 1 + 1 := by simp
  rw [e1] at h2
  rw [e2] at h3
  exact ⟨⟨blk_allocN (blk_allocN h1 _) _, blk_allocN h2 _, h3⟩, below_alloc (below_alloc (below_alloc (Below.refl _ _) _) _) _⟩
theorem two_blks (w : World) (x y : Obj) : (((w.alloc x).alloc y).heap[w.heap.size]? = some x ∧ ((w.alloc x).alloc y).heap[w.heap.size + 1]? = some y) ∧ Below w.heap.size w ((w.alloc x).alloc y) := by
  have h1 := heap_alloc_new w x
  have h2 := heap_alloc_new (w.alloc x) y
  have e1 : (w.alloc x).heap.size = w.heap.size + 1 := by simp
  rw [e1] at h2
  exact ⟨⟨blk_allocN h1 _, h2⟩, below_alloc (below_alloc (Below.refl _ _) _) _⟩
abbrev opCs (o : Opn) : List Value := [.int .i64 o.f0, .string o.f1, .string o.f2, .int .i64 o.f3]
abbrev svC (a0 : Option Addr) (c0 : Nat) (a1 : Option Addr) (c1 : Nat) (a2 : Option Addr) (c2 : Nat) (a3 : Option Addr) (c3 : Nat) (S : PS) : Array Value :=
  #[.slice a0 S.files.length c0, .slice a1 S.dir.length c1, .slice a2 S.dur.length c2, .slice a3 S.pend.length c3, .bool S.lim, .int .i64 S.left]

theorem op_cells {w : World} {b : Nat} {o : Opn} {t : Nat} {fz : Nat × Nat} (h : w.heap[b]? = some (.cells (opCs o).toArray t fz)) : w.cell? ⟨b, 0, none⟩ = some (.int .i64 o.f0) ∧ w.cell? ⟨b, 1, none⟩ = some (.string o.f1) ∧ w.cell? ⟨b, 2, none⟩ = some (.string o.f2) ∧ w.cell? ⟨b, 3, none⟩ = some (.int .i64 o.f3) :=
  ⟨cell_blk h 0, cell_blk h 1, cell_blk h 2, cell_blk h 3⟩
theorem six_cells {w : World} {b : Nat} {x0 x1 x2 x3 x4 x5 : Value} {t : Nat} {fz : Nat × Nat} (h : w.heap[b]? = some (.cells #[x0, x1, x2, x3, x4, x5] t fz)) : w.cell? ⟨b, 0, none⟩ = some x0 ∧ w.cell? ⟨b, 1, none⟩ = some x1 ∧ w.cell? ⟨b, 2, none⟩ = some x2 ∧ w.cell? ⟨b, 3, none⟩ = some x3 ∧ w.cell? ⟨b, 4, none⟩ = some x4 ∧ w.cell? ⟨b, 5, none⟩ = some x5 :=
  ⟨cell_blk h 0, cell_blk h 1, cell_blk h 2, cell_blk h 3, cell_blk h 4, cell_blk h 5⟩
theorem six_frozen {w : World} {b : Nat} {x0 x1 x2 x3 x4 x5 : Value} {t : Nat} (h : w.heap[b]? = some (.cells #[x0, x1, x2, x3, x4, x5] t (0, 0))) : w.frozen? ⟨b, 0, none⟩ = false ∧ w.frozen? ⟨b, 1, none⟩ = false ∧ w.frozen? ⟨b, 2, none⟩ = false ∧ w.frozen? ⟨b, 3, none⟩ = false ∧ w.frozen? ⟨b, 4, none⟩ = false ∧ w.frozen? ⟨b, 5, none⟩ = false :=
  ⟨frozen_blk h 0, frozen_blk h 1, frozen_blk h 2, frozen_blk h 3, frozen_blk h 4, frozen_blk h 5⟩
theorem not_far {v : Value} {n b : Nat} (hf : v.ownBlock = none ∨ ∃ q, v.ownBlock = some q ∧ n + 3 ≤ q) (hb : b < n + 3) : some b ≠ v.ownBlock := fun e => by
  rcases hf with h | ⟨q, h, hq⟩
  · rw [h] at e; cases e
  · rw [h] at e; cases e; omega

/-- Old blocks of ok, or new ones behind the boxes. -/
def OkN (ok : Nat → Prop) (n k : Nat) : Prop := (ok k ∧ k < n) ∨ n + 3 ≤ k
theorem OkN.ne {ok : Nat → Prop} {n k : Nat} (h : OkN ok n k) : k ≠ n ∧ k ≠ n + 1 ∧ k ≠ n + 1 + 1 := by
  rcases h with h | h
  · have := h.2; omega
  · omega
theorem OkN.in {ok : Nat → Prop} {n k : Nat} (h : OkN ok n k) : ok k ∨ n ≤ k := by
  rcases h with h | h
  · exact .inl h.1
  · exact .inr (by omega)
theorem OkN.of {ok : Nat → Prop} {n m k : Nat} (hm : n + 3 ≤ m) (h : (ok k ∧ k < n) ∨ m ≤ k) : OkN ok n k := by
  rcases h with h | h
  · exact .inl h
  · exact .inr (by omega)
theorem set_six {w : World} {b : Nat} {x0 x1 x2 x3 x4 x5 : Value} (y0 y1 y2 y3 y4 y5 : Value) {t : Nat} {fz : Nat × Nat} (h : w.heap[b]? = some (.cells #[x0, x1, x2, x3, x4, x5] t fz)) :
    ((((((w.setCell ⟨b, 0, none⟩ y0).setCell ⟨b, 1, none⟩ y1).setCell ⟨b, 2, none⟩ y2).setCell ⟨b, 3, none⟩ y3).setCell ⟨b, 4, none⟩ y4).setCell ⟨b, 5, none⟩ y5).heap[b]? = some (.cells #[y0, y1, y2, y3, y4, y5] t fz) :=
  blk_set (blk_set (blk_set (blk_set (blk_set (blk_set h 0 y0) 1 y1) 2 y2) 3 y3) 4 y4) 5 y5
theorem below_six {n : Nat} {w0 w : World} (h : Below n w0 w) {b : Nat} (hb : n ≤ b) (y0 y1 y2 y3 y4 y5 : Value) :
    Below n w0 ((((((w.setCell ⟨b, 0, none⟩ y0).setCell ⟨b, 1, none⟩ y1).setCell ⟨b, 2, none⟩ y2).setCell ⟨b, 3, none⟩ y3).setCell ⟨b, 4, none⟩ y4).setCell ⟨b, 5, none⟩ y5) :=
  below_setN (below_setN (below_setN (below_setN (below_setN (below_setN h hb y0) hb y1) hb y2) hb y3) hb y4) hb y5
theorem other_six {w : World} {b k : Nat} (hk : k ≠ b) (y0 y1 y2 y3 y4 y5 : Value) :
    ((((((w.setCell ⟨b, 0, none⟩ y0).setCell ⟨b, 1, none⟩ y1).setCell ⟨b, 2, none⟩ y2).setCell ⟨b, 3, none⟩ y3).setCell ⟨b, 4, none⟩ y4).setCell ⟨b, 5, none⟩ y5).heap[k]? = w.heap[k]? := by
  rw [Below.heap_setCell _ _ _ _ hk, Below.heap_setCell _ _ _ _ hk, Below.heap_setCell _ _ _ _ hk, Below.heap_setCell _ _ _ _ hk, Below.heap_setCell _ _ _ _ hk, Below.heap_setCell _ _ _ _ hk]

set_option maxHeartbeats 4000000 in
theorem directory_calls (w : World) (ok : Nat → Prop) (a0 : Option Addr) (c0 : Nat) (a1 : Option Addr) (c1 : Nat) (a2 : Option Addr) (c2 : Nat) (a3 : Option Addr) (c3 : Nat) (S : PS) (o : Opn) (h : Ref w ok a0 c0 a1 c1 a2 c2 a3 c3 S) (hl : S.dir.length ≤ 549755813888) (hp : S.pend.length ≤ 549755813888) (ho : o.f0 = 1 ∨ o.f0 = 2 ∨ o.f0 = 3) :
    Calls Tryz.prog 86 #[sv a0 c0 a1 c1 a2 c2 a3 c3 S, .agg #[.int .i64 o.f0, .string o.f1, .string o.f2, .int .i64 o.f3]] w (RefE w ok (pDir S o)) := by
  have H := Lib.hid h
  have HL := Lib.hid hl
  have HP := Lib.hid hp
  have HO := Lib.hid ho
  clear h hl hp ho
  go_enter Tryz.func86, Tryz.ntmps86
  go_upto_region 2 with (fail)
  have hw := three_blks w (.cells (svC a0 c0 a1 c1 a2 c2 a3 c3 S) 31) (.cells (opCs o).toArray 124) (.cells #[.slice none 0 0, .slice none 0 0, .slice none 0 0, .slice none 0 0, .bool false, .int .i64 0] 31)
  have HW := Lib.hid hw
  have HWS : Hid (w.heap.size + 3 ≤ (((w.alloc (.cells (svC a0 c0 a1 c1 a2 c2 a3 c3 S) 31)).alloc (.cells (opCs o).toArray 124)).alloc (.cells #[.slice none 0 0, .slice none 0 0, .slice none 0 0, .slice none 0 0, .bool false, .int .i64 0] 31)).heap.size) := by simp [Hid]
  have HOK := Lib.hid (H.out.mono (ok' := fun k => ok k ∧ k < w.heap.size) (fun k h1 h2 => ⟨h1, h2⟩))
  clear hw
  go_wp2_with (first | (at_builtin; refine Kd.N_append_rows kO (w0 := w) w.heap.size rfl (.tmp 6) (.tmp 8) 29 124 _ 48 rfl Tryz.underlying29 info124 rfl (by decide) (by omega) (.slice none 0 0) [] S.pend a3 S.pend.length c3 (OkN ok w.heap.size) (fun k => ok k ∧ k < w.heap.size) rfl rfl (Kd.N_nil _ _ _ _ _) (HOK.out.below HW.out.2).pend.f (fun k hk => ⟨.inl hk, by simp [Value.ownBlock]⟩) (fun k hk => .inr (Nat.le_trans HWS.out hk)) HW.out.2 HW.out.2.size (by have := HP.out; simp only [List.length_nil]; omega) ?_; intro v1 w1 hn hb hg hat; rw [List.nil_append] at hn; have b0 := Lib.hid (blk_grownN HW.out.1.1 hg (by simp [Value.ownBlock])); have b1 := Lib.hid (blk_grownN HW.out.1.2.1 hg (by simp [Value.ownBlock])); have b2 := Lib.hid (blk_grownN HW.out.1.2.2 hg (by simp [Value.ownBlock])); obtain ⟨p0, p1, p2, p3⟩ := op_cells b1.out; have HN1 := Lib.hid hn; have HB1 := Lib.hid hb; have hfar : v1.ownBlock = none ∨ ∃ q, v1.ownBlock = some q ∧ w.heap.size + 3 ≤ q := (by rcases hat with e | ⟨q, e1, e2⟩; exact .inl e; exact .inr ⟨q, e1, by have hs := HW.out.2.size; simp at e2; omega⟩); have HF1 := Lib.hid hfar; have HS1 := Lib.hid (Nat.le_trans HWS.out hg.size); clear hn hb hg hat hfar) | (at_builtin; refine Kd.N_append kO (w0 := w) w.heap.size rfl (.tmp 10) (.tmp 12) 29 124 _ 48 rfl Tryz.underlying29 info124 rfl (by decide) (by omega) v1 S.pend o (opCs o) (OkN ok w.heap.size) (fun _ => False) rfl rfl (k124_mkF _ _ _) (fun k hk => hk.elim) (fun k hk => .inr (Nat.le_trans HS1.out hk)) HN1.out HB1.out HB1.out.size (by have := HP.out; omega) ?_; intro v2 w2 hn hb hg hat; have k0 := Lib.hid (blk_grownN b0.out hg (not_far HF1.out (by omega))); have k1 := Lib.hid (blk_grownN b1.out hg (not_far HF1.out (by omega))); have k2 := Lib.hid (blk_grownN b2.out hg (not_far HF1.out (by omega))); clear p0 p1 p2 p3 b0 b1 b2; obtain ⟨p0, p1, p2, p3⟩ := op_cells k1.out; obtain ⟨s0, s1, s2, s3, s4, s5⟩ := six_cells k0.out; obtain ⟨f0, f1, f2, f3, f4, f5⟩ := six_frozen k0.out; obtain ⟨A2, cc2, rfl, hr2⟩ := Rd.ofN hn; have HR2 := Lib.hid (hr2.mono (ok' := OkN ok w.heap.size) (fun k hk _ => hk.1)); have HB2 := Lib.hid hb; have HS2 := Lib.hid (Nat.le_trans HS1.out hg.size); clear hn hb hg hat hr2 HN1) | (go_at_call 82; refine (refApply_calls _ (fun k => ok k ∧ k < w.heap.size) a1 c1 S.dir o (HOK.out.below (below_setN HB2.out (Nat.le_refl _) _)).dir HL.out HO.out).mono ?_; rintro e w3 ⟨A3, cc3, rfl, hr3, hb3⟩; go_loud ( have k0' : w3.heap[w.heap.size]? = some (.cells #[.slice a0 S.files.length c0, .slice a1 S.dir.length c1, .slice a2 S.dur.length c2, .slice A2 (S.pend.length + 1) cc2, .bool S.lim, .int .i64 S.left] 31 (0, 0)) := blk_below (blk_set k0.out 3 _) hb3; have k2' := blk_below (blk_set_other k2.out (p := ⟨w.heap.size, 3, none⟩) (by show w.heap.size + 1 + 1 ≠ w.heap.size; omega) _) hb3; have HB3 := Lib.hid ((below_setN HB2.out (b := w.heap.size) (j := 3) (Nat.le_refl _) (.slice A2 (S.pend.length + 1) cc2)).trans (hb3.mono (below_setN HB2.out (b := w.heap.size) (j := 3) (Nat.le_refl _) (.slice A2 (S.pend.length + 1) cc2)).size)); have HR3 := Lib.hid (hr3.mono (ok' := OkN ok w.heap.size) (fun k hk _ => OkN.of (by have := HS2.out; simpa [World.setCell] using this) hk)); have HR23 := Lib.hid ((HR2.out.move (w' := w2.setCell ⟨w.heap.size, 3, none⟩ (.slice A2 (S.pend.length + 1) cc2)) (fun k hk _ => Below.heap_setCell _ _ _ _ hk.ne.1)).below hb3); clear p0 p1 p2 p3 s0 s1 s2 s3 s4 s5 f0 f1 f2 f3 f4 f5 k0 k1 k2; obtain ⟨s0, s1, s2, s3, s4, s5⟩ := six_cells k0'; obtain ⟨f0, f1, f2, f3, f4, f5⟩ := six_frozen k0'; obtain ⟨g0, g1, g2, g3, g4, g5⟩ := six_frozen k2'; obtain ⟨e0, e1, e2, e3, e4, e5⟩ := six_cells k2'; have K0 := Lib.hid k0'; have K2 := Lib.hid k2'; clear hr3 hb3 k0' k2')) | fail)
  have hset := @set_six (w3.setCell ⟨w.heap.size, 1, none⟩ (.slice A3 (pApply S.dir o).length cc3)) (w.heap.size + 1 + 1) _ _ _ _ _ _ (.slice a0 S.files.length c0) (.slice A3 (pApply S.dir o).length cc3) (.slice a2 S.dur.length c2) (.slice A2 (S.pend.length + 1) cc2) (.bool S.lim) (.int .i64 S.left) _ _ (blk_set_other K2.out (by show w.heap.size + 1 + 1 ≠ w.heap.size; omega) _)
  have hbel := below_six (below_setN HB3.out (b := w.heap.size) (j := 1) (Nat.le_refl _) (.slice A3 (pApply S.dir o).length cc3)) (b := w.heap.size + 1 + 1) (by omega) (.slice a0 S.files.length c0) (.slice A3 (pApply S.dir o).length cc3) (.slice a2 S.dur.length c2) (.slice A2 (S.pend.length + 1) cc2) (.bool S.lim) (.int .i64 S.left)
  have hoth := fun k h1 h2 => (@other_six (w3.setCell ⟨w.heap.size, 1, none⟩ (.slice A3 (pApply S.dir o).length cc3)) (w.heap.size + 1 + 1) k h2 (.slice a0 S.files.length c0) (.slice A3 (pApply S.dir o).length cc3) (.slice a2 S.dur.length c2) (.slice A2 (S.pend.length + 1) cc2) (.bool S.lim) (.int .i64 S.left)).trans (Below.heap_setCell w3 ⟨w.heap.size, 1, none⟩ _ k h1)
  refine bodyPost_ret (results_cell_row rfl _ _ (w.heap.size + 1 + 1) 31 _ (0, 0) _ rfl hset Tryz.underlying31 rfl (by kernel_rfl)) rfl ⟨_, rfl, ⟨a0, c0, A3, cc3, a2, c2, A2, cc2, by simp [sv, pDir], ⟨(H.out.files.below hbel).mono (fun k hk _ => .inl hk), ?_, (H.out.dur.below hbel).mono (fun k hk _ => .inl hk), ?_⟩⟩, hbel⟩
  · exact (HR3.out.move (fun k hk _ => hoth k hk.ne.1 hk.ne.2.2)).mono (fun k hk _ => hk.in)
  · exact (HR23.out.move (fun k hk _ => hoth k hk.ne.1 hk.ne.2.2)).mono (fun k hk _ => hk.in)
end Go.Proofs.YtehhafnjbkbmjaaGreat.Disk

/- The reference's functions: Remove, Rename, SyncDir, Create. -/
namespace Go.Proofs.YtehhafnjbkbmjaaGreat.Disk
open Go Go.RowKit Go.Proofs.YtehhafnjbkbmjaaGreatW.PrintWords Go.Proofs.YtehhafnjbkbmjaaGreatW.PrintLast Go.Proofs.YtehhafnjbkbmjaaGreatW.PrintMore Go.Proofs.YtehhafnjbkbmjaaGreat.PCommitlogSequence
abbrev tState : Nat := 31
abbrev zeroC : Array Value := #[.slice none 0 0, .slice none 0 0, .slice none 0 0, .slice none 0 0, .bool false, .int .i64 0]
theorem refcheck_calls (w : World) (ok : Nat → Prop) (a0 : Option Addr) (c0 : Nat) (a1 : Option Addr) (c1 : Nat) (a2 : Option Addr) (c2 : Nat) (a3 : Option Addr) (c3 : Nat) (S : PS) (A : Option Addr) (cc : Nat) (names : List ByteArray) (c : Int) (h : Ref w ok a0 c0 a1 c1 a2 c2 a3 c3 S) (hn : Kd.C Kd.string w A names.length names) (hcc : names.length ≤ cc) (hl : names.length < 1000) (hc : pCheck S.lim S.left names = c) :
    Calls Tryz.prog 84 #[sv a0 c0 a1 c1 a2 c2 a3 c3 S, .slice A names.length cc] w fun e w' => e = .returned (.int .i64 c) ∧ Below w.heap.size w w' :=
  laminaref20_check.calls 1071 _ _ _ _ _ _ _ _ _ _ _ _ _ _ _ _ _ _ w h.files.now h.files.le h.dir.now h.dir.le h.dur.now h.dur.le h.pend.now h.pend.le hn hcc (hc ▸ check_f _ _ _ _ _ _ _ _ hl (by decide))
theorem refcheck_one (w W : World) (ok : Nat → Prop) (a0 : Option Addr) (c0 : Nat) (a1 : Option Addr) (c1 : Nat) (a2 : Option Addr) (c2 : Nat) (a3 : Option Addr) (c3 : Nat) (S : PS) (b : Nat) (n : ByteArray) (c : Int) (h : Ref w ok a0 c0 a1 c1 a2 c2 a3 c3 S) (hW : Below w.heap.size w W) (hb : b = W.heap.size) (hc : pCheck S.lim S.left [n] = c) :
    Calls Tryz.prog 84 #[sv a0 c0 a1 c1 a2 c2 a3 c3 S, .slice (some ⟨b, 0, none⟩) 1 1] (W.alloc (.cells #[.string n] 9)) fun e w' => e = .returned (.int .i64 c) ∧ Below W.heap.size W w' := by
  subst hb
  exact (refcheck_calls _ ok a0 c0 a1 c1 a2 c2 a3 c3 S _ 1 [n] c (h.below (below_alloc hW _)) (C_one (heap_alloc_new _ _)) (Nat.le_refl _) (by simp) hc).mono fun e w' q => ⟨q.1, (below_alloc (Below.refl _ _) _).trans (q.2.mono (by simp))⟩
theorem refcheck_two (w W : World) (ok : Nat → Prop) (a0 : Option Addr) (c0 : Nat) (a1 : Option Addr) (c1 : Nat) (a2 : Option Addr) (c2 : Nat) (a3 : Option Addr) (c3 : Nat) (S : PS) (b : Nat) (m n : ByteArray) (c : Int) (h : Ref w ok a0 c0 a1 c1 a2 c2 a3 c3 S) (hW : Below w.heap.size w W) (hb : b = W.heap.size) (hc : pCheck S.lim S.left [m, n] = c) :
    Calls Tryz.prog 84 #[sv a0 c0 a1 c1 a2 c2 a3 c3 S, .slice (some ⟨b, 0, none⟩) 2 2] (W.alloc (.cells #[.string m, .string n] 9)) fun e w' => e = .returned (.int .i64 c) ∧ Below W.heap.size W w' := by
  subst hb
  exact (refcheck_calls _ ok a0 c0 a1 c1 a2 c2 a3 c3 S _ 2 [m, n] c (h.below (below_alloc hW _)) (C_two (heap_alloc_new _ _)) (Nat.le_refl _) (by simp) hc).mono fun e w' q => ⟨q.1, (below_alloc (Below.refl _ _) _).trans (q.2.mono (by simp))⟩
/-- performed, on a state. -/
theorem refdone_calls (w : World) (a0 : Option Addr) (c0 : Nat) (a1 : Option Addr) (c1 : Nat) (a2 : Option Addr) (c2 : Nat) (a3 : Option Addr) (c3 : Nat) (n0 n1 n2 n3 : Nat) (lim : Bool) (left : Int) (h : lim = true → 0 < left ∧ left ≤ 9223372036854775807) :
    Calls Tryz.prog 85 #[.agg #[.slice a0 n0 c0, .slice a1 n1 c1, .slice a2 n2 c2, .slice a3 n3 c3, .bool lim, .int .i64 left]] w fun e w' =>
      e = .returned (.agg #[.slice a0 n0 c0, .slice a1 n1 c1, .slice a2 n2 c2, .slice a3 n3 c3, .bool lim, .int .i64 (doneLeft lim left)]) ∧ Below w.heap.size w w' :=
  performed_calls w a0 a1 a2 a3 n0 c0 n1 c1 n2 c2 n3 c3 lim left h
/-- At the end of a method of the reference: the state is laid in the result's block. -/
theorem fin_ref {w w4 : World} {ok : Nat → Prop} {b0 : Option Addr} {d0 : Nat} {b1 : Option Addr} {d1 : Nat} {b2 : Option Addr} {d2 : Nat} {b3 : Option Addr} {d3 : Nat} {S : PS} {x0 x1 x2 x3 x4 x5 : Value} (hb : Below w.heap.size w w4) (h1 : w4.heap[w.heap.size + 1]? = some (.cells #[x0, x1, x2, x3, x4, x5] tState (0, 0))) (hr : Ref w4 (fun k => (ok k ∧ k < w.heap.size) ∨ w.heap.size + 2 ≤ k) b0 d0 b1 d1 b2 d2 b3 d3 S) :
    ((((((w4.setCell ⟨w.heap.size + 1, 0, none⟩ (.slice b0 S.files.length d0)).setCell ⟨w.heap.size + 1, 1, none⟩ (.slice b1 S.dir.length d1)).setCell ⟨w.heap.size + 1, 2, none⟩ (.slice b2 S.dur.length d2)).setCell ⟨w.heap.size + 1, 3, none⟩ (.slice b3 S.pend.length d3)).setCell ⟨w.heap.size + 1, 4, none⟩ (.bool S.lim)).setCell ⟨w.heap.size + 1, 5, none⟩ (.int .i64 S.left)).heap[w.heap.size + 1]? = some (.cells (svC b0 d0 b1 d1 b2 d2 b3 d3 S) tState (0, 0)) ∧
    Below w.heap.size w ((((((w4.setCell ⟨w.heap.size + 1, 0, none⟩ (.slice b0 S.files.length d0)).setCell ⟨w.heap.size + 1, 1, none⟩ (.slice b1 S.dir.length d1)).setCell ⟨w.heap.size + 1, 2, none⟩ (.slice b2 S.dur.length d2)).setCell ⟨w.heap.size + 1, 3, none⟩ (.slice b3 S.pend.length d3)).setCell ⟨w.heap.size + 1, 4, none⟩ (.bool S.lim)).setCell ⟨w.heap.size + 1, 5, none⟩ (.int .i64 S.left)) ∧
    Ref ((((((w4.setCell ⟨w.heap.size + 1, 0, none⟩ (.slice b0 S.files.length d0)).setCell ⟨w.heap.size + 1, 1, none⟩ (.slice b1 S.dir.length d1)).setCell ⟨w.heap.size + 1, 2, none⟩ (.slice b2 S.dur.length d2)).setCell ⟨w.heap.size + 1, 3, none⟩ (.slice b3 S.pend.length d3)).setCell ⟨w.heap.size + 1, 4, none⟩ (.bool S.lim)).setCell ⟨w.heap.size + 1, 5, none⟩ (.int .i64 S.left)) (fun k => ok k ∨ w.heap.size ≤ k) b0 d0 b1 d1 b2 d2 b3 d3 S :=
  ⟨set_six _ _ _ _ _ _ h1, below_six hb (by omega) _ _ _ _ _ _, (hr.move (fun k hk _ => other_six (by rcases hk with hk | hk; have := hk.2; omega; omega) _ _ _ _ _ _)).mono (fun k hk _ => by rcases hk with hk | hk; exact .inl hk.1; exact .inr (by omega))⟩
theorem Ref.done {w : World} {ok : Nat → Prop} {a0 c0 a1 c1 a2 c2 a3 c3} {S : PS} (h : Ref w ok a0 c0 a1 c1 a2 c2 a3 c3 S) : Ref w ok a0 c0 a1 c1 a2 c2 a3 c3 (pDone S) := ⟨h.files, h.dir, h.dur, h.pend⟩
theorem okin {w w2 : World} {ok : Nat → Prop} {o : Obj} {k : Nat} (h : w2.heap[w.heap.size + 1]? = some o) (hk : (ok k ∧ k < w.heap.size) ∨ w2.heap.size ≤ k) : (ok k ∧ k < w.heap.size) ∨ w.heap.size + 2 ≤ k := by
  rcases hk with hk | hk
  · exact .inl hk
  · exact .inr (by have := lt_blk h; omega)
theorem okin2 {w w2 : World} {ok : Nat → Prop} {o : Obj} {k : Nat} (h : w2.heap[w.heap.size + 1]? = some o) (hk : ((ok k ∧ k < w.heap.size) ∨ w.heap.size + 2 ≤ k) ∨ w2.heap.size ≤ k) : (ok k ∧ k < w.heap.size) ∨ w.heap.size + 2 ≤ k := by
  rcases hk with hk | hk
  · exact hk
  · exact .inr (by have := lt_blk h; omega)

set_option maxHeartbeats 4000000 in
theorem refRemove_calls (w : World) (ok : Nat → Prop) (a0 : Option Addr) (c0 : Nat) (a1 : Option Addr) (c1 : Nat) (a2 : Option Addr) (c2 : Nat) (a3 : Option Addr) (c3 : Nat) (S : PS) (B : Nat) (n : ByteArray) (h : Ref w ok a0 c0 a1 c1 a2 c2 a3 c3 S) (hg : Good S B) (hB : B ≤ 549755813888) :
    Calls Tryz.prog 112 #[sv a0 c0 a1 c1 a2 c2 a3 c3 S, .string n] w (RefE2 w ok (pRemove S n)) := by
  have H := Lib.hid h
  have HG := Lib.hid hg
  have HB := Lib.hid hB
  have HW := Lib.hid (two_blks w (.cells (svC a0 c0 a1 c1 a2 c2 a3 c3 S) tState) (.cells zeroC tState))
  have HOK := Lib.hid (h.mono (ok' := fun k => ok k ∧ k < w.heap.size) (fun k h1 h2 => ⟨h1, h2⟩))
  clear h hg hB
  by_cases hc : pCheck S.lim S.left [n] = 0
  · have HC := Lib.hid hc
    have HN := Lib.hid (pCheck_zero hc)
    cases hp : pLook S.dir n with
    | none =>
      have e : pRemove S n = (S, 15) := by simp [pRemove, hc, hp]
      rw [e]
      have HP := Lib.hid hp
      clear hc hp e
      go_enter Tryz.func112, Tryz.ntmps112
      go_wp2_with (first | (go_at_call 84; refine (refcheck_one w _ ok a0 c0 a1 c1 a2 c2 a3 c3 S _ n 0 H.out HW.out.2 (by simp) HC.out).mono ?_; rintro e w1 ⟨rfl, hb⟩; have HB1 := Lib.hid (HW.out.2.trans (hb.mono HW.out.2.size)); have j0 := Lib.hid (blk_below HW.out.1.1 hb); have j1 := Lib.hid (blk_below HW.out.1.2 hb); obtain ⟨s0, s1, s2, s3, s4, s5⟩ := six_cells j0.out; obtain ⟨e0, e1, e2, e3, e4, e5⟩ := six_cells j1.out; obtain ⟨g0, g1, g2, g3, g4, g5⟩ := six_frozen j1.out; obtain ⟨f0, f1, f2, f3, f4, f5⟩ := six_frozen j0.out; clear hb) | (go_at_call 53; refine (find_none_calls w1 ok a1 c1 S.dir n (H.out.below HB1.out).dir (by have := HG.out.nDir; have := HB.out; omega) HP.out).mono ?_; rintro e w2 ⟨rfl, hd⟩; have hb := drawn_below hd; have HB2 := Lib.hid (HB1.out.trans (hb.mono HB1.out.size)); have k0 := Lib.hid (blk_below j0.out hb); have k1 := Lib.hid (blk_below j1.out hb); clear s0 s1 s2 s3 s4 s5 e0 e1 e2 e3 e4 e5 g0 g1 g2 g3 g4 g5 f0 f1 f2 f3 f4 f5; clear j0 j1; have j0 := k0; have j1 := k1; clear k0 k1; obtain ⟨s0, s1, s2, s3, s4, s5⟩ := six_cells j0.out; obtain ⟨e0, e1, e2, e3, e4, e5⟩ := six_cells j1.out; obtain ⟨g0, g1, g2, g3, g4, g5⟩ := six_frozen j1.out; obtain ⟨f0, f1, f2, f3, f4, f5⟩ := six_frozen j0.out; clear hb hd) | fail)
      obtain ⟨q1, q2, q3⟩ := fin_ref (ok := ok) (S := S) HB2.out j1.out (HOK.out.below HB2.out |>.mono (fun k hk _ => .inl hk))
      exact bodyPost_ret (results_ct rfl _ _ (w.heap.size + 1) tState _ (0, 0) _ rfl q1 Tryz.underlying31 rfl (by kernel_rfl)) rfl ⟨_, rfl, ⟨a0, c0, a1, c1, a2, c2, a3, c3, rfl, q3⟩, q2⟩
    | some x =>
      have e : pRemove S n = (pDone (pDir S ⟨3, n, ⟨#[]⟩, 0⟩), 0) := by simp [pRemove, hc, hp]
      rw [e]
      have HP := Lib.hid hp
      clear hc hp e
      go_enter Tryz.func112, Tryz.ntmps112
      go_wp2_with (first | (go_at_call 84; refine (refcheck_one w _ ok a0 c0 a1 c1 a2 c2 a3 c3 S _ n 0 H.out HW.out.2 (by simp) HC.out).mono ?_; rintro e w1 ⟨rfl, hb⟩; have HB1 := Lib.hid (HW.out.2.trans (hb.mono HW.out.2.size)); have j0 := Lib.hid (blk_below HW.out.1.1 hb); have j1 := Lib.hid (blk_below HW.out.1.2 hb); obtain ⟨s0, s1, s2, s3, s4, s5⟩ := six_cells j0.out; obtain ⟨e0, e1, e2, e3, e4, e5⟩ := six_cells j1.out; obtain ⟨g0, g1, g2, g3, g4, g5⟩ := six_frozen j1.out; obtain ⟨f0, f1, f2, f3, f4, f5⟩ := six_frozen j0.out; clear hb) | (go_at_call 53; obtain ⟨t, ht, hx, hcall⟩ := find_some_calls w1 ok a1 c1 S.dir n x (H.out.below HB1.out).dir (by have := HG.out.nDir; have := HB.out; omega) HP.out; have HX := Lib.hid hx; refine hcall.mono ?_; rintro e w2 ⟨rfl, hd⟩; have hb := drawn_below hd; have HB2 := Lib.hid (HB1.out.trans (hb.mono HB1.out.size)); have htb : t < 549755813888 := (by have := HG.out.nDir; have := HB.out; omega); have k0 := Lib.hid (blk_below j0.out hb); have k1 := Lib.hid (blk_below j1.out hb); clear s0 s1 s2 s3 s4 s5 e0 e1 e2 e3 e4 e5 g0 g1 g2 g3 g4 g5 f0 f1 f2 f3 f4 f5; clear j0 j1; have j0 := k0; have j1 := k1; clear k0 k1; obtain ⟨s0, s1, s2, s3, s4, s5⟩ := six_cells j0.out; obtain ⟨e0, e1, e2, e3, e4, e5⟩ := six_cells j1.out; obtain ⟨g0, g1, g2, g3, g4, g5⟩ := six_frozen j1.out; obtain ⟨f0, f1, f2, f3, f4, f5⟩ := six_frozen j0.out; clear hb hd hcall hx) | (go_at_call 86; refine (directory_calls w2 (fun k => ok k ∧ k < w.heap.size) a0 c0 a1 c1 a2 c2 a3 c3 S ⟨3, n, ⟨#[]⟩, 0⟩ (HOK.out.below HB2.out) (by have := HG.out.nDir; have := HB.out; show S.dir.length ≤ 549755813888; omega) (by have := HG.out.nPend; have := HB.out; show S.pend.length ≤ 549755813888; omega) (.inr (.inr rfl))).mono ?_; rintro e w3 ⟨v, rfl, ⟨b0, d0, b1, d1, b2, d2, b3, d3, rfl, hr⟩, hb⟩; have HB3 := Lib.hid (HB2.out.trans (hb.mono HB2.out.size)); have HR3 := Lib.hid (hr.mono (ok' := fun k => (ok k ∧ k < w.heap.size) ∨ w.heap.size + 2 ≤ k) (fun k hk _ => okin j1.out hk)); have k0 := Lib.hid (blk_below j0.out hb); have k1 := Lib.hid (blk_below j1.out hb); clear s0 s1 s2 s3 s4 s5 e0 e1 e2 e3 e4 e5 g0 g1 g2 g3 g4 g5 f0 f1 f2 f3 f4 f5; clear j0 j1; have j0 := k0; have j1 := k1; clear k0 k1; obtain ⟨s0, s1, s2, s3, s4, s5⟩ := six_cells j0.out; obtain ⟨e0, e1, e2, e3, e4, e5⟩ := six_cells j1.out; obtain ⟨g0, g1, g2, g3, g4, g5⟩ := six_frozen j1.out; obtain ⟨f0, f1, f2, f3, f4, f5⟩ := six_frozen j0.out; clear hb hr) | (go_at_call 85; refine (refdone_calls w3 _ _ _ _ _ _ _ _ _ _ _ _ _ _ (fun e => ⟨HN.out.1 e, (HG.out.left e).2⟩)).mono ?_; rintro e w4 ⟨rfl, hb⟩; have HB4 := Lib.hid (HB3.out.trans (hb.mono HB3.out.size)); have HR4 := Lib.hid (HR3.out.below hb); have k0 := Lib.hid (blk_below j0.out hb); have k1 := Lib.hid (blk_below j1.out hb); clear s0 s1 s2 s3 s4 s5 e0 e1 e2 e3 e4 e5 g0 g1 g2 g3 g4 g5 f0 f1 f2 f3 f4 f5; clear j0 j1; have j0 := k0; have j1 := k1; clear k0 k1; obtain ⟨s0, s1, s2, s3, s4, s5⟩ := six_cells j0.out; obtain ⟨e0, e1, e2, e3, e4, e5⟩ := six_cells j1.out; obtain ⟨g0, g1, g2, g3, g4, g5⟩ := six_frozen j1.out; obtain ⟨f0, f1, f2, f3, f4, f5⟩ := six_frozen j0.out; clear hb) | fail)
      obtain ⟨q1, q2, q3⟩ := fin_ref (ok := ok) (S := pDone (pDir S ⟨3, n, ⟨#[]⟩, 0⟩)) HB4.out j1.out (HR4.out.done)
      exact bodyPost_ret (results_ct rfl _ _ (w.heap.size + 1) tState _ (0, 0) _ rfl q1 Tryz.underlying31 rfl (by kernel_rfl)) rfl ⟨_, rfl, ⟨b0, d0, b1, d1, b2, d2, b3, d3, rfl, q3⟩, q2⟩
  · have e : pRemove S n = (S, pCheck S.lim S.left [n]) := by simp [pRemove, hc]
    rw [e]
    obtain ⟨c, hcc⟩ : ∃ c, pCheck S.lim S.left [n] = c := ⟨_, rfl⟩
    have HC := Lib.hid hcc
    have hc1 : (c == 0) = false := by rw [← hcc]; simpa using hc
    have hc2 : ¬ c = 0 := by rw [← hcc]; exact hc
    rw [hcc]
    clear e hc hcc
    go_enter Tryz.func112, Tryz.ntmps112
    go_wp2_with (first | (go_at_call 84; refine (refcheck_one w _ ok a0 c0 a1 c1 a2 c2 a3 c3 S _ n c H.out HW.out.2 (by simp) HC.out).mono ?_; rintro e w1 ⟨rfl, hb⟩; have HB1 := Lib.hid (HW.out.2.trans (hb.mono HW.out.2.size)); have j0 := Lib.hid (blk_below HW.out.1.1 hb); have j1 := Lib.hid (blk_below HW.out.1.2 hb); obtain ⟨s0, s1, s2, s3, s4, s5⟩ := six_cells j0.out; obtain ⟨e0, e1, e2, e3, e4, e5⟩ := six_cells j1.out; obtain ⟨g0, g1, g2, g3, g4, g5⟩ := six_frozen j1.out; obtain ⟨f0, f1, f2, f3, f4, f5⟩ := six_frozen j0.out; clear hb) | fail)
    obtain ⟨q1, q2, q3⟩ := fin_ref (ok := ok) (S := S) HB1.out j1.out (HOK.out.below HB1.out |>.mono (fun k hk _ => .inl hk))
    exact bodyPost_ret (results_ct rfl _ _ (w.heap.size + 1) tState _ (0, 0) _ rfl q1 Tryz.underlying31 rfl (by kernel_rfl)) rfl ⟨_, rfl, ⟨a0, c0, a1, c1, a2, c2, a3, c3, rfl, q3⟩, q2⟩
/-- Behind six stores into the state's box and a call that only grows. -/
theorem six_in {w w3 w4 : World} {ok : Nat → Prop} {b0 : Option Addr} {d0 : Nat} {b1 : Option Addr} {d1 : Nat} {b2 : Option Addr} {d2 : Nat} {b3 : Option Addr} {d3 : Nat} {S : PS} {y0 y1 y2 y3 y4 y5 : Value} {o : Obj} (hb : Below w.heap.size w w3) (hr : Ref w3 (fun k => (ok k ∧ k < w.heap.size) ∨ w.heap.size + 2 ≤ k) b0 d0 b1 d1 b2 d2 b3 d3 S) (h1 : w3.heap[w.heap.size + 1]? = some o)
    (h4 : Below ((((((w3.setCell ⟨w.heap.size, 0, none⟩ y0).setCell ⟨w.heap.size, 1, none⟩ y1).setCell ⟨w.heap.size, 2, none⟩ y2).setCell ⟨w.heap.size, 3, none⟩ y3).setCell ⟨w.heap.size, 4, none⟩ y4).setCell ⟨w.heap.size, 5, none⟩ y5).heap.size ((((((w3.setCell ⟨w.heap.size, 0, none⟩ y0).setCell ⟨w.heap.size, 1, none⟩ y1).setCell ⟨w.heap.size, 2, none⟩ y2).setCell ⟨w.heap.size, 3, none⟩ y3).setCell ⟨w.heap.size, 4, none⟩ y4).setCell ⟨w.heap.size, 5, none⟩ y5) w4) :
    Below w.heap.size w w4 ∧ Ref w4 (fun k => (ok k ∧ k < w.heap.size) ∨ w.heap.size + 2 ≤ k) b0 d0 b1 d1 b2 d2 b3 d3 S ∧ w4.heap[w.heap.size + 1]? = some o := by
  have q := below_six hb (Nat.le_refl w.heap.size) y0 y1 y2 y3 y4 y5
  exact ⟨q.trans (h4.mono q.size), (hr.move (fun k hk _ => other_six (by rcases hk with hk | hk; have := hk.2; omega; omega) y0 y1 y2 y3 y4 y5)).below h4, blk_below ((other_six (by omega) y0 y1 y2 y3 y4 y5).trans h1) h4⟩

set_option maxHeartbeats 4000000 in
theorem refRename_calls (w : World) (ok : Nat → Prop) (a0 : Option Addr) (c0 : Nat) (a1 : Option Addr) (c1 : Nat) (a2 : Option Addr) (c2 : Nat) (a3 : Option Addr) (c3 : Nat) (S : PS) (B : Nat) (m n : ByteArray) (h : Ref w ok a0 c0 a1 c1 a2 c2 a3 c3 S) (hg : Good S B) (hB : B ≤ 549755813888) :
    Calls Tryz.prog 113 #[sv a0 c0 a1 c1 a2 c2 a3 c3 S, .string m, .string n] w (RefE2 w ok (pRename S m n)) := by
  have H := Lib.hid h
  have HG := Lib.hid hg
  have HB := Lib.hid hB
  have HW := Lib.hid (two_blks w (.cells (svC a0 c0 a1 c1 a2 c2 a3 c3 S) tState) (.cells zeroC tState))
  have HOK := Lib.hid (h.mono (ok' := fun k => ok k ∧ k < w.heap.size) (fun k h1 h2 => ⟨h1, h2⟩))
  clear h hg hB
  by_cases hc : pCheck S.lim S.left [m, n] = 0
  · have HC := Lib.hid hc
    have HN := Lib.hid (pCheck_zero hc)
    cases hp : pLook S.dir m with
    | none =>
      have e : pRename S m n = (S, 15) := by simp [pRename, hc, hp]
      rw [e]
      have HP := Lib.hid hp
      clear hc hp e
      go_enter Tryz.func113, Tryz.ntmps113
      go_wp2_with (first | (go_at_call 84; refine (refcheck_two w _ ok a0 c0 a1 c1 a2 c2 a3 c3 S _ m n 0 H.out HW.out.2 (by simp) HC.out).mono ?_; rintro e w1 ⟨rfl, hb⟩; have HB1 := Lib.hid (HW.out.2.trans (hb.mono HW.out.2.size)); have j0 := Lib.hid (blk_below HW.out.1.1 hb); have j1 := Lib.hid (blk_below HW.out.1.2 hb); obtain ⟨s0, s1, s2, s3, s4, s5⟩ := six_cells j0.out; obtain ⟨e0, e1, e2, e3, e4, e5⟩ := six_cells j1.out; obtain ⟨g0, g1, g2, g3, g4, g5⟩ := six_frozen j1.out; obtain ⟨f0, f1, f2, f3, f4, f5⟩ := six_frozen j0.out; clear hb) | (go_at_call 53; refine (find_none_calls w1 ok a1 c1 S.dir m (H.out.below HB1.out).dir (by have := HG.out.nDir; have := HB.out; omega) HP.out).mono ?_; rintro e w2 ⟨rfl, hd⟩; have hb := drawn_below hd; have HB2 := Lib.hid (HB1.out.trans (hb.mono HB1.out.size)); have k0 := Lib.hid (blk_below j0.out hb); have k1 := Lib.hid (blk_below j1.out hb); clear s0 s1 s2 s3 s4 s5 e0 e1 e2 e3 e4 e5 g0 g1 g2 g3 g4 g5 f0 f1 f2 f3 f4 f5; clear j0 j1; have j0 := k0; have j1 := k1; clear k0 k1; obtain ⟨s0, s1, s2, s3, s4, s5⟩ := six_cells j0.out; obtain ⟨e0, e1, e2, e3, e4, e5⟩ := six_cells j1.out; obtain ⟨g0, g1, g2, g3, g4, g5⟩ := six_frozen j1.out; obtain ⟨f0, f1, f2, f3, f4, f5⟩ := six_frozen j0.out; clear hb hd) | fail)
      obtain ⟨q1, q2, q3⟩ := fin_ref (ok := ok) (S := S) HB2.out j1.out (HOK.out.below HB2.out |>.mono (fun k hk _ => .inl hk))
      exact bodyPost_ret (results_ct rfl _ _ (w.heap.size + 1) tState _ (0, 0) _ rfl q1 Tryz.underlying31 rfl (by kernel_rfl)) rfl ⟨_, rfl, ⟨a0, c0, a1, c1, a2, c2, a3, c3, rfl, q3⟩, q2⟩
    | some x =>
      by_cases hmn : m = n
      · subst hmn
        have e : pRename S m m = (pDone S, 0) := by simp [pRename, hc, hp]
        rw [e]
        have HP := Lib.hid hp
        clear hc hp e
        go_enter Tryz.func113, Tryz.ntmps113
        go_wp2_with (first | (go_at_call 84; refine (refcheck_two w _ ok a0 c0 a1 c1 a2 c2 a3 c3 S _ m m 0 H.out HW.out.2 (by simp) HC.out).mono ?_; rintro e w1 ⟨rfl, hb⟩; have HB1 := Lib.hid (HW.out.2.trans (hb.mono HW.out.2.size)); have j0 := Lib.hid (blk_below HW.out.1.1 hb); have j1 := Lib.hid (blk_below HW.out.1.2 hb); obtain ⟨s0, s1, s2, s3, s4, s5⟩ := six_cells j0.out; obtain ⟨e0, e1, e2, e3, e4, e5⟩ := six_cells j1.out; obtain ⟨g0, g1, g2, g3, g4, g5⟩ := six_frozen j1.out; obtain ⟨f0, f1, f2, f3, f4, f5⟩ := six_frozen j0.out; clear hb) | (go_at_call 53; obtain ⟨t, ht, hx, hcall⟩ := find_some_calls w1 ok a1 c1 S.dir m x (H.out.below HB1.out).dir (by have := HG.out.nDir; have := HB.out; omega) HP.out; have HX := Lib.hid hx; refine hcall.mono ?_; rintro e w2 ⟨rfl, hd⟩; have hb := drawn_below hd; have HB2 := Lib.hid (HB1.out.trans (hb.mono HB1.out.size)); have htb : t < 549755813888 := (by have := HG.out.nDir; have := HB.out; omega); have k0 := Lib.hid (blk_below j0.out hb); have k1 := Lib.hid (blk_below j1.out hb); clear s0 s1 s2 s3 s4 s5 e0 e1 e2 e3 e4 e5 g0 g1 g2 g3 g4 g5 f0 f1 f2 f3 f4 f5; clear j0 j1; have j0 := k0; have j1 := k1; clear k0 k1; obtain ⟨s0, s1, s2, s3, s4, s5⟩ := six_cells j0.out; obtain ⟨e0, e1, e2, e3, e4, e5⟩ := six_cells j1.out; obtain ⟨g0, g1, g2, g3, g4, g5⟩ := six_frozen j1.out; obtain ⟨f0, f1, f2, f3, f4, f5⟩ := six_frozen j0.out; clear hb hd hcall hx) | (go_at_call 85; refine (refdone_calls w2 _ _ _ _ _ _ _ _ _ _ _ _ _ _ (fun e => ⟨HN.out.1 e, (HG.out.left e).2⟩)).mono ?_; have HOK2 := Lib.hid (HOK.out.below HB2.out); rintro e w4 ⟨rfl, hb⟩; have HB4 := Lib.hid (HB2.out.trans (hb.mono HB2.out.size)); have HR4 := Lib.hid (HOK2.out.below hb); have k0 := Lib.hid (blk_below j0.out hb); have k1 := Lib.hid (blk_below j1.out hb); clear s0 s1 s2 s3 s4 s5 e0 e1 e2 e3 e4 e5 g0 g1 g2 g3 g4 g5 f0 f1 f2 f3 f4 f5; clear j0 j1; have j0 := k0; have j1 := k1; clear k0 k1; obtain ⟨s0, s1, s2, s3, s4, s5⟩ := six_cells j0.out; obtain ⟨e0, e1, e2, e3, e4, e5⟩ := six_cells j1.out; obtain ⟨g0, g1, g2, g3, g4, g5⟩ := six_frozen j1.out; obtain ⟨f0, f1, f2, f3, f4, f5⟩ := six_frozen j0.out; clear hb) | fail)
        obtain ⟨q1, q2, q3⟩ := fin_ref (ok := ok) (S := pDone S) HB4.out j1.out (HR4.out.done.mono (fun k hk _ => .inl hk))
        exact bodyPost_ret (results_ct rfl _ _ (w.heap.size + 1) tState _ (0, 0) _ rfl q1 Tryz.underlying31 rfl (by kernel_rfl)) rfl ⟨_, rfl, ⟨a0, c0, a1, c1, a2, c2, a3, c3, rfl, q3⟩, q2⟩
      · have e : pRename S m n = (pDone (pDir S ⟨2, m, n, 0⟩), 0) := by simp [pRename, hc, hp, hmn]
        rw [e]
        have hmn1 : ¬ m.toList = n.toList := fun e => hmn ((toList_eq_iff m n).1 e)
        have hmn2 : (m.toList == n.toList) = false := by simpa using hmn1
        have HP := Lib.hid hp
        clear hc hp e
        go_enter Tryz.func113, Tryz.ntmps113
        go_wp2_with (first | (go_at_call 84; refine (refcheck_two w _ ok a0 c0 a1 c1 a2 c2 a3 c3 S _ m n 0 H.out HW.out.2 (by simp) HC.out).mono ?_; rintro e w1 ⟨rfl, hb⟩; have HB1 := Lib.hid (HW.out.2.trans (hb.mono HW.out.2.size)); have j0 := Lib.hid (blk_below HW.out.1.1 hb); have j1 := Lib.hid (blk_below HW.out.1.2 hb); obtain ⟨s0, s1, s2, s3, s4, s5⟩ := six_cells j0.out; obtain ⟨e0, e1, e2, e3, e4, e5⟩ := six_cells j1.out; obtain ⟨g0, g1, g2, g3, g4, g5⟩ := six_frozen j1.out; obtain ⟨f0, f1, f2, f3, f4, f5⟩ := six_frozen j0.out; clear hb) | (go_at_call 53; obtain ⟨t, ht, hx, hcall⟩ := find_some_calls w1 ok a1 c1 S.dir m x (H.out.below HB1.out).dir (by have := HG.out.nDir; have := HB.out; omega) HP.out; have HX := Lib.hid hx; refine hcall.mono ?_; rintro e w2 ⟨rfl, hd⟩; have hb := drawn_below hd; have HB2 := Lib.hid (HB1.out.trans (hb.mono HB1.out.size)); have htb : t < 549755813888 := (by have := HG.out.nDir; have := HB.out; omega); have k0 := Lib.hid (blk_below j0.out hb); have k1 := Lib.hid (blk_below j1.out hb); clear s0 s1 s2 s3 s4 s5 e0 e1 e2 e3 e4 e5 g0 g1 g2 g3 g4 g5 f0 f1 f2 f3 f4 f5; clear j0 j1; have j0 := k0; have j1 := k1; clear k0 k1; obtain ⟨s0, s1, s2, s3, s4, s5⟩ := six_cells j0.out; obtain ⟨e0, e1, e2, e3, e4, e5⟩ := six_cells j1.out; obtain ⟨g0, g1, g2, g3, g4, g5⟩ := six_frozen j1.out; obtain ⟨f0, f1, f2, f3, f4, f5⟩ := six_frozen j0.out; clear hb hd hcall hx) | (go_at_call 86; refine (directory_calls w2 (fun k => ok k ∧ k < w.heap.size) a0 c0 a1 c1 a2 c2 a3 c3 S ⟨2, m, n, 0⟩ (HOK.out.below HB2.out) (by have := HG.out.nDir; have := HB.out; show S.dir.length ≤ 549755813888; omega) (by have := HG.out.nPend; have := HB.out; show S.pend.length ≤ 549755813888; omega) (.inr (.inl rfl))).mono ?_; rintro e w3 ⟨v, rfl, ⟨b0, d0, b1, d1, b2, d2, b3, d3, rfl, hr⟩, hb⟩; have HB3 := Lib.hid (HB2.out.trans (hb.mono HB2.out.size)); have HR3 := Lib.hid (hr.mono (ok' := fun k => (ok k ∧ k < w.heap.size) ∨ w.heap.size + 2 ≤ k) (fun k hk _ => okin j1.out hk)); have k0 := Lib.hid (blk_below j0.out hb); have k1 := Lib.hid (blk_below j1.out hb); clear s0 s1 s2 s3 s4 s5 e0 e1 e2 e3 e4 e5 g0 g1 g2 g3 g4 g5 f0 f1 f2 f3 f4 f5; clear j0 j1; have j0 := k0; have j1 := k1; clear k0 k1; obtain ⟨s0, s1, s2, s3, s4, s5⟩ := six_cells j0.out; obtain ⟨e0, e1, e2, e3, e4, e5⟩ := six_cells j1.out; obtain ⟨g0, g1, g2, g3, g4, g5⟩ := six_frozen j1.out; obtain ⟨f0, f1, f2, f3, f4, f5⟩ := six_frozen j0.out; clear hb hr) | (go_at_call 85; refine (refdone_calls _ _ _ _ _ _ _ _ _ _ _ _ _ _ _ (fun e => ⟨HN.out.1 e, (HG.out.left e).2⟩)).mono ?_; rintro e w4 ⟨rfl, hb⟩; have HX6 := Lib.hid (six_in HB3.out HR3.out j1.out hb); have HB4 := Lib.hid HX6.out.1; have HR4 := Lib.hid HX6.out.2.1; have k1 := Lib.hid HX6.out.2.2; clear s0 s1 s2 s3 s4 s5 e0 e1 e2 e3 e4 e5 g0 g1 g2 g3 g4 g5 f0 f1 f2 f3 f4 f5; clear j0 j1; have j1 := k1; clear k1; obtain ⟨e0, e1, e2, e3, e4, e5⟩ := six_cells j1.out; obtain ⟨g0, g1, g2, g3, g4, g5⟩ := six_frozen j1.out; clear hb) | fail)
        obtain ⟨q1, q2, q3⟩ := fin_ref (ok := ok) (S := pDone (pDir S ⟨2, m, n, 0⟩)) HB4.out j1.out (HR4.out.done)
        exact bodyPost_ret (results_ct rfl _ _ (w.heap.size + 1) tState _ (0, 0) _ rfl q1 Tryz.underlying31 rfl (by kernel_rfl)) rfl ⟨_, rfl, ⟨b0, d0, b1, d1, b2, d2, b3, d3, rfl, q3⟩, q2⟩
  · have e : pRename S m n = (S, pCheck S.lim S.left [m, n]) := by simp [pRename, hc]
    rw [e]
    obtain ⟨c, hcc⟩ : ∃ c, pCheck S.lim S.left [m, n] = c := ⟨_, rfl⟩
    have HC := Lib.hid hcc
    have hc1 : (c == 0) = false := by rw [← hcc]; simpa using hc
    have hc2 : ¬ c = 0 := by rw [← hcc]; exact hc
    rw [hcc]
    clear e hc hcc
    go_enter Tryz.func113, Tryz.ntmps113
    go_wp2_with (first | (go_at_call 84; refine (refcheck_two w _ ok a0 c0 a1 c1 a2 c2 a3 c3 S _ m n c H.out HW.out.2 (by simp) HC.out).mono ?_; rintro e w1 ⟨rfl, hb⟩; have HB1 := Lib.hid (HW.out.2.trans (hb.mono HW.out.2.size)); have j0 := Lib.hid (blk_below HW.out.1.1 hb); have j1 := Lib.hid (blk_below HW.out.1.2 hb); obtain ⟨s0, s1, s2, s3, s4, s5⟩ := six_cells j0.out; obtain ⟨e0, e1, e2, e3, e4, e5⟩ := six_cells j1.out; obtain ⟨g0, g1, g2, g3, g4, g5⟩ := six_frozen j1.out; obtain ⟨f0, f1, f2, f3, f4, f5⟩ := six_frozen j0.out; clear hb) | fail)
    obtain ⟨q1, q2, q3⟩ := fin_ref (ok := ok) (S := S) HB1.out j1.out (HOK.out.below HB1.out |>.mono (fun k hk _ => .inl hk))
    exact bodyPost_ret (results_ct rfl _ _ (w.heap.size + 1) tState _ (0, 0) _ rfl q1 Tryz.underlying31 rfl (by kernel_rfl)) rfl ⟨_, rfl, ⟨a0, c0, a1, c1, a2, c2, a3, c3, rfl, q3⟩, q2⟩
end Go.Proofs.YtehhafnjbkbmjaaGreat.Disk

/- The reference's functions: SyncDir, Create. -/
namespace Go.Proofs.YtehhafnjbkbmjaaGreat.Disk
open Go Go.RowKit Go.Proofs.YtehhafnjbkbmjaaGreatW.PrintWords Go.Proofs.YtehhafnjbkbmjaaGreatW.PrintLast Go.Proofs.YtehhafnjbkbmjaaGreatW.PrintMore Go.Proofs.YtehhafnjbkbmjaaGreat.PCommitlogSequence
theorem refcheck_nil (w W : World) (ok : Nat → Prop) (a0 : Option Addr) (c0 : Nat) (a1 : Option Addr) (c1 : Nat) (a2 : Option Addr) (c2 : Nat) (a3 : Option Addr) (c3 : Nat) (S : PS) (c : Int) (h : Ref w ok a0 c0 a1 c1 a2 c2 a3 c3 S) (hW : Below w.heap.size w W) (hc : pCheck S.lim S.left [] = c) :
    Calls Tryz.prog 84 #[sv a0 c0 a1 c1 a2 c2 a3 c3 S, .slice none 0 0] W fun e w' => e = .returned (.int .i64 c) ∧ Below W.heap.size W w' :=
  refcheck_calls _ ok a0 c0 a1 c1 a2 c2 a3 c3 S none 0 [] c (h.below hW) (Kd.C_nil _ _) (Nat.le_refl _) (by simp) hc
/-- Behind two stores into the state's box and a call that only grows. -/
theorem two_in {w w3 w4 : World} {ok : Nat → Prop} {b0 : Option Addr} {d0 : Nat} {b1 : Option Addr} {d1 : Nat} {b2 : Option Addr} {d2 : Nat} {b3 : Option Addr} {d3 : Nat} {S : PS} {y2 y3 : Value} {o : Obj} (hb : Below w.heap.size w w3) (hr : Ref w3 (fun k => (ok k ∧ k < w.heap.size) ∨ w.heap.size + 2 ≤ k) b0 d0 b1 d1 b2 d2 b3 d3 S) (h1 : w3.heap[w.heap.size + 1]? = some o)
    (h4 : Below ((w3.setCell ⟨w.heap.size, 2, none⟩ y2).setCell ⟨w.heap.size, 3, none⟩ y3).heap.size ((w3.setCell ⟨w.heap.size, 2, none⟩ y2).setCell ⟨w.heap.size, 3, none⟩ y3) w4) :
    Below w.heap.size w w4 ∧ Ref w4 (fun k => (ok k ∧ k < w.heap.size) ∨ w.heap.size + 2 ≤ k) b0 d0 b1 d1 b2 d2 b3 d3 S ∧ w4.heap[w.heap.size + 1]? = some o := by
  have q := below_setN (below_setN hb (Nat.le_refl w.heap.size) (j := 2) y2) (Nat.le_refl w.heap.size) (j := 3) y3
  have oth : ∀ k, k ≠ w.heap.size → ((w3.setCell ⟨w.heap.size, 2, none⟩ y2).setCell ⟨w.heap.size, 3, none⟩ y3).heap[k]? = w3.heap[k]? := fun k hk => by rw [Below.heap_setCell _ _ _ _ hk, Below.heap_setCell _ _ _ _ hk]
  exact ⟨q.trans (h4.mono q.size), (hr.move (fun k hk _ => oth k (by rcases hk with hk | hk; have := hk.2; omega; omega))).below h4, blk_below ((oth _ (by omega)).trans h1) h4⟩
theorem Ref.synced {w : World} {ok : Nat → Prop} {a0 c0 a1 c1 a2 c2 a3 c3} {S : PS} (h : Ref w ok a0 c0 a1 c1 a2 c2 a3 c3 S) : Ref w ok a0 c0 a1 c1 a1 c1 none 0 (pDone (pSynced S)) := ⟨h.files, h.dir, h.dir, Rd.nil _ _ _⟩
theorem directory_new (W : World) (ok : Nat → Prop) (A : Option Addr) (cc : Nat) (a1 : Option Addr) (c1 : Nat) (a2 : Option Addr) (c2 : Nat) (a3 : Option Addr) (c3 : Nat) (S : PS) (n : ByteArray) (hf : Rd kF W ok A cc (S.files ++ [⟨[], 0⟩])) (h1 : Rd kE W ok a1 c1 S.dir) (h2 : Rd kE W ok a2 c2 S.dur) (h3 : Rd kO W ok a3 c3 S.pend) (hl : S.dir.length ≤ 549755813888) (hp : S.pend.length ≤ 549755813888) :
    Calls Tryz.prog 86 #[.agg #[.slice A (S.files.length + 1) cc, .slice a1 S.dir.length c1, .slice a2 S.dur.length c2, .slice a3 S.pend.length c3, .bool S.lim, .int .i64 S.left], .agg #[.int .i64 1, .string n, .string ⟨#[]⟩, .int .i64 S.files.length]] W (RefE W ok (pDir { S with files := S.files ++ [⟨[], 0⟩] } ⟨1, n, ⟨#[]⟩, S.files.length⟩)) := by
  have := directory_calls W ok A cc a1 c1 a2 c2 a3 c3 { S with files := S.files ++ [⟨[], 0⟩] } ⟨1, n, ⟨#[]⟩, S.files.length⟩ ⟨hf, h1, h2, h3⟩ hl hp (.inl rfl)
  rwa [show sv A cc a1 c1 a2 c2 a3 c3 { S with files := S.files ++ [⟨[], 0⟩] } = .agg #[.slice A (S.files.length + 1) cc, .slice a1 S.dir.length c1, .slice a2 S.dur.length c2, .slice a3 S.pend.length c3, .bool S.lim, .int .i64 S.left] by simp [sv]] at this
theorem not_far2 {v : Value} {n b : Nat} (hf : v.ownBlock = none ∨ ∃ q, v.ownBlock = some q ∧ n + 2 ≤ q) (hb : b < n + 2) : some b ≠ v.ownBlock := fun e => by
  rcases hf with h | ⟨q, h, hq⟩
  · rw [h] at e; cases e
  · rw [h] at e; cases e; omega
/-- Behind one store into the state's box and a call that only grows. -/
theorem one_in {w w3 w4 : World} {j : Nat} {y : Value} {o : Obj} (hb : Below w.heap.size w w3) (h1 : w3.heap[w.heap.size + 1]? = some o)
    (h4 : Below (w3.setCell ⟨w.heap.size, j, none⟩ y).heap.size (w3.setCell ⟨w.heap.size, j, none⟩ y) w4) : Below w.heap.size w w4 ∧ w4.heap[w.heap.size + 1]? = some o := by
  have q := below_setN hb (Nat.le_refl w.heap.size) (j := j) y
  exact ⟨q.trans (h4.mono q.size), blk_below ((Below.heap_setCell _ _ _ _ (show w.heap.size + 1 ≠ w.heap.size by omega)).trans h1) h4⟩
theorem Rd.set0 {α : Type} {d : Kd α} {w w3 : World} {ok : Nat → Prop} {A : Option Addr} {c : Nat} {xs : List α} {j : Nat} {y : Value} (h : Rd d w3 (fun k => (ok k ∧ k < w.heap.size) ∨ w.heap.size + 2 ≤ k) A c xs) : Rd d (w3.setCell ⟨w.heap.size, j, none⟩ y) (fun k => (ok k ∧ k < w.heap.size) ∨ w.heap.size + 2 ≤ k) A c xs :=
  h.move (fun k hk _ => Below.heap_setCell _ _ _ _ (by show k ≠ w.heap.size; rcases hk with hk | hk; have := hk.2; omega; omega))

set_option maxHeartbeats 4000000 in
theorem refSyncDir_calls (w : World) (ok : Nat → Prop) (a0 : Option Addr) (c0 : Nat) (a1 : Option Addr) (c1 : Nat) (a2 : Option Addr) (c2 : Nat) (a3 : Option Addr) (c3 : Nat) (S : PS) (B : Nat) (h : Ref w ok a0 c0 a1 c1 a2 c2 a3 c3 S) (hg : Good S B) (hB : B ≤ 549755813888) :
    Calls Tryz.prog 114 #[sv a0 c0 a1 c1 a2 c2 a3 c3 S] w (RefE2 w ok (pSyncDir S)) := by
  have H := Lib.hid h
  have HG := Lib.hid hg
  have HB := Lib.hid hB
  have HW := Lib.hid (two_blks w (.cells (svC a0 c0 a1 c1 a2 c2 a3 c3 S) tState) (.cells zeroC tState))
  have HOK := Lib.hid (h.mono (ok' := fun k => ok k ∧ k < w.heap.size) (fun k h1 h2 => ⟨h1, h2⟩))
  clear h hg hB
  by_cases hc : pCheck S.lim S.left [] = 0
  · have HC := Lib.hid hc
    have HN := Lib.hid (pCheck_zero hc)
    have e : pSyncDir S = (pDone (pSynced S), 0) := by simp [pSyncDir, hc]
    rw [e]
    clear hc e
    go_enter Tryz.func114, Tryz.ntmps114
    go_wp2_with (first | (go_at_call 84; refine (refcheck_nil w _ ok a0 c0 a1 c1 a2 c2 a3 c3 S 0 H.out HW.out.2 HC.out).mono ?_; rintro e w1 ⟨rfl, hb⟩; have HB1 := Lib.hid (HW.out.2.trans (hb.mono HW.out.2.size)); have j0 := Lib.hid (blk_below HW.out.1.1 hb); have j1 := Lib.hid (blk_below HW.out.1.2 hb); obtain ⟨s0, s1, s2, s3, s4, s5⟩ := six_cells j0.out; obtain ⟨e0, e1, e2, e3, e4, e5⟩ := six_cells j1.out; obtain ⟨g0, g1, g2, g3, g4, g5⟩ := six_frozen j1.out; obtain ⟨f0, f1, f2, f3, f4, f5⟩ := six_frozen j0.out; clear hb) | (go_at_call 85; refine (refdone_calls _ _ _ _ _ _ _ _ _ _ _ _ _ _ _ (fun e => ⟨HN.out.1 e, (HG.out.left e).2⟩)).mono ?_; rintro e w4 ⟨rfl, hb⟩; have HX6 := Lib.hid (two_in HB1.out ((HOK.out.below HB1.out).mono (fun k hk _ => .inl hk)) j1.out hb); have HB4 := Lib.hid HX6.out.1; have HR4 := Lib.hid HX6.out.2.1; have k1 := Lib.hid HX6.out.2.2; clear s0 s1 s2 s3 s4 s5 e0 e1 e2 e3 e4 e5 g0 g1 g2 g3 g4 g5 f0 f1 f2 f3 f4 f5; clear j0 j1; have j1 := k1; clear k1; obtain ⟨e0, e1, e2, e3, e4, e5⟩ := six_cells j1.out; obtain ⟨g0, g1, g2, g3, g4, g5⟩ := six_frozen j1.out; clear hb) | fail)
    obtain ⟨q1, q2, q3⟩ := fin_ref (ok := ok) (S := pDone (pSynced S)) HB4.out j1.out (HR4.out.synced)
    exact bodyPost_ret (results_ct rfl _ _ (w.heap.size + 1) tState _ (0, 0) _ rfl q1 Tryz.underlying31 rfl (by kernel_rfl)) rfl ⟨_, rfl, ⟨a0, c0, a1, c1, a1, c1, none, 0, rfl, q3⟩, q2⟩
  · have e : pSyncDir S = (S, pCheck S.lim S.left []) := by simp [pSyncDir, hc]
    rw [e]
    obtain ⟨c, hcc⟩ : ∃ c, pCheck S.lim S.left [] = c := ⟨_, rfl⟩
    have HC := Lib.hid hcc
    have hc1 : (c == 0) = false := by rw [← hcc]; simpa using hc
    have hc2 : ¬ c = 0 := by rw [← hcc]; exact hc
    rw [hcc]
    clear e hc hcc
    go_enter Tryz.func114, Tryz.ntmps114
    go_wp2_with (first | (go_at_call 84; refine (refcheck_nil w _ ok a0 c0 a1 c1 a2 c2 a3 c3 S c H.out HW.out.2 HC.out).mono ?_; rintro e w1 ⟨rfl, hb⟩; have HB1 := Lib.hid (HW.out.2.trans (hb.mono HW.out.2.size)); have j0 := Lib.hid (blk_below HW.out.1.1 hb); have j1 := Lib.hid (blk_below HW.out.1.2 hb); obtain ⟨s0, s1, s2, s3, s4, s5⟩ := six_cells j0.out; obtain ⟨e0, e1, e2, e3, e4, e5⟩ := six_cells j1.out; obtain ⟨g0, g1, g2, g3, g4, g5⟩ := six_frozen j1.out; obtain ⟨f0, f1, f2, f3, f4, f5⟩ := six_frozen j0.out; clear hb) | fail)
    obtain ⟨q1, q2, q3⟩ := fin_ref (ok := ok) (S := S) HB1.out j1.out (HOK.out.below HB1.out |>.mono (fun k hk _ => .inl hk))
    exact bodyPost_ret (results_ct rfl _ _ (w.heap.size + 1) tState _ (0, 0) _ rfl q1 Tryz.underlying31 rfl (by kernel_rfl)) rfl ⟨_, rfl, ⟨a0, c0, a1, c1, a2, c2, a3, c3, rfl, q3⟩, q2⟩

set_option maxHeartbeats 4000000 in
theorem refCreate_calls (w : World) (ok : Nat → Prop) (a0 : Option Addr) (c0 : Nat) (a1 : Option Addr) (c1 : Nat) (a2 : Option Addr) (c2 : Nat) (a3 : Option Addr) (c3 : Nat) (S : PS) (B : Nat) (n : ByteArray) (h : Ref w ok a0 c0 a1 c1 a2 c2 a3 c3 S) (hg : Good S B) (hB : B ≤ 549755813888) :
    Calls Tryz.prog 30 #[sv a0 c0 a1 c1 a2 c2 a3 c3 S, .string n] w (RefE2 w ok (pCreate S n)) := by
  have H := Lib.hid h
  have HG := Lib.hid hg
  have HB := Lib.hid hB
  have HW := Lib.hid (two_blks w (.cells (svC a0 c0 a1 c1 a2 c2 a3 c3 S) tState) (.cells zeroC tState))
  have HOK := Lib.hid (h.mono (ok' := fun k => ok k ∧ k < w.heap.size) (fun k h1 h2 => ⟨h1, h2⟩))
  clear h hg hB
  by_cases hc : pCheck S.lim S.left [n] = 0
  · have HC := Lib.hid hc
    have HN := Lib.hid (pCheck_zero hc)
    cases hp : pLook S.dir n with
    | some x =>
      have e : pCreate S n = (S, 9) := by simp [pCreate, hc, hp]
      rw [e]
      have HP := Lib.hid hp
      clear hc hp e
      go_enter Tryz.func30, Tryz.ntmps30
      go_wp2_with (first | (go_at_call 84; refine (refcheck_one w _ ok a0 c0 a1 c1 a2 c2 a3 c3 S _ n 0 H.out HW.out.2 (by simp) HC.out).mono ?_; rintro e w1 ⟨rfl, hb⟩; have HB1 := Lib.hid (HW.out.2.trans (hb.mono HW.out.2.size)); have j0 := Lib.hid (blk_below HW.out.1.1 hb); have j1 := Lib.hid (blk_below HW.out.1.2 hb); obtain ⟨s0, s1, s2, s3, s4, s5⟩ := six_cells j0.out; obtain ⟨e0, e1, e2, e3, e4, e5⟩ := six_cells j1.out; obtain ⟨g0, g1, g2, g3, g4, g5⟩ := six_frozen j1.out; obtain ⟨f0, f1, f2, f3, f4, f5⟩ := six_frozen j0.out; clear hb) | (go_at_call 53; obtain ⟨t, ht, hx, hcall⟩ := find_some_calls w1 ok a1 c1 S.dir n x (H.out.below HB1.out).dir (by have := HG.out.nDir; have := HB.out; omega) HP.out; have HX := Lib.hid hx; refine hcall.mono ?_; rintro e w2 ⟨rfl, hd⟩; have hb := drawn_below hd; have HB2 := Lib.hid (HB1.out.trans (hb.mono HB1.out.size)); have htb : t < 549755813888 := (by have := HG.out.nDir; have := HB.out; omega); have k0 := Lib.hid (blk_below j0.out hb); have k1 := Lib.hid (blk_below j1.out hb); clear s0 s1 s2 s3 s4 s5 e0 e1 e2 e3 e4 e5 g0 g1 g2 g3 g4 g5 f0 f1 f2 f3 f4 f5; clear j0 j1; have j0 := k0; have j1 := k1; clear k0 k1; obtain ⟨s0, s1, s2, s3, s4, s5⟩ := six_cells j0.out; obtain ⟨e0, e1, e2, e3, e4, e5⟩ := six_cells j1.out; obtain ⟨g0, g1, g2, g3, g4, g5⟩ := six_frozen j1.out; obtain ⟨f0, f1, f2, f3, f4, f5⟩ := six_frozen j0.out; clear hb hd hcall hx) | fail)
      obtain ⟨q1, q2, q3⟩ := fin_ref (ok := ok) (S := S) HB2.out j1.out (HOK.out.below HB2.out |>.mono (fun k hk _ => .inl hk))
      exact bodyPost_ret (results_ct rfl _ _ (w.heap.size + 1) tState _ (0, 0) _ rfl q1 Tryz.underlying31 rfl (by kernel_rfl)) rfl ⟨_, rfl, ⟨a0, c0, a1, c1, a2, c2, a3, c3, rfl, q3⟩, q2⟩
    | none =>
      have e : pCreate S n = (pDone (pDir { S with files := S.files ++ [⟨[], 0⟩] } ⟨1, n, ⟨#[]⟩, S.files.length⟩), 0) := by simp [pCreate, hc, hp]
      rw [e]
      have HP := Lib.hid hp
      have hnf : S.files.length ≤ 549755813888 := by have := HG.out.nFiles; have := HB.out; omega
      clear hc hp e
      go_enter Tryz.func30, Tryz.ntmps30
      go_wp2_with (first | (go_at_call 84; refine (refcheck_one w _ ok a0 c0 a1 c1 a2 c2 a3 c3 S _ n 0 H.out HW.out.2 (by simp) HC.out).mono ?_; rintro e w1 ⟨rfl, hb⟩; have HB1 := Lib.hid (HW.out.2.trans (hb.mono HW.out.2.size)); have j0 := Lib.hid (blk_below HW.out.1.1 hb); have j1 := Lib.hid (blk_below HW.out.1.2 hb); obtain ⟨s0, s1, s2, s3, s4, s5⟩ := six_cells j0.out; obtain ⟨e0, e1, e2, e3, e4, e5⟩ := six_cells j1.out; obtain ⟨g0, g1, g2, g3, g4, g5⟩ := six_frozen j1.out; obtain ⟨f0, f1, f2, f3, f4, f5⟩ := six_frozen j0.out; clear hb) | (go_at_call 53; refine (find_none_calls w1 ok a1 c1 S.dir n (H.out.below HB1.out).dir (by have := HG.out.nDir; have := HB.out; omega) HP.out).mono ?_; rintro e w2 ⟨rfl, hd⟩; have hb := drawn_below hd; have HB2 := Lib.hid (HB1.out.trans (hb.mono HB1.out.size)); have k0 := Lib.hid (blk_below j0.out hb); have k1 := Lib.hid (blk_below j1.out hb); clear s0 s1 s2 s3 s4 s5 e0 e1 e2 e3 e4 e5 g0 g1 g2 g3 g4 g5 f0 f1 f2 f3 f4 f5; clear j0 j1; have j0 := k0; have j1 := k1; clear k0 k1; obtain ⟨s0, s1, s2, s3, s4, s5⟩ := six_cells j0.out; obtain ⟨e0, e1, e2, e3, e4, e5⟩ := six_cells j1.out; obtain ⟨g0, g1, g2, g3, g4, g5⟩ := six_frozen j1.out; obtain ⟨f0, f1, f2, f3, f4, f5⟩ := six_frozen j0.out; clear hb hd) | (at_builtin; refine Kd.N_append_rows kF (w0 := w) w.heap.size rfl (.tmp 22) (.tmp 24) 27 107 _ 32 rfl Tryz.underlying27 info107 rfl (by decide) (by omega) (.slice none 0 0) [] S.files a0 S.files.length c0 (fun k => (ok k ∧ k < w.heap.size) ∨ w.heap.size + 2 ≤ k) (fun k => ok k ∧ k < w.heap.size) rfl rfl (Kd.N_nil _ _ _ _ _) (HOK.out.below HB2.out).files.f (fun k hk => ⟨.inl hk, by simp [Value.ownBlock]⟩) (fun k hk => .inr (by have := lt_blk j1.out; omega)) HB2.out HB2.out.size (by simp only [List.length_nil]; omega) ?_; intro v3 w3 hn hb hg hat; rw [List.nil_append] at hn; have k0 := Lib.hid (blk_grownN j0.out hg (by simp [Value.ownBlock])); have k1 := Lib.hid (blk_grownN j1.out hg (by simp [Value.ownBlock])); have hfar : v3.ownBlock = none ∨ ∃ q, v3.ownBlock = some q ∧ w.heap.size + 2 ≤ q := (by rcases hat with e | ⟨q, e1, e2⟩; exact .inl e; exact .inr ⟨q, e1, by have hs := lt_blk j1.out; omega⟩); have HF3 := Lib.hid hfar; have HN3 := Lib.hid hn; have HB3 := Lib.hid hb; clear j0 j1; have j0 := k0; have j1 := k1; clear k0 k1; clear s0 s1 s2 s3 s4 s5 e0 e1 e2 e3 e4 e5 g0 g1 g2 g3 g4 g5 f0 f1 f2 f3 f4 f5; obtain ⟨s0, s1, s2, s3, s4, s5⟩ := six_cells j0.out; obtain ⟨e0, e1, e2, e3, e4, e5⟩ := six_cells j1.out; obtain ⟨g0, g1, g2, g3, g4, g5⟩ := six_frozen j1.out; obtain ⟨f0, f1, f2, f3, f4, f5⟩ := six_frozen j0.out; clear hn hb hg hat hfar) | (at_builtin; refine Kd.N_append kF (w0 := w) w.heap.size rfl (.tmp 26) (.tmp 28) 27 107 _ 32 rfl Tryz.underlying27 info107 rfl (by decide) (by omega) v3 S.files ⟨[], 0⟩ [.slice none 0 0, .int .i64 0] (fun k => (ok k ∧ k < w.heap.size) ∨ w.heap.size + 2 ≤ k) (fun _ => False) rfl rfl (k107_mkF _ _ ⟨[], 0⟩ (A0 := none) (c0 := 0) (Nat.le_refl _) (Kd.F_nil _ _ _)) (fun k hk => hk.elim) (fun k hk => .inr (by have := lt_blk j1.out; omega)) HN3.out HB3.out HB3.out.size (by omega) ?_; intro v4 w4 hn hb hg hat; have k0 := Lib.hid (blk_grownN j0.out hg (not_far2 HF3.out (by omega))); have k1 := Lib.hid (blk_grownN j1.out hg (not_far2 HF3.out (by omega))); obtain ⟨A4, cc4, rfl, hr4⟩ := Rd.ofN hn; have HR4 := Lib.hid (hr4.mono (ok' := (fun k => (ok k ∧ k < w.heap.size) ∨ w.heap.size + 2 ≤ k)) (fun k hk _ => hk.1)); have HB4 := Lib.hid hb; clear j0 j1; have j0 := k0; have j1 := k1; clear k0 k1; clear s0 s1 s2 s3 s4 s5 e0 e1 e2 e3 e4 e5 g0 g1 g2 g3 g4 g5 f0 f1 f2 f3 f4 f5; obtain ⟨s0, s1, s2, s3, s4, s5⟩ := six_cells j0.out; obtain ⟨e0, e1, e2, e3, e4, e5⟩ := six_cells j1.out; obtain ⟨g0, g1, g2, g3, g4, g5⟩ := six_frozen j1.out; obtain ⟨f0, f1, f2, f3, f4, f5⟩ := six_frozen j0.out; clear hn hb hg hat hr4 HN3) | (go_at_call 86; have hx := (HOK.out.below HB4.out).mono (ok' := (fun k => (ok k ∧ k < w.heap.size) ∨ w.heap.size + 2 ≤ k)) (fun k hk _ => .inl hk); have hq := directory_new (w4.setCell ⟨w.heap.size, 0, none⟩ (.slice A4 (S.files.length + 1) cc4)) (fun k => (ok k ∧ k < w.heap.size) ∨ w.heap.size + 2 ≤ k) A4 cc4 a1 c1 a2 c2 a3 c3 S n HR4.out.set0 hx.dir.set0 hx.dur.set0 hx.pend.set0 (by have := HG.out.nDir; have := HB.out; omega) (by have := HG.out.nPend; have := HB.out; omega); refine hq.mono ?_; rintro e w5 ⟨v, rfl, ⟨b0, d0, b1, d1, b2, d2, b3, d3, rfl, hr⟩, hb⟩; have HB5 := Lib.hid (one_in HB4.out j1.out hb).1; have k1 := Lib.hid (one_in HB4.out j1.out hb).2; have HR5 := Lib.hid (hr.mono (ok' := (fun k => (ok k ∧ k < w.heap.size) ∨ w.heap.size + 2 ≤ k)) (fun k hk _ => okin2 j1.out (by simpa [World.setCell] using hk))); clear s0 s1 s2 s3 s4 s5 e0 e1 e2 e3 e4 e5 g0 g1 g2 g3 g4 g5 f0 f1 f2 f3 f4 f5; clear j0 j1; have j1 := k1; clear k1 hx hq hb hr) | (go_at_call 85; refine (refdone_calls w5 _ _ _ _ _ _ _ _ _ _ _ _ _ _ (fun e => ⟨HN.out.1 e, (HG.out.left e).2⟩)).mono ?_; rintro e w6 ⟨rfl, hb⟩; have HB6 := Lib.hid (HB5.out.trans (hb.mono HB5.out.size)); have HR6 := Lib.hid (HR5.out.below hb); have k1 := Lib.hid (blk_below j1.out hb); clear j1; have j1 := k1; clear k1; obtain ⟨e0, e1, e2, e3, e4, e5⟩ := six_cells j1.out; obtain ⟨g0, g1, g2, g3, g4, g5⟩ := six_frozen j1.out; clear hb) | fail)
      obtain ⟨q1, q2, q3⟩ := fin_ref (ok := ok) (S := pDone (pDir { S with files := S.files ++ [⟨[], 0⟩] } ⟨1, n, ⟨#[]⟩, S.files.length⟩)) HB6.out j1.out (HR6.out.done)
      exact bodyPost_ret (results_ct rfl _ _ (w.heap.size + 1) tState _ (0, 0) _ rfl q1 Tryz.underlying31 rfl (by kernel_rfl)) rfl ⟨_, rfl, ⟨b0, d0, b1, d1, b2, d2, b3, d3, rfl, q3⟩, q2⟩
  · have e : pCreate S n = (S, pCheck S.lim S.left [n]) := by simp [pCreate, hc]
    rw [e]
    obtain ⟨c, hcc⟩ : ∃ c, pCheck S.lim S.left [n] = c := ⟨_, rfl⟩
    have HC := Lib.hid hcc
    have hc1 : (c == 0) = false := by rw [← hcc]; simpa using hc
    have hc2 : ¬ c = 0 := by rw [← hcc]; exact hc
    rw [hcc]
    clear e hc hcc
    go_enter Tryz.func30, Tryz.ntmps30
    go_wp2_with (first | (go_at_call 84; refine (refcheck_one w _ ok a0 c0 a1 c1 a2 c2 a3 c3 S _ n c H.out HW.out.2 (by simp) HC.out).mono ?_; rintro e w1 ⟨rfl, hb⟩; have HB1 := Lib.hid (HW.out.2.trans (hb.mono HW.out.2.size)); have j0 := Lib.hid (blk_below HW.out.1.1 hb); have j1 := Lib.hid (blk_below HW.out.1.2 hb); obtain ⟨s0, s1, s2, s3, s4, s5⟩ := six_cells j0.out; obtain ⟨e0, e1, e2, e3, e4, e5⟩ := six_cells j1.out; obtain ⟨g0, g1, g2, g3, g4, g5⟩ := six_frozen j1.out; obtain ⟨f0, f1, f2, f3, f4, f5⟩ := six_frozen j0.out; clear hb) | fail)
    obtain ⟨q1, q2, q3⟩ := fin_ref (ok := ok) (S := S) HB1.out j1.out (HOK.out.below HB1.out |>.mono (fun k hk _ => .inl hk))
    exact bodyPost_ret (results_ct rfl _ _ (w.heap.size + 1) tState _ (0, 0) _ rfl q1 Tryz.underlying31 rfl (by kernel_rfl)) rfl ⟨_, rfl, ⟨a0, c0, a1, c1, a2, c2, a3, c3, rfl, q3⟩, q2⟩
end Go.Proofs.YtehhafnjbkbmjaaGreat.Disk

/- The reference's functions: Append, Sync. -/
namespace Go.Proofs.YtehhafnjbkbmjaaGreat.Disk
open Go Go.RowKit Go.Proofs.YtehhafnjbkbmjaaGreatW.PrintWords Go.Proofs.YtehhafnjbkbmjaaGreatW.PrintLast Go.Proofs.YtehhafnjbkbmjaaGreatW.PrintMore Go.Proofs.YtehhafnjbkbmjaaGreat.PCommitlogSequence
theorem file_cells {w : World} {ok : Nat → Prop} {A : Option Addr} {c : Nat} {S : PS} (h : Rd kF w ok A c S.files) (i : Int) (hi : 0 ≤ i ∧ i < S.files.length) : ∃ ad Af cf, A = some ad ∧ w.cell? (ad.add (i.toNat * 2)) = some (.slice Af (fileAt S i).f0.length cf) ∧ w.cell? ⟨(ad.add (i.toNat * 2)).block, (ad.add (i.toNat * 2)).off + 1, none⟩ = some (.int .i64 (fileAt S i).f1) ∧ Rd kB w ok Af cf (fileAt S i).f0 := by
  obtain ⟨ad, cs, e, _, hK, hc0, _⟩ := Kd.F_get h.f z107 i hi.1 hi.2
  have hc : ∀ j u, cs[j]? = some u → w.cell? (ad.add (i.toNat * 2 + j)) = some u := hc0
  obtain ⟨Af, cf, rfl, l0, g0⟩ := k107_openF hK
  exact ⟨ad, Af, cf, e, hc 0 _ rfl, by rw [← add_field _ _ 1 (by omega)]; exact hc 1 _ rfl, l0, g0⟩
theorem refset_calls (w : World) (ok : Nat → Prop) (A : Option Addr) (c : Nat) (l : List Fil) (i : Int) (Ab : Option Addr) (cb : Nat) (bs : List Int) (x : Int) (h : Rd kF w ok A c l) (hb : Rd kB w ok Ab cb bs) (hl : l.length ≤ 549755813888) (hi : 0 ≤ i) :
    Calls Tryz.prog 89 #[.slice A l.length c, .int .i64 i, .agg #[.slice Ab bs.length cb, .int .i64 x]] w fun e w' => ∃ A' c', e = .returned (.slice A' l.length c') ∧ Rd kF w' (fun k => ok k ∨ w.heap.size ≤ k) A' c' (l.set i.toNat ⟨bs, x⟩) ∧ Below w.heap.size w w' := by
  have hh := laminaref20_set.calls (l.length + 1) ok A c l i.toNat ok Ab cb bs x _ w (Kd.V_mk h.le h.f) (Kd.V_mk hb.le hb.f) (set_f l i.toNat bs x _ (by omega) (by omega))
  rw [show ((i.toNat : Nat) : Int) = i by omega] at hh
  refine hh.mono fun e w' hq => ?_
  obtain ⟨v, q1, q2, q3⟩ := hq
  obtain ⟨A', c', rfl, q4⟩ := Rd.ofN q2
  exact ⟨A', c', by rw [q1]; simp, q4.mono (fun k hk _ => by rcases hk.1 with (hk | hk) | hk; exact .inl hk; exact .inl hk; exact .inr hk), q3⟩
theorem refset_app (w : World) (ok : Nat → Prop) (A : Option Addr) (c : Nat) (l : List Fil) (i : Int) (Ab : Option Addr) (cb : Nat) (bs : List Int) (x : Int) (h : Rd kF w ok A c l) (hb : Rd kB w ok Ab cb bs) (hl : l.length ≤ 549755813888) (hi : 0 ≤ i) {n : Nat} (hn : n = bs.length) :
    Calls Tryz.prog 89 #[.slice A l.length c, .int .i64 i, .agg #[.slice Ab n cb, .int .i64 x]] w fun e w' => ∃ A' c', e = .returned (.slice A' l.length c') ∧ Rd kF w' (fun k => ok k ∨ w.heap.size ≤ k) A' c' (l.set i.toNat ⟨bs, x⟩) ∧ Below w.heap.size w w' := by
  subst hn
  exact refset_calls w ok A c l i Ab cb bs x h hb hl hi
theorem Ref.set {w : World} {ok : Nat → Prop} {a0 c0 a1 c1 a2 c2 a3 c3 b0 d0} {S : PS} {i : Int} {f : Fil} (h : Ref w ok a0 c0 a1 c1 a2 c2 a3 c3 S) (hf : Rd kF w ok b0 d0 (S.files.set i.toNat f)) : Ref w ok b0 d0 a1 c1 a2 c2 a3 c3 (pDone (pSet S i f)) := ⟨hf, h.dir, h.dur, h.pend⟩
theorem ent_again {w : World} {ad : Addr} {l : List Ent} {x : Int} (h : Kd.C kE w (some ad) l.length l) (t : Nat) (ht : t < l.length) (hx : (rd_T109 l t).f1 = x) : w.cell? ⟨(ad.add (t * 2)).block, (ad.add (t * 2)).off + 1, none⟩ = some (.int .i64 x) := by
  obtain ⟨ad', e, _, h1⟩ := ent_cell h t ht
  cases e
  rw [← hx]
  exact h1
theorem box_drew (w : World) (o : Obj) : (w.alloc o).drew.heap[w.heap.size]? = some o ∧ Below w.heap.size w (w.alloc o).drew := ⟨heap_alloc_new w o, (below_alloc (Below.refl _ _) o).trans ⟨rfl, rfl, rfl, Nat.le_refl _, fun _ _ => rfl⟩⟩
theorem not_fresh {v : Value} {n b : Nat} (hf : v.ownBlock = none ∨ ∃ q, v.ownBlock = some q ∧ n ≤ q) (hb : b < n) : some b ≠ v.ownBlock := fun e => by
  rcases hf with h | ⟨q, h, hq⟩
  · rw [h] at e; cases e
  · rw [h] at e; cases e; omega
theorem two_cells {w : World} {b : Nat} {x0 x1 : Value} {t : Nat} {fz : Nat × Nat} (h : w.heap[b]? = some (.cells #[x0, x1] t fz)) : w.cell? ⟨b, 0, none⟩ = some x0 ∧ w.cell? ⟨b, 1, none⟩ = some x1 := ⟨cell_blk h 0, cell_blk h 1⟩
theorem cell_any {w : World} {a : Addr} {v : Value} (h : w.cell? a = some v) (o : Obj) : (w.alloc o).cell? a = some v := by rw [cell_alloc h]

set_option maxHeartbeats 4000000 in
set_option maxRecDepth 20000 in
theorem refSync_calls (w : World) (ok : Nat → Prop) (a0 : Option Addr) (c0 : Nat) (a1 : Option Addr) (c1 : Nat) (a2 : Option Addr) (c2 : Nat) (a3 : Option Addr) (c3 : Nat) (S : PS) (B : Nat) (n : ByteArray) (h : Ref w ok a0 c0 a1 c1 a2 c2 a3 c3 S) (hg : Good S B) (hB : B ≤ 549755813888) :
    Calls Tryz.prog 107 #[sv a0 c0 a1 c1 a2 c2 a3 c3 S, .string n] w (RefE2 w ok (pSync S n)) := by
  have H := Lib.hid h
  have HG := Lib.hid hg
  have HB := Lib.hid hB
  have HW := Lib.hid (two_blks w (.cells (svC a0 c0 a1 c1 a2 c2 a3 c3 S) tState) (.cells zeroC tState))
  have HOK := Lib.hid (h.mono (ok' := fun k => ok k ∧ k < w.heap.size) (fun k h1 h2 => ⟨h1, h2⟩))
  clear h hg hB
  by_cases hc : pCheck S.lim S.left [n] = 0
  · have HC := Lib.hid hc
    have HN := Lib.hid (pCheck_zero hc)
    cases hp : pLook S.dir n with
    | none =>
      have e : pSync S n = (S, 15) := by simp [pSync, hc, hp]
      rw [e]
      have HP := Lib.hid hp
      clear hc hp e
      go_enter Tryz.func107, Tryz.ntmps107
      go_wp2_with (first | (go_at_call 84; refine (refcheck_one w _ ok a0 c0 a1 c1 a2 c2 a3 c3 S _ n 0 H.out HW.out.2 (by simp) HC.out).mono ?_; rintro e w1 ⟨rfl, hb⟩; have HB1 := Lib.hid (HW.out.2.trans (hb.mono HW.out.2.size)); have j0 := Lib.hid (blk_below HW.out.1.1 hb); have j1 := Lib.hid (blk_below HW.out.1.2 hb); obtain ⟨s0, s1, s2, s3, s4, s5⟩ := six_cells j0.out; obtain ⟨e0, e1, e2, e3, e4, e5⟩ := six_cells j1.out; obtain ⟨g0, g1, g2, g3, g4, g5⟩ := six_frozen j1.out; obtain ⟨f0, f1, f2, f3, f4, f5⟩ := six_frozen j0.out; clear hb) | (go_at_call 53; refine (find_none_calls w1 ok a1 c1 S.dir n (H.out.below HB1.out).dir (by have := HG.out.nDir; have := HB.out; omega) HP.out).mono ?_; rintro e w2 ⟨rfl, hd⟩; have hb := drawn_below hd; have HB2 := Lib.hid (HB1.out.trans (hb.mono HB1.out.size)); have k0 := Lib.hid (blk_below j0.out hb); have k1 := Lib.hid (blk_below j1.out hb); clear s0 s1 s2 s3 s4 s5 e0 e1 e2 e3 e4 e5 g0 g1 g2 g3 g4 g5 f0 f1 f2 f3 f4 f5; clear j0 j1; have j0 := k0; have j1 := k1; clear k0 k1; obtain ⟨s0, s1, s2, s3, s4, s5⟩ := six_cells j0.out; obtain ⟨e0, e1, e2, e3, e4, e5⟩ := six_cells j1.out; obtain ⟨g0, g1, g2, g3, g4, g5⟩ := six_frozen j1.out; obtain ⟨f0, f1, f2, f3, f4, f5⟩ := six_frozen j0.out; clear hb hd) | fail)
      obtain ⟨q1, q2, q3⟩ := fin_ref (ok := ok) (S := S) HB2.out j1.out (HOK.out.below HB2.out |>.mono (fun k hk _ => .inl hk))
      exact bodyPost_ret (results_ct rfl _ _ (w.heap.size + 1) tState _ (0, 0) _ rfl q1 Tryz.underlying31 rfl (by kernel_rfl)) rfl ⟨_, rfl, ⟨a0, c0, a1, c1, a2, c2, a3, c3, rfl, q3⟩, q2⟩
    | some x =>
      have e : pSync S n = (pDone (pSet S x ⟨(fileAt S x).f0, (fileAt S x).f0.length⟩), 0) := by simp [pSync, hc, hp]
      rw [e]
      have HP := Lib.hid hp
      have hrx := HG.out.range x (live_look hp)
      have hbx : (fileAt S x).f0.length ≤ 549755813888 := by have := HG.out.nBytes _ (fileAt_mem hrx); have := HB.out; omega
      have hlf : S.files.length ≤ 549755813888 := by have := HG.out.nFiles; have := HB.out; omega
      have hx0 := hrx.1
      have hx1 := hrx.2
      have HRX := Lib.hid hrx
      clear hc hp e hrx
      go_enter Tryz.func107, Tryz.ntmps107
      go_upto_region 7 with (first | (go_at_call 84; refine (refcheck_one w _ ok a0 c0 a1 c1 a2 c2 a3 c3 S _ n 0 H.out HW.out.2 (by simp) HC.out).mono ?_; rintro e w1 ⟨rfl, hb⟩; have HB1 := Lib.hid (HW.out.2.trans (hb.mono HW.out.2.size)); have j0 := Lib.hid (blk_below HW.out.1.1 hb); have j1 := Lib.hid (blk_below HW.out.1.2 hb); obtain ⟨s0, s1, s2, s3, s4, s5⟩ := six_cells j0.out; obtain ⟨e0, e1, e2, e3, e4, e5⟩ := six_cells j1.out; obtain ⟨g0, g1, g2, g3, g4, g5⟩ := six_frozen j1.out; obtain ⟨f0, f1, f2, f3, f4, f5⟩ := six_frozen j0.out; clear hb) | (go_at_call 53; obtain ⟨t, ht, hx, hcall⟩ := find_some_calls w1 ok a1 c1 S.dir n x (H.out.below HB1.out).dir (by have := HG.out.nDir; have := HB.out; omega) HP.out; have HX := Lib.hid hx; refine hcall.mono ?_; rintro e w2 ⟨rfl, hd⟩; have hb := drawn_below hd; have HB2 := Lib.hid (HB1.out.trans (hb.mono HB1.out.size)); have htb : t < 549755813888 := (by have := HG.out.nDir; have := HB.out; omega); have k0 := Lib.hid (blk_below j0.out hb); have k1 := Lib.hid (blk_below j1.out hb); clear s0 s1 s2 s3 s4 s5 e0 e1 e2 e3 e4 e5 g0 g1 g2 g3 g4 g5 f0 f1 f2 f3 f4 f5; clear j0 j1; have j0 := k0; have j1 := k1; clear k0 k1; obtain ⟨s0, s1, s2, s3, s4, s5⟩ := six_cells j0.out; obtain ⟨e0, e1, e2, e3, e4, e5⟩ := six_cells j1.out; obtain ⟨g0, g1, g2, g3, g4, g5⟩ := six_frozen j1.out; obtain ⟨f0, f1, f2, f3, f4, f5⟩ := six_frozen j0.out; have HT := Lib.hid ht; clear hb hd hcall hx) | fail)
      obtain ⟨adE, hA, u0, u1⟩ := ent_cell (HOK.out.below HB2.out).dir.now t HT.out
      subst hA
      rw [HX.out] at u1
      obtain ⟨adF, Af, cf, hA, v0, v1, hrf⟩ := file_cells (HOK.out.below HB2.out).files x HRX.out
      subst hA
      have HRF := Lib.hid hrf
      have u1' := fun o => cell_any u1 o
      have v0' := fun o => cell_any v0 o
      have v1' := fun o => cell_any v1 o
      have s0' := fun o => cell_any s0 o
      have s1' := fun o => cell_any s1 o
      clear hrf u0
      go_region
      have hq := box_drew w2 (.cells #[.slice Af (fileAt S x).f0.length cf, .int .i64 (fileAt S x).f1] 107)
      generalize hw3 : (w2.alloc (.cells #[.slice Af (fileAt S x).f0.length cf, .int .i64 (fileAt S x).f1] 107)).drew = w3 at hq ⊢
      clear hw3 u1' v0' v1' s0' s1' v0 v1
      have hb := hq.2
      have j2 := Lib.hid hq.1
      have HB3 := Lib.hid (HB2.out.trans (hb.mono HB2.out.size))
      have HRF3 := Lib.hid (HRF.out.below hb)
      have U3 := Lib.hid ((hb.cell (World.block_lt_of_cell? w2 _ u1)).trans u1)
      have k0 := Lib.hid (blk_below j0.out hb)
      have k1 := Lib.hid (blk_below j1.out hb)
      clear s0 s1 s2 s3 s4 s5 e0 e1 e2 e3 e4 e5 g0 g1 g2 g3 g4 g5 f0 f1 f2 f3 f4 f5
      clear j0 j1
      have j0 := k0
      have j1 := k1
      clear k0 k1
      obtain ⟨s0, s1, s2, s3, s4, s5⟩ := six_cells j0.out
      obtain ⟨e0, e1, e2, e3, e4, e5⟩ := six_cells j1.out
      obtain ⟨g0, g1, g2, g3, g4, g5⟩ := six_frozen j1.out
      obtain ⟨f0, f1, f2, f3, f4, f5⟩ := six_frozen j0.out
      clear hb hq u1
      go_upto_region 8 with (fail)
      refine region_tail 14 (by kernel_rfl) (by kernel_rfl) ?_
      intro w4 hd
      have hb := drawn_below hd
      have HB4 := Lib.hid (HB3.out.trans (hb.mono HB3.out.size))
      have k2 := Lib.hid (blk_below j2.out hb)
      clear j2
      obtain ⟨y0, y1⟩ := two_cells k2.out
      have u1 := (hb.cell (World.block_lt_of_cell? w3 _ U3.out)).trans U3.out
      have HRF4 := Lib.hid (HRF3.out.below hb)
      have k0 := Lib.hid (blk_below j0.out hb)
      have k1 := Lib.hid (blk_below j1.out hb)
      clear s0 s1 s2 s3 s4 s5 e0 e1 e2 e3 e4 e5 g0 g1 g2 g3 g4 g5 f0 f1 f2 f3 f4 f5
      clear j0 j1
      have j0 := k0
      have j1 := k1
      clear k0 k1
      obtain ⟨s0, s1, s2, s3, s4, s5⟩ := six_cells j0.out
      obtain ⟨e0, e1, e2, e3, e4, e5⟩ := six_cells j1.out
      obtain ⟨g0, g1, g2, g3, g4, g5⟩ := six_frozen j1.out
      obtain ⟨f0, f1, f2, f3, f4, f5⟩ := six_frozen j0.out
      clear hb hd
      simp only [List.take_succ_cons, List.take_zero, List.drop_succ_cons, List.drop_zero]
      repeat still_step
      refine wpStill_nil ?_
      go_wp2_with (first | (go_at_call 89; have hx := HOK.out.below HB4.out; refine (refset_calls w4 (fun k => ok k ∧ k < w.heap.size) (some adF) c0 S.files x Af cf (fileAt S x).f0 _ hx.files (HRF4.out) hlf hx0).mono ?_; rintro e w7 ⟨A7, cc7, rfl, hr7, hb⟩; have HB7 := Lib.hid (HB4.out.trans (hb.mono HB4.out.size)); have HR7 := Lib.hid (hr7.mono (ok' := (fun k => (ok k ∧ k < w.heap.size) ∨ w.heap.size + 2 ≤ k)) (fun k hk _ => okin j1.out hk)); have k0 := Lib.hid (blk_below j0.out hb); have k1 := Lib.hid (blk_below j1.out hb); clear s0 s1 s2 s3 s4 s5 e0 e1 e2 e3 e4 e5 g0 g1 g2 g3 g4 g5 f0 f1 f2 f3 f4 f5; clear j0 j1; have j0 := k0; have j1 := k1; clear k0 k1; obtain ⟨s0, s1, s2, s3, s4, s5⟩ := six_cells j0.out; obtain ⟨e0, e1, e2, e3, e4, e5⟩ := six_cells j1.out; obtain ⟨g0, g1, g2, g3, g4, g5⟩ := six_frozen j1.out; obtain ⟨f0, f1, f2, f3, f4, f5⟩ := six_frozen j0.out; clear hb hr7 hx) | (go_at_call 85; refine (refdone_calls _ _ _ _ _ _ _ _ _ _ _ _ _ _ _ (fun e => ⟨HN.out.1 e, (HG.out.left e).2⟩)).mono ?_; rintro e w8 ⟨rfl, hb⟩; have HB8 := Lib.hid (one_in HB7.out j1.out hb).1; have k1 := Lib.hid (one_in HB7.out j1.out hb).2; have HR8 := Lib.hid ((((HOK.out.below HB8.out).mono (fun k hk _ => .inl hk)).set (HR7.out.set0.below hb) : Ref w8 (fun k => (ok k ∧ k < w.heap.size) ∨ w.heap.size + 2 ≤ k) A7 cc7 (some adE) c1 a2 c2 a3 c3 (pDone (pSet S x ⟨(fileAt S x).f0, (fileAt S x).f0.length⟩)))); clear s0 s1 s2 s3 s4 s5 e0 e1 e2 e3 e4 e5 g0 g1 g2 g3 g4 g5 f0 f1 f2 f3 f4 f5; clear j0 j1; have j1 := k1; clear k1; obtain ⟨e0, e1, e2, e3, e4, e5⟩ := six_cells j1.out; obtain ⟨g0, g1, g2, g3, g4, g5⟩ := six_frozen j1.out; clear hb) | fail)
      obtain ⟨q1, q2, q3⟩ := fin_ref (ok := ok) HB8.out j1.out HR8.out
      rw [show (pDone (pSet S x ⟨(fileAt S x).f0, (fileAt S x).f0.length⟩)).files.length = S.files.length by simp [pDone, pSet]] at q1 q2 q3
      exact bodyPost_ret (results_ct rfl _ _ (w.heap.size + 1) tState _ (0, 0) _ rfl q1 Tryz.underlying31 rfl (by kernel_rfl)) rfl ⟨_, rfl, ⟨A7, cc7, some adE, c1, a2, c2, a3, c3, by simp [sv, pDone, pSet], q3⟩, q2⟩
  · have e : pSync S n = (S, pCheck S.lim S.left [n]) := by simp [pSync, hc]
    rw [e]
    obtain ⟨c, hcc⟩ : ∃ c, pCheck S.lim S.left [n] = c := ⟨_, rfl⟩
    have HC := Lib.hid hcc
    have hc1 : (c == 0) = false := by rw [← hcc]; simpa using hc
    have hc2 : ¬ c = 0 := by rw [← hcc]; exact hc
    rw [hcc]
    clear e hc hcc
    go_enter Tryz.func107, Tryz.ntmps107
    go_wp2_with (first | (go_at_call 84; refine (refcheck_one w _ ok a0 c0 a1 c1 a2 c2 a3 c3 S _ n c H.out HW.out.2 (by simp) HC.out).mono ?_; rintro e w1 ⟨rfl, hb⟩; have HB1 := Lib.hid (HW.out.2.trans (hb.mono HW.out.2.size)); have j0 := Lib.hid (blk_below HW.out.1.1 hb); have j1 := Lib.hid (blk_below HW.out.1.2 hb); obtain ⟨s0, s1, s2, s3, s4, s5⟩ := six_cells j0.out; obtain ⟨e0, e1, e2, e3, e4, e5⟩ := six_cells j1.out; obtain ⟨g0, g1, g2, g3, g4, g5⟩ := six_frozen j1.out; obtain ⟨f0, f1, f2, f3, f4, f5⟩ := six_frozen j0.out; clear hb) | fail)
    obtain ⟨q1, q2, q3⟩ := fin_ref (ok := ok) (S := S) HB1.out j1.out (HOK.out.below HB1.out |>.mono (fun k hk _ => .inl hk))
    exact bodyPost_ret (results_ct rfl _ _ (w.heap.size + 1) tState _ (0, 0) _ rfl q1 Tryz.underlying31 rfl (by kernel_rfl)) rfl ⟨_, rfl, ⟨a0, c0, a1, c1, a2, c2, a3, c3, rfl, q3⟩, q2⟩

set_option maxHeartbeats 4000000 in
set_option maxRecDepth 20000 in
theorem refAppend_calls (w : World) (ok : Nat → Prop) (a0 : Option Addr) (c0 : Nat) (a1 : Option Addr) (c1 : Nat) (a2 : Option Addr) (c2 : Nat) (a3 : Option Addr) (c3 : Nat) (S : PS) (B : Nat) (n : ByteArray) (Ab : Option Addr) (cb : Nat) (bs : List Int) (h : Ref w ok a0 c0 a1 c1 a2 c2 a3 c3 S) (hg : Good S B) (hB : B ≤ 549755813888) (hbs : Rd kB w ok Ab cb bs) (hbl : bs.length ≤ 549755813888) :
    Calls Tryz.prog 32 #[sv a0 c0 a1 c1 a2 c2 a3 c3 S, .string n, .slice Ab bs.length cb] w (RefE2 w ok (pAppend S n bs)) := by
  have H := Lib.hid h
  have HG := Lib.hid hg
  have HBS := Lib.hid (hbs.mono (ok' := fun k => ok k ∧ k < w.heap.size) (fun k h1 h2 => ⟨h1, h2⟩))
  have HB := Lib.hid hB
  have HW := Lib.hid (two_blks w (.cells (svC a0 c0 a1 c1 a2 c2 a3 c3 S) tState) (.cells zeroC tState))
  have HOK := Lib.hid (h.mono (ok' := fun k => ok k ∧ k < w.heap.size) (fun k h1 h2 => ⟨h1, h2⟩))
  clear h hg hB hbs
  by_cases hc : pCheck S.lim S.left [n] = 0
  · have HC := Lib.hid hc
    have HN := Lib.hid (pCheck_zero hc)
    cases hp : pLook S.dir n with
    | none =>
      have e : pAppend S n bs = (S, 15) := by simp [pAppend, hc, hp]
      rw [e]
      have HP := Lib.hid hp
      clear hc hp e
      go_enter Tryz.func32, Tryz.ntmps32
      go_wp2_with (first | (go_at_call 84; refine (refcheck_one w _ ok a0 c0 a1 c1 a2 c2 a3 c3 S _ n 0 H.out HW.out.2 (by simp) HC.out).mono ?_; rintro e w1 ⟨rfl, hb⟩; have HB1 := Lib.hid (HW.out.2.trans (hb.mono HW.out.2.size)); have j0 := Lib.hid (blk_below HW.out.1.1 hb); have j1 := Lib.hid (blk_below HW.out.1.2 hb); obtain ⟨s0, s1, s2, s3, s4, s5⟩ := six_cells j0.out; obtain ⟨e0, e1, e2, e3, e4, e5⟩ := six_cells j1.out; obtain ⟨g0, g1, g2, g3, g4, g5⟩ := six_frozen j1.out; obtain ⟨f0, f1, f2, f3, f4, f5⟩ := six_frozen j0.out; clear hb) | (go_at_call 53; refine (find_none_calls w1 ok a1 c1 S.dir n (H.out.below HB1.out).dir (by have := HG.out.nDir; have := HB.out; omega) HP.out).mono ?_; rintro e w2 ⟨rfl, hd⟩; have hb := drawn_below hd; have HB2 := Lib.hid (HB1.out.trans (hb.mono HB1.out.size)); have k0 := Lib.hid (blk_below j0.out hb); have k1 := Lib.hid (blk_below j1.out hb); clear s0 s1 s2 s3 s4 s5 e0 e1 e2 e3 e4 e5 g0 g1 g2 g3 g4 g5 f0 f1 f2 f3 f4 f5; clear j0 j1; have j0 := k0; have j1 := k1; clear k0 k1; obtain ⟨s0, s1, s2, s3, s4, s5⟩ := six_cells j0.out; obtain ⟨e0, e1, e2, e3, e4, e5⟩ := six_cells j1.out; obtain ⟨g0, g1, g2, g3, g4, g5⟩ := six_frozen j1.out; obtain ⟨f0, f1, f2, f3, f4, f5⟩ := six_frozen j0.out; clear hb hd) | fail)
      obtain ⟨q1, q2, q3⟩ := fin_ref (ok := ok) (S := S) HB2.out j1.out (HOK.out.below HB2.out |>.mono (fun k hk _ => .inl hk))
      exact bodyPost_ret (results_ct rfl _ _ (w.heap.size + 1) tState _ (0, 0) _ rfl q1 Tryz.underlying31 rfl (by kernel_rfl)) rfl ⟨_, rfl, ⟨a0, c0, a1, c1, a2, c2, a3, c3, rfl, q3⟩, q2⟩
    | some x =>
      have e : pAppend S n bs = (pDone (pSet S x ⟨(fileAt S x).f0 ++ bs, (fileAt S x).f1⟩), 0) := by simp [pAppend, hc, hp]
      rw [e]
      have HP := Lib.hid hp
      have hrx := HG.out.range x (live_look hp)
      have hbx : (fileAt S x).f0.length ≤ 549755813888 := by have := HG.out.nBytes _ (fileAt_mem hrx); have := HB.out; omega
      have hlf : S.files.length ≤ 549755813888 := by have := HG.out.nFiles; have := HB.out; omega
      have hx0 := hrx.1
      have hx1 := hrx.2
      have HRX := Lib.hid hrx
      clear hc hp e hrx
      go_enter Tryz.func32, Tryz.ntmps32
      go_upto_region 7 with (first | (go_at_call 84; refine (refcheck_one w _ ok a0 c0 a1 c1 a2 c2 a3 c3 S _ n 0 H.out HW.out.2 (by simp) HC.out).mono ?_; rintro e w1 ⟨rfl, hb⟩; have HB1 := Lib.hid (HW.out.2.trans (hb.mono HW.out.2.size)); have j0 := Lib.hid (blk_below HW.out.1.1 hb); have j1 := Lib.hid (blk_below HW.out.1.2 hb); obtain ⟨s0, s1, s2, s3, s4, s5⟩ := six_cells j0.out; obtain ⟨e0, e1, e2, e3, e4, e5⟩ := six_cells j1.out; obtain ⟨g0, g1, g2, g3, g4, g5⟩ := six_frozen j1.out; obtain ⟨f0, f1, f2, f3, f4, f5⟩ := six_frozen j0.out; clear hb) | (go_at_call 53; obtain ⟨t, ht, hx, hcall⟩ := find_some_calls w1 ok a1 c1 S.dir n x (H.out.below HB1.out).dir (by have := HG.out.nDir; have := HB.out; omega) HP.out; have HX := Lib.hid hx; refine hcall.mono ?_; rintro e w2 ⟨rfl, hd⟩; have hb := drawn_below hd; have HB2 := Lib.hid (HB1.out.trans (hb.mono HB1.out.size)); have htb : t < 549755813888 := (by have := HG.out.nDir; have := HB.out; omega); have k0 := Lib.hid (blk_below j0.out hb); have k1 := Lib.hid (blk_below j1.out hb); clear s0 s1 s2 s3 s4 s5 e0 e1 e2 e3 e4 e5 g0 g1 g2 g3 g4 g5 f0 f1 f2 f3 f4 f5; clear j0 j1; have j0 := k0; have j1 := k1; clear k0 k1; obtain ⟨s0, s1, s2, s3, s4, s5⟩ := six_cells j0.out; obtain ⟨e0, e1, e2, e3, e4, e5⟩ := six_cells j1.out; obtain ⟨g0, g1, g2, g3, g4, g5⟩ := six_frozen j1.out; obtain ⟨f0, f1, f2, f3, f4, f5⟩ := six_frozen j0.out; have HT := Lib.hid ht; clear hb hd hcall hx) | fail)
      obtain ⟨adE, hA, u0, u1⟩ := ent_cell (HOK.out.below HB2.out).dir.now t HT.out
      subst hA
      rw [HX.out] at u1
      obtain ⟨adF, Af, cf, hA, v0, v1, hrf⟩ := file_cells (HOK.out.below HB2.out).files x HRX.out
      subst hA
      have HRF := Lib.hid hrf
      have u1' := fun o => cell_any u1 o
      have v0' := fun o => cell_any v0 o
      have v1' := fun o => cell_any v1 o
      have s0' := fun o => cell_any s0 o
      have s1' := fun o => cell_any s1 o
      clear hrf u0
      go_region
      have hq := box_drew w2 (.cells #[.slice Af (fileAt S x).f0.length cf, .int .i64 (fileAt S x).f1] 107)
      generalize hw3 : (w2.alloc (.cells #[.slice Af (fileAt S x).f0.length cf, .int .i64 (fileAt S x).f1] 107)).drew = w3 at hq ⊢
      clear hw3 u1' v0' v1' s0' s1' v0 v1
      have hb := hq.2
      have j2 := Lib.hid hq.1
      have HB3 := Lib.hid (HB2.out.trans (hb.mono HB2.out.size))
      have HRF3 := Lib.hid (HRF.out.below hb)
      have U3 := Lib.hid ((hb.cell (World.block_lt_of_cell? w2 _ u1)).trans u1)
      have k0 := Lib.hid (blk_below j0.out hb)
      have k1 := Lib.hid (blk_below j1.out hb)
      clear s0 s1 s2 s3 s4 s5 e0 e1 e2 e3 e4 e5 g0 g1 g2 g3 g4 g5 f0 f1 f2 f3 f4 f5
      clear j0 j1
      have j0 := k0
      have j1 := k1
      clear k0 k1
      obtain ⟨s0, s1, s2, s3, s4, s5⟩ := six_cells j0.out
      obtain ⟨e0, e1, e2, e3, e4, e5⟩ := six_cells j1.out
      obtain ⟨g0, g1, g2, g3, g4, g5⟩ := six_frozen j1.out
      obtain ⟨f0, f1, f2, f3, f4, f5⟩ := six_frozen j0.out
      clear hb hq u1
      obtain ⟨y0, y1⟩ := two_cells j2.out
      go_upto_region 11 with (first | (at_builtin; refine Kd.N_append_rows kB (w0 := w) w.heap.size rfl (.tmp 37) (.tmp 39) 36 5 _ 1 rfl Tryz.underlying36 infoB rfl (by decide) (by omega) (.slice none 0 0) [] (fileAt S x).f0 Af (fileAt S x).f0.length cf (fun k => (ok k ∧ k < w.heap.size) ∨ w.heap.size + 2 ≤ k) (fun k => ok k ∧ k < w.heap.size) rfl rfl (Kd.N_nil _ _ _ _ _) HRF3.out.f (fun k hk => ⟨.inl hk, by simp [Value.ownBlock]⟩) (fun k hk => .inr (by have := lt_blk j1.out; omega)) HB3.out HB3.out.size (by simp only [List.length_nil]; omega) ?_; intro v4 w4 hn hb hg hat; rw [List.nil_append] at hn; have k2 := Lib.hid (blk_grownN j2.out hg (by simp [Value.ownBlock])); clear y0 y1; have k0 := Lib.hid (blk_grownN j0.out hg (by simp [Value.ownBlock])); have k1 := Lib.hid (blk_grownN j1.out hg (by simp [Value.ownBlock])); have hfar : v4.ownBlock = none ∨ ∃ q, v4.ownBlock = some q ∧ w3.heap.size ≤ q := (by rcases hat with e | ⟨q, e1, e2⟩; exact .inl e; exact .inr ⟨q, e1, e2⟩); have HF4 := Lib.hid hfar; have HL0 := Lib.hid (lt_blk j0.out); have HL1 := Lib.hid (lt_blk j1.out); have HL2 := Lib.hid (lt_blk j2.out); have HN4 := Lib.hid hn; have HB4 := Lib.hid hb; clear j0 j1 j2; have j0 := k0; have j1 := k1; have j2 := k2; clear k0 k1 k2; clear s0 s1 s2 s3 s4 s5 e0 e1 e2 e3 e4 e5 g0 g1 g2 g3 g4 g5 f0 f1 f2 f3 f4 f5; obtain ⟨s0, s1, s2, s3, s4, s5⟩ := six_cells j0.out; obtain ⟨e0, e1, e2, e3, e4, e5⟩ := six_cells j1.out; obtain ⟨g0, g1, g2, g3, g4, g5⟩ := six_frozen j1.out; obtain ⟨f0, f1, f2, f3, f4, f5⟩ := six_frozen j0.out; clear hn hb hg hat hfar) | (at_builtin; refine Kd.N_append_rows kB (w0 := w) w.heap.size rfl (.tmp 41) (.tmp 42) 36 5 _ 1 rfl Tryz.underlying36 infoB rfl (by decide) (by omega) v4 (fileAt S x).f0 bs Ab bs.length cb (fun k => (ok k ∧ k < w.heap.size) ∨ w.heap.size + 2 ≤ k) (fun k => ok k ∧ k < w.heap.size) rfl rfl HN4.out (HBS.out.below HB4.out).f (fun k hk => ⟨.inl hk, not_fresh HF4.out (by have := hk.2; have := HB3.out.size; omega)⟩) (fun k hk => .inr (by have := lt_blk j1.out; omega)) HB4.out HB4.out.size (by omega) ?_; intro v5 w5 hn hb hg hat; have k2 := Lib.hid (blk_grownN j2.out hg (not_fresh HF4.out HL2.out)); have k0 := Lib.hid (blk_grownN j0.out hg (not_fresh HF4.out HL0.out)); have k1 := Lib.hid (blk_grownN j1.out hg (not_fresh HF4.out HL1.out)); obtain ⟨A5, cc5, hv5, hr5⟩ := Rd.ofN hn; rw [List.length_append] at hv5; subst hv5; have HR5 := Lib.hid (hr5.mono (ok' := (fun k => (ok k ∧ k < w.heap.size) ∨ w.heap.size + 2 ≤ k)) (fun k hk _ => hk.1)); have HB5 := Lib.hid hb; clear j0 j1 j2; have j0 := k0; have j1 := k1; have j2 := k2; clear k0 k1 k2; clear s0 s1 s2 s3 s4 s5 e0 e1 e2 e3 e4 e5 g0 g1 g2 g3 g4 g5 f0 f1 f2 f3 f4 f5; obtain ⟨s0, s1, s2, s3, s4, s5⟩ := six_cells j0.out; obtain ⟨e0, e1, e2, e3, e4, e5⟩ := six_cells j1.out; obtain ⟨g0, g1, g2, g3, g4, g5⟩ := six_frozen j1.out; obtain ⟨f0, f1, f2, f3, f4, f5⟩ := six_frozen j0.out; clear hn hb hg hat hr5 HN4) | fail)
      refine region_tail 12 (by kernel_rfl) (by kernel_rfl) ?_
      intro w6 hd
      have hb := drawn_below hd
      have HB6 := Lib.hid (HB5.out.trans (hb.mono HB5.out.size))
      have k2 := Lib.hid (blk_below j2.out hb)
      clear j2
      obtain ⟨y0, y1⟩ := two_cells k2.out
      have u1 := ent_again (HOK.out.below HB6.out).dir.now t HT.out HX.out
      have HR6 := Lib.hid (HR5.out.below hb)
      have k0 := Lib.hid (blk_below j0.out hb)
      have k1 := Lib.hid (blk_below j1.out hb)
      clear s0 s1 s2 s3 s4 s5 e0 e1 e2 e3 e4 e5 g0 g1 g2 g3 g4 g5 f0 f1 f2 f3 f4 f5
      clear j0 j1
      have j0 := k0
      have j1 := k1
      clear k0 k1
      obtain ⟨s0, s1, s2, s3, s4, s5⟩ := six_cells j0.out
      obtain ⟨e0, e1, e2, e3, e4, e5⟩ := six_cells j1.out
      obtain ⟨g0, g1, g2, g3, g4, g5⟩ := six_frozen j1.out
      obtain ⟨f0, f1, f2, f3, f4, f5⟩ := six_frozen j0.out
      clear hb hd
      simp only [List.take_succ_cons, List.take_zero, List.drop_succ_cons, List.drop_zero]
      repeat still_step
      refine wpStill_nil ?_
      go_wp2_with (first | (go_at_call 89; have hx := HOK.out.below HB6.out; refine (refset_app w6 (fun k => (ok k ∧ k < w.heap.size) ∨ w.heap.size + 2 ≤ k) (some adF) c0 S.files x A5 cc5 ((fileAt S x).f0 ++ bs) _ (hx.files.mono (fun k hk _ => .inl hk)) (HR6.out) hlf hx0 (by simp)).mono ?_; rintro e w7 ⟨A7, cc7, rfl, hr7, hb⟩; have HB7 := Lib.hid (HB6.out.trans (hb.mono HB6.out.size)); have HR7 := Lib.hid (hr7.mono (ok' := (fun k => (ok k ∧ k < w.heap.size) ∨ w.heap.size + 2 ≤ k)) (fun k hk _ => okin2 j1.out hk)); have k0 := Lib.hid (blk_below j0.out hb); have k1 := Lib.hid (blk_below j1.out hb); clear s0 s1 s2 s3 s4 s5 e0 e1 e2 e3 e4 e5 g0 g1 g2 g3 g4 g5 f0 f1 f2 f3 f4 f5; clear j0 j1; have j0 := k0; have j1 := k1; clear k0 k1; obtain ⟨s0, s1, s2, s3, s4, s5⟩ := six_cells j0.out; obtain ⟨e0, e1, e2, e3, e4, e5⟩ := six_cells j1.out; obtain ⟨g0, g1, g2, g3, g4, g5⟩ := six_frozen j1.out; obtain ⟨f0, f1, f2, f3, f4, f5⟩ := six_frozen j0.out; clear hb hr7 hx) | (go_at_call 85; refine (refdone_calls _ _ _ _ _ _ _ _ _ _ _ _ _ _ _ (fun e => ⟨HN.out.1 e, (HG.out.left e).2⟩)).mono ?_; rintro e w8 ⟨rfl, hb⟩; have HB8 := Lib.hid (one_in HB7.out j1.out hb).1; have k1 := Lib.hid (one_in HB7.out j1.out hb).2; have HR8 := Lib.hid ((((HOK.out.below HB8.out).mono (fun k hk _ => .inl hk)).set (HR7.out.set0.below hb) : Ref w8 (fun k => (ok k ∧ k < w.heap.size) ∨ w.heap.size + 2 ≤ k) A7 cc7 (some adE) c1 a2 c2 a3 c3 (pDone (pSet S x ⟨(fileAt S x).f0 ++ bs, (fileAt S x).f1⟩)))); clear s0 s1 s2 s3 s4 s5 e0 e1 e2 e3 e4 e5 g0 g1 g2 g3 g4 g5 f0 f1 f2 f3 f4 f5; clear j0 j1; have j1 := k1; clear k1; obtain ⟨e0, e1, e2, e3, e4, e5⟩ := six_cells j1.out; obtain ⟨g0, g1, g2, g3, g4, g5⟩ := six_frozen j1.out; clear hb) | fail)
      obtain ⟨q1, q2, q3⟩ := fin_ref (ok := ok) HB8.out j1.out HR8.out
      rw [show (pDone (pSet S x ⟨(fileAt S x).f0 ++ bs, (fileAt S x).f1⟩)).files.length = S.files.length by simp [pDone, pSet]] at q1 q2 q3
      exact bodyPost_ret (results_ct rfl _ _ (w.heap.size + 1) tState _ (0, 0) _ rfl q1 Tryz.underlying31 rfl (by kernel_rfl)) rfl ⟨_, rfl, ⟨A7, cc7, some adE, c1, a2, c2, a3, c3, by simp [sv, pDone, pSet], q3⟩, q2⟩
  · have e : pAppend S n bs = (S, pCheck S.lim S.left [n]) := by simp [pAppend, hc]
    rw [e]
    obtain ⟨c, hcc⟩ : ∃ c, pCheck S.lim S.left [n] = c := ⟨_, rfl⟩
    have HC := Lib.hid hcc
    have hc1 : (c == 0) = false := by rw [← hcc]; simpa using hc
    have hc2 : ¬ c = 0 := by rw [← hcc]; exact hc
    rw [hcc]
    clear e hc hcc
    go_enter Tryz.func32, Tryz.ntmps32
    go_wp2_with (first | (go_at_call 84; refine (refcheck_one w _ ok a0 c0 a1 c1 a2 c2 a3 c3 S _ n c H.out HW.out.2 (by simp) HC.out).mono ?_; rintro e w1 ⟨rfl, hb⟩; have HB1 := Lib.hid (HW.out.2.trans (hb.mono HW.out.2.size)); have j0 := Lib.hid (blk_below HW.out.1.1 hb); have j1 := Lib.hid (blk_below HW.out.1.2 hb); obtain ⟨s0, s1, s2, s3, s4, s5⟩ := six_cells j0.out; obtain ⟨e0, e1, e2, e3, e4, e5⟩ := six_cells j1.out; obtain ⟨g0, g1, g2, g3, g4, g5⟩ := six_frozen j1.out; obtain ⟨f0, f1, f2, f3, f4, f5⟩ := six_frozen j0.out; clear hb) | fail)
    obtain ⟨q1, q2, q3⟩ := fin_ref (ok := ok) (S := S) HB1.out j1.out (HOK.out.below HB1.out |>.mono (fun k hk _ => .inl hk))
    exact bodyPost_ret (results_ct rfl _ _ (w.heap.size + 1) tState _ (0, 0) _ rfl q1 Tryz.underlying31 rfl (by kernel_rfl)) rfl ⟨_, rfl, ⟨a0, c0, a1, c1, a2, c2, a3, c3, rfl, q3⟩, q2⟩
end Go.Proofs.YtehhafnjbkbmjaaGreat.Disk

/- The reference's left. -/
namespace Go.Proofs.YtehhafnjbkbmjaaGreat.Disk
open Go Go.RowKit Go.Proofs.YtehhafnjbkbmjaaGreatW.PrintWords Go.Proofs.YtehhafnjbkbmjaaGreatW.PrintLast Go.Proofs.YtehhafnjbkbmjaaGreatW.PrintMore Go.Proofs.YtehhafnjbkbmjaaGreat.PCommitlogSequence
attribute [local go_sem] max2_int min2_int max_two min_two max_three min_three max_four min_four
theorem left_form (f : Fil) (c : Cf) (hd : 0 ≤ f.f1 ∧ f.f1 ≤ f.f0.length) : ∃ (du kp : Nat) (y : Int), f.f1 = (du : Int) ∧ du + kp ≤ f.f0.length ∧ (if ((f.f0.length : Int) - (du : Int)) < c.f0 then (f.f0.length : Int) - (du : Int) else c.f0) = y ∧ (if (0 : Int) < y then y else 0) = (kp : Int) ∧ pKept f c = (kp : Int) := by
  obtain ⟨du, hdu⟩ := Int.eq_ofNat_of_zero_le hd.1
  have h1 := hd.2
  refine ⟨du, (pKept f c).toNat, _, hdu, ?_, rfl, ?_, ?_⟩
  · unfold pKept mn mx; rw [hdu] at h1 ⊢; split <;> split <;> omega
  · unfold pKept mn mx; rw [hdu] at h1 ⊢; repeat' split
    all_goals omega
  · have : 0 ≤ pKept f c := by unfold pKept mn mx; rw [hdu] at h1 ⊢; split <;> split <;> omega
    omega

set_option maxHeartbeats 4000000 in
theorem left_calls (w : World) (ok : Nat → Prop) (Af : Option Addr) (cf : Nat) (f : Fil) (c : Cf) (h : Rd kB w ok Af cf f.f0) (hd : 0 ≤ f.f1 ∧ f.f1 ≤ f.f0.length) (hl : f.f0.length ≤ 549755813888) :
    Calls Tryz.prog 83 #[.agg #[.slice Af f.f0.length cf, .int .i64 f.f1], .agg #[.int .i64 c.f0, .bool c.f1]] w fun e w' => ∃ A' c', e = .returned (.agg #[.slice A' (pLeft f c).length c', .int .i64 (pLeft f c).length]) ∧ Rd kB w' (fun k => w.heap.size ≤ k) A' c' (pLeft f c) ∧ Below w.heap.size w w' := by
  obtain ⟨du, kp, y, hdu, hle, e1, e2, e3⟩ := left_form f c hd
  obtain ⟨mk, hmk⟩ : ∃ mk : Nat, mk = du + kp := ⟨_, rfl⟩
  obtain ⟨b0, hb0⟩ : ∃ b0, b0 = f.f0.take mk := ⟨_, rfl⟩
  have hbl : b0.length = mk := by rw [hb0, List.length_take]; omega
  have hp : pLeft f c = if c.f1 = true ∧ 0 < (kp : Int) then b0.set (b0.length - 1) (Go.bits .xor .u8 (rd b0 ((b0.length : Int) - 1)) 255) else b0 := by
    unfold pLeft
    rw [e3, hdu, show ((du : Int) + (kp : Int)).toNat = mk by omega, ← hb0]
  rw [hp, hdu]
  have HR : Hid (Kd.F kB w ok Af mk b0) := by
    have := Kd.F_take (m := mk) h.f (by omega)
    rw [← hb0, hbl] at this
    exact this
  obtain ⟨dn, hdn⟩ : ∃ dn, dn = f.f0.length := ⟨_, rfl⟩
  obtain ⟨c0, ct⟩ := c
  have hlc := h.le
  rw [← hdn] at e1 hl hle hlc ⊢
  simp only at e1 ⊢
  have HW := Lib.hid (three_blks w (.cells #[.slice Af dn cf, .int .i64 du] 107) (.cells #[.int .i64 c0, .bool ct] 62) (.cells #[.slice none 0 0, .int .i64 0] 107))
  have hwr : IntKind.i64.wrap ((dn : Int) - (du : Int)) = (dn : Int) - (du : Int) := IntWalk.i64_in _ (by omega)
  have hws : IntKind.i64.wrap ((du : Int) + (kp : Int)) = (mk : Int) := by rw [IntWalk.i64_in _ (by omega)]; omega
  have hk5 : mk ≤ cf := by omega
  have hk6 : mk ≤ 549755813888 := by omega
  have HBL := Lib.hid hbl
  have HMK := Lib.hid hmk
  have hle2 : du ≤ dn := by omega
  clear h hd hdu e3 hp hb0 hdn hle hbl hmk
  have hkp : kp ≤ mk := by have := HMK.out; omega
  have hways : (ct = true ∧ 0 < kp ∧ y = (kp : Int)) ∨ (ct = false ∧ 0 < kp ∧ y = (kp : Int)) ∨ (ct = true ∧ kp = 0 ∧ y ≤ 0) ∨ (ct = false ∧ kp = 0 ∧ y ≤ 0) := by
    have hy : (0 < kp ∧ y = (kp : Int)) ∨ (kp = 0 ∧ y ≤ 0) := by
      split at e2 <;> omega
    cases ct <;> rcases hy with hy | hy <;> simp [hy]
  rcases hways with ⟨rfl, hk0, rfl⟩ | hw
  · obtain ⟨mp, rfl⟩ : ∃ mp, mk = mp + 1 := ⟨mk - 1, by omega⟩
    have hws' : (du : Int) + (kp : Int) = (mp : Int) + 1 := by have := HMK.out; omega
    have hk0' : (0 : Int) < (kp : Int) := by omega
    rw [if_pos ⟨rfl, hk0'⟩]
    go_enter Tryz.func83, Tryz.ntmps83
    go_wp2_with (first | (at_builtin; go_loud (refine print_append_row (w0 := w) w.heap.size rfl (.tmp 17) (.tmp 24) 36 5 .u8 1 rfl Tryz.underlying36 infoB (by decide) (.slice none 0 0) [] b0 Af (mp + 1) cf rfl rfl (World.ownsRow_nil _ _ _ _) (reads_of_C (Kd.F_now (Kd.F_below HR.out HW.out.2))) HW.out.2 HW.out.2.size (by simp only [List.length_nil]; omega) ?_); intro v1 w1 ho hb hg hat; rw [List.nil_append] at ho; have k0 := Lib.hid (blk_grownN HW.out.1.1 hg (by simp [Value.ownBlock])); have k1 := Lib.hid (blk_grownN HW.out.1.2.1 hg (by simp [Value.ownBlock])); have k2 := Lib.hid (blk_grownN HW.out.1.2.2 hg (by simp [Value.ownBlock])); obtain ⟨vg, vcap, rfl, hvg, hq1, hq2⟩ := torn_form (mp := mp) ho HBL.out; obtain ⟨y0, y1⟩ := two_cells k1.out; obtain ⟨z0, z1⟩ := two_cells k2.out; have g0 := frozen_blk k2.out 0; have g1 := frozen_blk k2.out 1; have HO := Lib.hid ho; have HB := Lib.hid hb; have hv3 : w.heap.size + 3 ≤ vg := (by rcases hat with e | ⟨q, e4, e5⟩; simp [Value.ownBlock] at e; simp only [Value.ownBlock, Option.some.injEq] at e4; have := HW.out.2.size; simp at e5; omega); have hn1 : ¬ vg = w.heap.size + 1 + 1 := (by omega); have hn2 : ¬ w.heap.size + 1 + 1 = vg := (by omega); have HV3 := Lib.hid hv3; clear ho hb hg hat hvg hv3) | fail)
    have hlen := HBL.out
    have hv3 := HV3.out
    have hs := own_store (by have := HO.out; rw [hlen] at this; exact this) (mp : Int) (Go.bits .xor .u8 (rd b0 (mp : Int)) 255)
    simp only [Int.toNat_natCast] at hs
    have hs1 := own_move (w1 := ((w1.setCell ⟨vg, mp, none⟩ (.int .u8 (Go.bits .xor .u8 (rd b0 (mp : Int)) 255))).setCell ⟨w.heap.size + 1 + 1, 0, none⟩ (.slice (some ⟨vg, 0, none⟩) (mp + 1) vcap)).setCell ⟨w.heap.size + 1 + 1, 1, none⟩ (.int .i64 ((mp : Int) + 1))) hs.1 (fun k hk => by simp only [Value.ownBlock, Option.some.injEq] at hk; rw [Below.heap_setCell _ _ _ _ (show k ≠ w.heap.size + 1 + 1 by omega), Below.heap_setCell _ _ _ _ (show k ≠ w.heap.size + 1 + 1 by omega)])
    have e4 : (b0.set mp (Go.bits .xor .u8 (rd b0 (mp : Int)) 255)).length = mp + 1 := by rw [List.length_set, hlen]
    rw [hlen, show mp + 1 - 1 = mp by omega, show ((mp + 1 : Nat) : Int) - 1 = (mp : Int) by omega, e4]
    exact bodyPost_ret (results_cell_row rfl _ _ (w.heap.size + 1 + 1) 107 #[.slice (some ⟨vg, 0, none⟩) (mp + 1) vcap, .int .i64 ((mp : Int) + 1)] (0, 0) _ rfl (blk_set (blk_set (blk_set_other k2.out (p := ⟨vg, mp, none⟩) hn2 _) 0 _) 1 _) Tryz.underlying107 rfl (by kernel_rfl)) rfl ⟨some ⟨vg, 0, none⟩, vcap, rfl, Rd.ofOwn (by rw [e4]; exact hs1), below_setN (below_setN (below_setN HB.out (by omega) _) (by omega) _) (by omega) _⟩
  · have hno : ¬ (ct = true ∧ 0 < (kp : Int)) := by rcases hw with h | h | h <;> (rintro ⟨z1, z2⟩; obtain ⟨h1, h2, h3⟩ := h; first | omega | (rw [h1] at z1; cases z1))
    rw [if_neg hno, HBL.out]
    have hws' : (du : Int) + (kp : Int) = (mk : Int) := by have := HMK.out; omega
    have hk0 : ∀ z : Int, z ≤ 0 → ¬ 0 < z := fun z h => by omega
    rcases hw with ⟨rfl, hk0, rfl⟩ | ⟨rfl, rfl, hy⟩ | ⟨rfl, rfl, hy⟩
    all_goals try (replace hy := hk0 _ hy; obtain rfl : mk = du := (by have := HMK.out; omega); clear e2 hws hws')
    all_goals
      go_enter Tryz.func83, Tryz.ntmps83
      go_wp2_with (first | (at_builtin; go_loud (refine print_append_row (w0 := w) w.heap.size rfl (.tmp 17) (.tmp 24) 36 5 .u8 1 rfl Tryz.underlying36 infoB (by decide) (.slice none 0 0) [] b0 Af mk cf rfl rfl (World.ownsRow_nil _ _ _ _) (reads_of_C (Kd.F_now (Kd.F_below HR.out HW.out.2))) HW.out.2 HW.out.2.size (by simp only [List.length_nil]; omega) ?_); intro v1 w1 ho hb hg hat; rw [List.nil_append] at ho; have k1 := Lib.hid (blk_grownN HW.out.1.2.1 hg (by simp [Value.ownBlock])); have k2 := Lib.hid (blk_grownN HW.out.1.2.2 hg (by simp [Value.ownBlock])); obtain ⟨vA, vn, vc, rfl, hvn, hvc⟩ := data_form2 (own_weaken ho (Nat.zero_le _)); rw [HBL.out] at hvn; subst hvn; obtain ⟨y0, y1⟩ := two_cells k1.out; obtain ⟨z0, z1⟩ := two_cells k2.out; have g0 := frozen_blk k2.out 0; have g1 := frozen_blk k2.out 1; have HO := Lib.hid ho; have HB := Lib.hid hb; have hfar : ∀ k, (Value.slice vA vn vc).ownBlock = some k → k ≠ w.heap.size + 1 + 1 := (fun k hk => by rcases hat with e | ⟨q, e4, e5⟩; rw [e] at hk; cases hk; rw [e4] at hk; cases hk; have := lt_blk HW.out.1.2.2; omega); have HFAR := Lib.hid hfar; clear ho hb hg hat hfar) | fail)
      have hs1 := own_move (w1 := (w1.setCell ⟨w.heap.size + 1 + 1, 0, none⟩ (.slice vA vn vc)).setCell ⟨w.heap.size + 1 + 1, 1, none⟩ (.int .i64 (vn : Int))) HO.out (fun k hk => by rw [Below.heap_setCell _ _ _ _ (HFAR.out k hk), Below.heap_setCell _ _ _ _ (HFAR.out k hk)])
      exact bodyPost_ret (results_cell_row rfl _ _ (w.heap.size + 1 + 1) 107 #[.slice vA vn vc, .int .i64 (vn : Int)] (0, 0) _ rfl (blk_set (blk_set k2.out 0 _) 1 _) Tryz.underlying107 rfl (by kernel_rfl)) rfl ⟨vA, vc, rfl, Rd.ofOwn hs1, below_setN (below_setN HB.out (by omega) _) (by omega) _⟩
end Go.Proofs.YtehhafnjbkbmjaaGreat.Disk

/- The reference's Crash. -/
namespace Go.Proofs.YtehhafnjbkbmjaaGreat.Disk
open Go Go.RowKit Go.Proofs.YtehhafnjbkbmjaaGreatW.PrintWords Go.Proofs.YtehhafnjbkbmjaaGreatW.PrintLast Go.Proofs.YtehhafnjbkbmjaaGreatW.PrintMore Go.Proofs.YtehhafnjbkbmjaaGreat.PCommitlogSequence
abbrev OkA (ok : Nat → Prop) (n k : Nat) : Prop := (ok k ∧ k < n) ∨ n + 2 ≤ k
theorem pend_elem {w : World} {ok : Nat → Prop} {A : Option Addr} {c : Nat} {l : List Opn} (h : Rd kO w ok A c l) (k : Nat) (hk : k < l.length) : ∃ ad, A = some ad ∧ w.cell? (ad.add (k * 4)) = some (.int .i64 l[k].f0) ∧ w.cell? ⟨(ad.add (k * 4)).block, (ad.add (k * 4)).off + 1, none⟩ = some (.string l[k].f1) ∧ w.cell? ⟨(ad.add (k * 4)).block, (ad.add (k * 4)).off + 2, none⟩ = some (.string l[k].f2) ∧ w.cell? ⟨(ad.add (k * 4)).block, (ad.add (k * 4)).off + 3, none⟩ = some (.int .i64 l[k].f3) := by
  obtain ⟨ad, h1, h2, h3, h4, h5⟩ := at_T124 h.now (k : Int) (by omega) (by omega)
  have e : rd_T124 l (k : Int) = l[k] := by simp [rd_T124, List.getD, hk]
  rw [e] at h2 h3 h4 h5
  exact ⟨ad, h1, h2, h3, h4, h5⟩
/-- The first loop: the directory that a crash leaves. -/
def CR1 (w : World) (ok : Nat → Prop) (S : PS) (n : Int) (C : Array Value) (i dv : Value) (wr : World) : Prop :=
  ∃ (k : Nat) (A : Option Addr) (c : Nat), k ≤ S.pend.length ∧ k ≤ n.toNat ∧ i = .int .i64 k ∧ dv = .slice A (dirAt S k).length c ∧ Rd kE wr (OkA ok w.heap.size) A c (dirAt S k) ∧ Below w.heap.size w wr ∧ wr.heap[w.heap.size]? = some (.cells C tState (0, 0)) ∧ wr.heap[w.heap.size + 1]? = some (.cells zeroC tState (0, 0))

/-- The second loop: the files and the directory anew; o is the block of the state that is built. -/
def CR2 (w0 : World) (S : PS) (l : List Ent) (cs : List Cf) (i : Value) (wr : World) : Prop :=
  ∃ (j : Nat) (fA eA : Option Addr) (fc ec : Nat), j ≤ l.length ∧ i = .int .i64 j ∧
    wr.heap[w0.heap.size]? = some (.cells #[.slice fA j fc, .slice eA j ec, .slice none 0 0, .slice none 0 0, .bool false, .int .i64 0] tState (0, 0)) ∧
    Kd.N kF 107 wr w0.heap.size (fun k => w0.heap.size < k ∧ some k ≠ (Value.slice eA j ec).ownBlock) (.slice fA j fc) ((newFiles S l cs).take j) ∧
    Kd.N kE 109 wr w0.heap.size (fun k => w0.heap.size < k) (.slice eA j ec) (newDir l j) ∧
    Below w0.heap.size w0 wr
theorem newFiles_take (S : PS) (l : List Ent) (cs : List Cf) (j : Nat) (hj : j < l.length) : (newFiles S l cs).take (j + 1) = (newFiles S l cs).take j ++ [⟨pLeft (fileAt S l[j].f1) (cfAt cs j), (pLeft (fileAt S l[j].f1) (cfAt cs j)).length⟩] := by
  have h : j < (newFiles S l cs).length := by rw [newFiles_length]; exact hj
  rw [List.take_succ_eq_append_getElem h]
  congr 2
  simp [newFiles]
theorem cf_elem {w : World} {A : Option Addr} {cs : List Cf} (h : Kd.C k62 w A cs.length cs) (j : Nat) (hj : j < cs.length) : ∃ ad, A = some ad ∧ w.cell? (ad.add (j * 2)) = some (.int .i64 (cfAt cs j).f0) ∧ w.cell? ⟨(ad.add (j * 2)).block, (ad.add (j * 2)).off + 1, none⟩ = some (.bool (cfAt cs j).f1) := by
  obtain ⟨ad, h1, h2, h3⟩ := at_T62 h (j : Int) (by omega) (by omega)
  exact ⟨ad, h1, h2, h3⟩
theorem cf_none {cs : List Cf} {j : Nat} (hj : ¬ j < cs.length) : (cfAt cs j).f0 = 0 ∧ (cfAt cs j).f1 = false := by
  have : cfAt cs j = z62 := by simp [cfAt, List.getD, show cs.length ≤ j by omega]
  rw [this]
  exact ⟨rfl, rfl⟩

theorem N_flat {w : World} {e base : Nat} {ok ok' : Nat → Prop} {v : Value} {xs : List Ent} (h : Kd.N kE e w base ok v xs) (h0 : ∀ k, v.ownBlock = some k → ok' k) : Kd.N kE e w base ok' v xs := by
  obtain ⟨_, rows, hl, hR, hf⟩ := h
  refine ⟨h0, rows, hl, hR, fun j x c hx hc => ?_⟩
  have := k109_open (Kd.FK_now (hf j x c hx hc))
  subst this
  exact k109_mkF _ _ _
theorem app_okp {w4 : World} {n : Nat} {o : Obj} {vf ve : Value} {e1 e2 : Nat} {okf oke : Nat → Prop} {fs : List Fil} {es : List Ent} (h : w4.heap[n]? = some o) (hf : Kd.N kF e1 w4 n okf vf fs) (he : Kd.N kE e2 w4 n oke ve es) {k : Nat} (hk : w4.heap.size ≤ k) : (n < k ∧ some k ≠ ve.ownBlock) ∧ some k ≠ vf.ownBlock := by
  have h1 := lt_blk h
  exact ⟨⟨by omega, fun e => by have := Kd.N_lt he k e.symm; omega⟩, fun e => by have := Kd.N_lt hf k e.symm; omega⟩
theorem app_fresh {w5 : World} {n : Nat} {o : Obj} {ve : Value} {e2 : Nat} {oke : Nat → Prop} {es : List Ent} (h : w5.heap[n]? = some o) (he : Kd.N kE e2 w5 n oke ve es) {k : Nat} (hk : w5.heap.size ≤ k) : n < k ∧ some k ≠ ve.ownBlock := by
  have h1 := lt_blk h
  exact ⟨by omega, fun e => by have := Kd.N_lt he k e.symm; omega⟩
theorem files_form {w : World} {e base : Nat} {ok : Nat → Prop} {v : Value} {l : List Fil} {m : Nat} (h : Kd.N kF e w base ok v (l.take m)) (hm : m ≤ l.length) : ∃ A c, v = .slice A m c := by
  obtain ⟨A, c, h1⟩ := Kd.N_slice h
  exact ⟨A, c, by rw [h1, List.length_take, Nat.min_eq_left hm]⟩
theorem ne_grown {w5 w6 : World} {n : Nat} {vf ve : Value} {okf oke : Nat → Prop} {fs : List Fil} {es : List Ent} (he : Kd.N kE 109 w5 n oke ve es) (hf : Kd.N kF 107 w5 n okf vf fs) (hg : w5.grownBy w6 vf.ownBlock) : Kd.N kE 109 w6 n oke ve es := by
  refine N_flat (Kd.N_grown (N_flat he (ok' := fun k => ve.ownBlock = some k) (fun k hk => hk)) hg (fun k hk e => ?_)) (fun k hk => he.1 k hk)
  obtain ⟨c1, h1⟩ := Kd.N_typed he k hk
  obtain ⟨c2, h2⟩ := Kd.N_typed hf k e.symm
  exact cells_ne_type h1 h2 (by decide) rfl
/-- Between the two statements of a round: the file is appended, the entry is not yet. -/
def CRM (w0 : World) (S : PS) (l : List Ent) (cs : List Cf) (j : Nat) (eA : Option Addr) (ec : Nat) (wr : World) : Prop :=
  ∃ (fA : Option Addr) (fc : Nat),
    wr.heap[w0.heap.size]? = some (.cells #[.slice fA (j + 1) fc, .slice eA j ec, .slice none 0 0, .slice none 0 0, .bool false, .int .i64 0] tState (0, 0)) ∧
    Kd.N kF 107 wr w0.heap.size (fun k => w0.heap.size < k ∧ some k ≠ (Value.slice eA j ec).ownBlock) (.slice fA (j + 1) fc) ((newFiles S l cs).take (j + 1)) ∧
    Kd.N kE 109 wr w0.heap.size (fun k => w0.heap.size < k) (.slice eA j ec) (newDir l j) ∧
    Below w0.heap.size w0 wr
theorem crm_of {w0 w6 : World} {S : PS} {l : List Ent} {cs : List Cf} {j : Nat} {eA fA A6 : Option Addr} {ec fc c6 : Nat} (h : w6.heap[w0.heap.size]? = some (.cells #[.slice fA j fc, .slice eA j ec, .slice none 0 0, .slice none 0 0, .bool false, .int .i64 0] tState (0, 0)))
    (hf : Kd.N kF 107 w6 w0.heap.size (fun k => w0.heap.size < k ∧ some k ≠ (Value.slice eA j ec).ownBlock) (.slice A6 (j + 1) c6) ((newFiles S l cs).take (j + 1)))
    (he : Kd.N kE 109 w6 w0.heap.size (fun k => w0.heap.size < k) (.slice eA j ec) (newDir l j)) (hb : Below w0.heap.size w0 w6) :
    CRM w0 S l cs j eA ec (w6.setCell ⟨w0.heap.size, 0, none⟩ (.slice A6 (j + 1) c6)) :=
  ⟨A6, c6, blk_set h 0 _, Kd.N_step hf (fun k hk _ => Below.heap_setCell _ _ _ _ (by have := hk.1; show k ≠ w0.heap.size; omega)), Kd.N_step he (fun k hk _ => Below.heap_setCell _ _ _ _ (by show k ≠ w0.heap.size; omega)), below_setN hb (Nat.le_refl _) _⟩
theorem name_again {w : World} {ad : Addr} {l : List Ent} (h : Kd.C kE w (some ad) l.length l) (t : Nat) (ht : t < l.length) : w.cell? (ad.add (t * 2)) = some (.string l[t].f0) := by
  obtain ⟨ad', e, h0, _⟩ := ent_cell h t ht
  cases e
  have er : rd_T109 l (t : Int) = l[t] := by simp [rd_T109, List.getD, ht]
  rw [er] at h0
  exact h0
theorem dir_form {w : World} {e base : Nat} {ok : Nat → Prop} {v : Value} {l : List Ent} {m : Nat} (h : Kd.N kE e w base ok v (newDir l m)) (hm : m ≤ l.length) : ∃ A c, v = .slice A m c := by
  obtain ⟨A, c, h1⟩ := Kd.N_slice h
  exact ⟨A, c, by rw [h1, newDir_length l m hm]⟩
theorem cr2_of {w0 w7 w8 : World} {S : PS} {l : List Ent} {cs : List Cf} {j : Nat} {eA fA A8 : Option Addr} {ec fc c8 : Nat} (hj : j < l.length) (h : w8.heap[w0.heap.size]? = some (.cells #[.slice fA (j + 1) fc, .slice eA j ec, .slice none 0 0, .slice none 0 0, .bool false, .int .i64 0] tState (0, 0)))
    (hf : Kd.N kF 107 w7 w0.heap.size (fun k => w0.heap.size < k ∧ some k ≠ (Value.slice eA j ec).ownBlock) (.slice fA (j + 1) fc) ((newFiles S l cs).take (j + 1)))
    (hg : w7.grownBy w8 (Value.slice eA j ec).ownBlock) (hat : (Value.slice A8 (j + 1) c8).ownBlock = (Value.slice eA j ec).ownBlock ∨ ∃ b, (Value.slice A8 (j + 1) c8).ownBlock = some b ∧ w7.heap.size ≤ b)
    (he : Kd.N kE 109 w8 w0.heap.size (fun k => w0.heap.size < k) (.slice A8 (j + 1) c8) (newDir l (j + 1))) (hb : Below w0.heap.size w0 w8) :
    CR2 w0 S l cs (.int .i64 ((j + 1 : Nat) : Int)) (w8.setCell ⟨w0.heap.size, 1, none⟩ (.slice A8 (j + 1) c8)) := by
  refine ⟨j + 1, fA, A8, fc, c8, hj, rfl, blk_set h 1 _, ?_, Kd.N_step he (fun k hk _ => Below.heap_setCell _ _ _ _ (by show k ≠ w0.heap.size; omega)), below_setN hb (Nat.le_refl _) _⟩
  exact Kd.N_step (Kd.N_after (u := .slice eA j ec) (u1 := .slice A8 (j + 1) c8) hf hg hat) (fun k hk _ => Below.heap_setCell _ _ _ _ (by have := hk.1; show k ≠ w0.heap.size; omega))
theorem rd_of_slice {α : Type} {d : Kd α} {e base n c : Nat} {w : World} {ok : Nat → Prop} {A : Option Addr} {xs : List α} (h : Kd.N d e w base ok (.slice A n c) xs) : Rd d w ok A c xs := by
  obtain ⟨A', c', hv, hr⟩ := Rd.ofN h
  injection hv with h1 h2 h3
  subst h1 h3
  exact hr.mono (fun k hk _ => hk.1)
theorem crash_ref {w wq wr : World} {ok : Nat → Prop} {S : PS} {n : Int} {l : List Ent} {cs : List Cf} {fA eA : Option Addr} {fc ec : Nat} {v : Value} (hw : w.heap.size + 1 < wq.heap.size) (hl : l = pCrashDir S n)
    (hf : Kd.N kF 107 wr wq.heap.size (fun k => wq.heap.size < k ∧ some k ≠ (Value.slice eA l.length ec).ownBlock) (.slice fA l.length fc) ((newFiles S l cs).take l.length))
    (he : Kd.N kE 109 wr wq.heap.size (fun k => wq.heap.size < k) (.slice eA l.length ec) (newDir l l.length)) :
    Ref (wr.setCell ⟨wq.heap.size, 2, none⟩ v) (fun k => (ok k ∧ k < w.heap.size) ∨ w.heap.size + 2 ≤ k) fA fc eA ec eA ec none 0 (pCrash S n cs) := by
  rw [List.take_of_length_le (by rw [newFiles_length]; exact Nat.le_refl _)] at hf
  have h1 := ((rd_of_slice hf).move (w' := wr.setCell ⟨wq.heap.size, 2, none⟩ v) (fun k hk _ => Below.heap_setCell _ _ _ _ (by have := hk.1; show k ≠ wq.heap.size; omega))).mono (ok' := fun k => (ok k ∧ k < w.heap.size) ∨ w.heap.size + 2 ≤ k) (fun k hk _ => .inr (by have := hk.1; omega))
  have h2 := ((rd_of_slice he).move (w' := wr.setCell ⟨wq.heap.size, 2, none⟩ v) (fun k hk _ => Below.heap_setCell _ _ _ _ (by show k ≠ wq.heap.size; omega))).mono (ok' := fun k => (ok k ∧ k < w.heap.size) ∨ w.heap.size + 2 ≤ k) (fun k hk _ => .inr (by omega))
  subst hl
  exact ⟨h1, h2, h2, Rd.nil _ _ _⟩
theorem held_below {w w' : World} {a b c d e f g : Addr} {x1 x2 x3 x4 x5 x6 x7 : Value} (hb : Below w.heap.size w w') (h1 : w.cell? a = some x1) (h2 : w.cell? b = some x2) (h3 : w.cell? c = some x3) (h4 : w.cell? d = some x4) (h5 : w.cell? e = some x5) (h6 : w.cell? f = some x6) (h7 : w.cell? g = some x7) :
    w'.cell? a = some x1 ∧ w'.cell? b = some x2 ∧ w'.cell? c = some x3 ∧ w'.cell? d = some x4 ∧ w'.cell? e = some x5 ∧ w'.cell? f = some x6 ∧ w'.cell? g = some x7 :=
  ⟨(hb.cell (World.block_lt_of_cell? w _ h1)).trans h1, (hb.cell (World.block_lt_of_cell? w _ h2)).trans h2, (hb.cell (World.block_lt_of_cell? w _ h3)).trans h3, (hb.cell (World.block_lt_of_cell? w _ h4)).trans h4, (hb.cell (World.block_lt_of_cell? w _ h5)).trans h5, (hb.cell (World.block_lt_of_cell? w _ h6)).trans h6, (hb.cell (World.block_lt_of_cell? w _ h7)).trans h7⟩
theorem held_grown {w w' : World} {r : Option Nat} {a b c d e f g : Addr} {x1 x2 x3 x4 x5 x6 x7 : Value} (hg : w.grownBy w' r) (h1 : w.cell? a = some x1) (h2 : w.cell? b = some x2) (h3 : w.cell? c = some x3) (h4 : w.cell? d = some x4) (h5 : w.cell? e = some x5) (h6 : w.cell? f = some x6) (h7 : w.cell? g = some x7)
    (n1 : some a.block ≠ r) (n2 : some b.block ≠ r) (n3 : some c.block ≠ r) (n4 : some d.block ≠ r) (n5 : some e.block ≠ r) (n6 : some f.block ≠ r) (n7 : some g.block ≠ r) :
    w'.cell? a = some x1 ∧ w'.cell? b = some x2 ∧ w'.cell? c = some x3 ∧ w'.cell? d = some x4 ∧ w'.cell? e = some x5 ∧ w'.cell? f = some x6 ∧ w'.cell? g = some x7 :=
  ⟨(hg.cell_far _ (World.block_lt_of_cell? w _ h1) n1).trans h1, (hg.cell_far _ (World.block_lt_of_cell? w _ h2) n2).trans h2, (hg.cell_far _ (World.block_lt_of_cell? w _ h3) n3).trans h3, (hg.cell_far _ (World.block_lt_of_cell? w _ h4) n4).trans h4, (hg.cell_far _ (World.block_lt_of_cell? w _ h5) n5).trans h5, (hg.cell_far _ (World.block_lt_of_cell? w _ h6) n6).trans h6, (hg.cell_far _ (World.block_lt_of_cell? w _ h7) n7).trans h7⟩
theorem cell_up {w : World} {o : Obj} {a : Addr} {x : Value} (h : w.cell? a = some x) : (w.alloc o).cell? a = some x := (World.cell?_alloc_lt _ _ _ (World.block_lt_of_cell? w a h)).trans h
theorem cell_off0 {w : World} {n : Nat} {v x : Value} {a : Addr} (h : w.cell? a = some x) (hne : a.block ≠ n) : (w.setCell ⟨n, 0, none⟩ v).cell? a = some x := (World.cell?_setCell_far w _ a v (fun e => hne e.symm)).trans h
theorem far_lo {r : Option Nat} {p q k : Nat} (h : ∀ k, r = some k → p < k ∧ k < q) (hk : k ≤ p) : some k ≠ r := fun e => by have := h k e.symm; omega
theorem far_hi {r : Option Nat} {p q k : Nat} (h : ∀ k, r = some k → p < k ∧ k < q) (hk : q ≤ k) : some k ≠ r := fun e => by have := h k e.symm; omega
theorem pLeft_length (f : Fil) (c : Cf) : (pLeft f c).length ≤ f.f0.length := by
  unfold pLeft
  split <;> simp only [List.length_set, List.length_take] <;> omega

set_option linter.unusedSimpArgs false
set_option maxHeartbeats 8000000 in
set_option maxRecDepth 100000 in
theorem refCrash_calls (w : World) (ok : Nat → Prop) (a0 : Option Addr) (c0 : Nat) (a1 : Option Addr) (c1 : Nat) (a2 : Option Addr) (c2 : Nat) (a3 : Option Addr) (c3 : Nat) (S : PS) (B : Nat) (n : Int) (A : Option Addr) (cc : Nat) (cs : List Cf) (hcs : Kd.C k62 w A cs.length cs) (hcc : cs.length ≤ cc) (h : Ref w ok a0 c0 a1 c1 a2 c2 a3 c3 S) (hg : Good S B) (hB : B ≤ 274877906944) :
    Calls Tryz.prog 29 #[sv a0 c0 a1 c1 a2 c2 a3 c3 S, .int .i64 n, .slice A cs.length cc] w (RefE w ok (pCrash S n cs)) := by
  have H := Lib.hid h
  have HG := Lib.hid hg
  have HB := Lib.hid hB
  have HCS := Lib.hid hcs
  have hcc' := hcc
  have hnp : S.pend.length ≤ 549755813888 := by have := hg.nPend; omega
  have HW := Lib.hid (two_blks w (.cells (svC a0 c0 a1 c1 a2 c2 a3 c3 S) tState) (.cells zeroC tState))
  have HOK := Lib.hid (h.mono (ok' := fun k => ok k ∧ k < w.heap.size) (fun k h1 h2 => ⟨h1, h2⟩))
  clear h hg hB hcs hcc
  go_enter Tryz.func29, Tryz.ntmps29
  go_wp2_with fail
  go_loopw [8, 7] (fun i dv wr => CR1 w ok S n (svC a0 c0 a1 c1 a2 c2 a3 c3 S) i dv wr) (fun i _ _ => S.pend.length - (intOf i).toNat)
  case atStart => exact ⟨0, a2, c2, Nat.zero_le _, Nat.zero_le _, rfl, rfl, (HOK.out.below HW.out.2).dur.mono (fun k hk _ => .inl hk), HW.out.2, HW.out.1.1, HW.out.1.2⟩
  case round =>
    obtain ⟨k, dA, dc, hk1, hk2, rfl, rfl, hr, hb, h0, h1⟩ := hrel
    obtain ⟨wq, rfl⟩ : ∃ wq, wq = wr := ⟨_, rfl⟩
    have HR := Lib.hid hr
    have HBW := Lib.hid hb
    have j0 := Lib.hid h0
    have j1 := Lib.hid h1
    obtain ⟨s0, s1, s2, s3, s4, s5⟩ := six_cells j0.out
    clear hr hb h0 h1
    by_cases hlt : k < S.pend.length ∧ (k : Int) < n
    · obtain ⟨hl1, hl2⟩ := hlt
      obtain ⟨ad, hA, q0, q1, q2, q3⟩ := pend_elem (HOK.out.below HBW.out).pend k hl1
      subst hA
      obtain ⟨o, ho⟩ : ∃ o, o = S.pend[k] := ⟨_, rfl⟩
      rw [← ho] at q0 q1 q2 q3
      have HOP := Lib.hid (show OpnOk o by rw [ho]; exact HG.out.ops _ (List.getElem_mem hl1))
      have HNX := Lib.hid (show dirAt S (k + 1) = pApply (dirAt S k) o by rw [ho]; exact dirAt_succ S k hl1)
      clear ho
      go_wp2_with (first | (go_at_call 82; go_loud (refine (refApply_calls _ (OkA ok w.heap.size) dA dc (dirAt S k) o HR.out (by have := dirAt_length S k; have := HG.out.nDur; have := HG.out.nPend; have := HB.out; omega) HOP.out.1).mono ?_); rintro e w2 ⟨A', c', rfl, hr2, hb2⟩; go_loud (have HR2 := Lib.hid (hr2.mono (ok' := OkA ok w.heap.size) (fun k hk _ => okin2 j1.out hk))); have HB2 := Lib.hid (HBW.out.trans (hb2.mono HBW.out.size)); have k0 := Lib.hid (blk_below j0.out hb2); have k1 := Lib.hid (blk_below j1.out hb2); clear hr2 hb2) | fail)
      go_roundw
      case rel => exact ⟨k + 1, A', c', by omega, by omega, by go_num, by rw [HNX.out], by rw [HNX.out]; exact HR2.out, HB2.out, k0.out, k1.out⟩
      case measure => simp [intOf]; omega
    · have hend : dirAt S k = pCrashDir S n := by
        unfold dirAt pCrashDir
        rw [show k = min n.toNat S.pend.length by omega, ← List.take_eq_take_min]
      obtain ⟨l, hl⟩ : ∃ l, l = dirAt S k := ⟨_, rfl⟩
      have hlB : l.length ≤ 549755813888 := by rw [hl]; have := dirAt_length S k; have := HG.out.nDur; have := HG.out.nPend; have := HB.out; omega
      have hlv : ∀ e ∈ l, Live S e.f1 := by rw [hl]; exact fun e he => dirAt_live S k e he
      have HLV := Lib.hid hlv
      have HEND := Lib.hid hend
      have HL := Lib.hid hl
      rw [← hl] at HR ⊢
      clear hl hlv hend
      have hways : (¬ k < S.pend.length) ∨ (k < S.pend.length ∧ ¬ (k : Int) < n) := by by_cases h1 : k < S.pend.length; exact .inr ⟨h1, fun h2 => hlt ⟨h1, h2⟩⟩; exact .inl h1
      clear hlt
      rcases hways with hw | ⟨hw, hw2⟩
      all_goals
        go_wp2_with fail
        go_loopw [10] (fun i wx => CR2 wq S l cs i wx) (fun i _ => l.length - (intOf i).toNat)
        case atStart => exact ⟨0, none, none, 0, 0, Nat.zero_le _, rfl, heap_alloc_new wq _, Kd.N_nil _ _ _ _ _, Kd.N_nil _ _ _ _ _, below_alloc (Below.refl _ _) _⟩
        case round =>
          obtain ⟨j, fA, eA, fc, ec, hj, rfl, ho, hnf, hne, hbx⟩ := hrel
          have HO := Lib.hid ho
          have HNF := Lib.hid hnf
          have HNE := Lib.hid hne
          have HBX := Lib.hid hbx
          clear ho hnf hne hbx
          by_cases hlt : j < l.length
          · obtain ⟨ad, hA, q0, q1⟩ := ent_cell (HR.out.below HBX.out).now j hlt
            subst hA
            have HBA := Lib.hid (show (ad.add (j * 2)).block < wq.heap.size by obtain ⟨ad', e, h1, _⟩ := ent_cell HR.out.now j hlt; cases e; exact World.block_lt_of_cell? wq _ h1)
            have HFQ := Lib.hid (show ∀ k, (Value.slice fA j fc).ownBlock = some k → wq.heap.size < k ∧ k < wr.heap.size from fun k hk => ⟨(HNF.out.1 k hk).1, Kd.N_lt HNF.out k hk⟩)
            have HWQ := Lib.hid (show w.heap.size < wq.heap.size by have := lt_blk j1.out; omega)
            obtain ⟨x, hx⟩ : ∃ x, x = l[j].f1 := ⟨_, rfl⟩
            obtain ⟨nm, hnm⟩ : ∃ nm, nm = l[j].f0 := ⟨_, rfl⟩
            have er : rd_T109 l (j : Int) = l[j] := by simp [rd_T109, List.getD, hlt]
            rw [er, ← hnm] at q0
            rw [er, ← hx] at q1
            have HLX := Lib.hid (show Live S x by rw [hx]; exact HLV.out _ (List.getElem_mem hlt))
            have HRX := Lib.hid (HG.out.range x HLX.out)
            have hx0 := HRX.out.1
            have hx1 := HRX.out.2
            obtain ⟨adF, Af, cf, hA, v0, v1, hrf⟩ := file_cells ((HOK.out.below HBW.out).below HBX.out).files x HRX.out
            subst hA
            have HBF := Lib.hid (show (adF.add (x.toNat * 2)).block < wq.heap.size by obtain ⟨ad', _, _, e, h1, _⟩ := file_cells (HOK.out.below HBW.out).files x HRX.out; cases e; exact World.block_lt_of_cell? wq _ h1)
            have HRF := Lib.hid hrf
            have HX := Lib.hid hx
            have HNM := Lib.hid hnm
            have j0x := Lib.hid (blk_below j0.out HBX.out)
            clear s0 s1 s2 s3 s4 s5 hx hnm er hrf
            obtain ⟨s0, s1, s2, s3, s4, s5⟩ := six_cells j0x.out
            obtain ⟨o0, o1, o2, o3, o4, o5⟩ := six_cells HO.out
            obtain ⟨p0, p1, p2, p3, p4, p5⟩ := six_frozen HO.out
            obtain ⟨x0, hx0c⟩ : ∃ x0, x0 = (cfAt cs j).f0 := ⟨_, rfl⟩
            obtain ⟨x1, hx1c⟩ : ∃ x1, x1 = (cfAt cs j).f1 := ⟨_, rfl⟩
            have HCF := Lib.hid (show cfAt cs j = ⟨x0, x1⟩ by rw [hx0c, hx1c])
            have v0' := fun o => cell_any v0 o
            have v1' := fun o => cell_any v1 o
            have q1' := fun o => cell_any q1 o
            have s0' := fun o => cell_any s0 o
            have o0' := fun o => cell_any o0 o
            have hcases : (j < cs.length ∧ ∃ ac, A = some ac ∧ wr.cell? (ac.add (j * 2)) = some (.int .i64 x0) ∧ wr.cell? ⟨(ac.add (j * 2)).block, (ac.add (j * 2)).off + 1, none⟩ = some (.bool x1)) ∨ (¬ j < cs.length ∧ x0 = 0 ∧ x1 = false) := by
              by_cases hcl : j < cs.length
              · left
                have := cf_elem (Kd.C_below HCS.out (HBW.out.trans (HBX.out.mono HBW.out.size))) j hcl
                rw [← hx0c, ← hx1c] at this
                exact ⟨hcl, this⟩
              · right
                obtain ⟨z0, z1⟩ := cf_none hcl
                exact ⟨hcl, by rw [hx0c, z0], by rw [hx1c, z1]⟩
            clear hx0c hx1c
            go_upto_if 43 with (fail)
            go_cut [33] from 33 to 75 (fun _ wx => wx = wr.alloc (.cells #[.int .i64 x0, .bool x1] 62))
            case first =>
              rcases hcases with ⟨hcl, ac, rfl, y0, y1⟩ | ⟨hcl, rfl, rfl⟩
              · have y0' := fun o => cell_any y0 o
                have y1' := fun o => cell_any y1 o
                go_wp2_with fail
                go_meet
                exact rfl
              · go_wp2_with fail
                go_meet
                exact rfl
            case rest =>
              obtain rfl := hcut
              clear hcases
              go_upto_region 13 with fail
              have hq := heap_alloc_new wr (.cells #[.int .i64 x0, .bool x1] 62)
              have hb4 := below_alloc (Below.refl _ wr) (.cells #[.int .i64 x0, .bool x1] 62)
              generalize hw4 : wr.alloc (.cells #[.int .i64 x0, .bool x1] 62) = w4 at hq hb4 ⊢
              clear hw4 v0' v1' q1' s0' o0'
              have HB4 := Lib.hid (HBX.out.trans (hb4.mono HBX.out.size))
              have HO4 := Lib.hid (blk_below HO.out hb4)
              have j04 := Lib.hid (blk_below j0x.out hb4)
              have HNF4 := Lib.hid (Kd.N_below HNF.out hb4)
              have HNE4 := Lib.hid (Kd.N_below HNE.out hb4)
              have HRF4 := Lib.hid (HRF.out.below hb4)
              have q14 := (hb4.cell (World.block_lt_of_cell? wr _ q1)).trans q1
              have v04 := (hb4.cell (World.block_lt_of_cell? wr _ v0)).trans v0
              have v14 := (hb4.cell (World.block_lt_of_cell? wr _ v1)).trans v1
              obtain ⟨y0, y1⟩ := two_cells hq
              clear s0 s1 s2 s3 s4 s5 o0 o1 o2 o3 o4 o5 p0 p1 p2 p3 p4 p5 v0 v1 q1 q0 hq hb4
              obtain ⟨s0, s1, s2, s3, s4, s5⟩ := six_cells j04.out
              obtain ⟨o0, o1, o2, o3, o4, o5⟩ := six_cells HO4.out
              obtain ⟨P, hP⟩ : ∃ P, P = pLeft (fileAt S x) ⟨x0, x1⟩ := ⟨_, rfl⟩
              have HP := Lib.hid hP
              have hPl : P.length ≤ 549755813888 := by rw [hP]; have := pLeft_length (fileAt S x) ⟨x0, x1⟩; have := HG.out.nBytes _ (fileAt_mem HRX.out); have := HB.out; omega
              have HTK := Lib.hid (show (newFiles S l cs).take (j + 1) = (newFiles S l cs).take j ++ [⟨P, P.length⟩] by rw [newFiles_take S l cs j hlt, ← HX.out, HCF.out, hP])
              clear hP
              go_cut [33] from 33 to 75 (fun _ wx => CRM wq S l cs j eA ec wx)
              case first =>
                refine wp_region_held_drew (S := (fun w' => w'.cell? ⟨w.heap.size, 0, none⟩ = some (.slice (some adF) S.files.length c0) ∧ w'.cell? ⟨(ad.add (j * 2)).block, (ad.add (j * 2)).off + 1, none⟩ = some (.int .i64 x) ∧ w'.cell? (adF.add (x.toNat * 2)) = some (.slice Af (fileAt S x).f0.length cf) ∧ w'.cell? ⟨(adF.add (x.toNat * 2)).block, (adF.add (x.toNat * 2)).off + 1, none⟩ = some (.int .i64 (fileAt S x).f1) ∧ w'.cell? ⟨wr.heap.size, 0, none⟩ = some (.int .i64 x0) ∧ w'.cell? ⟨wr.heap.size, 1, none⟩ = some (.bool x1))) (by kernel_rfl) ⟨s0, q14, v04, v14, y0, y1⟩ (fun hHeld => ?_)
                refine wpAnyH_take (i := 0) (oi := _) (v := ?_) rfl (by kernel_rfl) (by kernel_rfl) (by kernel_rfl) (fun _ _ _ h => h) (Or.inl ⟨by rfl, ?_⟩) (by assumption) ?_
                rotate_left
                · (intro w hSw; (try dsimp only at hSw); obtain ⟨hS1, hS2, hS3, hS4, hS5, hS6⟩ := hSw; go_simp; try with_reducible rfl)
                try simp only [Act.put, List.setIfInBounds_toArray, List.set_cons_zero, List.set_cons_succ]
                refine wpAnyH_take (i := 2) (oi := _) (v := ?_) rfl (by kernel_rfl) (by kernel_rfl) (by kernel_rfl) (fun _ _ _ h => h) (Or.inl ⟨by rfl, ?_⟩) (by assumption) ?_
                rotate_left
                · (intro w hSw; (try dsimp only at hSw); obtain ⟨hS1, hS2, hS3, hS4, hS5, hS6⟩ := hSw; go_simp; try with_reducible rfl)
                try simp only [Act.put, List.setIfInBounds_toArray, List.set_cons_zero, List.set_cons_succ]
                refine wpAnyH_take (i := 3) (oi := _) (v := ?_) rfl (by kernel_rfl) (by kernel_rfl) (by kernel_rfl) (fun _ _ _ h => h) (Or.inl ⟨by rfl, ?_⟩) (by assumption) ?_
                rotate_left
                · (intro w hSw; (try dsimp only at hSw); obtain ⟨hS1, hS2, hS3, hS4, hS5, hS6⟩ := hSw; go_simp; try with_reducible rfl)
                try simp only [Act.put, List.setIfInBounds_toArray, List.set_cons_zero, List.set_cons_succ]
                refine wpAnyH_take (i := 4) (oi := _) (v := ?_) rfl (by kernel_rfl) (by kernel_rfl) (by kernel_rfl) (fun _ _ _ h => h) (Or.inl ⟨by rfl, ?_⟩) (by assumption) ?_
                rotate_left
                · (intro w hSw; (try dsimp only at hSw); obtain ⟨hS1, hS2, hS3, hS4, hS5, hS6⟩ := hSw; go_simp; try with_reducible rfl)
                try simp only [Act.put, List.setIfInBounds_toArray, List.set_cons_zero, List.set_cons_succ]
                refine wpAnyH_take (i := 5) (oi := _) (v := ?_) rfl (by kernel_rfl) (by kernel_rfl) (by kernel_rfl) (fun _ _ _ h => h) (Or.inl ⟨by rfl, ?_⟩) (by assumption) ?_
                rotate_left
                · (intro w hSw; (try dsimp only at hSw); obtain ⟨hS1, hS2, hS3, hS4, hS5, hS6⟩ := hSw; go_simp; try with_reducible rfl)
                try simp only [Act.put, List.setIfInBounds_toArray, List.set_cons_zero, List.set_cons_succ]
                refine wpAnyH_take (i := 6) (oi := _) (v := ?_) rfl (by kernel_rfl) (by kernel_rfl) (by kernel_rfl) (fun _ _ _ h => h) (Or.inl ⟨by rfl, ?_⟩) (by assumption) ?_
                rotate_left
                · (intro w hSw; (try dsimp only at hSw); obtain ⟨hS1, hS2, hS3, hS4, hS5, hS6⟩ := hSw; go_simp; try with_reducible rfl)
                try simp only [Act.put, List.setIfInBounds_toArray, List.set_cons_zero, List.set_cons_succ]
                refine wpAnyH_take (i := 7) (oi := _) (v := ?_) rfl (by kernel_rfl) (by kernel_rfl) (by kernel_rfl) (fun _ _ _ h => h) (Or.inl ⟨by rfl, ?_⟩) (by assumption) ?_
                rotate_left
                · (intro w hSw; (try dsimp only at hSw); obtain ⟨hS1, hS2, hS3, hS4, hS5, hS6⟩ := hSw; go_simp; try with_reducible rfl)
                try simp only [Act.put, List.setIfInBounds_toArray, List.set_cons_zero, List.set_cons_succ]
                refine wpAnyH_take (i := 8) (oi := _) (v := ?_) rfl (by kernel_rfl) (by kernel_rfl) (by kernel_rfl) (fun _ _ _ h => h) (Or.inl ⟨by rfl, ?_⟩) (by assumption) ?_
                rotate_left
                · (intro w hSw; (try dsimp only at hSw); obtain ⟨hS1, hS2, hS3, hS4, hS5, hS6⟩ := hSw; go_simp; try with_reducible rfl)
                try simp only [Act.put, List.setIfInBounds_toArray, List.set_cons_zero, List.set_cons_succ]
                refine wpAnyH_take (i := 9) (oi := _) (v := ?_) rfl (by kernel_rfl) (by kernel_rfl) (by kernel_rfl) (fun _ _ _ h => h) (Or.inl ⟨by rfl, ?_⟩) (by assumption) ?_
                rotate_left
                · (intro w hSw; (try dsimp only at hSw); obtain ⟨hS1, hS2, hS3, hS4, hS5, hS6⟩ := hSw; go_simp; try with_reducible rfl)
                try simp only [Act.put, List.setIfInBounds_toArray, List.set_cons_zero, List.set_cons_succ]
                refine wpAnyH_take (i := 10) (oi := _) (v := ?_) rfl (by kernel_rfl) (by kernel_rfl) (by kernel_rfl) (fun _ _ _ h => h) (Or.inl ⟨by rfl, ?_⟩) (by assumption) ?_
                rotate_left
                · (intro w hSw; (try dsimp only at hSw); obtain ⟨hS1, hS2, hS3, hS4, hS5, hS6⟩ := hSw; go_simp; try with_reducible rfl)
                try simp only [Act.put, List.setIfInBounds_toArray, List.set_cons_zero, List.set_cons_succ]
                refine wpAnyH_take (i := 11) (oi := _) (v := ?_) rfl (by kernel_rfl) (by kernel_rfl) (by kernel_rfl) (fun _ _ _ h => h) (Or.inl ⟨by rfl, ?_⟩) (by assumption) ?_
                rotate_left
                · (intro w hSw; (try dsimp only at hSw); obtain ⟨hS1, hS2, hS3, hS4, hS5, hS6⟩ := hSw; go_simp; try with_reducible rfl)
                try simp only [Act.put, List.setIfInBounds_toArray, List.set_cons_zero, List.set_cons_succ]
                refine wpAnyH_ready (rs := [1, 12]) (by kernel_rfl) (by simp) ?_
                refine AllReadyH.cons (o := _) rfl (fun K hK => ?_) ?_
                · go_simp
                  refine hK.out _ _ ⟨s0, q14, v04, v14, y0, y1⟩ (fun hHeld => ?_)
                  clear hK K
                  try simp only [Act.put, List.setIfInBounds_toArray, List.set_cons_zero, List.set_cons_succ]
                  refine wpAnyH_ready (rs := [12]) (by kernel_rfl) (by simp) ?_
                  refine AllReadyH.cons (o := _) rfl (fun K hK => ?_) AllReadyH.nil
                  go_simp
                  refine (left_calls w4.drew (fun k => ok k ∧ k < w.heap.size) Af cf (fileAt S x) ⟨x0, x1⟩ (HRF4.out.move (fun _ _ _ => rfl)) (HG.out.dur _ (fileAt_mem HRX.out)) (by have := HG.out.nBytes _ (fileAt_mem HRX.out); have := HB.out; omega)).mono ?_; rintro e w5 ⟨A5, c5, rfl, hr5, hb5⟩; have hb := drew_below hb5; rw [← HP.out] at hr5 ⊢; have HR5 := Lib.hid hr5; have HB5 := Lib.hid (HB4.out.trans (hb.mono HB4.out.size)); have HO5 := Lib.hid (blk_below HO4.out hb); have HNF5 := Lib.hid (Kd.N_below HNF4.out hb); have HNE5 := Lib.hid (Kd.N_below HNE4.out hb); have HL5 := Lib.hid hb.size; obtain ⟨o05, _, _, _, _, _⟩ := six_cells HO5.out; obtain ⟨hs51, hs52, hs53, hs54, hs55, hs56, hs57⟩ := held_below hb o0 s0 q14 v04 v14 y0 y1; clear hr5 hb5 hb
                  try go_wp2_with fail
                  refine hK.out _ _ ⟨hs52, hs53, hs54, hs55, hs56, hs57⟩ (fun hHeld => ?_)
                  clear hK K
                  try simp only [Act.put, List.setIfInBounds_toArray, List.set_cons_zero, List.set_cons_succ]
                  refine wpAnyH_ready (rs := [13]) (by kernel_rfl) (by simp) ?_
                  refine AllReadyH.cons (o := _) rfl (fun K hK => ?_) AllReadyH.nil
                  go_simp
                  refine hK.out _ _ ⟨cell_up hs52, cell_up hs53, cell_up hs54, cell_up hs55, cell_up hs56, cell_up hs57⟩ (fun hHeld => ?_)
                  clear hK K
                  try simp only [Act.put, List.setIfInBounds_toArray, List.set_cons_zero, List.set_cons_succ]
                  refine wpAnyH_ready (rs := [14]) (by kernel_rfl) (by simp) ?_
                  refine AllReadyH.cons (o := _) rfl (fun K hK => ?_) AllReadyH.nil
                  refine Kd.N_append_step kF (w0 := wq) wq.heap.size rfl (.tmp 49) (.tmp 61) 27 107 _ 32 rfl Tryz.underlying27 info107 rfl (by decide) (by omega) (.slice fA j fc) ((newFiles S l cs).take j) ⟨P, P.length⟩ [.slice A5 P.length c5, .int .i64 P.length] (fun k => wq.heap.size < k ∧ some k ≠ (Value.slice eA j ec).ownBlock) (fun k => w4.heap.size ≤ k) rfl rfl (k107_mkF _ _ ⟨P, P.length⟩ HR5.out.le HR5.out.f) (fun k hk => app_okp HO4.out HNF4.out HNE4.out hk) (fun k hk => app_fresh HO5.out HNE5.out hk) HNF5.out HB5.out HB5.out.size (by rw [List.length_take, newFiles_length]; omega) ?_; intro v6 w6 hn hb hg hat; rw [← HTK.out] at hn; obtain ⟨A6, c6, rfl⟩ := files_form hn (by rw [newFiles_length]; omega); have HO6 := Lib.hid (blk_grownN HO5.out hg (fun e => Nat.lt_irrefl _ (HNF5.out.1 _ e.symm).1)); have HNF6 := Lib.hid hn; have HNE6 := Lib.hid (ne_grown HNE5.out HNF5.out hg); have HB6 := Lib.hid hb; obtain ⟨hs61, hs62, hs63, hs64, hs65, hs66, hs67⟩ := held_grown hg hs51 hs52 hs53 hs54 hs55 hs56 hs57 (far_lo HFQ.out (Nat.le_refl _)) (far_lo HFQ.out (Nat.le_of_lt HWQ.out)) (far_lo HFQ.out (Nat.le_of_lt HBA.out)) (far_lo HFQ.out (Nat.le_of_lt HBF.out)) (far_lo HFQ.out (Nat.le_of_lt HBF.out)) (far_hi HFQ.out (Nat.le_refl _)) (far_hi HFQ.out (Nat.le_refl _)); obtain ⟨o06, _, _, _, _, _⟩ := six_cells HO6.out; obtain ⟨p06, _, _, _, _, _⟩ := six_frozen HO6.out; clear hn hb hg hat
                  refine hK.out _ _ ⟨hs62, hs63, hs64, hs65, hs66, hs67⟩ (fun hHeld => ?_)
                  clear hK K
                  try simp only [Act.put, List.setIfInBounds_toArray, List.set_cons_zero, List.set_cons_succ]
                  refine wpAnyH_take (i := 15) (oi := _) (v := ?_) rfl (by kernel_rfl) (by kernel_rfl) (by kernel_rfl) (fun _ _ _ h => h) (Or.inl ⟨by rfl, ?_⟩) (by assumption) ?_
                  rotate_left
                  · (intro w hSw; (try dsimp only at hSw); obtain ⟨hS1, hS2, hS3, hS4, hS5, hS6⟩ := hSw; go_simp; try with_reducible rfl)
                  try simp only [Act.put, List.setIfInBounds_toArray, List.set_cons_zero, List.set_cons_succ]
                  refine wpAnyH_ready (rs := [16]) (by kernel_rfl) (by simp) ?_
                  refine AllReadyH.cons (o := _) rfl (fun K hK => ?_) AllReadyH.nil
                  go_simp
                  refine hK.out _ _ ⟨(cell_off0 hs62 (Nat.ne_of_lt HWQ.out)), (cell_off0 hs63 (Nat.ne_of_lt HBA.out)), (cell_off0 hs64 (Nat.ne_of_lt HBF.out)), (cell_off0 hs65 (Nat.ne_of_lt HBF.out)), (cell_off0 hs66 (Nat.ne_of_gt (lt_blk HO.out))), (cell_off0 hs67 (Nat.ne_of_gt (lt_blk HO.out)))⟩ (fun hHeld => ?_)
                  clear hK K
                  try simp only [Act.put, List.setIfInBounds_toArray, List.set_cons_zero, List.set_cons_succ]
                  refine wpAnyH_done (by kernel_rfl) ?_ _
                  go_wp2_with fail
                  go_meet
                  exact crm_of HO6.out HNF6.out HNE6.out HB6.out
                refine AllReadyH.cons (o := _) rfl (fun K hK => ?_) AllReadyH.nil
                go_simp
                refine (left_calls w4.drew (fun k => ok k ∧ k < w.heap.size) Af cf (fileAt S x) ⟨x0, x1⟩ (HRF4.out.move (fun _ _ _ => rfl)) (HG.out.dur _ (fileAt_mem HRX.out)) (by have := HG.out.nBytes _ (fileAt_mem HRX.out); have := HB.out; omega)).mono ?_; rintro e w5 ⟨A5, c5, rfl, hr5, hb5⟩; have hb := drew_below hb5; rw [← HP.out] at hr5 ⊢; have HR5 := Lib.hid hr5; have HB5 := Lib.hid (HB4.out.trans (hb.mono HB4.out.size)); have HO5 := Lib.hid (blk_below HO4.out hb); have HNF5 := Lib.hid (Kd.N_below HNF4.out hb); have HNE5 := Lib.hid (Kd.N_below HNE4.out hb); have HL5 := Lib.hid hb.size; obtain ⟨o05, _, _, _, _, _⟩ := six_cells HO5.out; obtain ⟨hs51, hs52, hs53, hs54, hs55, hs56, hs57⟩ := held_below hb o0 s0 q14 v04 v14 y0 y1; clear hr5 hb5 hb
                try go_wp2_with fail
                refine hK.out _ _ ⟨hs52, hs53, hs54, hs55, hs56, hs57⟩ (fun hHeld => ?_)
                clear hK K
                try simp only [Act.put, List.setIfInBounds_toArray, List.set_cons_zero, List.set_cons_succ]
                refine wpAnyH_ready (rs := [1, 13]) (by kernel_rfl) (by simp) ?_
                refine AllReadyH.cons (o := _) rfl (fun K hK => ?_) ?_
                · go_simp
                  refine hK.out _ _ ⟨hs52, hs53, hs54, hs55, hs56, hs57⟩ (fun hHeld => ?_)
                  clear hK K
                  try simp only [Act.put, List.setIfInBounds_toArray, List.set_cons_zero, List.set_cons_succ]
                  refine wpAnyH_ready (rs := [13]) (by kernel_rfl) (by simp) ?_
                  refine AllReadyH.cons (o := _) rfl (fun K hK => ?_) AllReadyH.nil
                  go_simp
                  refine hK.out _ _ ⟨cell_up hs52, cell_up hs53, cell_up hs54, cell_up hs55, cell_up hs56, cell_up hs57⟩ (fun hHeld => ?_)
                  clear hK K
                  try simp only [Act.put, List.setIfInBounds_toArray, List.set_cons_zero, List.set_cons_succ]
                  refine wpAnyH_ready (rs := [14]) (by kernel_rfl) (by simp) ?_
                  refine AllReadyH.cons (o := _) rfl (fun K hK => ?_) AllReadyH.nil
                  refine Kd.N_append_step kF (w0 := wq) wq.heap.size rfl (.tmp 49) (.tmp 61) 27 107 _ 32 rfl Tryz.underlying27 info107 rfl (by decide) (by omega) (.slice fA j fc) ((newFiles S l cs).take j) ⟨P, P.length⟩ [.slice A5 P.length c5, .int .i64 P.length] (fun k => wq.heap.size < k ∧ some k ≠ (Value.slice eA j ec).ownBlock) (fun k => w4.heap.size ≤ k) rfl rfl (k107_mkF _ _ ⟨P, P.length⟩ HR5.out.le HR5.out.f) (fun k hk => app_okp HO4.out HNF4.out HNE4.out hk) (fun k hk => app_fresh HO5.out HNE5.out hk) HNF5.out HB5.out HB5.out.size (by rw [List.length_take, newFiles_length]; omega) ?_; intro v6 w6 hn hb hg hat; rw [← HTK.out] at hn; obtain ⟨A6, c6, rfl⟩ := files_form hn (by rw [newFiles_length]; omega); have HO6 := Lib.hid (blk_grownN HO5.out hg (fun e => Nat.lt_irrefl _ (HNF5.out.1 _ e.symm).1)); have HNF6 := Lib.hid hn; have HNE6 := Lib.hid (ne_grown HNE5.out HNF5.out hg); have HB6 := Lib.hid hb; obtain ⟨hs61, hs62, hs63, hs64, hs65, hs66, hs67⟩ := held_grown hg hs51 hs52 hs53 hs54 hs55 hs56 hs57 (far_lo HFQ.out (Nat.le_refl _)) (far_lo HFQ.out (Nat.le_of_lt HWQ.out)) (far_lo HFQ.out (Nat.le_of_lt HBA.out)) (far_lo HFQ.out (Nat.le_of_lt HBF.out)) (far_lo HFQ.out (Nat.le_of_lt HBF.out)) (far_hi HFQ.out (Nat.le_refl _)) (far_hi HFQ.out (Nat.le_refl _)); obtain ⟨o06, _, _, _, _, _⟩ := six_cells HO6.out; obtain ⟨p06, _, _, _, _, _⟩ := six_frozen HO6.out; clear hn hb hg hat
                  refine hK.out _ _ ⟨hs62, hs63, hs64, hs65, hs66, hs67⟩ (fun hHeld => ?_)
                  clear hK K
                  try simp only [Act.put, List.setIfInBounds_toArray, List.set_cons_zero, List.set_cons_succ]
                  refine wpAnyH_take (i := 15) (oi := _) (v := ?_) rfl (by kernel_rfl) (by kernel_rfl) (by kernel_rfl) (fun _ _ _ h => h) (Or.inl ⟨by rfl, ?_⟩) (by assumption) ?_
                  rotate_left
                  · (intro w hSw; (try dsimp only at hSw); obtain ⟨hS1, hS2, hS3, hS4, hS5, hS6⟩ := hSw; go_simp; try with_reducible rfl)
                  try simp only [Act.put, List.setIfInBounds_toArray, List.set_cons_zero, List.set_cons_succ]
                  refine wpAnyH_ready (rs := [16]) (by kernel_rfl) (by simp) ?_
                  refine AllReadyH.cons (o := _) rfl (fun K hK => ?_) AllReadyH.nil
                  go_simp
                  refine hK.out _ _ ⟨(cell_off0 hs62 (Nat.ne_of_lt HWQ.out)), (cell_off0 hs63 (Nat.ne_of_lt HBA.out)), (cell_off0 hs64 (Nat.ne_of_lt HBF.out)), (cell_off0 hs65 (Nat.ne_of_lt HBF.out)), (cell_off0 hs66 (Nat.ne_of_gt (lt_blk HO.out))), (cell_off0 hs67 (Nat.ne_of_gt (lt_blk HO.out)))⟩ (fun hHeld => ?_)
                  clear hK K
                  try simp only [Act.put, List.setIfInBounds_toArray, List.set_cons_zero, List.set_cons_succ]
                  refine wpAnyH_done (by kernel_rfl) ?_ _
                  go_wp2_with fail
                  go_meet
                  exact crm_of HO6.out HNF6.out HNE6.out HB6.out
                refine AllReadyH.cons (o := _) rfl (fun K hK => ?_) AllReadyH.nil
                go_simp
                refine hK.out _ _ ⟨cell_up hs52, cell_up hs53, cell_up hs54, cell_up hs55, cell_up hs56, cell_up hs57⟩ (fun hHeld => ?_)
                clear hK K
                try simp only [Act.put, List.setIfInBounds_toArray, List.set_cons_zero, List.set_cons_succ]
                refine wpAnyH_ready (rs := [1]) (by kernel_rfl) (by simp) ?_
                refine AllReadyH.cons (o := _) rfl (fun K hK => ?_) AllReadyH.nil
                have o05a := fun o => cell_any o05 o
                go_simp
                refine hK.out _ _ ⟨cell_up hs52, cell_up hs53, cell_up hs54, cell_up hs55, cell_up hs56, cell_up hs57⟩ (fun hHeld => ?_)
                clear hK K
                try simp only [Act.put, List.setIfInBounds_toArray, List.set_cons_zero, List.set_cons_succ]
                refine wpAnyH_ready (rs := [14]) (by kernel_rfl) (by simp) ?_
                refine AllReadyH.cons (o := _) rfl (fun K hK => ?_) AllReadyH.nil
                refine Kd.N_append_step kF (w0 := wq) wq.heap.size rfl (.tmp 49) (.tmp 61) 27 107 _ 32 rfl Tryz.underlying27 info107 rfl (by decide) (by omega) (.slice fA j fc) ((newFiles S l cs).take j) ⟨P, P.length⟩ [.slice A5 P.length c5, .int .i64 P.length] (fun k => wq.heap.size < k ∧ some k ≠ (Value.slice eA j ec).ownBlock) (fun k => w4.heap.size ≤ k) rfl rfl (k107_mkF _ _ ⟨P, P.length⟩ HR5.out.le HR5.out.f) (fun k hk => app_okp HO4.out HNF4.out HNE4.out hk) (fun k hk => app_fresh HO5.out HNE5.out hk) HNF5.out HB5.out HB5.out.size (by rw [List.length_take, newFiles_length]; omega) ?_; intro v6 w6 hn hb hg hat; rw [← HTK.out] at hn; obtain ⟨A6, c6, rfl⟩ := files_form hn (by rw [newFiles_length]; omega); have HO6 := Lib.hid (blk_grownN HO5.out hg (fun e => Nat.lt_irrefl _ (HNF5.out.1 _ e.symm).1)); have HNF6 := Lib.hid hn; have HNE6 := Lib.hid (ne_grown HNE5.out HNF5.out hg); have HB6 := Lib.hid hb; obtain ⟨hs61, hs62, hs63, hs64, hs65, hs66, hs67⟩ := held_grown hg hs51 hs52 hs53 hs54 hs55 hs56 hs57 (far_lo HFQ.out (Nat.le_refl _)) (far_lo HFQ.out (Nat.le_of_lt HWQ.out)) (far_lo HFQ.out (Nat.le_of_lt HBA.out)) (far_lo HFQ.out (Nat.le_of_lt HBF.out)) (far_lo HFQ.out (Nat.le_of_lt HBF.out)) (far_hi HFQ.out (Nat.le_refl _)) (far_hi HFQ.out (Nat.le_refl _)); obtain ⟨o06, _, _, _, _, _⟩ := six_cells HO6.out; obtain ⟨p06, _, _, _, _, _⟩ := six_frozen HO6.out; clear hn hb hg hat
                refine hK.out _ _ ⟨hs62, hs63, hs64, hs65, hs66, hs67⟩ (fun hHeld => ?_)
                clear hK K
                try simp only [Act.put, List.setIfInBounds_toArray, List.set_cons_zero, List.set_cons_succ]
                refine wpAnyH_take (i := 15) (oi := _) (v := ?_) rfl (by kernel_rfl) (by kernel_rfl) (by kernel_rfl) (fun _ _ _ h => h) (Or.inl ⟨by rfl, ?_⟩) (by assumption) ?_
                rotate_left
                · (intro w hSw; (try dsimp only at hSw); obtain ⟨hS1, hS2, hS3, hS4, hS5, hS6⟩ := hSw; go_simp; try with_reducible rfl)
                try simp only [Act.put, List.setIfInBounds_toArray, List.set_cons_zero, List.set_cons_succ]
                refine wpAnyH_ready (rs := [16]) (by kernel_rfl) (by simp) ?_
                refine AllReadyH.cons (o := _) rfl (fun K hK => ?_) AllReadyH.nil
                go_simp
                refine hK.out _ _ ⟨(cell_off0 hs62 (Nat.ne_of_lt HWQ.out)), (cell_off0 hs63 (Nat.ne_of_lt HBA.out)), (cell_off0 hs64 (Nat.ne_of_lt HBF.out)), (cell_off0 hs65 (Nat.ne_of_lt HBF.out)), (cell_off0 hs66 (Nat.ne_of_gt (lt_blk HO.out))), (cell_off0 hs67 (Nat.ne_of_gt (lt_blk HO.out)))⟩ (fun hHeld => ?_)
                clear hK K
                try simp only [Act.put, List.setIfInBounds_toArray, List.set_cons_zero, List.set_cons_succ]
                refine wpAnyH_done (by kernel_rfl) ?_ _
                go_wp2_with fail
                go_meet
                exact crm_of HO6.out HNF6.out HNE6.out HB6.out
              case rest =>
                obtain ⟨f7, fc7, ho7, hf7, he7, hb7⟩ := hcut
                have HF7 := Lib.hid hf7
                have HE7 := Lib.hid he7
                have HB7 := Lib.hid hb7
                have HO7 := Lib.hid ho7
                have q07 := name_again (HR.out.below hb7).now j hlt
                rw [← HNM.out] at q07
                have q07' := fun o => cell_any q07 o
                have HDS := Lib.hid (show newDir l (j + 1) = newDir l j ++ [⟨nm, (j : Int)⟩] by rw [newDir_succ l j hlt, HNM.out])
                obtain ⟨o70, o71, _, _, _, _⟩ := six_cells ho7
                obtain ⟨p70, p71, _, _, _, _⟩ := six_frozen ho7
                have o71' := fun o => cell_any o71 o
                clear ho7 hf7 he7 hb7
                go_upto_region 14 with fail
                go_region_law (refine Kd.N_append_step kE (W := wc.drew) (w0 := wq) wq.heap.size rfl (.tmp 65) (.tmp 73) 28 109 _ 24 rfl Tryz.underlying28 info109 rfl (by decide) (by omega) (.slice eA j ec) (newDir l j) ⟨nm, (j : Int)⟩ [.string nm, .int .i64 j] (fun k => wq.heap.size < k) (fun _ => False) rfl rfl (k109_mkF _ _ _) (fun k hk => hk.elim) (fun k hk => Nat.lt_of_lt_of_le (lt_blk HO7.out) hk) (Kd.N_drew HE7.out) (HB7.out.trans ⟨rfl, rfl, rfl, Nat.le_refl _, fun _ _ => rfl⟩) HB7.out.size (by rw [newDir_length l j hj]; omega) ?_; intro v8 w8 hn hb hg hat; rw [← HDS.out] at hn; obtain ⟨A8, c8, rfl⟩ := dir_form hn hlt; have HO8 := Lib.hid (blk_grownN (w := wc.drew) HO7.out hg (fun e => Nat.lt_irrefl _ (HE7.out.1 _ e.symm))); have HN8 := Lib.hid hn; have HB8 := Lib.hid hb; have HG8 := Lib.hid hg; have HA8 := Lib.hid hat; obtain ⟨o80, o81, _, _, _, _⟩ := six_cells HO8.out; obtain ⟨p80, p81, _, _, _, _⟩ := six_frozen HO8.out; clear hn hb hg hat)
                all_goals
                  go_wp2_with fail
                  go_roundw
                  case rel => exact cr2_of hlt HO8.out (Kd.N_drew HF7.out) HG8.out HA8.out HN8.out HB8.out
                  case measure => simp [intOf]; omega
          · have hjl : j = l.length := by omega
            subst hjl
            have hlt1 := lt_blk j1.out
            have hn1 : ¬ wq.heap.size = w.heap.size + 1 := by omega
            have hn2 : ¬ w.heap.size + 1 = wq.heap.size := by omega
            have j1x := Lib.hid (blk_below j1.out HBX.out)
            have HL1 := Lib.hid hlt1
            clear s0 s1 s2 s3 s4 s5 hlt1
            obtain ⟨o0, o1, o2, o3, o4, o5⟩ := six_cells HO.out
            obtain ⟨p0, p1, p2, p3, p4, p5⟩ := six_frozen HO.out
            obtain ⟨e0, e1, e2, e3, e4, e5⟩ := six_cells j1x.out
            obtain ⟨g0, g1, g2, g3, g4, g5⟩ := six_frozen j1x.out
            go_wp2_with fail
            have hd : l = pCrashDir S n := HL.out.trans HEND.out
            obtain ⟨q1, q2, q3⟩ := fin_ref (ok := ok) (S := pCrash S n cs) (below_setN (HBW.out.trans (HBX.out.mono HBW.out.size)) (b := wq.heap.size) (j := 2) (by have := HL1.out; omega) (.slice eA l.length ec)) (blk_set_other j1x.out (p := ⟨wq.heap.size, 2, none⟩) hn2 _) (crash_ref HL1.out hd HNF.out HNE.out)
            have e1 : (pCrash S n cs).files.length = l.length := by rw [hd]; exact newFiles_length _ _ _
            have e2 : (pCrash S n cs).dir.length = l.length := by rw [hd]; exact newDir_length _ _ (Nat.le_refl _)
            have e3 : (pCrash S n cs).dur.length = l.length := e2
            rw [e1, e2, e3] at q1 q2 q3
            exact bodyPost_ret (results_cell_row rfl _ _ (w.heap.size + 1) tState _ (0, 0) _ rfl q1 Tryz.underlying31 rfl (by kernel_rfl)) rfl ⟨_, rfl, ⟨fA, fc, eA, ec, eA, ec, none, 0, rfl, q3⟩, q2⟩
end Go.Proofs.YtehhafnjbkbmjaaGreat.Disk
