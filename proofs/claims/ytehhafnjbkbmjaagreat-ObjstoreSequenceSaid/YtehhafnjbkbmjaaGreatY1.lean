/- Directories, the disk in memory, its small methods. -/
import Derived.Test.YtehhafnjbkbmjaaGreatQb
import Derived.Maps.RangeWalk
import Derived.Maps.Ext
import Derived.Maps.StringElems
import Derived.Lib.Hide
import Derived.Test.YtehhafnjbkbmjaaGreatQa
import Derived.Test.YtehhafnjbkbmjaaGreatShelf
import Derived.Sort.KeysCollected
import Derived.Sort.OwnSorted
import Derived.Deep.AppendLies
import Derived.Deep.RegionLaw
import Derived.Deep.RegionWith
import Derived.Laws.AppendOwnNone
import Derived.StillTailTactics
/- The words for a simulated disk in memory: blocks, frames, directories as maps, the disk's layout against a plain state. -/
namespace Go.Proofs.YtehhafnjbkbmjaaGreat.Disk
open Go Go.RowKit Go.Proofs.YtehhafnjbkbmjaaGreatW.PrintWords Go.Proofs.YtehhafnjbkbmjaaGreatW.PrintLast Go.Proofs.YtehhafnjbkbmjaaGreatW.PrintMore Go.Proofs.YtehhafnjbkbmjaaGreat.PCommitlogSequence

/-! ### blocks and cells -/
theorem cell_blk {w : World} {b : Nat} {cs : Array Value} {t : Nat} {fz : Nat × Nat} (h : w.heap[b]? = some (.cells cs t fz)) (j : Nat) : w.cell? ⟨b, j, none⟩ = cs[j]? := by
  simp [World.cell?, h]
theorem frozen_blk {w : World} {b : Nat} {cs : Array Value} {t : Nat} (h : w.heap[b]? = some (.cells cs t (0, 0))) (j : Nat) : w.frozen? ⟨b, j, none⟩ = false := by
  simp [World.frozen?, h]
theorem lt_blk {w : World} {b : Nat} {o : Obj} (h : w.heap[b]? = some o) : b < w.heap.size := (Array.getElem?_eq_some_iff.1 h).1
theorem blk_set {w : World} {b : Nat} {cs : Array Value} {t : Nat} {fz : Nat × Nat} (h : w.heap[b]? = some (.cells cs t fz)) (j : Nat) (v : Value) :
    (w.setCell ⟨b, j, none⟩ v).heap[b]? = some (.cells (cs.setIfInBounds j v) t fz) := by
  simp [World.setCell, Array.getElem?_modify, h]
theorem blk_set_other {w : World} {b : Nat} {o : Obj} (h : w.heap[b]? = some o) {p : Addr} (hne : b ≠ p.block) (v : Value) : (w.setCell p v).heap[b]? = some o :=
  (Below.heap_setCell w p v b hne).trans h

/-! ### frames: outside of F, of what was there, nothing has turned -/
structure Fr (F : Nat → Prop) (w w' : World) : Prop where
  os : w'.os = w.os
  tape : w'.tape = w.tape
  output : w'.output = w.output
  size : w.heap.size ≤ w'.heap.size
  block : ∀ k, k < w.heap.size → ¬ F k → w'.heap[k]? = w.heap[k]?

theorem Fr.refl (F : Nat → Prop) (w : World) : Fr F w w := ⟨rfl, rfl, rfl, Nat.le_refl _, fun _ _ _ => rfl⟩
theorem Fr.trans {F F' : Nat → Prop} {a b c : World} (h : Fr F a b) (k : Fr F' b c) (hF : ∀ i, F' i → F i ∨ a.heap.size ≤ i) : Fr F a c :=
  ⟨k.os.trans h.os, k.tape.trans h.tape, k.output.trans h.output, Nat.le_trans h.size k.size, fun i hi hn =>
    (k.block i (Nat.lt_of_lt_of_le hi h.size) (fun hf => by rcases hF i hf with h1 | h1; exact hn h1; omega)).trans (h.block i hi hn)⟩
theorem Fr.mono {F F' : Nat → Prop} {a b : World} (h : Fr F a b) (hF : ∀ i, F i → F' i ∨ a.heap.size ≤ i) : Fr F' a b :=
  ⟨h.os, h.tape, h.output, h.size, fun i hi hn => h.block i hi (fun hf => by rcases hF i hf with h1 | h1; exact hn h1; omega)⟩
theorem Fr.alloc {F : Nat → Prop} {a w : World} (h : Fr F a w) (o : Obj) : Fr F a (w.alloc o) :=
  h.trans (F' := F) ⟨rfl, rfl, rfl, by simp, fun k hk _ => Below.heap_alloc _ _ _ hk⟩ (fun _ => .inl)
theorem Fr.drew {F : Nat → Prop} {a w : World} (h : Fr F a w) : Fr F a w.drew := ⟨h.os, h.tape, h.output, h.size, h.block⟩
theorem Fr.drewN {F : Nat → Prop} {a w : World} (h : Fr F a w) (n : Nat) : Fr F a (w.drewN n) := ⟨h.os, h.tape, h.output, h.size, h.block⟩
theorem Fr.setCell {F : Nat → Prop} {a w : World} (h : Fr F a w) {p : Addr} (hp : F p.block ∨ a.heap.size ≤ p.block) (u : Value) : Fr F a (w.setCell p u) :=
  h.trans (F' := fun k => k = p.block) ⟨rfl, rfl, rfl, by simp [World.setCell], fun k _ hk => Below.heap_setCell _ _ _ _ hk⟩ (fun i hi => by subst hi; exact hp)
theorem Fr.grown {F : Nat → Prop} {a w w' : World} {row : Option Nat} (h : Fr F a w) (hg : w.grownBy w' row) (hr : ∀ k, row = some k → F k ∨ a.heap.size ≤ k) : Fr F a w' :=
  h.trans (F' := fun k => some k = row) ⟨hg.os, hg.tape, hg.output, hg.size, fun k hk hn => hg.block k hk hn⟩ (fun i hi => hr i hi.symm)
theorem Fr.below {F : Nat → Prop} {a w w' : World} (h : Fr F a w) (hb : Below w.heap.size w w') : Fr F a w' :=
  h.trans (F' := F) ⟨hb.os, hb.tape, hb.output, hb.size, fun k hk _ => hb.block k hk⟩ (fun _ => .inl)
theorem Fr.drawn {F : Nat → Prop} {a w w' : World} (h : Fr F a w) (hd : Drawn0 w w') : Fr F a w' := by
  obtain ⟨n, rfl⟩ := hd.out
  exact h.drewN n
theorem Fr.toBelow {F : Nat → Prop} {a w : World} (h : Fr F a w) {B : Nat} (hB : B ≤ a.heap.size) (hF : ∀ k, F k → B ≤ k) : Below B a w :=
  ⟨h.os, h.tape, h.output, h.size, fun k hk => h.block k (by omega) (fun hf => by have := hF k hf; omega)⟩
theorem Below.toFr {a w : World} (h : Below a.heap.size a w) (F : Nat → Prop) : Fr F a w := ⟨h.os, h.tape, h.output, h.size, fun k hk _ => h.block k hk⟩

/-! ### names -/
theorem bytes_ext {s t : ByteArray} (h : s.data.toList = t.data.toList) : s = t := by
  cases s; cases t
  simp only at h
  congr 1
  exact Array.toList_inj.1 h
abbrev Ent := S109
abbrev Opn := S124
abbrev Fil := S107
def entKey (n : ByteArray) : Lit := .string n.data.toList
theorem entKey_same (a b : ByteArray) : (entKey a).sameKey (entKey b) = decide (a = b) := by
  show (a.data.toList == b.data.toList) = _
  by_cases h : a = b
  · subst h; simp
  · have : ¬ a.data = b.data := fun e => h (bytes_ext (by rw [e]))
    simp [h, this]
theorem bytesBefore_eq : ∀ a b : List UInt8, bytesBefore a b = Op.bytesLess a b
  | [], [] => rfl
  | [], _ :: _ => rfl
  | _ :: _, [] => rfl
  | a :: r, b :: s => by simp [bytesBefore, Op.bytesLess, bytesBefore_eq r s]
theorem entKey_before (a b : ByteArray) : (entKey a).before (entKey b) = Op.bytesLess a.toList b.toList := by
  show bytesBefore a.data.toList b.data.toList = _
  rw [bytesBefore_eq, ByteArray.toList_eq, ByteArray.toList_eq]

/-! ### directories, plain -/
def pLook (l : List Ent) (n : ByteArray) : Option Int := (l.find? (fun e => decide (e.f0 = n))).map (·.f1)
def pWithout (l : List Ent) (n : ByteArray) : List Ent := l.filter (fun e => !decide (e.f0 = n))
def pInsert (x : Ent) : List Ent → List Ent
  | [] => [x]
  | y :: r => if Op.bytesLess x.f0.toList y.f0.toList then x :: y :: r else y :: pInsert x r
def pWith (l : List Ent) (n : ByteArray) (i : Int) : List Ent := pInsert ⟨n, i⟩ (pWithout l n)
def pApply (l : List Ent) (o : Opn) : List Ent :=
  if o.f0 = 1 then pWith l o.f1 o.f3
  else if o.f0 = 2 then (match pLook l o.f1 with | some i => pWith (pWithout l o.f1) o.f2 i | none => l)
  else pWithout l o.f1

/-- A directory as a map's datum: the file is its block's number. -/
def ent (blk : Int → Nat) (e : Ent) : Lit × DataW Unit := (entKey e.f0, .lit (.int .i64 (blk e.f1)))
def dirD (blk : Int → Nat) (l : List Ent) : DataW Unit := .map (l.map (ent blk))
theorem dirD_del (blk : Int → Nat) (l : List Ent) (n : ByteArray) : (dirD blk l).del (entKey n) = dirD blk (pWithout l n) := by
  show DataW.map _ = DataW.map _
  congr 1
  induction l with
  | nil => rfl
  | cons e r ih =>
    simp only [pWithout, List.map_cons, List.filter_cons, ent, entKey_same] at ih ⊢
    cases decide (e.f0 = n) <;> simp_all [ent]
theorem ent_insert (blk : Int → Nat) (x : Ent) : ∀ l : List Ent, DataW.insert (ent blk x) (l.map (ent blk)) = (pInsert x l).map (ent blk)
  | [] => rfl
  | y :: r => by
    simp only [List.map_cons, DataW.insert, pInsert]
    show (if (entKey x.f0).before (entKey y.f0) = true then _ else _) = _
    rw [entKey_before]
    split
    · rfl
    · simp [ent_insert blk x r]
theorem dirD_put (blk : Int → Nat) (l : List Ent) (n : ByteArray) (i : Int) : (dirD blk l).put (entKey n) (.lit (.int .i64 (blk i))) = dirD blk (pWith l n i) := by
  have h := dirD_del blk l n
  unfold pWith dirD
  rw [← ent_insert]
  show DataW.map (DataW.insert _ _) = DataW.map _
  congr 2
  exact DataW.map.inj h
theorem dirD_has (blk : Int → Nat) (l : List Ent) (n : ByteArray) : Maps.has (dirD blk l) (entKey n) = (pLook l n).isSome := by
  show (l.map (ent blk)).any _ = _
  induction l with
  | nil => rfl
  | cons e r ih =>
    simp only [pLook, List.map_cons, List.any_cons, List.find?_cons, ent, entKey_same] at ih ⊢
    cases decide (e.f0 = n) <;> simp_all
theorem dirD_atKey (blk : Int → Nat) (l : List Ent) (n : ByteArray) (z : DataW Unit) : (dirD blk l).atKey (entKey n) z = match pLook l n with | some i => .lit (.int .i64 (blk i)) | none => z := by
  have h : (l.map (ent blk)).find? (fun p => p.1.sameKey (entKey n)) = (l.find? (fun e => decide (e.f0 = n))).map (ent blk) := by
    induction l with
    | nil => rfl
    | cons e r ih =>
      simp only [List.map_cons, List.find?_cons, ent, entKey_same] at ih ⊢
      cases decide (e.f0 = n) <;> simp_all [ent]
  unfold dirD DataW.atKey pLook
  simp only [h]
  cases l.find? (fun e => decide (e.f0 = n)) <;> rfl
theorem dirD_congr {blk blk' : Int → Nat} {l : List Ent} (h : ∀ e ∈ l, blk e.f1 = blk' e.f1) : dirD blk l = dirD blk' l := by
  unfold dirD
  congr 1
  exact List.map_congr_left (fun e he => by simp [ent, h e he])

/-- How a map's element, a pointer to a file, reads: as its block's number. -/
def fileElem : Value → Option (DataW Unit × List MemPlace)
  | .pointer none => some (.nil, [])
  | .pointer (some ⟨b, 0, none⟩) => some (.lit (.int .i64 b), [])
  | _ => none
def mkPtr : Option Nat → Value
  | none => .pointer none
  | some b => .pointer (some ⟨b, 0, none⟩)
theorem fileElem_inv (v : Value) (y : DataW Unit × List MemPlace) (h : fileElem v = some y) : ∃ c, v = mkPtr c := by
  unfold fileElem at h
  split at h
  · exact ⟨none, rfl⟩
  · exact ⟨some _, rfl⟩
  · cases h
theorem fileElem_lit {v : Value} {n : Nat} {ps : List MemPlace} (h : fileElem v = some (.lit (.int .i64 n), ps)) : v = .pointer (some ⟨n, 0, none⟩) := by
  unfold fileElem at h
  split at h
  · cases h
  · simp only [Option.some.injEq, Prod.mk.injEq, DataW.lit.injEq, Lit.int.injEq, true_and] at h
    obtain ⟨h, _⟩ := h
    have : ‹Nat› = n := by omega
    subst this
    rfl
  · cases h
end Go.Proofs.YtehhafnjbkbmjaaGreat.Disk

/- The disk's directories: apply, clone, names. -/
namespace Go.Proofs.YtehhafnjbkbmjaaGreat.Disk
open Go Go.RowKit Go.Proofs.YtehhafnjbkbmjaaGreatW.PrintWords Go.Proofs.YtehhafnjbkbmjaaGreatW.PrintLast Go.Proofs.YtehhafnjbkbmjaaGreatW.PrintMore Go.Proofs.YtehhafnjbkbmjaaGreat.PCommitlogSequence

abbrev OwnDir (w : World) (b n : Nat) (D : DataW Unit) : Prop := w.ownsMap Tryz.prog 9 fileElem b n D
abbrev dirK : Maps.Keyed Tryz.prog 9 := Maps.string_keyed Tryz.underlying9
abbrev dirT := Tryz.underlying68
theorem keyS {s : ByteArray} (hs : s.size ≤ maxLen) : keyOf Tryz.prog 9 (.string s) = some (entKey s) := WideMaps.keyOf_string_mk Tryz.underlying9 hs
theorem zeroFile (w : World) : (zeroValue 100).run Tryz.prog w = .ok (.pointer none) w := by kernel_rfl
/-! ### the operation's value -/
def opFrom (o : Opn) : ByteArray := if o.f0 = 1 then ⟨#[]⟩ else o.f1
def opTo (o : Opn) : ByteArray := if o.f0 = 1 then o.f1 else if o.f0 = 2 then o.f2 else ⟨#[]⟩
def opPtr (blk : Int → Nat) (o : Opn) : Value := if o.f0 = 1 then .pointer (some ⟨blk o.f3, 0, none⟩) else .pointer none
def opCells (blk : Int → Nat) (o : Opn) : List Value := [.int .i64 (o.f0 - 1), .string (opFrom o), .string (opTo o), opPtr blk o]
def OpnOk (o : Opn) : Prop := (o.f0 = 1 ∨ o.f0 = 2 ∨ o.f0 = 3) ∧ o.f1.size ≤ 64 ∧ o.f2.size ≤ 64

set_option maxHeartbeats 1000000 in
theorem apply_made (w : World) (b n blk : Nat) (D : DataW Unit) (t : ByteArray) (hm : OwnDir w b n D) (hn : n < maxLen) (ht : t.size ≤ maxLen) :
    Calls Tryz.prog 72 #[.map (some b), .agg #[.int .i64 0, .string ⟨#[]⟩, .string t, .pointer (some ⟨blk, 0, none⟩)]] w fun e w' =>
      e = .returned (.tuple #[]) ∧ OwnDir w' b (n + 1) (D.put (entKey t) (.lit (.int .i64 blk))) ∧ Fr (fun k => k = b) w w' := by
  go_enter Tryz.func72, Tryz.ntmps72
  go_wp2_with (first | (at_mapUpdate; refine wpList_mapUpdate_own _ rfl _ _ _ 68 rfl 9 100 dirK dirT fileElem b n D rfl (by exact hm.alloc _) hn _ _ (entKey t) rfl rfl (keyS ht) (.lit (.int .i64 blk)) [] rfl ?_) | go_in)
  intro w1 h1 h2
  go_wp2
  go_end0
  exact ⟨rfl, h1, ((Fr.refl _ _).alloc _).grown h2 (fun k hk => .inl (by simpa using hk.symm))⟩
set_option maxHeartbeats 1000000 in
theorem apply_removed (w : World) (b n : Nat) (D : DataW Unit) (t : ByteArray) (hm : OwnDir w b n D) (ht : t.size ≤ maxLen) :
    Calls Tryz.prog 72 #[.map (some b), .agg #[.int .i64 2, .string t, .string ⟨#[]⟩, .pointer none]] w fun e w' =>
      e = .returned (.tuple #[]) ∧ OwnDir w' b n (D.del (entKey t)) ∧ Fr (fun k => k = b) w w' := by
  go_enter Tryz.func72, Tryz.ntmps72
  go_wp2_with (first | (at_delete; refine wpList_delete_own _ rfl _ _ 68 9 rfl 100 dirK dirT fileElem b n D rfl (by exact hm.alloc _) _ (entKey t) rfl (keyS ht) ?_) | go_in)
  intro w1 h1 h2
  go_wp2
  go_end0
  exact ⟨rfl, h1, ((Fr.refl _ _).alloc _).grown h2.grown (fun k hk => .inl (by simpa using hk.symm))⟩

set_option maxHeartbeats 1000000 in
theorem apply_renamed_none (w : World) (b n : Nat) (D : DataW Unit) (s t : ByteArray) (hm : OwnDir w b n D) (hs : s.size ≤ maxLen) (hh : Maps.has D (entKey s) = false) :
    Calls Tryz.prog 72 #[.map (some b), .agg #[.int .i64 1, .string s, .string t, .pointer none]] w fun e w' =>
      e = .returned (.tuple #[]) ∧ OwnDir w' b n D ∧ Fr (fun k => k = b) w w' := by
  go_enter Tryz.func72, Tryz.ntmps72
  go_wp2_with (first | (at_lookup; refine wpList_lookup_own_ok _ rfl _ _ 68 rfl 9 100 dirK dirT fileElem (zeroFile _) .nil [] rfl b n D rfl (by exact hm.alloc _) _ (entKey s) rfl (keyS hs) ?_) | go_in)
  intro v ps hv
  clear hv
  go_wp2
  go_end0
  exact ⟨rfl, hm.alloc _, (Fr.refl _ _).alloc _⟩

set_option maxHeartbeats 1000000 in
theorem apply_renamed_some (w : World) (b n blk : Nat) (D : DataW Unit) (s t : ByteArray) (hm : OwnDir w b n D) (hn : n < maxLen) (hs : s.size ≤ maxLen) (ht : t.size ≤ maxLen)
    (hh : Maps.has D (entKey s) = true) (hat : ∀ z, D.atKey (entKey s) z = .lit (.int .i64 blk)) :
    Calls Tryz.prog 72 #[.map (some b), .agg #[.int .i64 1, .string s, .string t, .pointer none]] w fun e w' =>
      e = .returned (.tuple #[]) ∧ OwnDir w' b (n + 1) ((D.del (entKey s)).put (entKey t) (.lit (.int .i64 blk))) ∧ Fr (fun k => k = b) w w' := by
  have HAT := Lib.hid hat
  clear hat
  go_enter Tryz.func72, Tryz.ntmps72
  go_wp2_with (first | (at_lookup; refine wpList_lookup_own_ok _ rfl _ _ 68 rfl 9 100 dirK dirT fileElem (zeroFile _) .nil [] rfl b n D rfl (by exact hm.alloc _) _ (entKey s) rfl (keyS hs) ?_) | go_in)
  intro v ps hv
  rw [HAT.out .nil] at hv
  obtain rfl := fileElem_lit hv
  clear hv
  go_wp2_with (first | (at_delete; refine wpList_delete_own _ rfl _ _ 68 9 rfl 100 dirK dirT fileElem b n D rfl (by exact hm.alloc _) _ (entKey s) rfl (keyS hs) ?_) | go_in)
  intro w1 h1 h2
  have h3 := World.cell?_of_block (a := ⟨w.heap.size, 1, none⟩) (h2.grown.block w.heap.size (by simp) (by have := hm.lt; simp; omega))
  have h4 := World.cell?_of_block (a := ⟨w.heap.size, 2, none⟩) (h2.grown.block w.heap.size (by simp) (by have := hm.lt; simp; omega))
  go_wp2_with (first | (at_mapUpdate; refine wpList_mapUpdate_own _ rfl _ _ _ 68 rfl 9 100 dirK dirT fileElem b n _ rfl h1 hn _ _ (entKey t) rfl rfl (keyS ht) (.lit (.int .i64 blk)) [] rfl ?_) | go_in)
  intro w2 h5 h6
  go_wp2
  go_end0
  exact ⟨rfl, h5, (((Fr.refl _ _).alloc _).grown h2.grown (fun k hk => .inl (by simpa using hk.symm))).grown h6 (fun k hk => .inl (by simpa using hk.symm))⟩
end Go.Proofs.YtehhafnjbkbmjaaGreat.Disk

/- The disk's directories: clone, names. -/
namespace Go.Proofs.YtehhafnjbkbmjaaGreat.Disk
open Go Go.RowKit Go.Proofs.YtehhafnjbkbmjaaGreatW.PrintWords Go.Proofs.YtehhafnjbkbmjaaGreatW.PrintLast Go.Proofs.YtehhafnjbkbmjaaGreatW.PrintMore Go.Proofs.YtehhafnjbkbmjaaGreat.PCommitlogSequence

theorem keyS_inv (key : Value) (kl : Lit) (h : keyOf Tryz.prog 9 key = some kl) : ∃ x : ByteArray, key = .string x ∧ kl = entKey x ∧ x.size ≤ maxLen := by
  have hu := Tryz.underlying9
  cases key <;> simp [keyOf, hu, mapKey] at h
  obtain ⟨h1, rfl⟩ := h
  exact ⟨_, rfl, rfl, h1⟩

/-- The range's step over a directory. -/
theorem wpList_next_dir (w : World) {ops : Array Oper} {rest : List Oper} {o : Oper} {a : Act} {Q : Exit → Act → World → Prop}
    (hg : o.guard = none) (it : Operand) (hop : o.op = Op.next it false) (b r n : Nat) (D : DataW Unit) (left : Lit → Bool) (cnt : Nat)
    (hit : a.eval it = .pointer (some ⟨r, 0, none⟩)) (h : w.ranges Tryz.prog 9 fileElem b r n D left cnt)
    (hDone : cnt = 0 → (∀ kl, left kl = false) → wpList Tryz.prog ops Q rest (a.put o.dst (.tuple #[.bool false])) w)
    (hMore : ∀ (x : ByteArray) (c : Option Nat) (y : DataW Unit × List MemPlace) (w' : World) (cnt' : Nat), x.size ≤ maxLen → left (entKey x) = true → fileElem (mkPtr c) = some y → (∀ zd, D.atKey (entKey x) zd = y.1) →
      w'.ranges Tryz.prog 9 fileElem b r n D (fun z => left z && !z.sameKey (entKey x)) cnt' → cnt' < cnt →
      w.grownBy w' (some r) → w'.heap.size = w.heap.size → (Instr.entry (.pointer (some ⟨r, 0, none⟩))).run Tryz.prog w' = .ok (.tuple #[.string x, mkPtr c]) w' → wpList Tryz.prog ops Q rest (a.put o.dst (.tuple #[.bool true, .string x, mkPtr c])) w') :
    wpList Tryz.prog ops Q (o :: rest) a w := by
  refine wpList_next_ranges w hg it hop 9 dirK fileElem Value.string mkPtr (fun key kl hkey => by obtain ⟨x, rfl, _⟩ := keyS_inv key kl hkey; exact ⟨x, rfl⟩) fileElem_inv b r n D left cnt hit h hDone (fun x c kl y w' cnt' hkey hlk hv hat hrg hlt hgr hsz hen => ?_)
  obtain ⟨x', ex, rfl, hx⟩ := keyS_inv _ _ hkey
  cases ex
  exact hMore x c y w' cnt' hx hlk hv hat hrg hlt hgr hsz hen
theorem isKey (x : ByteArray) : WideAt.IsKeyLit (entKey x) := by unfold entKey; constructor
theorem ranges_ne_own {w : World} {b r n bo m cnt : Nat} {D D' : DataW Unit} {left : Lit → Bool} (h : w.ranges Tryz.prog 9 fileElem b r n D left cnt) (h' : OwnDir w bo m D') : bo ≠ r := by
  obtain ⟨_, _, _, _, _, _, _, _, _, hr, _⟩ := h
  obtain ⟨_, _, hb, _⟩ := h'
  rintro rfl
  rw [hr] at hb
  cases hb
/-- The range's block goes unused: the map stays. -/
theorem ranges_keeps {w w' : World} {b r n m cnt : Nat} {bo : Nat} {D D' : DataW Unit} {left : Lit → Bool} (h : w.ranges Tryz.prog 9 fileElem b r n D left cnt) (h' : OwnDir w bo m D') (hg : w.grownBy w' (some r)) : OwnDir w' bo m D' :=
  h'.kept hg (fun e => ranges_ne_own h h' (Option.some.inj e))

def CloneRel (w : World) (b r n bo : Nat) (D : DataW Unit) (wr : World) : Prop :=
  ∃ left cnt Dout k, wr.ranges Tryz.prog 9 fileElem b r n D left cnt ∧ OwnDir wr bo k Dout ∧ k + cnt ≤ n ∧ Maps.Agree Dout D left ∧ Fr (fun _ => False) w wr
theorem CloneRel.start {w w0 : World} {b r n bo : Nat} {D : DataW Unit} (h1 : w0.ranges Tryz.prog 9 fileElem b r n D (Maps.has D) (Maps.size D)) (h2 : OwnDir w0 bo 0 (.map [])) (h3 : Fr (fun _ => False) w w0) : CloneRel w b r n bo D w0 :=
  ⟨_, _, _, 0, h1, h2, by have := h1.owns.size_le; omega, Maps.agree_start D, h3⟩
theorem CloneRel.step {w w0 w1 w2 : World} {b r n bo k cnt cnt1 : Nat} {D Dout d : DataW Unit} {left : Lit → Bool} {x : ByteArray} (hb : b < w.heap.size) (hr : w.heap.size ≤ r) (hbo : w.heap.size ≤ bo)
    (g0 : w0.ranges Tryz.prog 9 fileElem b r n D left cnt)
    (h0 : OwnDir w0 bo k Dout) (h1 : w1.ranges Tryz.prog 9 fileElem b r n D (fun z => left z && !z.sameKey (entKey x)) cnt1) (h2 : OwnDir w2 bo (k + 1) (Dout.put (entKey x) d)) (h3 : w0.grownBy w1 (some r)) (h4 : w1.grownBy w2 (some bo))
    (h5 : k + cnt ≤ n) (h6 : cnt1 < cnt) (h7 : Maps.Agree Dout D left) (h8 : Fr (fun _ => False) w w0) (h9 : ∀ zd, D.atKey (entKey x) zd = d) : CloneRel w b r n bo D w2 := by
  have hne := ranges_ne_own h1 (h0.kept h3 (fun e => ranges_ne_own g0 h0 (Option.some.inj e)))
  exact ⟨_, cnt1, _, k + 1, h1.kept h4 (by simp; omega) (by simp; exact fun e => hne e.symm), h2, by omega, Maps.agree_step h7 h0.isMap (isKey x) h9,
    (h8.grown h3 (fun k hk => .inr (by cases hk; exact hr))).grown h4 (fun k hk => .inr (by cases hk; exact hbo))⟩
theorem CloneRel.done {w0 : World} {b r n bo k : Nat} {D Dout : DataW Unit} {left : Lit → Bool} (h1 : w0.ranges Tryz.prog 9 fileElem b r n D left 0) (h2 : OwnDir w0 bo k Dout) (h3 : k ≤ n) (h4 : Maps.Agree Dout D left) (hl : ∀ kl, left kl = false) :
    OwnDir w0 bo n D ∧ OwnDir w0 b n D := by
  have e := Maps.agree_end h4 hl (h2.canon dirK) (h1.owns.canon dirK)
  subst e
  exact ⟨h2.mono h3, h1.owns⟩

set_option maxHeartbeats 2000000 in
theorem clone_calls (w : World) (b n : Nat) (D : DataW Unit) (hm : OwnDir w b n D) (hn : n < maxLen) :
    Calls Tryz.prog 71 #[.map (some b)] w fun e w' =>
      ∃ bo, e = .returned (.map (some bo)) ∧ w.heap.size ≤ bo ∧ OwnDir w' bo n D ∧ OwnDir w' b n D ∧ Fr (fun _ => False) w w' := by
  have HM := Lib.hid hm
  have HN := Lib.hid hn
  clear hn
  have hmm := @run_makeMap Tryz.prog
  go_enter Tryz.func71, Tryz.ntmps71
  go_wp2_with (first | (at_range; refine wpList_range_own _ rfl _ 68 rfl 9 100 dirK dirT fileElem b n D rfl (by exact hm.alloc _) ?_) | go_in)
  intro w0 hrg0 hg0 hs0
  have hown0 : OwnDir w0 w.heap.size 0 (.map []) := (World.ownsMap_made w Tryz.prog 9 fileElem).kept hg0 (by simp)
  have hfr0 : Fr (fun _ => False) w w0 := ((Fr.refl _ w).alloc _).grown hg0 (fun k hk => by cases hk)
  obtain ⟨r, hr⟩ : ∃ r, r = w.heap.size + 1 := ⟨_, rfl⟩
  try rw [show (w.alloc (.map #[] 0)).heap.size = w.heap.size + 1 by simp]
  rw [← hr] at hrg0 ⊢
  have HR : Hid (w.heap.size ≤ r) := by show _ ≤ _; rw [hr]; simp
  clear hr hs0 hg0
  go_wp2
  try go_frame
  go_loopw [4, 5] (fun _ _ wr => CloneRel w b r n w.heap.size D wr) (fun _ _ wr => wr.rangeLeft b r)
  case atStart => exact CloneRel.start hrg0 hown0 hfr0
  case round =>
    obtain ⟨left, cnt, Dout, k, h1, h2, h3, h4, h5⟩ := hrel
    have H3 := Lib.hid h3
    have H4 := Lib.hid h4
    have H5 := Lib.hid h5
    clear h3 h4 h5 hrg0 hown0 hfr0
    go_wp2_with (first | (at_next; refine wpList_next_dir _ rfl _ rfl b r n D left cnt rfl h1 ?_ ?_) | fail)
    · intro hc hl
      have HL := Lib.hid hl
      subst hc
      clear hl
      go_wp2
      go_ret
      obtain ⟨q1, q2⟩ := CloneRel.done h1 h2 H3.out H4.out HL.out
      exact ⟨_, rfl, Nat.le_refl _, q1, q2, H5.out⟩
    · intro x c y yp w1 cnt1 hx hlk hv hat hrg1 hlt hgr hsz hen
      have HAT := Lib.hid hat
      have HLK := Lib.hid hlk
      have HSZ := Lib.hid hsz
      have HLT := Lib.hid hlt
      clear hat hlk hsz hlt
      have h2' := ranges_keeps h1 h2 hgr
      go_wp2_with (first | (at_mapUpdate; refine wpList_mapUpdate_own _ rfl _ _ _ 68 rfl 9 100 dirK dirT fileElem w.heap.size k _ rfl h2' (by have := H3.out; have := HN.out; have := HLT.out; omega) _ _ (entKey x) rfl rfl (keyS hx) y yp hv ?_) | fail)
      intro w2 h6 h7
      go_wp2
      go_roundw
      case rel => exact CloneRel.step HM.out.lt HR.out (Nat.le_refl _) h1 h2 hrg1 h6 hgr h7 H3.out HLT.out H4.out H5.out HAT.out
      case measure =>
        have hne := ranges_ne_own hrg1 h2'
        have e1 := (hrg1.kept h7 (by have := HM.out.lt; simp; omega) (by simp; exact fun e => hne e.symm)).left_eq
        rw [e1, h1.left_eq]
        exact HLT.out
end Go.Proofs.YtehhafnjbkbmjaaGreat.Disk

/- What the printed functions of the reference compute, as plain total functions. -/
namespace Go.Proofs.YtehhafnjbkbmjaaGreat.Disk
open Go Go.RowKit Go.Proofs.YtehhafnjbkbmjaaGreatW.PrintWords Go.Proofs.YtehhafnjbkbmjaaGreatW.PrintLast Go.Proofs.YtehhafnjbkbmjaaGreatW.PrintMore Go.Proofs.YtehhafnjbkbmjaaGreat.PCommitlogSequence

def okB (c : UInt8) : Bool := decide ((97 ≤ c.toNat ∧ c.toNat ≤ 122) ∨ (48 ≤ c.toNat ∧ c.toNat ≤ 57) ∨ c.toNat = 45 ∨ c.toNat = 95)
def okName (s : ByteArray) : Bool := decide (1 ≤ s.size ∧ s.size ≤ 64) && s.data.toList.all okB

theorem bt_at (s : ByteArray) (i : Nat) (h : i < s.size) : bt s i = (s[i].toNat : Int) := by
  unfold bt
  simp [h]
theorem drop_at (s : ByteArray) (i : Nat) (h : i < s.size) : s.data.toList.drop i = s[i] :: s.data.toList.drop (i + 1) := by
  have h' : i < s.data.toList.length := by rw [data_length]; exact h
  rw [List.drop_eq_getElem_cons h']
  simp
  rfl
theorem isName_round (k : Nat) (s : ByteArray) (i : Nat) (h : i < s.size) (h64 : s.size ≤ 64) : simdisk_isName.l0 (k + 1) s s.size i = if okB s[i] then simdisk_isName.l0 k s s.size ((i + 1 : Nat) : Int) else some false := by
  have e : wrap64 ((i : Int) + 1) = ((i + 1 : Nat) : Int) := by unfold wrap64; omega
  simp only [simdisk_isName.l0, bt_at s i h, e]
  unfold okB
  rw [if_pos (show (i : Int) < s.size by omega), if_pos (show (0 : Int) ≤ i by omega), if_pos (show (i : Int) < s.size by omega)]
  by_cases hb : (97 ≤ s[i].toNat ∧ s[i].toNat ≤ 122) ∨ (48 ≤ s[i].toNat ∧ s[i].toNat ≤ 57) ∨ s[i].toNat = 45 ∨ s[i].toNat = 95
  · simp only [hb, decide_true, if_true]
    repeat' split
    all_goals first | rfl | (exfalso; omega)
  · simp only [hb, decide_false]
    repeat' split
    all_goals first | rfl | (exfalso; omega) | contradiction
theorem isName_l0 (s : ByteArray) (h64 : s.size ≤ 64) : ∀ (d k i : Nat), s.size - i = d → i ≤ s.size → d < k → simdisk_isName.l0 k s s.size i = some ((s.data.toList.drop i).all okB) := by
  intro d
  induction d with
  | zero =>
    intro k i hd hi hk
    obtain ⟨k, rfl⟩ : ∃ m, k = m + 1 := ⟨k - 1, by omega⟩
    obtain rfl : i = s.size := by omega
    simp only [simdisk_isName.l0]
    rw [if_neg (by omega), List.drop_of_length_le (by rw [data_length]; omega)]
    rfl
  | succ d ih =>
    intro k i hd hi hk
    obtain ⟨k, rfl⟩ : ∃ m, k = m + 1 := ⟨k - 1, by omega⟩
    have hlt : i < s.size := by omega
    rw [isName_round k s i hlt h64, drop_at s i hlt, List.all_cons]
    cases hb : okB s[i]
    · simp
    · simp only [if_true, Bool.true_and]
      exact ih k (i + 1) (by omega) (by omega) (by omega)
theorem toList_nil (s : ByteArray) : s.toList = [] ↔ s.size = 0 := by
  rw [ByteArray.toList_eq, ← data_length]
  exact List.length_eq_zero_iff.symm
theorem isName_f (s : ByteArray) (k : Nat) (hk : 66 < k) : simdisk_isName.f k s = some (okName s) := by
  obtain ⟨k, rfl⟩ : ∃ m, k = m + 1 := ⟨k - 1, by omega⟩
  unfold simdisk_isName.f okName
  by_cases h0 : s.size = 0
  · rw [if_pos ((toList_nil s).2 h0)]
    simp [simdisk_isName.j0, h0]
  · rw [if_neg (fun e => h0 ((toList_nil s).1 e))]
    simp only [simdisk_isName.j0]
    by_cases h64 : s.size ≤ 64
    · rw [if_neg (by simp; omega)]
      rw [show (0 : Int) = ((0 : Nat) : Int) from rfl, isName_l0 s h64 s.size k 0 (by omega) (by omega) (by omega)]
      have : 1 ≤ s.size ∧ s.size ≤ 64 := by omega
      simp [this]
    · rw [if_pos (by simp; omega)]
      have : ¬ (1 ≤ s.size ∧ s.size ≤ 64) := by omega
      simp [this]

theorem ValidName_round (k : Nat) (s : ByteArray) (i : Nat) (h : i < s.size) (h64 : s.size ≤ 64) : laminaref20_ValidName.l0 (k + 1) s i = if okB s[i] then laminaref20_ValidName.l0 k s ((i + 1 : Nat) : Int) else some false := by
  have e : wrap64 ((i : Int) + 1) = ((i + 1 : Nat) : Int) := by unfold wrap64; omega
  simp only [laminaref20_ValidName.l0, bt_at s i h, e]
  unfold okB
  rw [if_pos (show (i : Int) < s.size by omega), if_pos (show (0 : Int) ≤ i by omega)]
  by_cases hb : (97 ≤ s[i].toNat ∧ s[i].toNat ≤ 122) ∨ (48 ≤ s[i].toNat ∧ s[i].toNat ≤ 57) ∨ s[i].toNat = 45 ∨ s[i].toNat = 95
  · simp only [hb, decide_true, if_true]
    repeat' split
    all_goals first | rfl | (exfalso; omega)
  · simp only [hb, decide_false]
    repeat' split
    all_goals first | rfl | (exfalso; omega) | contradiction
theorem ValidName_l0 (s : ByteArray) (h64 : s.size ≤ 64) : ∀ (d k i : Nat), s.size - i = d → i ≤ s.size → d < k → laminaref20_ValidName.l0 k s i = some ((s.data.toList.drop i).all okB) := by
  intro d
  induction d with
  | zero =>
    intro k i hd hi hk
    obtain ⟨k, rfl⟩ : ∃ m, k = m + 1 := ⟨k - 1, by omega⟩
    obtain rfl : i = s.size := by omega
    simp only [laminaref20_ValidName.l0]
    rw [if_neg (by omega), List.drop_of_length_le (by rw [data_length]; omega)]
    rfl
  | succ d ih =>
    intro k i hd hi hk
    obtain ⟨k, rfl⟩ : ∃ m, k = m + 1 := ⟨k - 1, by omega⟩
    have hlt : i < s.size := by omega
    rw [ValidName_round k s i hlt h64, drop_at s i hlt, List.all_cons]
    cases hb : okB s[i]
    · simp
    · simp only [if_true, Bool.true_and]
      exact ih k (i + 1) (by omega) (by omega) (by omega)
theorem ValidName_f (s : ByteArray) (k : Nat) (hk : 66 < k) : laminaref20_ValidName.f k s = some (okName s) := by
  obtain ⟨k, rfl⟩ : ∃ m, k = m + 1 := ⟨k - 1, by omega⟩
  unfold laminaref20_ValidName.f okName
  by_cases h0 : s.size = 0
  · rw [if_pos (by omega)]
    simp [laminaref20_ValidName.j0, h0]
  · rw [if_neg (by omega)]
    simp only [laminaref20_ValidName.j0]
    by_cases h64 : s.size ≤ 64
    · rw [if_neg (by simp; omega)]
      rw [show (0 : Int) = ((0 : Nat) : Int) from rfl, ValidName_l0 s h64 s.size k 0 (by omega) (by omega) (by omega)]
      have : 1 ≤ s.size ∧ s.size ≤ 64 := by omega
      simp [this]
    · rw [if_pos (by simp; omega)]
      have : ¬ (1 ≤ s.size ∧ s.size ≤ 64) := by omega
      simp [this]
end Go.Proofs.YtehhafnjbkbmjaaGreat.Disk

/- What the printed functions of the reference compute, as plain total functions: find, without, with, check, set, List, Read. -/
namespace Go.Proofs.YtehhafnjbkbmjaaGreat.Disk
open Go Go.RowKit Go.Proofs.YtehhafnjbkbmjaaGreatW.PrintWords Go.Proofs.YtehhafnjbkbmjaaGreatW.PrintLast Go.Proofs.YtehhafnjbkbmjaaGreatW.PrintMore Go.Proofs.YtehhafnjbkbmjaaGreat.PCommitlogSequence

theorem wrapN (i : Nat) (h : i < 4611686018427387904) : wrap64 ((i : Int) + 1) = ((i + 1 : Nat) : Int) := by unfold wrap64; omega
theorem toList_eq_iff (a b : ByteArray) : a.toList = b.toList ↔ a = b :=
  ⟨fun h => bytes_ext (by rwa [ByteArray.toList_eq, ByteArray.toList_eq] at h), fun h => by rw [h]⟩
theorem rdE_at (l : List Ent) (i : Nat) (h : i < l.length) : rd_T109 l i = l[i] := by
  unfold rd_T109
  simp [List.getD, h]
theorem rdF_at (l : List Fil) (i : Nat) (h : i < l.length) : rd_T107 l i = l[i] := by
  unfold rd_T107
  simp [List.getD, h]
theorem dropE {α : Type} (l : List α) (i : Nat) (h : i < l.length) : l.drop i = l[i] :: l.drop (i + 1) := List.drop_eq_getElem_cons h

theorem pLook_cons (y : Ent) (r : List Ent) (n : ByteArray) : pLook (y :: r) n = if y.f0 = n then some y.f1 else pLook r n := by
  unfold pLook
  by_cases h : y.f0 = n <;> simp [h]
theorem pWithout_cons (y : Ent) (r : List Ent) (n : ByteArray) : pWithout (y :: r) n = if y.f0 = n then pWithout r n else y :: pWithout r n := by
  unfold pWithout
  by_cases h : y.f0 = n <;> simp [h]
theorem find_l0 (l : List Ent) (n : ByteArray) (hl : l.length < 4611686018427387904) : ∀ (d k i : Nat), l.length - i = d → i ≤ l.length → d < k →
    (pLook (l.drop i) n = none → laminaref20_find.l0 k l n i = some (-1)) ∧ (∀ x, pLook (l.drop i) n = some x → ∃ t : Nat, laminaref20_find.l0 k l n i = some (t : Int) ∧ i ≤ t ∧ t < l.length ∧ (rd_T109 l t).f1 = x) := by
  intro d
  induction d with
  | zero =>
    intro k i hd hi hk
    obtain ⟨k, rfl⟩ : ∃ m, k = m + 1 := ⟨k - 1, by omega⟩
    obtain rfl : i = l.length := by omega
    constructor
    · intro _
      simp only [laminaref20_find.l0]
      rw [if_neg (by omega)]
    · intro x hx
      simp [pLook] at hx
  | succ d ih =>
    intro k i hd hi hk
    obtain ⟨k, rfl⟩ : ∃ m, k = m + 1 := ⟨k - 1, by omega⟩
    have hlt : i < l.length := by omega
    have e := wrapN i (by omega)
    obtain ⟨ih1, ih2⟩ := ih k (i + 1) (by omega) (by omega) (by omega)
    simp only [laminaref20_find.l0, e, toList_eq_iff]
    rw [if_pos (show (i : Int) < l.length by omega), if_pos (show (0 : Int) ≤ i by omega), rdE_at l i hlt, dropE l i hlt]
    rw [pLook_cons]
    by_cases hn : l[i].f0 = n
    · rw [if_pos hn, if_pos hn]
      exact ⟨fun h => (by cases h), fun x hx => ⟨i, rfl, Nat.le_refl _, hlt, by rw [rdE_at l i hlt]; exact Option.some.inj hx⟩⟩
    · rw [if_neg hn, if_neg hn]
      refine ⟨ih1, fun x hx => ?_⟩
      obtain ⟨t, h1, h2, h3, h4⟩ := ih2 x hx
      exact ⟨t, h1, by omega, h3, h4⟩
theorem find_none (l : List Ent) (n : ByteArray) (k : Nat) (hl : l.length < 4611686018427387904) (hk : l.length < k) (h : pLook l n = none) : laminaref20_find.f k l n = some (-1) :=
  (find_l0 l n hl l.length k 0 (by omega) (by omega) hk).1 (by simpa using h)
theorem find_some (l : List Ent) (n : ByteArray) (k : Nat) (hl : l.length < 4611686018427387904) (hk : l.length < k) {x : Int} (h : pLook l n = some x) :
    ∃ t : Nat, laminaref20_find.f k l n = some (t : Int) ∧ t < l.length ∧ (rd_T109 l t).f1 = x := by
  obtain ⟨t, h1, _, h3, h4⟩ := (find_l0 l n hl l.length k 0 (by omega) (by omega) hk).2 x (by simpa using h)
  exact ⟨t, h1, h3, h4⟩

theorem without_l0 (l : List Ent) (n : ByteArray) (hl : l.length < 5864062014805) : ∀ (d k i : Nat) (acc : List Ent), l.length - i = d → i ≤ l.length → d < k → acc.length ≤ i →
    laminaref20_without.l0 k l n acc i = some (acc ++ pWithout (l.drop i) n) := by
  intro d
  induction d with
  | zero =>
    intro k i acc hd hi hk ha
    obtain ⟨k, rfl⟩ : ∃ m, k = m + 1 := ⟨k - 1, by omega⟩
    obtain rfl : i = l.length := by omega
    simp only [laminaref20_without.l0]
    rw [if_neg (by omega)]
    simp [pWithout]
  | succ d ih =>
    intro k i acc hd hi hk ha
    obtain ⟨k, rfl⟩ : ∃ m, k = m + 1 := ⟨k - 1, by omega⟩
    have hlt : i < l.length := by omega
    have e := wrapN i (by omega)
    simp only [laminaref20_without.l0, e, toList_eq_iff]
    rw [if_pos (show (i : Int) < l.length by omega), if_pos (show (0 : Int) ≤ i by omega), rdE_at l i hlt, dropE l i hlt]
    rw [pWithout_cons]
    by_cases hn : l[i].f0 = n
    · rw [if_pos hn, if_pos hn, ih k (i + 1) acc (by omega) (by omega) (by omega) (by omega)]
    · rw [if_neg hn, if_neg hn, if_pos (by omega), ih k (i + 1) _ (by omega) (by omega) (by omega) (by rw [List.length_append, List.length_singleton]; omega)]
      rw [List.append_assoc]
      rfl
theorem without_f (l : List Ent) (n : ByteArray) (k : Nat) (hl : l.length < 5864062014805) (hk : l.length < k) : laminaref20_without.f k l n = some (pWithout l n) := by
  have := without_l0 l n hl l.length k 0 [] (by omega) (by omega) hk (by simp)
  simpa [laminaref20_without.f] using this
theorem pWithout_length (l : List Ent) (n : ByteArray) : (pWithout l n).length ≤ l.length := List.length_filter_le _ _
theorem pInsert_length (x : Ent) : ∀ l : List Ent, (pInsert x l).length = l.length + 1
  | [] => rfl
  | y :: r => by
    unfold pInsert
    split
    · rfl
    · simp [pInsert_length x r]
theorem pWith_length (l : List Ent) (n : ByteArray) (i : Int) : (pWith l n i).length ≤ l.length + 1 := by
  unfold pWith
  rw [pInsert_length]
  have := pWithout_length l n
  omega

theorem with_l0 (m : List Ent) (n : ByteArray) (x : Int) (hl : m.length < 5000000000000) : ∀ (d k i : Nat) (acc : List Ent) (done : Bool), m.length - i = d → i ≤ m.length → d < k → acc.length ≤ i + 1 → (done = false → acc.length ≤ i) →
    laminaref20_with.l0 k n x acc done m i = some (acc ++ if done then m.drop i else pInsert ⟨n, x⟩ (m.drop i)) := by
  intro d
  induction d with
  | zero =>
    intro k i acc done hd hi hk ha hb
    obtain ⟨k, rfl⟩ : ∃ m, k = m + 1 := ⟨k - 1, by omega⟩
    obtain rfl : i = m.length := by omega
    simp only [laminaref20_with.l0]
    rw [if_neg (by omega)]
    cases done
    · rw [if_neg (by simp), if_pos (by omega)]
      simp [pInsert]
    · simp
  | succ d ih =>
    intro k i acc done hd hi hk ha hb
    obtain ⟨k, rfl⟩ : ∃ m, k = m + 1 := ⟨k - 1, by omega⟩
    have hlt : i < m.length := by omega
    have e := wrapN i (by omega)
    simp only [laminaref20_with.l0, e]
    rw [if_pos (show (i : Int) < m.length by omega), rdE_at m i hlt, dropE m i hlt]
    cases done
    · rw [if_neg (by simp), if_pos (show (0 : Int) ≤ i by omega)]
      simp only [pInsert]
      have hb' := hb rfl
      by_cases hn : Op.bytesLess n.toList m[i].f0.toList = true
      · rw [if_pos hn, if_pos (by omega)]
        rw [Option.bind_some, if_pos (by rw [List.length_append, List.length_singleton]; omega), ih k (i + 1) _ true (by omega) (by omega) (by omega) (by rw [List.length_append, List.length_append, List.length_singleton]; simp only [List.length_singleton]; omega) (fun h => by cases h), if_pos rfl, if_neg (by simp), if_pos hn, List.append_assoc, List.append_assoc]
        rfl
      · rw [if_neg hn, if_pos (by omega), ih k (i + 1) _ false (by omega) (by omega) (by omega) (by rw [List.length_append, List.length_singleton]; omega) (fun _ => by rw [List.length_append, List.length_singleton]; omega), if_neg (by simp), if_neg (by simp), if_neg hn, List.append_assoc]
        rfl
    · rw [if_pos rfl, if_pos (show (0 : Int) ≤ i by omega), if_pos (by omega), ih k (i + 1) _ true (by omega) (by omega) (by omega) (by rw [List.length_append, List.length_singleton]; omega) (fun h => by cases h), if_pos rfl, if_pos rfl, List.append_assoc]
      rfl
theorem with_f (l : List Ent) (n : ByteArray) (x : Int) (k : Nat) (hl : l.length < 5000000000000) (hk : l.length < k) : laminaref20_with.f k l n x = some (pWith l n x) := by
  unfold laminaref20_with.f
  rw [without_f l n k (by omega) hk]
  have h1 := pWithout_length l n
  have := with_l0 (pWithout l n) n x (by omega) (pWithout l n).length k 0 [] false (by omega) (by omega) (by omega) (by simp) (by simp)
  simpa [pWith] using this

def okAll (l : List ByteArray) : Int := if l.all okName then 0 else 8
theorem okAll_cons (x : ByteArray) (r : List ByteArray) : okAll (x :: r) = if okName x = true then okAll r else 8 := by
  unfold okAll
  by_cases h : okName x = true
  · rw [if_pos h]
    congr 1
    simp [h]
  · rw [if_neg h, if_neg (by simp [h])]
def pCheck (lim : Bool) (left : Int) (names : List ByteArray) : Int := if lim && decide (left ≤ 0) then 16 else okAll names
theorem check_l0 (l : List ByteArray) (hl : l.length < 1000) : ∀ (d k i : Nat), l.length - i = d → i ≤ l.length → d + 67 < k → laminaref20_check.l0 k l i = some (okAll (l.drop i)) := by
  intro d
  induction d with
  | zero =>
    intro k i hd hi hk
    obtain ⟨k, rfl⟩ : ∃ m, k = m + 1 := ⟨k - 1, by omega⟩
    obtain rfl : i = l.length := by omega
    simp only [laminaref20_check.l0]
    rw [if_neg (by omega), List.drop_length]
    rfl
  | succ d ih =>
    intro k i hd hi hk
    obtain ⟨k, rfl⟩ : ∃ m, k = m + 1 := ⟨k - 1, by omega⟩
    have hlt : i < l.length := by omega
    have e := wrapN i (by omega)
    have e1 : rdOf ByteArray.empty l i = l[i] := by unfold rdOf; simp [List.getD, hlt]
    simp only [laminaref20_check.l0, e, e1]
    rw [if_pos (show (i : Int) < l.length by omega), if_pos (show (0 : Int) ≤ i by omega), ValidName_f _ k (by omega), dropE l i hlt, okAll_cons, Option.bind_some]
    by_cases hb : okName l[i] = true
    · rw [if_pos hb, if_pos hb, ih k (i + 1) (by omega) (by omega) (by omega)]
    · rw [if_neg hb, if_neg hb]
theorem check_f (f : List Fil) (a b : List Ent) (c : List Opn) (lim : Bool) (left : Int) (names : List ByteArray) (k : Nat) (hl : names.length < 1000) (hk : 1070 < k) : laminaref20_check.f k f a b c lim left names = some (pCheck lim left names) := by
  obtain ⟨k, rfl⟩ : ∃ m, k = m + 1 := ⟨k - 1, by omega⟩
  have h0 := check_l0 names hl names.length k 0 (by omega) (by omega) (by omega)
  simp only [List.drop_zero] at h0
  unfold laminaref20_check.f pCheck
  cases lim
  · simp only [laminaref20_check.j0]
    simpa using h0
  · simp only [laminaref20_check.j0]
    by_cases hl : left ≤ 0
    · simp [hl]
    · simpa [hl] using h0

theorem set_l0 (l : List Fil) (t : Nat) (b : List Int) (x : Int) (hl : l.length < 4000000000000) : ∀ (d k i : Nat) (acc : List Fil), l.length - i = d → i ≤ l.length → d < k → acc.length = i →
    laminaref20_set.l0 k l t acc i b x = some (acc ++ (l.set t ⟨b, x⟩).drop i) := by
  intro d
  induction d with
  | zero =>
    intro k i acc hd hi hk ha
    obtain ⟨k, rfl⟩ : ∃ m, k = m + 1 := ⟨k - 1, by omega⟩
    obtain rfl : i = l.length := by omega
    simp only [laminaref20_set.l0]
    rw [if_neg (by omega)]
    simp
  | succ d ih =>
    intro k i acc hd hi hk ha
    obtain ⟨k, rfl⟩ : ∃ m, k = m + 1 := ⟨k - 1, by omega⟩
    have hlt : i < l.length := by omega
    have e := wrapN i (by omega)
    simp only [laminaref20_set.l0, e]
    rw [if_pos (show (i : Int) < l.length by omega), rdF_at l i hlt, dropE (l.set t ⟨b, x⟩) i (by simpa using hlt)]
    by_cases ht : i = t
    · subst ht
      rw [if_pos rfl, if_pos (by omega), ih k (i + 1) _ (by omega) (by omega) (by omega) (by rw [List.length_append, List.length_singleton]; omega), List.append_assoc, List.getElem_set_self]
      rfl
    · rw [if_neg (by omega), if_pos (show (0 : Int) ≤ i by omega), if_pos (by omega), ih k (i + 1) _ (by omega) (by omega) (by omega) (by rw [List.length_append, List.length_singleton]; omega), List.append_assoc, List.getElem_set_ne (fun e => ht e.symm)]
      rfl
theorem set_f (l : List Fil) (t : Nat) (b : List Int) (x : Int) (k : Nat) (hl : l.length < 4000000000000) (hk : l.length < k) : laminaref20_set.f k l t b x = some (l.set t ⟨b, x⟩) := by
  have := set_l0 l t b x hl l.length k 0 [] (by omega) (by omega) hk rfl
  simpa [laminaref20_set.f] using this

theorem List_l0 (f : List Fil) (l b : List Ent) (c : List Opn) (lim : Bool) (left : Int) (hl : l.length < 4000000000000) : ∀ (d k i : Nat) (acc : List ByteArray), l.length - i = d → i ≤ l.length → d < k → acc.length = i →
    laminaref20_List.l0 k acc i f l b c lim left = some (acc ++ (l.drop i).map (·.f0)) := by
  intro d
  induction d with
  | zero =>
    intro k i acc hd hi hk ha
    obtain ⟨k, rfl⟩ : ∃ m, k = m + 1 := ⟨k - 1, by omega⟩
    obtain rfl : i = l.length := by omega
    simp only [laminaref20_List.l0]
    rw [if_neg (by omega)]
    simp
  | succ d ih =>
    intro k i acc hd hi hk ha
    obtain ⟨k, rfl⟩ : ∃ m, k = m + 1 := ⟨k - 1, by omega⟩
    have hlt : i < l.length := by omega
    have e := wrapN i (by omega)
    simp only [laminaref20_List.l0, e]
    rw [if_pos (show (i : Int) < l.length by omega), if_pos (show (0 : Int) ≤ i by omega), if_pos (by omega), rdE_at l i hlt, dropE l i hlt, ih k (i + 1) _ (by omega) (by omega) (by omega) (by rw [List.length_append, List.length_singleton]; omega), List.append_assoc]
    rfl
theorem List_f (f : List Fil) (l b : List Ent) (c : List Opn) (lim : Bool) (left : Int) (k : Nat) (hl : l.length < 4000000000000) (hk : l.length < k) : laminaref20_List.f k f l b c lim left = some (l.map (·.f0)) := by
  have := List_l0 f l b c lim left hl l.length k 0 [] (by omega) (by omega) hk rfl
  simpa [laminaref20_List.f] using this
end Go.Proofs.YtehhafnjbkbmjaaGreat.Disk

/- The disk's directories: names, in increasing order. -/
namespace Go.Proofs.YtehhafnjbkbmjaaGreat.Disk
open Go Go.RowKit Go.Proofs.YtehhafnjbkbmjaaGreatW.PrintWords Go.Proofs.YtehhafnjbkbmjaaGreatW.PrintLast Go.Proofs.YtehhafnjbkbmjaaGreatW.PrintMore Go.Proofs.YtehhafnjbkbmjaaGreat.PCommitlogSequence

theorem le_of_before : ∀ a b : List UInt8, bytesBefore a b = true → a ≤ b
  | [], _, _ => List.nil_le _
  | _ :: _, [], h => by simp [bytesBefore] at h
  | a :: r, b :: s, h => by
    simp only [bytesBefore, Bool.or_eq_true, decide_eq_true_eq, Bool.and_eq_true, beq_iff_eq] at h
    rcases h with h | ⟨rfl, h⟩
    · exact List.le_of_lt (List.cons_lt_cons_iff.2 (.inl h))
    · exact List.cons_le_cons_iff.2 (.inr ⟨rfl, le_of_before r s h⟩)
theorem keys_sorted {D : DataW Unit} (hc : Maps.Canon D) (hk : ∀ p, (∃ es, D = .map es ∧ p ∈ es) → ∃ x, p.1 = Lit.string x) : (strKeys D).mergeSort leB = strKeys D := by
  obtain ⟨es, rfl, hp, _⟩ := hc
  refine List.mergeSort_of_pairwise ?_
  show (es.map fun p => strOf p.1).Pairwise _
  refine List.pairwise_map.2 (hp.imp_of_mem fun {p q} hp' hq' hb => ?_)
  obtain ⟨x, hx⟩ := hk p ⟨es, rfl, hp'⟩
  obtain ⟨y, hy⟩ := hk q ⟨es, rfl, hq'⟩
  rw [hx, hy] at hb ⊢
  exact decide_eq_true (le_of_before x y hb)
theorem own_sorted {w : World} {b n : Nat} {D : DataW Unit} (h : OwnDir w b n D) : (strKeys D).mergeSort leB = strKeys D := by
  refine keys_sorted (h.canon dirK) (fun p hp => ?_)
  obtain ⟨es, rfl, hm⟩ := hp
  obtain ⟨es', he, hko⟩ := h.keysOf
  cases he
  obtain ⟨v, hv⟩ := hko p hm
  obtain ⟨x, _, hx, _⟩ := Maps.keyOf_str Tryz.underlying9 hv
  exact ⟨x, hx⟩
theorem infoS : (Tryz.prog.info? 9).map (fun i => (i.zero, i.size, i.bytes)) = some (some (.string ⟨#[]⟩), 1, 16) := by kernel_rfl

def NamesRel (w : World) (b r n : Nat) (D : DataW Unit) (v : Value) (wr : World) : Prop :=
  ∃ left cnt ss, wr.ranges Tryz.prog 9 fileElem b r n D left cnt ∧ wr.ownsRow w.heap.size 9 1 v ss.length (ss.map encStr) ∧ ss.length + cnt ≤ n ∧ Collected D left ss ∧ Fr (fun _ => False) w wr
theorem NamesRel.start {w w0 : World} {b r n : Nat} {D : DataW Unit} (h1 : w0.ranges Tryz.prog 9 fileElem b r n D (Maps.has D) (Maps.size D)) (h3 : Fr (fun _ => False) w w0) : NamesRel w b r n D (.slice none 0 0) w0 :=
  ⟨_, _, [], h1, World.ownsRow_nil _ _ _ _, by have := h1.owns.size_le; simpa using this, Collected.start D, h3⟩

theorem NamesRel.step {w w0 w1 w2 : World} {b r n cnt cnt1 : Nat} {D d : DataW Unit} {left : Lit → Bool} {x : ByteArray} {ss : List (List UInt8)} {v v' : Value} {o : Obj} (hb : b < w.heap.size) (hr : w.heap.size ≤ r)
    (h1 : w1.ranges Tryz.prog 9 fileElem b r n D (fun z => left z && !z.sameKey (entKey x)) cnt1) (h2 : w1.ownsRow w.heap.size 9 1 v ss.length (ss.map encStr))
    (h3 : w2.ownsRow w.heap.size 9 1 v' (ss.length + 1) (ss.map encStr ++ [.string x])) (h4 : w0.grownBy w1 (some r)) (h4' : (w1.alloc o).grownBy w2 v.ownBlock)
    (h5 : ss.length + cnt ≤ n) (h6 : cnt1 < cnt) (h7 : Collected D left ss) (h8 : Fr (fun _ => False) w w0) (h9 : left (entKey x) = true) (h10 : ∀ zd, D.atKey (entKey x) zd = d) : NamesRel w b r n D v' w2 := by
  refine ⟨_, cnt1, ss ++ [x.data.toList], (h1.alloc o).kept h4' (row_ne_low h2 hb) (row_ne_iter h2 h1), ?_, by simp; omega, h7.step h9 h10, ?_⟩
  · have e : (ss ++ [x.data.toList]).map encStr = ss.map encStr ++ [.string x] := by simp
    rw [e, List.length_append]
    exact h3
  · exact ((h8.grown h4 (fun k hk => .inr (by cases hk; exact hr))).alloc o).grown h4' (fun k hk => .inr (h2.lt k hk).1)
theorem NamesRel.measure {w1 w2 : World} {b r n cnt cnt1 B : Nat} {D : DataW Unit} {left left' : Lit → Bool} {w0 : World} {ss : List (List UInt8)} {v : Value} {o : Obj} (hb : b < B)
    (g1 : w0.ranges Tryz.prog 9 fileElem b r n D left' cnt)
    (h1 : w1.ranges Tryz.prog 9 fileElem b r n D left cnt1) (h2 : w1.ownsRow B 9 1 v ss.length (ss.map encStr)) (h4' : (w1.alloc o).grownBy w2 v.ownBlock) (h6 : cnt1 < cnt) : w2.rangeLeft b r < w0.rangeLeft b r := by
  rw [((h1.alloc o).kept h4' (row_ne_low h2 hb) (row_ne_iter h2 h1)).left_eq, g1.left_eq]
  exact h6
theorem NamesRel.done {w0 : World} {b r n : Nat} {D : DataW Unit} {left : Lit → Bool} {ss : List (List UInt8)} (h1 : w0.ranges Tryz.prog 9 fileElem b r n D left 0) (h4 : Collected D left ss) (hl : ∀ kl, left kl = false) :
    ss.mergeSort leB = strKeys D ∧ ss.length = (strKeys D).length := by
  have hp := h4.perm h1.owns dirK Tryz.underlying9 hl
  exact ⟨by rw [mergeSort_of_perm hp, own_sorted h1.owns], hp.length_eq⟩
theorem one_cell {w : World} {v : Value} {t : Nat} : ∀ (j : Nat) (u : Value), [v][j]? = some u → (w.alloc (.cells #[v] t)).cell? ((⟨w.heap.size, 0, none⟩ : Addr).add j) = some u := by
  intro j u hu
  have hj : j = 0 := by
    have := (List.getElem?_eq_some_iff.1 hu).1
    simpa using this
  subst hj
  simp at hu
  subst hu
  rw [Addr.add_lit]
  exact cell_blk (heap_alloc_new w _) 0

set_option maxHeartbeats 4000000 in
theorem names_calls (w : World) (b n : Nat) (D : DataW Unit) (hm : OwnDir w b n D) (hn : n ≤ 1099511627776) :
    Calls Tryz.prog 73 #[.map (some b)] w fun e w' =>
      ∃ v, e = .returned v ∧ w'.ownsRow w.heap.size 9 1 v (strKeys D).length ((strKeys D).map encStr) ∧ Fr (fun _ => False) w w' := by
  have HM := Lib.hid hm
  have HN := Lib.hid hn
  clear hn
  obtain ⟨i0, hi, hz0, hz1, hz2⟩ := info_parts infoS
  have HI := Lib.hid hi
  have HZ0 := Lib.hid hz0
  have HZ1 := Lib.hid hz1
  have HZ2 := Lib.hid hz2
  clear hi hz0 hz1 hz2
  go_enter Tryz.func73, Tryz.ntmps73
  go_wp2_with (first | (at_range; refine wpList_range_own _ rfl _ 68 rfl 9 100 dirK dirT fileElem b n D rfl hm ?_) | go_in)
  intro w0 hrg0 hg0 hs0
  have hfr0 : Fr (fun _ => False) w w0 := (Fr.refl _ w).grown hg0 (fun k hk => by cases hk)
  obtain ⟨r, hr⟩ : ∃ r, r = w.heap.size := ⟨_, rfl⟩
  rw [← hr] at hrg0
  have HR : Hid (w.heap.size ≤ r) := Nat.le_of_eq hr.symm
  clear hs0 hg0
  rw [← hr]
  clear hr
  go_wp2
  try go_frame
  go_loopw [3, 4] (fun v _ wr => NamesRel w b r n D v wr) (fun _ _ wr => wr.rangeLeft b r)
  case atStart => exact NamesRel.start hrg0 hfr0
  case round =>
    obtain ⟨left, cnt, ss, h1, h2, h3, h4, h5⟩ := hrel
    have H2 := Lib.hid h2
    have H3 := Lib.hid h3
    have H4 := Lib.hid h4
    have H5 := Lib.hid h5
    clear h3 h4 h5 hrg0 hfr0
    go_wp2_with (first | (at_next; refine wpList_next_dir _ rfl _ rfl b r n D left cnt rfl h1 ?_ ?_) | fail)
    · intro hc hl
      have HL := Lib.hid hl
      subst hc
      clear hl
      have HD := Lib.hid (NamesRel.done h1 H4.out HL.out)
      rcases h2.2 with ⟨rfl, hn0⟩ | ⟨g, cap, cur, rfl, hbase, hb, hq1, hq2, hq3, hq4⟩
      · have HN0 := Lib.hid hn0
        clear hn0
        go_wp2_with (first | (go_at_call 110; refine (Tryz.slices_Sort_string_none none 0 _).mono ?_; rintro e w' ⟨rfl, rfl⟩) | fail)
        go_ret
        refine ⟨_, rfl, ?_, H5.out⟩
        have e1 : strKeys D = [] := List.eq_nil_of_length_eq_zero (by rw [← HD.out.2]; exact HN0.out)
        rw [e1]
        exact World.ownsRow_nil _ _ _ _
      · have HH : Hid (Go.Sort.Holds encStr wr g 0 ss.toArray) := holds_of_block hb (by simpa using hq4)
        have HB := Lib.hid hb
        have HBA := Lib.hid hbase
        have HQ1 := Lib.hid hq1
        have HQ2 := Lib.hid hq2
        have HQ3 := Lib.hid hq3
        clear hb hbase hq1 hq2 hq3 hq4 h2
        go_wp2_with (first | (go_at_call 110; refine (Tryz.slices_Sort_string g 0 cap ss wr HH.out (lt_blk HB.out) (by have := H3.out; have := HN.out; omega)).mono ?_) | fail)
        rintro e w' ⟨rfl, nn, os, hw⟩
        have hs1 := ownsRow_sorted (os := os) (n := nn) (ts := ss.mergeSort leB) (by simp) HBA.out HB.out HQ1.out HQ2.out HQ3.out
        have hs2 := grownBy_sorted (w := wr) (g := g) (n := nn) (os := os) (ss.mergeSort leB).toArray
        rw [show (fun x y => decide (x ≤ y)) = leB from rfl] at hw
        rw [← hw] at hs1 hs2
        have HS1 := Lib.hid hs1
        have HS2 := Lib.hid hs2
        clear hw hs1 hs2
        go_wp2
        go_ret
        refine ⟨_, rfl, ?_, H5.out.grown HS2.out (fun k hk => .inr (by cases hk; exact HBA.out))⟩
        rw [← HD.out.1, List.length_mergeSort]
        exact HS1.out
    · intro x c y yp w1 cnt1 hx hlk hv hat hrg1 hlt hgr hsz hen
      have HAT := Lib.hid hat
      have HLK := Lib.hid hlk
      have HLT := Lib.hid hlt
      clear hat hlk hsz hlt hv hx
      have hown := h2.kept hgr (by
        by_cases e : u3.ownBlock = some r
        · exact absurd e.symm (row_ne_iter h2 h1)
        · exact .inr e)
      go_wp2_with (first | (at_builtin; refine wpList_append_own _ rfl _ _ 35 rfl w.heap.size 9 i0 (.string ⟨#[]⟩) 1 16 Tryz.underlying35 HI.out HZ0.out HZ1.out HZ2.out rfl (by decide) _ _ _ rfl (hown.alloc _) ⟨w1.heap.size, 0, none⟩ 1 1 [.string x] rfl rfl one_cell (by simp [Value.oneCell']) (by have := H3.out; have := HN.out; have := HLT.out; unfold maxLen; omega) (by have := H3.out; have := HN.out; have := HLT.out; omega) (by have := H5.out.size; have := hgr.size; simp; omega) ?_) | fail)
      intro v2 w2 hown2 hg2 hnn
      have HO2 := Lib.hid hown2
      have HG2 := Lib.hid hg2
      clear hown2 hg2 hnn
      go_wp2
      go_roundw
      case rel => exact NamesRel.step HM.out.lt HR.out hrg1 hown HO2.out hgr HG2.out H3.out HLT.out H4.out H5.out HLK.out HAT.out
      case measure => exact NamesRel.measure HM.out.lt h1 hrg1 hown HG2.out HLT.out
end Go.Proofs.YtehhafnjbkbmjaaGreat.Disk

/- The disk's methods: begin, done. -/
namespace Go.Proofs.YtehhafnjbkbmjaaGreat.Disk
open Go Go.RowKit Go.Proofs.YtehhafnjbkbmjaaGreatW.PrintWords Go.Proofs.YtehhafnjbkbmjaaGreatW.PrintLast Go.Proofs.YtehhafnjbkbmjaaGreatW.PrintMore Go.Proofs.YtehhafnjbkbmjaaGreat.PCommitlogSequence

theorem str_at {w : World} {A : Option Addr} {n : Nat} {xs : List ByteArray} (h : Kd.C Kd.string w A n xs) (i : Nat) (h1 : i < n) : ∃ ad, A = some ad ∧ w.cell? (ad.add i) = some (.string (xs.getD i ByteArray.empty)) := by
  obtain ⟨ad, c, e, _, hK, hc⟩ := Kd.C_get h ByteArray.empty (i : Int) (by omega) (by omega)
  obtain rfl := hK
  have := hc 0 _ rfl
  rw [show (Kd.string).sz = 1 from rfl] at this
  exact ⟨ad, e, by simpa using this⟩
theorem drawn_trans {a b c : World} (h : Drawn0 a b) (k : Drawn0 b c) : Drawn0 a c := by
  obtain ⟨m, rfl⟩ := h.out
  obtain ⟨n, rfl⟩ := k.out
  exact ⟨m + n, by simp [World.drewN, Nat.add_assoc]⟩
theorem drawn_cell {a b : World} (h : Drawn0 a b) (p : Addr) : b.cell? p = a.cell? p := by
  obtain ⟨m, rfl⟩ := h.out
  rfl
theorem okAll_here {names : List ByteArray} {k : Nat} (h : okAll (names.drop k) = okAll names) (hk : k < names.length) (hb : okName (names.getD k ByteArray.empty) = true) : okAll (names.drop (k + 1)) = okAll names := by
  rw [dropE names k hk, okAll_cons, if_pos (by simpa [List.getD, hk] using hb)] at h
  exact h
theorem okAll_stop {names : List ByteArray} {k : Nat} (h : okAll (names.drop k) = okAll names) (hk : k < names.length) (hb : okName (names.getD k ByteArray.empty) = false) : okAll names = 8 := by
  rw [dropE names k hk, okAll_cons, if_neg (by rw [show names[k] = names.getD k ByteArray.empty by simp [List.getD, hk], hb]; simp)] at h
  exact h.symm
theorem okAll_end {names : List ByteArray} {k : Nat} (h : okAll (names.drop k) = okAll names) (hk : ¬ k < names.length) : okAll names = 0 := by
  rw [List.drop_of_length_le (by omega)] at h
  exact h.symm

def diskCells (c u : Nat) (pv : Value) (lim : Bool) (left : Int) : Array Value := #[.map (some c), .map (some u), pv, .bool lim, .int .i64 left]
abbrev tDisk : Nat := 71

set_option maxHeartbeats 1000000 in
theorem begin_power (w : World) (d c u : Nat) (pv v : Value) (left : Int) (hd : w.heap[d]? = some (.cells (diskCells c u pv true left) tDisk (0, 0))) (hl : left ≤ 0) :
    Calls Tryz.prog 87 #[.pointer (some ⟨d, 0, none⟩), v] w fun e w' => e = .returned (.int .i64 16) ∧ w' = w := by
  have c3 := cell_blk hd 3
  have c4 := cell_blk hd 4
  simp [diskCells] at c3 c4
  clear hd
  go_enter Tryz.func87, Tryz.ntmps87
  go_wp2
  go_ret
  exact ⟨rfl, rfl⟩
set_option maxHeartbeats 1000000 in
theorem begin_free (w : World) (d c u : Nat) (pv : Value) (left : Int) (A : Option Addr) (cc : Nat) (names : List ByteArray) (hd : w.heap[d]? = some (.cells (diskCells c u pv false left) tDisk (0, 0)))
    (hr : Kd.C Kd.string w A names.length names) (hn : names.length < 1000) :
    Calls Tryz.prog 87 #[.pointer (some ⟨d, 0, none⟩), .slice A names.length cc] w fun e w' => e = .returned (.int .i64 (okAll names)) ∧ Drawn0 w w' := by
  have c3 := cell_blk hd 3
  simp [diskCells] at c3
  clear hd
  go_enter Tryz.func87, Tryz.ntmps87
  go_wp2
  go_loopw [22, 6] (fun i _ wr => ∃ k : Nat, k ≤ names.length ∧ i = .int .i64 k ∧ okAll (names.drop k) = okAll names ∧ Drawn0 w wr) (fun i _ _ => names.length - (intOf i).toNat)
  case atStart => exact ⟨0, Nat.zero_le _, rfl, rfl, ⟨0, rfl⟩⟩
  case round =>
    obtain ⟨k, hk, rfl, he, hw⟩ := hrel
    have HE := Lib.hid he
    clear he
    have HW := Lib.hid hw
    clear hw
    by_cases hlt : k < names.length
    · obtain ⟨ad, rfl, hc0⟩ := str_at hr k hlt
      have hc : wr.cell? (ad.add k) = some (.string (names.getD k ByteArray.empty)) := (drawn_cell HW.out _).trans hc0
      clear hc0
      obtain ⟨x, hx⟩ : ∃ x, x = names.getD k ByteArray.empty := ⟨_, rfl⟩
      rw [← hx] at hc
      have HX := Lib.hid hx
      clear hx hr
      cases hb : okName x
      · have HB := Lib.hid hb
        have HS := Lib.hid (isName_f x 67 (by omega))
        rw [HB.out] at HS
        clear hb
        go_wp2_with (first | (go_at_call 50; refine (simdisk_isName.calls 67 _ _ _ HS.out).mono ?_; rintro e w' ⟨rfl, hd⟩; have HD := Lib.hid hd; clear hd) | fail)
        go_ret
        exact ⟨by rw [okAll_stop HE.out hlt (by rw [← HX.out]; exact HB.out)]; rfl, drawn_trans HW.out HD.out⟩
      · have HB := Lib.hid hb
        have HS := Lib.hid (isName_f x 67 (by omega))
        rw [HB.out] at HS
        clear hb
        go_wp2_with (first | (go_at_call 50; refine (simdisk_isName.calls 67 _ _ _ HS.out).mono ?_; rintro e w' ⟨rfl, hd⟩; have HD := Lib.hid hd; clear hd) | fail)
        go_roundw
        case rel => exact ⟨k + 1, by omega, by go_num, okAll_here HE.out hlt (by rw [← HX.out]; exact HB.out), drawn_trans HW.out HD.out⟩
        case measure => simp [intOf]; omega
    · clear hr
      go_wp2
      go_ret
      exact ⟨by rw [okAll_end HE.out hlt]; rfl, HW.out⟩
set_option maxHeartbeats 1000000 in
theorem begin_left (w : World) (d c u : Nat) (pv : Value) (left : Int) (A : Option Addr) (cc : Nat) (names : List ByteArray) (hd : w.heap[d]? = some (.cells (diskCells c u pv true left) tDisk (0, 0))) (h0 : 0 < left)
    (hr : Kd.C Kd.string w A names.length names) (hn : names.length < 1000) :
    Calls Tryz.prog 87 #[.pointer (some ⟨d, 0, none⟩), .slice A names.length cc] w fun e w' => e = .returned (.int .i64 (okAll names)) ∧ Drawn0 w w' := by
  have c3 := cell_blk hd 3
  have c4 := cell_blk hd 4
  simp [diskCells] at c3 c4
  clear hd
  go_enter Tryz.func87, Tryz.ntmps87
  go_wp2
  go_loopw [22, 6] (fun i _ wr => ∃ k : Nat, k ≤ names.length ∧ i = .int .i64 k ∧ okAll (names.drop k) = okAll names ∧ Drawn0 w wr) (fun i _ _ => names.length - (intOf i).toNat)
  case atStart => exact ⟨0, Nat.zero_le _, rfl, rfl, ⟨0, rfl⟩⟩
  case round =>
    obtain ⟨k, hk, rfl, he, hw⟩ := hrel
    have HE := Lib.hid he
    clear he
    have HW := Lib.hid hw
    clear hw
    by_cases hlt : k < names.length
    · obtain ⟨ad, rfl, hc0⟩ := str_at hr k hlt
      have hc : wr.cell? (ad.add k) = some (.string (names.getD k ByteArray.empty)) := (drawn_cell HW.out _).trans hc0
      clear hc0
      obtain ⟨x, hx⟩ : ∃ x, x = names.getD k ByteArray.empty := ⟨_, rfl⟩
      rw [← hx] at hc
      have HX := Lib.hid hx
      clear hx hr
      cases hb : okName x
      · have HB := Lib.hid hb
        have HS := Lib.hid (isName_f x 67 (by omega))
        rw [HB.out] at HS
        clear hb
        go_wp2_with (first | (go_at_call 50; refine (simdisk_isName.calls 67 _ _ _ HS.out).mono ?_; rintro e w' ⟨rfl, hd⟩; have HD := Lib.hid hd; clear hd) | fail)
        go_ret
        exact ⟨by rw [okAll_stop HE.out hlt (by rw [← HX.out]; exact HB.out)]; rfl, drawn_trans HW.out HD.out⟩
      · have HB := Lib.hid hb
        have HS := Lib.hid (isName_f x 67 (by omega))
        rw [HB.out] at HS
        clear hb
        go_wp2_with (first | (go_at_call 50; refine (simdisk_isName.calls 67 _ _ _ HS.out).mono ?_; rintro e w' ⟨rfl, hd⟩; have HD := Lib.hid hd; clear hd) | fail)
        go_roundw
        case rel => exact ⟨k + 1, by omega, by go_num, okAll_here HE.out hlt (by rw [← HX.out]; exact HB.out), drawn_trans HW.out HD.out⟩
        case measure => simp [intOf]; omega
    · clear hr
      go_wp2
      go_ret
      exact ⟨by rw [okAll_end HE.out hlt]; rfl, HW.out⟩

theorem begin_calls (w : World) (d c u : Nat) (pv : Value) (lim : Bool) (left : Int) (A : Option Addr) (cc : Nat) (names : List ByteArray) (hd : w.heap[d]? = some (.cells (diskCells c u pv lim left) tDisk (0, 0)))
    (hr : Kd.C Kd.string w A names.length names) (hn : names.length < 1000) :
    Calls Tryz.prog 87 #[.pointer (some ⟨d, 0, none⟩), .slice A names.length cc] w fun e w' => e = .returned (.int .i64 (pCheck lim left names)) ∧ Drawn0 w w' := by
  cases lim
  · exact begin_free w d c u pv left A cc names hd hr hn
  · by_cases h : 0 < left
    · have e : pCheck true left names = okAll names := by
        have : ¬ left ≤ 0 := by omega
        simp [pCheck, this]
      rw [e]
      exact begin_left w d c u pv left A cc names hd h hr hn
    · have e : pCheck true left names = 16 := by
        have : left ≤ 0 := by omega
        simp [pCheck, this]
      rw [e]
      exact (begin_power w d c u pv _ left hd (by omega)).mono fun _ _ h => ⟨h.1, ⟨⟨0, by rw [h.2]; rfl⟩⟩⟩

/-! ### done -/
def doneLeft (lim : Bool) (left : Int) : Int := if lim then left - 1 else left
set_option maxHeartbeats 1000000 in
theorem done_calls (w : World) (d c u : Nat) (pv : Value) (lim : Bool) (left : Int) (hd : w.heap[d]? = some (.cells (diskCells c u pv lim left) tDisk (0, 0))) (h0 : lim = true → 0 < left ∧ left ≤ 9223372036854775807) :
    Calls Tryz.prog 90 #[.pointer (some ⟨d, 0, none⟩)] w fun e w' => e = .returned (.int .i64 0) ∧
      w'.heap[d]? = some (.cells (diskCells c u pv lim (doneLeft lim left)) tDisk (0, 0)) ∧ Fr (fun k => k = d) w w' := by
  have c3 := cell_blk hd 3
  have c4 := cell_blk hd 4
  have f4 := frozen_blk hd 4
  have HD := Lib.hid hd
  simp [diskCells] at c3 c4
  clear hd
  cases lim
  · go_enter Tryz.func90, Tryz.ntmps90
    go_wp2
    go_ret
    exact ⟨rfl, HD.out, Fr.refl _ _⟩
  · obtain ⟨h1, h2⟩ := h0 rfl
    go_enter Tryz.func90, Tryz.ntmps90
    go_wp2
    go_ret
    exact ⟨rfl, blk_set HD.out 4 _, Fr.setCell (F := fun k => k = d) (Fr.refl _ _) (.inl rfl) _⟩
end Go.Proofs.YtehhafnjbkbmjaaGreat.Disk

/- The disk in memory against a plain state. -/
namespace Go.Proofs.YtehhafnjbkbmjaaGreat.Disk
open Go Go.RowKit Go.Proofs.YtehhafnjbkbmjaaGreatW.PrintWords Go.Proofs.YtehhafnjbkbmjaaGreatW.PrintLast Go.Proofs.YtehhafnjbkbmjaaGreatW.PrintMore Go.Proofs.YtehhafnjbkbmjaaGreat.PCommitlogSequence

/-- The plain state: the reference's. -/
structure PS where
  files : List Fil
  dir : List Ent
  dur : List Ent
  pend : List Opn
  lim : Bool
  left : Int
/-- Which files a state reaches. -/
def Live (S : PS) (i : Int) : Prop := (∃ e ∈ S.dir, e.f1 = i) ∨ (∃ e ∈ S.dur, e.f1 = i) ∨ (∃ o ∈ S.pend, o.f0 = 1 ∧ o.f3 = i)
def fileAt (S : PS) (i : Int) : Fil := S.files.getD i.toNat z107
def pDone (S : PS) : PS := { S with left := doneLeft S.lim S.left }
def pDir (S : PS) (o : Opn) : PS := { S with pend := S.pend ++ [o], dir := pApply S.dir o }

/-- Where a disk's parts lie. -/
structure Lay where
  blk : Int → Nat
  cur : Nat
  dur : Nat
  pend : Value
  data : Int → Value
  left : Int
abbrev tFile : Nat := 104
abbrev tOp : Nat := 118
def fileCells (v : Value) (n : Int) : Array Value := #[v, .int .i64 n]
abbrev u8s (l : List Int) : List Value := nums .u8 l
def opsCells (blk : Int → Nat) (l : List Opn) : List Value := l.flatMap (opCells blk)

/-- THE DISK AT BLOCK d IS LAID AS L, IN BLOCKS OF F, AND STANDS AS S; the files of X have blocks. -/
structure Rep (w : World) (F : Nat → Prop) (d : Nat) (L : Lay) (S : PS) (X : Int → Prop) : Prop where
  disk : w.heap[d]? = some (.cells (diskCells L.cur L.dur L.pend S.lim L.left) tDisk (0, 0))
  left : S.lim = true → L.left = S.left
  cur : OwnDir w L.cur S.dir.length (dirD L.blk S.dir)
  dur : OwnDir w L.dur S.dur.length (dirD L.blk S.dur)
  ne : L.cur ≠ L.dur
  pend : w.ownsRow 0 tOp 4 L.pend S.pend.length (opsCells L.blk S.pend)
  live : ∀ i, Live S i → X i
  file : ∀ i, X i → w.heap[L.blk i]? = some (.cells (fileCells (L.data i) (fileAt S i).f1) tFile (0, 0))
  data : ∀ i, X i → w.ownsRow 0 5 1 (L.data i) (fileAt S i).f0.length (u8s (fileAt S i).f0)
  inj : ∀ i j, X i → X j → L.blk i = L.blk j → i = j
  apart : ∀ i j, X i → X j → i ≠ j → (L.data i).ownBlock = none ∨ (L.data i).ownBlock ≠ (L.data j).ownBlock
  inD : F d
  inC : F L.cur
  inU : F L.dur
  inP : ∀ k, L.pend.ownBlock = some k → F k
  inB : ∀ i, X i → F (L.blk i)
  inV : ∀ i, X i → ∀ k, (L.data i).ownBlock = some k → F k

/-! ### what turns and what stays -/
theorem ownDir_move {w w' : World} {b n : Nat} {D : DataW Unit} (h : OwnDir w b n D) (hm : w'.heap[b]? = w.heap[b]?) : OwnDir w' b n D := by
  obtain ⟨es, clock, hb, r⟩ := h
  exact ⟨es, clock, hm.trans hb, r⟩
theorem ownDir_tight {w : World} {b n : Nat} {blk : Int → Nat} {l : List Ent} (h : OwnDir w b n (dirD blk l)) : OwnDir w b l.length (dirD blk l) := by
  obtain ⟨es, clock, hb, F, hs, hD⟩ := h
  refine ⟨es, clock, hb, F, ?_, hD⟩
  have e1 : es.size = l.length := by
    have := congrArg Maps.size hD
    simpa [Maps.size, dirD, length_sorted] using this.symm
  omega
theorem ownBlock_lt {w : World} {base : Nat} {e : TypeId} {size : Nat} {v : Value} {n : Nat} {xs : List Value} (h : w.ownsRow base e size v n xs) {k : Nat} (hk : v.ownBlock = some k) : k < w.heap.size := (h.lt k hk).2

/-- All of it lies among the blocks that F has below the heap's end. -/
theorem Rep.mono {w : World} {F F' : Nat → Prop} {d : Nat} {L : Lay} {S : PS} {X : Int → Prop} (h : Rep w F d L S X) (hF : ∀ k, F k → k < w.heap.size → F' k) : Rep w F' d L S X :=
  { h with
    inD := hF _ h.inD (lt_blk h.disk)
    inC := hF _ h.inC h.cur.lt
    inU := hF _ h.inU h.dur.lt
    inP := fun k hk => hF k (h.inP k hk) (ownBlock_lt h.pend hk)
    inB := fun i hi => hF _ (h.inB i hi) (lt_blk (h.file i hi))
    inV := fun i hi k hk => hF k (h.inV i hi k hk) (ownBlock_lt (h.data i hi) hk) }
theorem Rep.move {w w' : World} {F : Nat → Prop} {d : Nat} {L : Lay} {S : PS} {X : Int → Prop} (h : Rep w F d L S X) (hm : ∀ k, F k → k < w.heap.size → w'.heap[k]? = w.heap[k]?) : Rep w' F d L S X :=
  { h with
    disk := (hm _ h.inD (lt_blk h.disk)).trans h.disk
    cur := ownDir_move h.cur (hm _ h.inC h.cur.lt)
    dur := ownDir_move h.dur (hm _ h.inU h.dur.lt)
    pend := own_move h.pend (fun k hk => hm k (h.inP k hk) (ownBlock_lt h.pend hk))
    file := fun i hi => (hm _ (h.inB i hi) (lt_blk (h.file i hi))).trans (h.file i hi)
    data := fun i hi => own_move (h.data i hi) (fun k hk => hm k (h.inV i hi k hk) (ownBlock_lt (h.data i hi) hk)) }
theorem Rep.below {w w' : World} {F : Nat → Prop} {d : Nat} {L : Lay} {S : PS} {X : Int → Prop} (h : Rep w F d L S X) (hb : Below w.heap.size w w') : Rep w' F d L S X := h.move (fun k _ hk => hb.block k hk)
theorem Rep.drawn {w w' : World} {F : Nat → Prop} {d : Nat} {L : Lay} {S : PS} {X : Int → Prop} (h : Rep w F d L S X) (hb : Drawn0 w w') : Rep w' F d L S X := by
  obtain ⟨m, rfl⟩ := hb.out
  exact h.move (fun _ _ _ => rfl)
theorem Rep.alloc {w : World} {F : Nat → Prop} {d : Nat} {L : Lay} {S : PS} {X : Int → Prop} (h : Rep w F d L S X) (o : Obj) : Rep (w.alloc o) F d L S X := h.move (fun k _ hk => Below.heap_alloc w o k hk)
/-- Outside of F something has turned. -/
theorem Rep.fr {w w' : World} {F G : Nat → Prop} {d : Nat} {L : Lay} {S : PS} {X : Int → Prop} (h : Rep w F d L S X) (hf : Fr G w w') (hG : ∀ k, F k → ¬ G k) : Rep w' F d L S X := h.move (fun k hk hlt => hf.block k hlt (hG k hk))
theorem Rep.less {w : World} {F : Nat → Prop} {d : Nat} {L : Lay} {S : PS} {X X' : Int → Prop} (h : Rep w F d L S X) (hX : ∀ i, X' i → X i) (hl : ∀ i, Live S i → X' i) : Rep w F d L S X' :=
  { h with
    live := hl
    file := fun i hi => h.file i (hX i hi)
    data := fun i hi => h.data i (hX i hi)
    inj := fun i j hi hj => h.inj i j (hX i hi) (hX j hj)
    apart := fun i j hi hj => h.apart i j (hX i hi) (hX j hj)
    inB := fun i hi => h.inB i (hX i hi)
    inV := fun i hi => h.inV i (hX i hi) }

/-! #### the kinds of block keep the parts apart -/
section
variable {w : World} {F : Nat → Prop} {d : Nat} {L : Lay} {S : PS} {X : Int → Prop}
theorem cells_ne_map {b b' : Nat} {c : Array Value} {t : Nat} {fz : Nat × Nat} {es : Array MapEntry} {cl : Nat} (h : w.heap[b]? = .some (.cells c t fz)) (h' : w.heap[b']? = .some (.map es cl)) : b ≠ b' := by
  rintro rfl
  rw [h] at h'
  cases h'
theorem cells_ne_type {b b' : Nat} {c c' : Array Value} {t t' : Nat} {fz fz' : Nat × Nat} (h : w.heap[b]? = .some (.cells c t fz)) (h' : w.heap[b']? = .some (.cells c' t' fz')) (ht : t ≠ t') : b ≠ b' := by
  rintro rfl
  rw [h] at h'
  simp only [Option.some.injEq, Obj.cells.injEq] at h'
  exact ht h'.2.1
theorem Rep.d_ne_cur (h : Rep w F d L S X) : d ≠ L.cur := by obtain ⟨_, _, hb, _⟩ := h.cur; exact cells_ne_map h.disk hb
theorem Rep.d_ne_dur (h : Rep w F d L S X) : d ≠ L.dur := by obtain ⟨_, _, hb, _⟩ := h.dur; exact cells_ne_map h.disk hb
theorem Rep.d_ne_blk (h : Rep w F d L S X) {i : Int} (hi : X i) : d ≠ L.blk i := cells_ne_type h.disk (h.file i hi) (by decide)
theorem Rep.d_ne_pend (h : Rep w F d L S X) : some d ≠ L.pend.ownBlock := fun e => by
  obtain ⟨c, hc⟩ := own_typed h.pend d e.symm
  exact cells_ne_type h.disk hc (by decide) rfl
theorem Rep.d_ne_data (h : Rep w F d L S X) {i : Int} (hi : X i) : some d ≠ (L.data i).ownBlock := fun e => by
  obtain ⟨c, hc⟩ := own_typed (h.data i hi) d e.symm
  exact cells_ne_type h.disk hc (by decide) rfl
theorem Rep.cur_ne_blk (h : Rep w F d L S X) {i : Int} (hi : X i) : L.cur ≠ L.blk i := by obtain ⟨_, _, hb, _⟩ := h.cur; exact fun e => cells_ne_map (h.file i hi) hb e.symm
theorem Rep.dur_ne_blk (h : Rep w F d L S X) {i : Int} (hi : X i) : L.dur ≠ L.blk i := by obtain ⟨_, _, hb, _⟩ := h.dur; exact fun e => cells_ne_map (h.file i hi) hb e.symm
theorem Rep.cur_ne_pend (h : Rep w F d L S X) : some L.cur ≠ L.pend.ownBlock := fun e => by
  obtain ⟨_, _, hb, _⟩ := h.cur
  obtain ⟨c, hc⟩ := own_typed h.pend _ e.symm
  exact cells_ne_map hc hb rfl
theorem Rep.dur_ne_pend (h : Rep w F d L S X) : some L.dur ≠ L.pend.ownBlock := fun e => by
  obtain ⟨_, _, hb, _⟩ := h.dur
  obtain ⟨c, hc⟩ := own_typed h.pend _ e.symm
  exact cells_ne_map hc hb rfl
theorem Rep.cur_ne_data (h : Rep w F d L S X) {i : Int} (hi : X i) : some L.cur ≠ (L.data i).ownBlock := fun e => by
  obtain ⟨_, _, hb, _⟩ := h.cur
  obtain ⟨c, hc⟩ := own_typed (h.data i hi) _ e.symm
  exact cells_ne_map hc hb rfl
theorem Rep.dur_ne_data (h : Rep w F d L S X) {i : Int} (hi : X i) : some L.dur ≠ (L.data i).ownBlock := fun e => by
  obtain ⟨_, _, hb, _⟩ := h.dur
  obtain ⟨c, hc⟩ := own_typed (h.data i hi) _ e.symm
  exact cells_ne_map hc hb rfl
theorem Rep.blk_ne_pend (h : Rep w F d L S X) {i : Int} (hi : X i) : some (L.blk i) ≠ L.pend.ownBlock := fun e => by
  obtain ⟨c, hc⟩ := own_typed h.pend _ e.symm
  exact cells_ne_type (h.file i hi) hc (by decide) rfl
theorem Rep.blk_ne_data (h : Rep w F d L S X) {i j : Int} (hi : X i) (hj : X j) : some (L.blk i) ≠ (L.data j).ownBlock := fun e => by
  obtain ⟨c, hc⟩ := own_typed (h.data j hj) _ e.symm
  exact cells_ne_type (h.file i hi) hc (by decide) rfl
theorem Rep.pend_ne_data (h : Rep w F d L S X) {j : Int} (hj : X j) {k : Nat} (hk : L.pend.ownBlock = .some k) : (L.data j).ownBlock ≠ .some k := fun e => by
  obtain ⟨c, hc⟩ := own_typed h.pend _ hk
  obtain ⟨c', hc'⟩ := own_typed (h.data j hj) _ e
  exact cells_ne_type hc hc' (by decide) rfl
end

/-- What a call on a disk leaves of memory. -/
structure Chg (w : World) (F : Nat → Prop) (w' : World) (F' : Nat → Prop) : Prop where
  fr : Fr F w w'
  new : ∀ k, F' k → F k ∨ w.heap.size ≤ k
  lt : ∀ k, F' k → k < w'.heap.size
theorem Chg.trans {a b c : World} {F G H : Nat → Prop} (h : Chg a F b G) (k : Chg b G c H) : Chg a F c H :=
  ⟨h.fr.trans k.fr h.new, fun i hi => by
    rcases k.new i hi with h1 | h1
    · exact h.new i h1
    · exact .inr (Nat.le_trans h.fr.size h1), k.lt⟩
/-- The blocks of F, and those that are new. -/
def grow (F : Nat → Prop) (w w' : World) (k : Nat) : Prop := (F k ∧ k < w'.heap.size) ∨ (w.heap.size ≤ k ∧ k < w'.heap.size)
theorem Chg.grow {w w' : World} {F : Nat → Prop} (h : Fr F w w') : Chg w F w' (grow F w w') :=
  ⟨h, fun k hk => by rcases hk with hk | hk; exact .inl hk.1; exact .inr hk.1, fun k hk => by rcases hk with hk | hk; exact hk.2; exact hk.2⟩
end Go.Proofs.YtehhafnjbkbmjaaGreat.Disk

/- The disk's methods: change. -/
namespace Go.Proofs.YtehhafnjbkbmjaaGreat.Disk
open Go Go.RowKit Go.Proofs.YtehhafnjbkbmjaaGreatW.PrintWords Go.Proofs.YtehhafnjbkbmjaaGreatW.PrintLast Go.Proofs.YtehhafnjbkbmjaaGreatW.PrintMore Go.Proofs.YtehhafnjbkbmjaaGreat.PCommitlogSequence

theorem pApply_length (l : List Ent) (o : Opn) : (pApply l o).length ≤ l.length + 1 := by
  unfold pApply
  split
  · exact pWith_length _ _ _
  · split
    · split
      · have h1 := pWith_length (pWithout l o.f1) o.f2 ‹_›
        have h2 := pWithout_length l o.f1
        omega
      · omega
    · have h2 := pWithout_length l o.f1
      omega
theorem apply_calls (w : World) (b : Nat) (blk : Int → Nat) (l : List Ent) (o : Opn) (hm : OwnDir w b l.length (dirD blk l)) (ho : OpnOk o) (hl : l.length ≤ 1099511627776) :
    Calls Tryz.prog 72 #[.map (some b), .agg (opCells blk o).toArray] w fun e w' =>
      e = .returned (.tuple #[]) ∧ OwnDir w' b (pApply l o).length (dirD blk (pApply l o)) ∧ Fr (fun k => k = b) w w' := by
  obtain ⟨hk, h1, h2⟩ := ho
  have m1 : o.f1.size ≤ maxLen := by unfold maxLen; omega
  have m2 : o.f2.size ≤ maxLen := by unfold maxLen; omega
  have mn : l.length < maxLen := by unfold maxLen; omega
  rcases hk with hk | hk | hk
  · have e : opCells blk o = [.int .i64 0, .string ⟨#[]⟩, .string o.f1, .pointer (some ⟨blk o.f3, 0, none⟩)] := by simp [opCells, opFrom, opTo, opPtr, hk]
    rw [e]
    refine (apply_made w b l.length (blk o.f3) _ o.f1 hm mn m1).mono fun _ _ ⟨q1, q2, q3⟩ => ⟨q1, ?_, q3⟩
    rw [dirD_put] at q2
    have e2 : pApply l o = pWith l o.f1 o.f3 := by simp [pApply, hk]
    rw [e2]
    exact ownDir_tight q2
  · have e : opCells blk o = [.int .i64 1, .string o.f1, .string o.f2, .pointer none] := by simp [opCells, opFrom, opTo, opPtr, hk]
    rw [e]
    cases hp : pLook l o.f1 with
    | none =>
      have e2 : pApply l o = l := by simp [pApply, hk, hp]
      rw [e2]
      exact apply_renamed_none w b l.length _ o.f1 o.f2 hm m1 (by rw [dirD_has, hp]; rfl)
    | some i =>
      have e2 : pApply l o = pWith (pWithout l o.f1) o.f2 i := by simp [pApply, hk, hp]
      refine (apply_renamed_some w b l.length (blk i) _ o.f1 o.f2 hm mn m1 m2 (by rw [dirD_has, hp]; rfl) (fun z => by rw [dirD_atKey, hp])).mono fun _ _ ⟨q1, q2, q3⟩ => ⟨q1, ?_, q3⟩
      rw [dirD_del, dirD_put] at q2
      rw [e2]
      exact ownDir_tight q2
  · have e : opCells blk o = [.int .i64 2, .string o.f1, .string ⟨#[]⟩, .pointer none] := by simp [opCells, opFrom, opTo, opPtr, hk]
    rw [e]
    refine (apply_removed w b l.length _ o.f1 hm m1).mono fun _ _ ⟨q1, q2, q3⟩ => ⟨q1, ?_, q3⟩
    rw [dirD_del] at q2
    have e2 : pApply l o = pWithout l o.f1 := by simp [pApply, hk]
    rw [e2]
    exact ownDir_tight q2

/-- A region that draws, of which all but a forced tail only reads: in the world behind the draw. -/
theorem region_tail {P : Program} {id : Nat} {Q : Exit → Act → World → Prop} {a : Act} {w : World} {l : List Oper} (n : Nat) (hm : P.follows .mixedOrders = true) (hB : Region.lexTailB .any l.toArray n = true)
    (h : ∀ w2, Drawn0 w w2 → wpStill P l.toArray w2 (fun a' => wpList P l.toArray Q (l.drop n) a' w2) (l.take n) a) : (Code.region id l.toArray true).wp P Q a w :=
  wp_region_still_tail n hm hB (h _ ⟨⟨1, rfl⟩⟩)
theorem infoO : (Tryz.prog.info? tOp).map (fun i => (i.zero, i.size, i.bytes)) = some (some (.agg #[.int .i64 0, .string ⟨#[]⟩, .string ⟨#[]⟩, .pointer none]), 4, 48) := by kernel_rfl

theorem mem_pInsert {x e : Ent} : ∀ {l : List Ent}, e ∈ pInsert x l → e = x ∨ e ∈ l
  | [], h => by simpa [pInsert] using h
  | y :: r, h => by
    unfold pInsert at h
    split at h
    · simpa using h
    · rcases List.mem_cons.1 h with h | h
      · exact .inr (by simp [h])
      · rcases mem_pInsert h with h | h
        · exact .inl h
        · exact .inr (by simp [h])
theorem mem_pWith {l : List Ent} {n : ByteArray} {i : Int} {e : Ent} (h : e ∈ pWith l n i) : e = ⟨n, i⟩ ∨ e ∈ l := by
  rcases mem_pInsert h with h | h
  · exact .inl h
  · exact .inr (List.mem_filter.1 h).1
theorem pLook_mem {l : List Ent} {n : ByteArray} {i : Int} (h : pLook l n = some i) : ∃ e ∈ l, e.f0 = n ∧ e.f1 = i := by
  unfold pLook at h
  obtain ⟨e, he, rfl⟩ := Option.map_eq_some_iff.1 h
  exact ⟨e, List.mem_of_find?_eq_some he, by simpa using List.find?_some he, rfl⟩
theorem mem_pApply {l : List Ent} {o : Opn} {e : Ent} (h : e ∈ pApply l o) : (∃ e' ∈ l, e'.f1 = e.f1) ∨ (o.f0 = 1 ∧ e.f1 = o.f3) := by
  unfold pApply at h
  split at h
  · rcases mem_pWith h with rfl | h
    · exact .inr ⟨‹_›, rfl⟩
    · exact .inl ⟨e, h, rfl⟩
  · split at h
    · split at h
      · rename_i i hi
        rcases mem_pWith h with rfl | h
        · obtain ⟨e', he', _, h2⟩ := pLook_mem hi
          exact .inl ⟨e', he', h2⟩
        · exact .inl ⟨e, (List.mem_filter.1 h).1, rfl⟩
      · exact .inl ⟨e, h, rfl⟩
    · exact .inl ⟨e, (List.mem_filter.1 h).1, rfl⟩
theorem live_pDir {S : PS} {o : Opn} {i : Int} (h : Live (pDone (pDir S o)) i) : Live S i ∨ (o.f0 = 1 ∧ i = o.f3) := by
  rcases h with ⟨e, he, rfl⟩ | ⟨e, he, rfl⟩ | ⟨p, hp, h1, rfl⟩
  · rcases mem_pApply he with ⟨e', he', h⟩ | h
    · exact .inl (.inl ⟨e', he', h⟩)
    · exact .inr h
  · exact .inl (.inr (.inl ⟨e, he, rfl⟩))
  · rcases List.mem_append.1 hp with hp | hp
    · exact .inl (.inr (.inr ⟨p, hp, h1, rfl⟩))
    · simp only [List.mem_singleton] at hp
      subst hp
      exact .inr ⟨h1, rfl⟩

theorem change_close {w w2 w3 w4 w6 : World} {F : Nat → Prop} {d g cap : Nat} {L : Lay} {S : PS} {X : Int → Prop} {o : Opn} {ob : Obj} {v0 : Value} (hX : o.f0 = 1 → X o.f3)
    (hF2 : Fr F w w2) (hR2 : Rep w2 F d L S X) (hc : OwnDir w3 L.cur (pApply S.dir o).length (dirD L.blk (pApply S.dir o))) (hf3 : Fr (fun k => k = L.cur) w2 w3)
    (ho4 : w4.ownsRow 0 tOp 4 (.slice (some ⟨g, 0, none⟩) (S.pend.length + 1) cap) (S.pend.length + 1) (opsCells L.blk S.pend ++ opCells L.blk o))
    (hg4 : (w3.alloc ob).drew.grownBy w4 L.pend.ownBlock) (hat : L.pend.ownBlock = some g ∨ g = (w3.alloc ob).drew.heap.size)
    (hd6 : w6.heap[d]? = some (.cells (diskCells L.cur L.dur (.slice (some ⟨g, 0, none⟩) (S.pend.length + 1) cap) S.lim (doneLeft S.lim L.left)) tDisk (0, 0)))
    (hf6 : Fr (fun k => k = d) (w4.setCell ⟨d, 2, none⟩ v0) w6) :
    Rep w6 (grow F w w6) d { L with pend := .slice (some ⟨g, 0, none⟩) (S.pend.length + 1) cap, left := doneLeft S.lim L.left } (pDone (pDir S o)) X ∧ Fr F w w6 := by
  have fA : Fr (fun k => k = d) w4 w6 := (Fr.setCell (F := fun k => k = d) (Fr.refl _ w4) (p := ⟨d, 2, none⟩) (.inl rfl) v0).trans hf6 (fun _ => .inl)
  have fB : Fr (fun k => k = d ∨ L.pend.ownBlock = some k) w3 w6 :=
    ((((Fr.refl _ w3).alloc ob).drew).grown hg4 (fun k hk => .inl (.inr hk))).trans fA (fun k hk => .inl (.inl hk))
  have fC : Fr (fun k => k = d ∨ k = L.cur ∨ L.pend.ownBlock = some k) w2 w6 :=
    (hf3.mono (F' := fun k => k = d ∨ k = L.cur ∨ L.pend.ownBlock = some k) (fun k hk => .inl (.inr (.inl hk)))).trans fB (fun k hk => by rcases hk with hk | hk; exact .inl (.inl hk); exact .inl (.inr (.inr hk)))
  have fF : Fr F w w6 := hF2.trans fC (fun k hk => by
    rcases hk with rfl | rfl | hk
    · exact .inl hR2.inD
    · exact .inl hR2.inC
    · exact .inl (hR2.inP k hk))
  have stay : ∀ k, k < w2.heap.size → k ≠ d → k ≠ L.cur → L.pend.ownBlock ≠ some k → w6.heap[k]? = w2.heap[k]? := fun k hk h1 h2 h3 => fC.block k hk (fun h => by rcases h with h | h | h; exact h1 h; exact h2 h; exact h3 h)
  have hge : g < w6.heap.size := by
    have := ownBlock_lt ho4 (k := g) rfl
    have := fA.size
    omega
  have hgw : F g ∨ w.heap.size ≤ g := by
    rcases hat with h | h
    · exact .inl (hR2.inP g h)
    · have h1 := hF2.size
      have h2 := hf3.size
      have h3 : (w3.alloc ob).drew.heap.size = w3.heap.size + 1 := by simp
      exact .inr (by omega)
  have inG : ∀ k, F k → k < w2.heap.size → grow F w w6 k := fun k hk hlt => .inl ⟨hk, by have := fC.size; omega⟩
  refine ⟨?_, fF⟩
  exact
    { disk := hd6
      left := fun h => by
        have h1 := hR2.left h
        show doneLeft S.lim L.left = doneLeft S.lim S.left
        rw [h1]
      cur := ownDir_move hc (fB.block _ hc.lt (fun h => by
        rcases h with h | h
        · exact hR2.d_ne_cur h.symm
        · exact hR2.cur_ne_pend h.symm))
      dur := ownDir_move hR2.dur (stay _ hR2.dur.lt (fun h => hR2.d_ne_dur h.symm) (fun h => hR2.ne h.symm) (fun h => hR2.dur_ne_pend h.symm))
      ne := hR2.ne
      pend := by
        have e1 : opsCells L.blk (S.pend ++ [o]) = opsCells L.blk S.pend ++ opCells L.blk o := by simp [opsCells]
        show w6.ownsRow 0 tOp 4 _ (S.pend ++ [o]).length (opsCells L.blk (S.pend ++ [o]))
        rw [e1, List.length_append, List.length_singleton]
        refine own_move ho4 (fun k hk => fA.block k (ownBlock_lt ho4 hk) (fun h => ?_))
        subst h
        obtain ⟨c, hc'⟩ := own_typed ho4 k hk
        have hd4 : w4.heap[k]? = w2.heap[k]? := by
          have h1 := hg4.block k (by have := lt_blk hR2.disk; have := hf3.size; simp; omega) hR2.d_ne_pend
          have h2 : (w3.alloc ob).heap[k]? = w3.heap[k]? := Below.heap_alloc w3 ob k (by have := lt_blk hR2.disk; have := hf3.size; omega)
          exact h1.trans (h2.trans (hf3.block k (lt_blk hR2.disk) hR2.d_ne_cur))
        exact cells_ne_type (hd4.trans hR2.disk) hc' (by decide) rfl
      live := fun i hi => by
        rcases live_pDir hi with h | ⟨h1, rfl⟩
        · exact hR2.live i h
        · exact hX h1
      file := fun i hi => (stay _ (lt_blk (hR2.file i hi)) (fun h => hR2.d_ne_blk hi h.symm) (fun h => hR2.cur_ne_blk hi h.symm) (fun h => hR2.blk_ne_pend hi h.symm)).trans (hR2.file i hi)
      data := fun i hi => own_move (hR2.data i hi) (fun k hk => stay k (ownBlock_lt (hR2.data i hi) hk) (fun h => hR2.d_ne_data hi (by rw [hk, h])) (fun h => hR2.cur_ne_data hi (by rw [hk, h])) (fun h => hR2.pend_ne_data hi h hk))
      inj := hR2.inj
      apart := hR2.apart
      inD := inG _ hR2.inD (lt_blk hR2.disk)
      inC := inG _ hR2.inC hR2.cur.lt
      inU := inG _ hR2.inU hR2.dur.lt
      inP := fun k hk => by
        have : g = k := by simpa [Value.ownBlock] using hk
        subst this
        rcases hgw with h | h
        · exact .inl ⟨h, hge⟩
        · exact .inr ⟨h, hge⟩
      inB := fun i hi => inG _ (hR2.inB i hi) (lt_blk (hR2.file i hi))
      inV := fun i hi k hk => inG _ (hR2.inV i hi k hk) (ownBlock_lt (hR2.data i hi) hk) }

set_option maxHeartbeats 4000000 in
set_option maxRecDepth 100000 in
theorem change_calls (w : World) (F : Nat → Prop) (d : Nat) (L : Lay) (S : PS) (X : Int → Prop) (o : Opn) (h : Rep w F d L S X) (hX : o.f0 = 1 → X o.f3) (ho : OpnOk o) (hl : S.dir.length ≤ 1099511627776) (hp : S.pend.length ≤ 1099511627776)
    (h0 : S.lim = true → 0 < S.left ∧ S.left ≤ 9223372036854775807) :
    Calls Tryz.prog 88 #[.pointer (some ⟨d, 0, none⟩), .agg (opCells L.blk o).toArray] w fun e w' => e = .returned (.int .i64 0) ∧
      ∃ L', L'.blk = L.blk ∧ L'.data = L.data ∧ Rep w' (grow F w w') d L' (pDone (pDir S o)) X ∧ Fr F w w' := by
  have H := Lib.hid h
  have c0 := cell_blk h.disk 0
  have c2 := cell_blk h.disk 2
  simp [diskCells] at c0 c2
  obtain ⟨i0, hi, hz0, hz1, hz2⟩ := info_parts infoO
  have HI := Lib.hid hi
  have HZ0 := Lib.hid hz0
  have HZ1 := Lib.hid hz1
  have HZ2 := Lib.hid hz2
  have HX := Lib.hid hX
  have HO := Lib.hid ho
  have HL := Lib.hid hl
  have HP := Lib.hid hp
  have H0 := Lib.hid h0
  clear hi hz0 hz1 hz2 h hX ho hl hp h0
  unfold opCells
  go_enter Tryz.func88, Tryz.ntmps88
  go_wp2
  have hfr1 : Fr F w (w.alloc (.cells #[.int .i64 (o.f0 - 1), .string (opFrom o), .string (opTo o), opPtr L.blk o] tOp)) := (Fr.refl F w).alloc _
  have hB1 := heap_alloc_new w (.cells #[.int .i64 (o.f0 - 1), .string (opFrom o), .string (opTo o), opPtr L.blk o] tOp)
  have hR1 := H.out.alloc (.cells #[.int .i64 (o.f0 - 1), .string (opFrom o), .string (opTo o), opPtr L.blk o] tOp)
  generalize (w.alloc (.cells #[.int .i64 (o.f0 - 1), .string (opFrom o), .string (opTo o), opPtr L.blk o] tOp)) = w1 at hfr1 hB1 hR1 ⊢
  obtain ⟨B, hB⟩ : ∃ B, B = w.heap.size := ⟨_, rfl⟩
  rw [← hB] at hB1 ⊢
  have HB := Lib.hid hB
  have HF1 := Lib.hid hfr1
  clear hB hfr1
  refine region_tail 5 (by kernel_rfl) (by kernel_rfl) ?_
  intro w2 hd2
  have hR2 := Lib.hid (hR1.drawn hd2)
  have hB2 : w2.heap[B]? = some (.cells #[.int .i64 (o.f0 - 1), .string (opFrom o), .string (opTo o), opPtr L.blk o] tOp (0, 0)) := by obtain ⟨m, rfl⟩ := hd2.out; exact hB1
  have HF2 := Lib.hid (HF1.out.drawn hd2)
  have HB2 := Lib.hid hB2
  have b0 := cell_blk hB2 0
  have b1 := cell_blk hB2 1
  have b2 := cell_blk hB2 2
  have b3 := cell_blk hB2 3
  have c0 := cell_blk hR2.out.disk 0
  simp [diskCells] at b0 b1 b2 b3 c0
  clear hB1 hR1 hd2 hB2 HF1 c2
  simp only [List.take_succ_cons, List.take_zero, List.drop_succ_cons, List.drop_zero]
  repeat still_step
  refine wpStill_nil ?_
  go_wp2_with (first | (go_at_call 72; refine (apply_calls _ _ L.blk S.dir o hR2.out.cur HO.out HL.out).mono ?_; rintro e w3 ⟨rfl, hc, hf⟩) | fail)
  have HC := Lib.hid hc
  have HF3 := Lib.hid hf
  have hpe : w3.ownsRow 0 tOp 4 L.pend S.pend.length (opsCells L.blk S.pend) := own_move hR2.out.pend (fun k hk => hf.block k (ownBlock_lt hR2.out.pend hk) (fun e => hR2.out.cur_ne_pend (by rw [hk, e])))
  have hB3 : w3.heap[B]? = some (.cells #[.int .i64 (o.f0 - 1), .string (opFrom o), .string (opTo o), opPtr L.blk o] tOp (0, 0)) := (hf.block B (lt_blk HB2.out) (fun e => by obtain ⟨_, _, hb, _⟩ := hR2.out.cur; exact cells_ne_map HB2.out hb e)).trans HB2.out
  have hd3 : w3.heap[d]? = some (.cells (diskCells L.cur L.dur L.pend S.lim L.left) tDisk (0, 0)) := (hf.block d (lt_blk hR2.out.disk) (fun e => hR2.out.d_ne_cur e)).trans hR2.out.disk
  have HD3 := Lib.hid hd3
  have hbd : B ≠ d := cells_ne_type hB3 hd3 (by decide)
  clear hc hf b0 b1 b2 b3 c0
  have b0 := cell_blk hB3 0
  have b1 := cell_blk hB3 1
  have b2 := cell_blk hB3 2
  have b3 := cell_blk hB3 3
  have c2 := cell_blk hd3 2
  have f2 := frozen_blk hd3 2
  simp [diskCells] at b0 b1 b2 b3 c2
  clear hB3 hd3
  have hdp := hR2.out.d_ne_pend
  have ca2 : ∀ o : Obj, (w3.alloc o).cell? ⟨d, 2, none⟩ = some L.pend := fun o => (World.cell?_of_block (w := w3) (Below.heap_alloc w3 o d (lt_blk HD3.out))).trans c2
  have hone : ∀ u ∈ [.int .i64 (o.f0 - 1), .string (opFrom o), .string (opTo o), opPtr L.blk o], u.oneCell' = true := by
    intro u hu
    simp only [List.mem_cons, List.mem_nil_iff, or_false] at hu
    rcases hu with rfl | rfl | rfl | rfl
    · rfl
    · rfl
    · rfl
    · unfold opPtr; split <;> rfl
  go_region_law (refine step_append_lies _ rfl _ _ 69 rfl 0 tOp i0 _ 4 48 Tryz.underlying69 HI.out HZ0.out HZ1.out HZ2.out rfl (by decide) _ _ _ rfl (hpe.drew.alloc _) ⟨w3.heap.size, 0, none⟩ 1 1 [.int .i64 (o.f0 - 1), .string (opFrom o), .string (opTo o), opPtr L.blk o] rfl rfl (World.news_of_block (heap_alloc_new _ _)) hone (by decide) (by have := HP.out; unfold maxLen; omega) (by have := HP.out; omega) (Nat.zero_le _) _ rfl ?_; intro g cap w4 ho4 hg4 hat4 hlt4; have hd4 := (hg4.block d (by have := lt_blk HD3.out; simp; omega) hdp).trans ((Below.heap_alloc w3 _ d (lt_blk HD3.out)).trans HD3.out); have c24 := cell_blk hd4 2; have f24 := frozen_blk hd4 2; simp [diskCells] at c24; have HD4 := Lib.hid hd4; have HO4 := Lib.hid ho4; have HG4 := Lib.hid hg4; have HA4 := Lib.hid hat4; clear hd4 ho4 hg4 hat4 hlt4)
  all_goals
    have hd5 : (w4.setCell ⟨d, 2, none⟩ (.slice (some ⟨g, 0, none⟩) (S.pend.length + 1) cap)).heap[d]? = some (.cells (diskCells L.cur L.dur (.slice (some ⟨g, 0, none⟩) (S.pend.length + 1) cap) S.lim L.left) tDisk (0, 0)) := blk_set HD4.out 2 _
    have HD5 := Lib.hid hd5
    clear hd5
    go_wp2_with (first | (go_at_call 90; refine (done_calls _ d L.cur L.dur _ S.lim L.left HD5.out (fun hl => by have h1 := H0.out hl; have h2 := H.out.left hl; omega)).mono ?_; rintro e w6 ⟨rfl, hd6, hf6⟩) | fail)
    have HD6 := Lib.hid hd6
    have HF6 := Lib.hid hf6
    clear hd6 hf6
    go_ret
    obtain ⟨q1, q2⟩ := change_close HX.out HF2.out hR2.out HC.out HF3.out HO4.out HG4.out (by exact HA4.out) HD6.out HF6.out
    exact ⟨rfl, { L with pend := .slice (some ⟨g, 0, none⟩) (S.pend.length + 1) cap, left := doneLeft S.lim L.left }, rfl, rfl, q1, q2⟩
end Go.Proofs.YtehhafnjbkbmjaaGreat.Disk
