import Derived.Test.YtehhafnjbkbmjaaGreatY9
import Derived.Deep.RegionHeld3
import Derived.Test.YtehhafnjbkbmjaaGreatRows
import Derived.Test.YtehhafnjbkbmjaaGreatY4
import Derived.WalkKit
import Derived.ProofKit
import Derived.OpenShut
import Derived.ShutString
import Derived.ChangeOld
import Derived.Below
import Derived.SizedLaws
import Derived.Carry
/- The law ObjstoreSequence: what light says, and what is read of a row of operations. -/
namespace Go.Proofs.YtehhafnjbkbmjaaGreat.Disk
open Go Go.RowKit Go.Proofs.YtehhafnjbkbmjaaGreatW.PrintWords Go.Proofs.YtehhafnjbkbmjaaGreatW.PrintLast Go.Proofs.YtehhafnjbkbmjaaGreatW.PrintMore Go.Proofs.YtehhafnjbkbmjaaGreat.PCommitlogSequence
open Go.ChangeShapes Go.WideShapes Go.Deep
abbrev OOp := Go.Proofs.YtehhafnjbkbmjaaGreat.PObjstoreSequence.S39
abbrev kOOp : Kd OOp := Go.Proofs.YtehhafnjbkbmjaaGreat.PObjstoreSequence.k39
abbrev Cf2 := Go.Proofs.YtehhafnjbkbmjaaGreat.PObjstoreSequence.S62
abbrev kCf2 : Kd Cf2 := Go.Proofs.YtehhafnjbkbmjaaGreat.PObjstoreSequence.k62
def cfOf (x : Cf2) : Cf := ⟨x.f0, x.f1⟩
theorem C_cf {w : World} {A : Option Addr} {n : Nat} {xs : List Cf2} (h : Kd.C kCf2 w A n xs) : Kd.C kCf w A n (xs.map cfOf) := by
  obtain ⟨h1, h2, h3⟩ := h
  refine ⟨by rw [List.length_map]; exact h1, h2, fun h0 => ?_⟩
  obtain ⟨ad, hA, hc⟩ := h3 h0
  refine ⟨ad, hA, fun j p hp => ?_⟩
  rw [List.getElem?_map] at hp
  cases e : xs[j]? with
  | none => rw [e] at hp; cases hp
  | some x =>
    rw [e] at hp
    cases hp
    obtain ⟨c, hs, hK, hcell⟩ := hc j x e
    refine ⟨c, hs, ?_, hcell⟩
    rw [Go.Proofs.YtehhafnjbkbmjaaGreat.PObjstoreSequence.k62_open hK]
    exact k62_mk w (cfOf x)
theorem Rd.cf {w : World} {ok : Nat → Prop} {A : Option Addr} {c : Nat} {xs : List Cf2} (h : Rd kCf2 w ok A c xs) : Rd kCf w ok A c (xs.map cfOf) :=
  ⟨by rw [List.length_map]; exact h.le, by rw [List.length_map]; exact fun W' hW => C_cf (h.f W' hW)⟩
def lightM (y : ByteArray) : Bool := decide (y.size ≤ 200)
def lightP (x : OOp) : Bool := decide (x.f3.length ≤ 200) && (decide (x.f2.length ≤ 10) && (decide (x.f5.length ≤ 20) && (decide (x.f1.size ≤ 200) && x.f2.all lightM)))
def lightS (l : List OOp) : Bool := l.all lightP && decide (l.length ≤ 30)
structure LightOO (x : OOp) : Prop where
  bs : x.f3.length ≤ 200
  ns : x.f2.length ≤ 10
  nm : x.f1.size ≤ 200
structure WfOO (x : OOp) : Prop where
  bs : ∀ y ∈ x.f3, 0 ≤ y ∧ y ≤ 255
  n : x.f4 ≤ 9223372036854775807
theorem light21_at {l : List OOp} (h : lightS l = true) : l.length ≤ 30 ∧ ∀ x ∈ l, LightOO x := by
  unfold lightS at h
  simp only [Bool.and_eq_true, decide_eq_true_eq, List.all_eq_true] at h
  refine ⟨h.2, fun x hx => ?_⟩
  have := h.1 x hx
  unfold lightP at this
  simp only [Bool.and_eq_true, decide_eq_true_eq] at this
  exact ⟨this.1, this.2.1, this.2.2.2.1⟩
theorem inner21_ex (l : List OOp) (i : Nat) (hi : i < l.length) (h10 : l[i].f2.length ≤ 10) (h63 : l.length ≤ 9223372036854775807) (r : Bool) (K : Nat) (hK : Go.Proofs.YtehhafnjbkbmjaaGreat.PObjstoreSequence.laminalaw21_light.l0 K l ((i + 1 : Nat) : Int) = some r) :
    ∀ (d c : Nat), l[i].f2.length - c = d → c ≤ l[i].f2.length → ∃ k, Go.Proofs.YtehhafnjbkbmjaaGreat.PObjstoreSequence.laminalaw21_light.l1 k l (i : Int) (c : Int) = some ((l[i].f2.drop c).all lightM && r) := by
  have e : Go.Proofs.YtehhafnjbkbmjaaGreat.PObjstoreSequence.rd_T39 l (i : Int) = l[i] := by simp [Go.Proofs.YtehhafnjbkbmjaaGreat.PObjstoreSequence.rd_T39, List.getD, hi]
  intro d
  induction d with
  | zero =>
    intro c hd hc
    obtain rfl : c = l[i].f2.length := by omega
    refine ⟨K + 1, ?_⟩
    simp only [Go.Proofs.YtehhafnjbkbmjaaGreat.PObjstoreSequence.laminalaw21_light.l1]
    rw [if_pos (by omega), if_pos (by omega), e, if_neg (by omega), show wrap64 ((i : Int) + 1) = ((i + 1 : Nat) : Int) by unfold wrap64; omega, hK, List.drop_length]
    simp
  | succ d ih =>
    intro c hd hc
    obtain ⟨k, hk⟩ := ih (c + 1) (by omega) (by omega)
    have hc' : c < l[i].f2.length := by omega
    refine ⟨k + 1, ?_⟩
    have e2 : rdOf ByteArray.empty l[i].f2 (c : Int) = l[i].f2[c] := by simp [rdOf, List.getD, hc']
    simp only [Go.Proofs.YtehhafnjbkbmjaaGreat.PObjstoreSequence.laminalaw21_light.l1]
    rw [if_pos (by omega), if_pos (by omega), e, if_pos (by omega), if_pos (by omega), e2, show wrap64 ((c : Int) + 1) = ((c + 1 : Nat) : Int) by unfold wrap64; omega, hk, dropE l[i].f2 c hc', List.all_cons]
    unfold lightM
    by_cases hx : l[i].f2[c].size ≤ 200
    · rw [if_neg (by omega)]
      simp [hx]
    · rw [if_pos (by omega)]
      simp [hx]
theorem outer21_ex (l : List OOp) (h63 : l.length ≤ 9223372036854775807) : ∀ (d i : Nat), l.length - i = d → i ≤ l.length → ∃ k, Go.Proofs.YtehhafnjbkbmjaaGreat.PObjstoreSequence.laminalaw21_light.l0 k l (i : Int) = some ((l.drop i).all lightP && decide (l.length ≤ 30)) := by
  intro d
  induction d with
  | zero =>
    intro i hd hi
    obtain rfl : i = l.length := by omega
    refine ⟨1, ?_⟩
    simp only [Go.Proofs.YtehhafnjbkbmjaaGreat.PObjstoreSequence.laminalaw21_light.l0]
    rw [if_neg (by omega), List.drop_length]
    simp
    omega
  | succ d ih =>
    intro i hd hi
    have hi' : i < l.length := by omega
    obtain ⟨K, hK⟩ := ih (i + 1) (by omega) (by omega)
    have e : Go.Proofs.YtehhafnjbkbmjaaGreat.PObjstoreSequence.rd_T39 l (i : Int) = l[i] := by simp [Go.Proofs.YtehhafnjbkbmjaaGreat.PObjstoreSequence.rd_T39, List.getD, hi']
    rw [dropE l i hi', List.all_cons]
    by_cases h1 : l[i].f3.length ≤ 200
    case neg =>
      refine ⟨2, ?_⟩
      simp only [Go.Proofs.YtehhafnjbkbmjaaGreat.PObjstoreSequence.laminalaw21_light.l0, Go.Proofs.YtehhafnjbkbmjaaGreat.PObjstoreSequence.laminalaw21_light.j1]
      rw [if_pos (by omega), if_pos (by omega), e, if_pos (by omega)]
      simp [lightP, h1]
    by_cases h2 : l[i].f2.length ≤ 10
    case neg =>
      refine ⟨2, ?_⟩
      simp only [Go.Proofs.YtehhafnjbkbmjaaGreat.PObjstoreSequence.laminalaw21_light.l0, Go.Proofs.YtehhafnjbkbmjaaGreat.PObjstoreSequence.laminalaw21_light.j1]
      rw [if_pos (by omega), if_pos (by omega), e, if_neg (by omega), if_pos (by omega)]
      simp [lightP, h2]
    by_cases h3 : l[i].f5.length ≤ 20
    case neg =>
      refine ⟨2, ?_⟩
      simp only [Go.Proofs.YtehhafnjbkbmjaaGreat.PObjstoreSequence.laminalaw21_light.l0, Go.Proofs.YtehhafnjbkbmjaaGreat.PObjstoreSequence.laminalaw21_light.j1]
      rw [if_pos (by omega), if_pos (by omega), e, if_neg (by omega), if_neg (by omega), if_pos (by omega)]
      simp [lightP, h3]
    by_cases h4 : l[i].f1.size ≤ 200
    case neg =>
      refine ⟨2, ?_⟩
      simp only [Go.Proofs.YtehhafnjbkbmjaaGreat.PObjstoreSequence.laminalaw21_light.l0, Go.Proofs.YtehhafnjbkbmjaaGreat.PObjstoreSequence.laminalaw21_light.j1]
      rw [if_pos (by omega), if_pos (by omega), e, if_neg (by omega), if_neg (by omega), if_neg (by omega), if_pos (by simp; omega)]
      simp [lightP, h4]
    obtain ⟨k, hk⟩ := inner21_ex l i hi' h2 h63 _ K hK _ 0 rfl (Nat.zero_le _)
    refine ⟨k + 2, ?_⟩
    simp only [Go.Proofs.YtehhafnjbkbmjaaGreat.PObjstoreSequence.laminalaw21_light.l0, Go.Proofs.YtehhafnjbkbmjaaGreat.PObjstoreSequence.laminalaw21_light.j1]
    rw [if_pos (by omega), if_pos (by omega), e, if_neg (by omega), if_neg (by omega), if_neg (by omega), if_neg (by simp; omega)]
    rw [show (0 : Int) = ((0 : Nat) : Int) from rfl, hk]
    simp [lightP, h1, h2, h3, h4, Bool.and_assoc]
theorem light21_calls (w : World) (A : Option Addr) (c : Nat) (l : List OOp) (h : Kd.C kOOp w A l.length l) (hc : l.length ≤ c) :
    Calls Tryz.prog 5 #[.slice A l.length c] w fun e w' => e = .returned (.bool (lightS l)) ∧ Drawn0 w w' := by
  obtain ⟨k, hk⟩ := outer21_ex l h.2.1 _ 0 rfl (Nat.zero_le _)
  exact Go.Proofs.YtehhafnjbkbmjaaGreat.PObjstoreSequence.laminalaw21_light.calls k A c l (lightS l) w h hc hk
theorem heap_cf2 : Kd.Heap kCf2 := Kd.heap_iso _ (Kd.heap_pair (Kd.heap_int _) Kd.heap_bool)
theorem heap_oop : Kd.Heap kOOp := Kd.heap_iso _ (Kd.heap_pair (Kd.heap_int _) (Kd.heap_pair Kd.heap_string (Kd.heap_pair (Kd.heap_slice _ Kd.heap_string) (Kd.heap_pair (Kd.heap_slice _ (Kd.heap_int _)) (Kd.heap_pair (Kd.heap_int _) (Kd.heap_slice _ heap_cf2))))))
instance : Inhabited Cf2 := ⟨⟨0, false⟩⟩
instance : Inhabited OOp := ⟨⟨0, ⟨#[]⟩, [], [], 0, []⟩⟩
theorem opens_cf2 : Opens kCf2 62 (fun x => (Lit.int .i64 x.f0).wf = true) := fun _ _ _ _ cs _ h => by
  obtain ⟨hl, n, hf⟩ := struct_cells Tryz.underlying62 (by kernel_rfl) (by
    intro i f hf
    have hi := (Array.getElem?_eq_some_iff.1 hf).1
    match i, hi with
    | 0, _ => cases hf; exact ⟨rfl, by kernel_rfl⟩
    | 1, _ => cases hf; exact ⟨rfl, by kernel_rfl⟩) h
  match cs, hl with
  | [u0, u1], _ =>
    obtain ⟨y0, h0⟩ := hf 0 _ u0 rfl rfl
    obtain ⟨y1, h1⟩ := hf 1 _ u1 rfl rfl
    obtain ⟨a0, k0, w0⟩ := opens_int Tryz.underlying3 _ _ _ _ _ _ h0
    obtain ⟨a1, k1, _⟩ := opens_bool Tryz.underlying4 _ _ _ _ _ _ h1
    cases k0
    cases k1
    exact ⟨⟨a0, a1⟩, Go.Proofs.YtehhafnjbkbmjaaGreat.PObjstoreSequence.k62_mk _ ⟨a0, a1⟩, w0⟩
set_option maxRecDepth 100000 in
theorem opens_oop : Opens kOOp tOp21 WfOO := fun _ _ _ _ cs _ h => by
  obtain ⟨hl, n, hf⟩ := struct_cells Tryz.underlying39 (by kernel_rfl) (by
    intro i f hf
    have hi := (Array.getElem?_eq_some_iff.1 hf).1
    match i, hi with
    | 0, _ => cases hf; exact ⟨rfl, by kernel_rfl⟩
    | 1, _ => cases hf; exact ⟨rfl, by kernel_rfl⟩
    | 2, _ => cases hf; exact ⟨rfl, by kernel_rfl⟩
    | 3, _ => cases hf; exact ⟨rfl, by kernel_rfl⟩
    | 4, _ => cases hf; exact ⟨rfl, by kernel_rfl⟩
    | 5, _ => cases hf; exact ⟨rfl, by kernel_rfl⟩) h
  match cs, hl with
  | [u0, u1, u2, u3, u4, u5], _ =>
    obtain ⟨y0, h0⟩ := hf 0 _ u0 rfl rfl
    obtain ⟨y1, h1⟩ := hf 1 _ u1 rfl rfl
    obtain ⟨y2, h2⟩ := hf 2 _ u2 rfl rfl
    obtain ⟨y3, h3⟩ := hf 3 _ u3 rfl rfl
    obtain ⟨y4, h4⟩ := hf 4 _ u4 rfl rfl
    obtain ⟨y5, h5⟩ := hf 5 _ u5 rfl rfl
    obtain ⟨a0, k0, w0⟩ := opens_int Tryz.underlying3 _ _ _ _ _ _ h0
    obtain ⟨a1, k1, _⟩ := opens_string Tryz.underlying9 _ _ _ _ _ _ h1
    obtain ⟨a2, A2, c2, k2, l2, C2, _⟩ := opens_row (dd := Kd.string) Tryz.underlying35 (by kernel_rfl) (opens_string Tryz.underlying9) h2
    obtain ⟨a3, A3, c3, k3, l3, C3, w3⟩ := opens_row (dd := Kd.int .u8) Tryz.underlying36 (by kernel_rfl) (opens_int Tryz.underlying5) h3
    obtain ⟨a4, k4, w4⟩ := opens_int Tryz.underlying3 _ _ _ _ _ _ h4
    obtain ⟨a5, A5, c5, k5, l5, C5, _⟩ := opens_row (dd := kCf2) Tryz.underlying37 (by kernel_rfl) opens_cf2 h5
    cases k0
    cases k1
    cases k2
    cases k3
    cases k4
    cases k5
    exact ⟨⟨a0, a1, a2, a3, a4, a5⟩, Go.Proofs.YtehhafnjbkbmjaaGreat.PObjstoreSequence.k39_mk _ ⟨a0, a1, a2, a3, a4, a5⟩ l2 C2 l3 C3 l5 C5, fun y hy => bounds_u8 (w3 y hy), (bounds_i64 w4).2⟩
theorem ops21_row {H : Type} {enc : TypeId × Value → H} {W : World} {a : Option Addr} {len cap : Nat} {d : DataW H} {ps : List MemPlace} (h : DataW.Trod enc Tryz.prog W 0 (fun _ => true) true 22 (.slice a len cap) d ps) : ∃ l : List OOp, len = l.length ∧ l.length ≤ cap ∧ Kd.C kOOp W a l.length l ∧ ∀ x ∈ l, WfOO x := by
  obtain ⟨fuel, hf⟩ := h
  obtain ⟨l, A, c, he, hl, hC, hw⟩ := opens_row (dd := kOOp) Tryz.underlying22 (by kernel_rfl) opens_oop hf
  simp [Value.cells] at he
  obtain ⟨rfl, rfl, rfl⟩ := he
  exact ⟨l, rfl, hl, hC, hw⟩
theorem op21_cells {w : World} {ok : Nat → Prop} {A : Option Addr} {c : Nat} {l : List OOp} (h : Rd kOOp w ok A c l) (j : Nat) (hj : j < l.length) {x : OOp} (hx : x = l[j]) : ∃ ad A7 c7 A8 c8 A10 c10, A = some ad ∧ (w.cell? (ad.add (j * 6)) = some (.int .i64 x.f0) ∧ w.cell? ⟨(ad.add (j * 6)).block, (ad.add (j * 6)).off + 1, none⟩ = some (.string x.f1) ∧ w.cell? ⟨(ad.add (j * 6)).block, (ad.add (j * 6)).off + 2, none⟩ = some (.slice A7 x.f2.length c7) ∧ w.cell? ⟨(ad.add (j * 6)).block, (ad.add (j * 6)).off + 3, none⟩ = some (.slice A8 x.f3.length c8) ∧ w.cell? ⟨(ad.add (j * 6)).block, (ad.add (j * 6)).off + 4, none⟩ = some (.int .i64 x.f4) ∧ w.cell? ⟨(ad.add (j * 6)).block, (ad.add (j * 6)).off + 5, none⟩ = some (.slice A10 x.f5.length c10)) ∧ Rd kS w ok A7 c7 x.f2 ∧ Rd kB w ok A8 c8 x.f3 ∧ Rd kCf w ok A10 c10 (x.f5.map cfOf) := by
  obtain ⟨_, _, hn⟩ := Kd.F_rows h.f
  obtain ⟨ad, hA, hc⟩ := hn (by omega)
  obtain ⟨cs, hs, hfk, hcell⟩ := hc j l[j] (List.getElem?_eq_getElem hj)
  obtain ⟨A7, c7, A8, c8, A10, c10, rfl, h7, f7, h8, f8, h10, f10⟩ := Go.Proofs.YtehhafnjbkbmjaaGreat.PObjstoreSequence.k39_openF hfk
  have hs6 : kOOp.sz = 6 := rfl
  rw [hs6] at hcell
  subst hx
  exact ⟨ad, A7, c7, A8, c8, A10, c10, hA, ⟨hcell 0 _ rfl, by rw [← add_field _ _ 1 (by omega)]; exact hcell 1 _ rfl, by rw [← add_field _ _ 2 (by omega)]; exact hcell 2 _ rfl, by rw [← add_field _ _ 3 (by omega)]; exact hcell 3 _ rfl, by rw [← add_field _ _ 4 (by omega)]; exact hcell 4 _ rfl, by rw [← add_field _ _ 5 (by omega)]; exact hcell 5 _ rfl⟩, ⟨h7, f7⟩, ⟨h8, f8⟩, Rd.cf ⟨h10, f10⟩⟩
end Go.Proofs.YtehhafnjbkbmjaaGreat.Disk

/- The object store: one step, whatever the operation. -/
namespace Go.Proofs.YtehhafnjbkbmjaaGreat.Disk
open Go Go.RowKit Go.Proofs.YtehhafnjbkbmjaaGreatW.PrintWords Go.Proofs.YtehhafnjbkbmjaaGreatW.PrintLast Go.Proofs.YtehhafnjbkbmjaaGreatW.PrintMore Go.Proofs.YtehhafnjbkbmjaaGreat.PCommitlogSequence
def pStep21 (S : PS) (x : OOp) : PS :=
  if x.f0 = 0 then (pPut S x.f1 x.f3).1 else if x.f0 = 1 then (pDelete S x.f2).1 else if x.f0 = 2 then (pRemoveAll S (pTmps S)).1
  else if x.f0 = 3 then pFail S x.f4 else if x.f0 = 4 then pCrash S x.f4 (x.f5.map cfOf) else if x.f0 = 5 then (pAppend (pCreate S x.f1).1 x.f1 x.f3).1 else S
structure At21 (S : PS) (j : Nat) : Prop where
  snd : ∃ B, Sound S B ∧ B ≤ 25000 * j
  few : ∃ K, Few S K ∧ K ≤ 8 * j
theorem At21.new : At21 pNew 0 := ⟨⟨0, Sound.new, Nat.zero_le _⟩, ⟨0, Few.new, Nat.zero_le _⟩⟩
theorem At21.step {S : PS} {j : Nat} {x : OOp} (h : At21 S j) (hj : j < 30) (hl : LightOO x) (hw : WfOO x) : At21 (pStep21 S x) (j + 1) := by
  obtain ⟨B, hs, hB⟩ := h.snd
  obtain ⟨K, hK, hK1⟩ := h.few
  have h1 := hl.bs
  have h2 := hl.ns
  unfold pStep21
  split
  · exact ⟨⟨_, hs.put (m := 204) (by omega) (by omega) hw.bs, by omega⟩, ⟨_, hK.put, by omega⟩⟩
  split
  · exact ⟨⟨_, hs.delete, by omega⟩, ⟨_, hK.delete, by omega⟩⟩
  split
  · have h3 := tmps_length S
    have h4 := hK.dir
    exact ⟨⟨_, hs.removeAll, by omega⟩, ⟨_, hK.removeAll, by omega⟩⟩
  split
  · exact ⟨⟨_, hs.fail hw.n, by omega⟩, ⟨_, hK.fail, by omega⟩⟩
  split
  · exact ⟨⟨_, hs.crash, by omega⟩, ⟨_, hK.crash, by omega⟩⟩
  split
  · exact ⟨⟨_, hs.create.append_any h1 hw.bs, by omega⟩, ⟨_, hK.create.append, by omega⟩⟩
  · exact ⟨⟨_, hs, by omega⟩, ⟨_, hK, by omega⟩⟩
theorem step21_calls (w : World) (F ok : Nat → Prop) (d : Nat) (v : Value) (S : PS) (j : Nat) (x : OOp) (A7 : Option Addr) (c7 : Nat) (A8 : Option Addr) (c8 : Nat) (A10 : Option Addr) (c10 : Nat)
    (h : Pair w F ok d v S) (ha : At21 S j) (hj : j < 30) (hl : LightOO x) (hw : WfOO x) (h7 : Rd kS w ok A7 c7 x.f2) (h8 : Rd kB w ok A8 c8 x.f3) (h10 : Rd kCf w ok A10 c10 (x.f5.map cfOf)) :
    Calls Tryz.prog 9 #[.pointer (some ⟨d, 0, none⟩), v, .agg #[.int .i64 x.f0, .string x.f1, .slice A7 x.f2.length c7, .slice A8 x.f3.length c8, .int .i64 x.f4, .slice A10 x.f5.length c10]] w (Stepped w F ok d (pStep21 S x)) := by
  obtain ⟨⟨L, hrep⟩, ⟨a0, c0, a1, c1, a2, c2, a3, c3, rfl, hf⟩, hlt, hap⟩ := h
  obtain ⟨B, hs, hB0⟩ := ha.snd
  have h1 := hl.bs
  have h2 := hl.ns
  obtain ⟨k, n, ns, bs, nn, cs2⟩ := x
  replace h1 : bs.length ≤ 200 := h1
  replace h2 : ns.length ≤ 10 := h2
  have hlen : cs2.length = (cs2.map cfOf).length := by simp
  show Calls _ _ #[_, _, .agg #[.int .i64 k, .string n, .slice A7 ns.length c7, .slice A8 bs.length c8, .int .i64 nn, .slice A10 cs2.length c10]] _ _
  rw [hlen]
  obtain ⟨cs, hcs⟩ : ∃ cs, cs = cs2.map cfOf := ⟨_, rfl⟩
  replace h10 : Rd kCf w ok A10 c10 (cs2.map cfOf) := h10
  have e : pStep21 S ⟨k, n, ns, bs, nn, cs2⟩ = if k = 0 then (pPut S n bs).1 else if k = 1 then (pDelete S ns).1 else if k = 2 then (pRemoveAll S (pTmps S)).1
    else if k = 3 then pFail S nn else if k = 4 then pCrash S nn cs else if k = 5 then (pAppend (pCreate S n).1 n bs).1 else S := by rw [hcs]; rfl
  rw [e]
  rw [← hcs] at h10 ⊢
  clear e hcs hlen
  by_cases h0 : k = 0
  · subst h0; rw [if_pos rfl]; exact step21_put w F ok d L S B 2000 a0 c0 a1 c1 a2 c2 a3 c3 n A7 c7 ns A8 c8 bs nn A10 c10 cs hrep hf hs (by omega) (by omega) hlt hap (by omega) h8 hw.bs
  rw [if_neg h0]
  by_cases h1' : k = 1
  · subst h1'; rw [if_pos rfl]; exact step21_delete w F ok d L S B 2000 a0 c0 a1 c1 a2 c2 a3 c3 n A7 c7 ns A8 c8 bs nn A10 c10 cs hrep hf hs (by omega) (by omega) hlt hap (by omega) h7
  rw [if_neg h1']
  by_cases h2' : k = 2
  · subst h2'; rw [if_pos rfl]; exact step21_rmtmp w F ok d L S B 2000 a0 c0 a1 c1 a2 c2 a3 c3 n A7 c7 ns A8 c8 bs nn A10 c10 cs hrep hf hs (by omega) (by omega) hlt hap (by omega)
  rw [if_neg h2']
  by_cases h3 : k = 3
  · subst h3; rw [if_pos rfl]; exact step21_fail w F ok d L S B a0 c0 a1 c1 a2 c2 a3 c3 n A7 c7 ns A8 c8 bs nn A10 c10 cs hrep hf hs hlt hap
  rw [if_neg h3]
  by_cases h4 : k = 4
  · subst h4; rw [if_pos rfl]; exact step21_crash w F ok d L S B a0 c0 a1 c1 a2 c2 a3 c3 n A7 c7 ns A8 c8 bs nn A10 c10 cs hrep hf hs hlt hap (by omega) h10
  rw [if_neg h4]
  by_cases h5 : k = 5
  · subst h5; rw [if_pos rfl]; exact step21_file w F ok d L S B a0 c0 a1 c1 a2 c2 a3 c3 n A7 c7 ns A8 c8 bs nn A10 c10 cs hrep hf hs (by omega) hlt hap h8 (by omega)
  rw [if_neg h5]
  exact step21_else w F ok d L S a0 c0 a1 c1 a2 c2 a3 c3 n k A7 c7 ns A8 c8 bs nn A10 c10 cs hrep hf hlt hap ⟨h0, h1', h2', h3, h4, h5⟩
end Go.Proofs.YtehhafnjbkbmjaaGreat.Disk

/- The object store: agree. -/
namespace Go.Proofs.YtehhafnjbkbmjaaGreat.Disk
open Go Go.RowKit Go.Proofs.YtehhafnjbkbmjaaGreatW.PrintWords Go.Proofs.YtehhafnjbkbmjaaGreatW.PrintLast Go.Proofs.YtehhafnjbkbmjaaGreatW.PrintMore Go.Proofs.YtehhafnjbkbmjaaGreat.PCommitlogSequence
theorem Get2_calls (w : World) (F : Nat → Prop) (d : Nat) (L : Lay) (S : PS) (B : Nat) (n : ByteArray) (h : Rep w F d L S (Live S)) (hg : Good S B) (hB : B ≤ 549755813888) :
    Calls Tryz.prog 17 #[.pointer (some ⟨d, 0, none⟩), .string n] w fun e w' => ∃ A c, e = .returned (.tuple #[.slice A (pGet S n).1.length c, .int .i64 (pGet S n).2]) ∧ Rd kB w' (fun k => w.heap.size ≤ k) A c (pGet S n).1 ∧ Below w.heap.size w w' :=
  (Get_calls w F d L S B n h hg hB).mono fun e w' ⟨v, q1, q2, q3⟩ => by
    obtain ⟨A, c, rfl, _⟩ := own_bytes q2
    exact ⟨A, c, q1, Rd.ofOwn q2, fr_below q3⟩
theorem List2_calls (w : World) (F : Nat → Prop) (d : Nat) (L : Lay) (S : PS) (B : Nat) (h : Rep w F d L S (Live S)) (hg : Good S B) (hB : B ≤ 549755813888) :
    Calls Tryz.prog 24 #[.pointer (some ⟨d, 0, none⟩)] w fun e w' => ∃ A c, e = .returned (.slice A (S.dir.map (·.f0)).length c) ∧ Rd kS w' (fun k => w.heap.size ≤ k) A c (S.dir.map (·.f0)) ∧ Below w.heap.size w w' :=
  (List_calls w F d L S B h hg hB).mono fun e w' hq => by
    obtain ⟨v, q1, q2, q3⟩ := hq
    rw [show S.dir.length = (S.dir.map (·.f0)).length by simp] at q2
    obtain ⟨A, c, rfl, hr⟩ := Rd.ofOwnS q2
    exact ⟨A, c, q1, hr, fr_below q3⟩
theorem objList2_calls (w : World) (F : Nat → Prop) (d : Nat) (L : Lay) (S : PS) (B : Nat) (h : Rep w F d L S (Live S)) (hg : Good S B) (hB : B ≤ 549755813888) :
    Calls Tryz.prog 18 #[.pointer (some ⟨d, 0, none⟩)] w fun e w' => ∃ A c, e = .returned (.slice A (pObjs S).length c) ∧ Rd kS w' (fun k => w.heap.size ≤ k) A c (pObjs S) ∧ Below w.heap.size w w' :=
  (objList_calls w F d L S B h hg hB).mono fun e w' hq => by
    obtain ⟨v, q1, q2, q3⟩ := hq
    obtain ⟨A, c, rfl, hr⟩ := Rd.ofOwnS q2
    exact ⟨A, c, q1, hr, fr_below q3⟩
end Go.Proofs.YtehhafnjbkbmjaaGreat.Disk

/- The object store: agree. -/
namespace Go.Proofs.YtehhafnjbkbmjaaGreat.Disk
open Go Go.RowKit Go.Proofs.YtehhafnjbkbmjaaGreatW.PrintWords Go.Proofs.YtehhafnjbkbmjaaGreatW.PrintLast Go.Proofs.YtehhafnjbkbmjaaGreatW.PrintMore Go.Proofs.YtehhafnjbkbmjaaGreat.PCommitlogSequence
set_option maxHeartbeats 8000000 in
set_option maxRecDepth 100000 in
theorem agree_calls (w : World) (F ok : Nat → Prop) (d : Nat) (v : Value) (S : PS) (B : Nat) (n : ByteArray) (h : Pair w F ok d v S) (hg : Good S B) (hB : B ≤ 549755813888) :
    Calls Tryz.prog 10 #[.pointer (some ⟨d, 0, none⟩), v, .string n] w fun e w' => e = .returned (.bool true) ∧ Below w.heap.size w w' := by
  obtain ⟨⟨L, hrep⟩, ⟨a0, c0, a1, c1, a2, c2, a3, c3, rfl, hf⟩, _, _⟩ := h
  obtain ⟨w1, hw1⟩ : ∃ w1, w1 = w.alloc (.cells (svC a0 c0 a1 c1 a2 c2 a3 c3 S) tState) := ⟨_, rfl⟩
  have R1 := Lib.hid (show RO w w1 ok a0 c0 a1 c1 a2 c2 a3 c3 S by rw [hw1]; exact RO.new hf)
  have HW1 := Lib.hid (show w1 = w.alloc (.cells #[.slice a0 S.files.length c0, .slice a1 S.dir.length c1, .slice a2 S.dur.length c2, .slice a3 S.pend.length c3, .bool S.lim, .int .i64 S.left] tState) from hw1)
  have HREP1 := Lib.hid (show Rep w1 F d L S (Live S) from hrep.below (by rw [hw1]; exact Below.of_alloc' w _))
  obtain ⟨q, hq⟩ : ∃ q, q = pGet S n := ⟨_, rfl⟩
  obtain ⟨bs, rc⟩ := q
  obtain ⟨ex, hex⟩ : ∃ ex, ex = pExists S n := ⟨_, rfl⟩
  obtain ⟨zs, hzs⟩ : ∃ zs, zs = pObjs S := ⟨_, rfl⟩
  obtain ⟨ns, hns⟩ : ∃ ns, ns = S.dir.map (·.f0) := ⟨_, rfl⟩
  obtain ⟨s, hs⟩ : ∃ s, s = strOfNums bs := ⟨_, rfl⟩
  have HNL := Lib.hid (show ns.length ≤ 549755813888 by rw [hns, List.length_map]; have := hg.nDir; omega)
  have HZL := Lib.hid (show zs.length ≤ 549755813888 by
    rw [hzs]
    refine Nat.le_trans (List.length_filter_le _ _) ?_
    unfold pDirNames
    rw [List.length_map]
    have := hg.nDir
    omega)
  have HSS := Lib.hid hs
  have CG := Lib.hid (Get2_calls w1 F d L S B n HREP1.out hg hB)
  rw [← hq] at CG
  have CRG := Lib.hid (fun W (hW : Below w1.heap.size w1 W) => refGet_calls W (OkO w ok) a0 c0 a1 c1 a2 c2 a3 c3 S B n (R1.out.below hW).rf hg hB)
  rw [← hq] at CRG
  have CE := Lib.hid (fun W (hW : Below w1.heap.size w1 W) => Exists_calls W F d L S B n (HREP1.out.below hW) hg hB)
  rw [← hex] at CE
  have CRE := Lib.hid (fun W (hW : Below w1.heap.size w1 W) => refExists_calls W (OkO w ok) a0 c0 a1 c1 a2 c2 a3 c3 S B n (R1.out.below hW).rf hg hB)
  rw [← hex] at CRE
  have CO := Lib.hid (fun W (hW : Below w1.heap.size w1 W) => objList2_calls W F d L S B (HREP1.out.below hW) hg hB)
  rw [← hzs] at CO
  have CRO := Lib.hid (fun W (hW : Below w1.heap.size w1 W) => refObjs_calls W (OkO w ok) a0 c0 a1 c1 a2 c2 a3 c3 S B (R1.out.below hW).rf hg hB)
  rw [← hzs] at CRO
  have CL := Lib.hid (fun W (hW : Below w1.heap.size w1 W) => List2_calls W F d L S B (HREP1.out.below hW) hg hB)
  rw [← hns] at CL
  have CRL := Lib.hid (fun W (hW : Below w1.heap.size w1 W) => refList_calls W (OkO w ok) a0 c0 a1 c1 a2 c2 a3 c3 S B (R1.out.below hW).rf hg hB)
  rw [← hns] at CRL
  obtain ⟨s0, s1, s2, s3, s4, s5⟩ := six_cells R1.out.b0
  clear hrep hf hw1 hq hex hzs hns hs hg
  go_enter Tryz.func10, Tryz.ntmps10
  go_upto_region 1 with (fail)
  rw [← HW1.out]
  go_upto_region 3 with (first
    | (go_at_call 17; (with_reducible refine CG.out.mono ?_); rintro e w2 ⟨A2, d2, rfl, hr, hb⟩; have V2 := Lib.hid hr; have HB2 := Lib.hid hb; clear hr hb s0 s1 s2 s3 s4 s5; obtain ⟨s0, s1, s2, s3, s4, s5⟩ := six_cells (R1.out.below HB2.out).b0)
    | (go_at_call 34; (with_reducible refine (CRG.out w2 HB2.out).mono ?_); rintro e w3 ⟨A3, d3, rfl, hr, hb⟩; have V3 := Lib.hid hr; have V23 := Lib.hid (V2.out.below hb); have HB3 := Lib.hid (HB2.out.trans (hb.mono HB2.out.size)); clear hr hb V2 s0 s1 s2 s3 s4 s5)
    | fail)
  have HH := Lib.hid (fun W (hW : Below w3.heap.size w3 W) => show (W.cell? ⟨w.heap.size, 0, none⟩ = some (.slice a0 S.files.length c0) ∧ W.cell? ⟨w.heap.size, 1, none⟩ = some (.slice a1 S.dir.length c1) ∧ W.cell? ⟨w.heap.size, 2, none⟩ = some (.slice a2 S.dur.length c2) ∧ W.cell? ⟨w.heap.size, 3, none⟩ = some (.slice a3 S.pend.length c3) ∧ W.cell? ⟨w.heap.size, 4, none⟩ = some (.bool S.lim) ∧ W.cell? ⟨w.heap.size, 5, none⟩ = some (.int .i64 S.left)) ∧ (convert 36 9 (.slice A2 bs.length d2)).run Tryz.prog W = .ok (.string s) W ∧ (convert 36 9 (.slice A3 bs.length d3)).run Tryz.prog W = .ok (.string s) W from
    ⟨six_cells ((R1.out.below HB3.out).below hW).b0, by rw [HSS.out]; exact str_run (V23.out.below hW), by rw [HSS.out]; exact str_run (V3.out.below hW)⟩)
  have HX := Lib.hid (fun W (hW : Below w3.heap.size w3 W) => HB3.out.trans (hW.mono HB3.out.size))
  have P0 := Lib.hid (HH.out w3.drew ((Below.refl _ w3).drew))
  have P4 := Lib.hid True.intro
  have P5 := Lib.hid True.intro
  have P6 := Lib.hid True.intro
  have P7 := Lib.hid True.intro
  have P8 := Lib.hid True.intro
  have P9 := Lib.hid True.intro
  have P10 := Lib.hid True.intro
  have P11 := Lib.hid True.intro
  go_region_held3 (fun w' => (w'.cell? ⟨w.heap.size, 0, none⟩ = some (.slice a0 S.files.length c0) ∧ w'.cell? ⟨w.heap.size, 1, none⟩ = some (.slice a1 S.dir.length c1) ∧ w'.cell? ⟨w.heap.size, 2, none⟩ = some (.slice a2 S.dur.length c2) ∧ w'.cell? ⟨w.heap.size, 3, none⟩ = some (.slice a3 S.pend.length c3) ∧ w'.cell? ⟨w.heap.size, 4, none⟩ = some (.bool S.lim) ∧ w'.cell? ⟨w.heap.size, 5, none⟩ = some (.int .i64 S.left)) ∧ (convert 36 9 (.slice A2 bs.length d2)).run Tryz.prog w' = .ok (.string s) w' ∧ (convert 36 9 (.slice A3 bs.length d3)).run Tryz.prog w' = .ok (.string s) w')
    (first | (with_reducible exact P0.out) | (with_reducible exact P4.out) | (with_reducible exact P5.out) | (with_reducible exact P6.out) | (with_reducible exact P7.out) | (with_reducible exact P8.out) | (with_reducible exact P9.out) | (with_reducible exact P10.out) | (with_reducible exact P11.out))
    (first
      | (go_at_call 36; have hz := V10.out; clear hz; (with_reducible refine (texts_calls w10 A9 d9 A10 d10 ns V910.out.now V910.out.le V10.out.now V10.out.le (Nat.le_trans HNL.out (by decide))).mono ?_); rintro e w11 ⟨rfl, hd⟩; have H11 := Lib.hid (H10.out.trans ((drawn0_below hd).mono H10.out.size)); have P11 := Lib.hid (HH.out w11 H11.out); clear hd)
      | (go_at_call 38; (with_reducible refine (CRL.out w9 (HX.out w9 H9.out)).mono ?_); rintro e w10 ⟨A10, d10, rfl, hr, hb⟩; have V10 := Lib.hid hr; have V910 := Lib.hid (V9.out.below hb); have H10 := Lib.hid (H9.out.trans (hb.mono H9.out.size)); have P10 := Lib.hid (HH.out w10 H10.out); clear hr hb)
      | (go_at_call 24; (with_reducible refine (CL.out w8 (HX.out w8 H8.out)).mono ?_); rintro e w9 ⟨A9, d9, rfl, hr, hb⟩; have V9 := Lib.hid hr; have H9 := Lib.hid (H8.out.trans (hb.mono H8.out.size)); have P9 := Lib.hid (HH.out w9 H9.out); clear hr hb)
      | (go_at_call 36; have hz := V7.out; clear hz; (with_reducible refine (texts_calls w7 A6 d6 A7 d7 zs V67.out.now V67.out.le V7.out.now V7.out.le (Nat.le_trans HZL.out (by decide))).mono ?_); rintro e w8 ⟨rfl, hd⟩; have H8 := Lib.hid (H7.out.trans ((drawn0_below hd).mono H7.out.size)); have P8 := Lib.hid (HH.out w8 H8.out); clear hd)
      | (go_at_call 37; (with_reducible refine (CRO.out w6 (HX.out w6 H6.out)).mono ?_); rintro e w7 ⟨A7, d7, rfl, hr, hb⟩; have V7 := Lib.hid hr; have V67 := Lib.hid (V6.out.below hb); have H7 := Lib.hid (H6.out.trans (hb.mono H6.out.size)); have P7 := Lib.hid (HH.out w7 H7.out); clear hr hb)
      | (go_at_call 18; (with_reducible refine (CO.out w5 (HX.out w5 H5.out)).mono ?_); rintro e w6 ⟨A6, d6, rfl, hr, hb⟩; have V6 := Lib.hid hr; have H6 := Lib.hid (H5.out.trans (hb.mono H5.out.size)); have P6 := Lib.hid (HH.out w6 H6.out); clear hr hb)
      | (go_at_call 35; (with_reducible refine (CRE.out w4 (HX.out w4 H4.out)).mono ?_); rintro e w5 ⟨rfl, hb⟩; have H5 := Lib.hid (H4.out.trans (hb.mono H4.out.size)); have P5 := Lib.hid (HH.out w5 H5.out); clear hb)
      | (go_at_call 22; (with_reducible refine (CE.out w3.drew (HX.out w3.drew ((Below.refl _ w3).drew))).mono ?_); rintro e w4 ⟨rfl, hf⟩; have hb : Below w3.heap.size w3 w4 := ((Below.refl _ w3).drew).trans (fr_below hf); have H4 := Lib.hid hb; have P4 := Lib.hid (HH.out w4 H4.out); clear hf hb))
  all_goals
    go_wp2_with fail
    go_ret
    exact ⟨rfl, (R1.out.bl.trans (HB3.out.mono R1.out.bl.size)).trans (H11.out.mono (Nat.le_trans R1.out.bl.size HB3.out.size))⟩
end Go.Proofs.YtehhafnjbkbmjaaGreat.Disk

/- The law ObjstoreSequence: the walk. -/
namespace Go.Proofs.YtehhafnjbkbmjaaGreat.Disk
open Go Go.RowKit Go.Proofs.YtehhafnjbkbmjaaGreatW.PrintWords Go.Proofs.YtehhafnjbkbmjaaGreatW.PrintLast Go.Proofs.YtehhafnjbkbmjaaGreatW.PrintMore Go.Proofs.YtehhafnjbkbmjaaGreat.PCommitlogSequence
def st21 (l : List OOp) (j : Nat) : PS := (l.take j).foldl pStep21 pNew
theorem st21_succ (l : List OOp) (j : Nat) (hj : j < l.length) : st21 l (j + 1) = pStep21 (st21 l j) l[j] := by
  unfold st21
  rw [List.take_succ_eq_append_getElem hj, List.foldl_append]
  rfl
theorem st21_at {l : List OOp} (hl : lightS l = true) (hw : ∀ x ∈ l, WfOO x) : ∀ j, j ≤ l.length → At21 (st21 l j) j := by
  intro j
  induction j with
  | zero => intro _; exact At21.new
  | succ j ih =>
    intro hj
    have hj' : j < l.length := by omega
    have hm : l[j] ∈ l := List.getElem_mem hj'
    rw [st21_succ l j hj']
    have h1 := light21_at hl
    exact (ih (by omega)).step (by omega) (h1.2 _ hm) (hw _ hm)
theorem drawn0_below2 {w w' : World} (h : Drawn0 w w') : Below w.heap.size w w' := fr_below ((Fr.refl (fun _ => False) w).drawn h)
theorem Pair.move {w w' : World} {F ok : Nat → Prop} {d : Nat} {v : Value} {S : PS} (h : Pair w F ok d v S) (hs : w.heap.size ≤ w'.heap.size) (hm : ∀ k, F k ∨ ok k → k < w.heap.size → w'.heap[k]? = w.heap[k]?) : Pair w' F ok d v S := by
  obtain ⟨⟨L, hr⟩, ⟨a0, c0, a1, c1, a2, c2, a3, c3, rfl, hf⟩, hlt, hap⟩ := h
  exact ⟨⟨L, hr.move (fun k hk hlt => hm k (.inl hk) hlt)⟩, ⟨a0, c0, a1, c1, a2, c2, a3, c3, rfl, hf.move (fun k hk hlt => hm k (.inr hk) hlt)⟩, fun k hk => Nat.lt_of_lt_of_le (hlt k hk) hs, hap⟩
theorem Pair.below {w w' : World} {F ok : Nat → Prop} {d : Nat} {v : Value} {S : PS} (h : Pair w F ok d v S) (hb : Below w.heap.size w w') : Pair w' F ok d v S := h.move hb.size (fun k _ hk => hb.block k hk)
theorem Pair.mono {w : World} {F ok ok' : Nat → Prop} {d : Nat} {v : Value} {S : PS} (h : Pair w F ok d v S) (hok : ∀ k, ok k → k < w.heap.size → ok' k) (hap : ∀ k, ok' k → ¬ F k) : Pair w F ok' d v S := by
  obtain ⟨hr, ⟨a0, c0, a1, c1, a2, c2, a3, c3, rfl, hf⟩, hlt, _⟩ := h
  exact ⟨hr, ⟨a0, c0, a1, c1, a2, c2, a3, c3, rfl, hf.mono hok⟩, hlt, hap⟩
set_option maxHeartbeats 1000000 in
theorem refNew_calls (w : World) : Calls Tryz.prog 8 #[] w fun e w' => e = .returned (sv none 0 none 0 none 0 none 0 pNew) ∧ Below w.heap.size w w' := by
  go_enter Tryz.func8, Tryz.ntmps8
  go_wp2
  exact bodyPost_ret (results_cell_row rfl _ _ w.heap.size tState zeroC (0, 0) _ rfl (heap_alloc_new w _) Tryz.underlying31 rfl (by kernel_rfl)) rfl ⟨rfl, below_alloc (Below.refl _ _) _⟩
theorem ref_new (w : World) : Ref w (fun _ => False) none 0 none 0 none 0 none 0 pNew := ⟨Rd.nil _ _ _, Rd.nil _ _ _, Rd.nil _ _ _, Rd.nil _ _ _⟩
theorem pair_new {w w1 w2 : World} {F : Nat → Prop} {d : Nat} {L : Lay} (h : Rep w1 F d L pNew (Live pNew)) (hc : Chg w (fun _ => False) w1 F) (hb : Below w1.heap.size w1 w2) : Pair w2 F (fun _ => False) d (sv none 0 none 0 none 0 none 0 pNew) pNew :=
  ⟨⟨L, h.below hb⟩, ⟨none, 0, none, 0, none, 0, none, 0, rfl, ref_new _⟩, fun k hk => Nat.lt_of_lt_of_le (hc.lt k hk) hb.size, fun _ hk => hk.elim⟩
theorem held21 {w W : World} {b : Nat} {ad : Addr} {A7 A8 A10 a0 a1 a2 a3 : Option Addr} {c7 c8 c10 c0 c1 c2 c3 j : Nat} {x : OOp} {Sj : PS} (ho : w.cell? (ad.add (j * 6)) = some (.int .i64 x.f0) ∧ w.cell? ⟨(ad.add (j * 6)).block, (ad.add (j * 6)).off + 1, none⟩ = some (.string x.f1) ∧ w.cell? ⟨(ad.add (j * 6)).block, (ad.add (j * 6)).off + 2, none⟩ = some (.slice A7 x.f2.length c7) ∧ w.cell? ⟨(ad.add (j * 6)).block, (ad.add (j * 6)).off + 3, none⟩ = some (.slice A8 x.f3.length c8) ∧ w.cell? ⟨(ad.add (j * 6)).block, (ad.add (j * 6)).off + 4, none⟩ = some (.int .i64 x.f4) ∧ w.cell? ⟨(ad.add (j * 6)).block, (ad.add (j * 6)).off + 5, none⟩ = some (.slice A10 x.f5.length c10)) (hb : Below w.heap.size w W) (hk : W.heap[b]? = some (.cells (svC a0 c0 a1 c1 a2 c2 a3 c3 Sj) tState (0, 0))) : (W.cell? ⟨b, 0, none⟩ = some (.slice a0 Sj.files.length c0) ∧ W.cell? ⟨b, 1, none⟩ = some (.slice a1 Sj.dir.length c1) ∧ W.cell? ⟨b, 2, none⟩ = some (.slice a2 Sj.dur.length c2) ∧ W.cell? ⟨b, 3, none⟩ = some (.slice a3 Sj.pend.length c3) ∧ W.cell? ⟨b, 4, none⟩ = some (.bool Sj.lim) ∧ W.cell? ⟨b, 5, none⟩ = some (.int .i64 Sj.left)) ∧ (W.cell? (ad.add (j * 6)) = some (.int .i64 x.f0) ∧ W.cell? ⟨(ad.add (j * 6)).block, (ad.add (j * 6)).off + 1, none⟩ = some (.string x.f1) ∧ W.cell? ⟨(ad.add (j * 6)).block, (ad.add (j * 6)).off + 2, none⟩ = some (.slice A7 x.f2.length c7) ∧ W.cell? ⟨(ad.add (j * 6)).block, (ad.add (j * 6)).off + 3, none⟩ = some (.slice A8 x.f3.length c8) ∧ W.cell? ⟨(ad.add (j * 6)).block, (ad.add (j * 6)).off + 4, none⟩ = some (.int .i64 x.f4) ∧ W.cell? ⟨(ad.add (j * 6)).block, (ad.add (j * 6)).off + 5, none⟩ = some (.slice A10 x.f5.length c10)) :=
  have t : ∀ {a : Addr} {v : Value}, w.cell? a = some v → W.cell? a = some v := fun h => (hb.cell (World.block_lt_of_cell? w _ h)).trans h
  ⟨six_cells hk, t ho.1, t ho.2.1, t ho.2.2.1, t ho.2.2.2.1, t ho.2.2.2.2.1, t ho.2.2.2.2.2⟩
theorem held21_set {w W : World} {b T : Nat} {ad : Addr} {A7 A8 A10 a0 a1 a2 a3 : Option Addr} {c7 c8 c10 c0 c1 c2 c3 j : Nat} {x : OOp} {Sj : PS} (ho : w.cell? (ad.add (j * 6)) = some (.int .i64 x.f0) ∧ w.cell? ⟨(ad.add (j * 6)).block, (ad.add (j * 6)).off + 1, none⟩ = some (.string x.f1) ∧ w.cell? ⟨(ad.add (j * 6)).block, (ad.add (j * 6)).off + 2, none⟩ = some (.slice A7 x.f2.length c7) ∧ w.cell? ⟨(ad.add (j * 6)).block, (ad.add (j * 6)).off + 3, none⟩ = some (.slice A8 x.f3.length c8) ∧ w.cell? ⟨(ad.add (j * 6)).block, (ad.add (j * 6)).off + 4, none⟩ = some (.int .i64 x.f4) ∧ w.cell? ⟨(ad.add (j * 6)).block, (ad.add (j * 6)).off + 5, none⟩ = some (.slice A10 x.f5.length c10)) (hb : Below w.heap.size w W) (hk : W.heap[b]? = some (.cells (svC a0 c0 a1 c1 a2 c2 a3 c3 Sj) tState (0, 0))) (hT : w.heap.size ≤ T) (hne : b ≠ T) (y0 y1 y2 y3 y4 y5 : Value) : (((((((W.setCell ⟨T, 0, none⟩ y0).setCell ⟨T, 1, none⟩ y1).setCell ⟨T, 2, none⟩ y2).setCell ⟨T, 3, none⟩ y3).setCell ⟨T, 4, none⟩ y4).setCell ⟨T, 5, none⟩ y5).cell? ⟨b, 0, none⟩ = some (.slice a0 Sj.files.length c0) ∧ ((((((W.setCell ⟨T, 0, none⟩ y0).setCell ⟨T, 1, none⟩ y1).setCell ⟨T, 2, none⟩ y2).setCell ⟨T, 3, none⟩ y3).setCell ⟨T, 4, none⟩ y4).setCell ⟨T, 5, none⟩ y5).cell? ⟨b, 1, none⟩ = some (.slice a1 Sj.dir.length c1) ∧ ((((((W.setCell ⟨T, 0, none⟩ y0).setCell ⟨T, 1, none⟩ y1).setCell ⟨T, 2, none⟩ y2).setCell ⟨T, 3, none⟩ y3).setCell ⟨T, 4, none⟩ y4).setCell ⟨T, 5, none⟩ y5).cell? ⟨b, 2, none⟩ = some (.slice a2 Sj.dur.length c2) ∧ ((((((W.setCell ⟨T, 0, none⟩ y0).setCell ⟨T, 1, none⟩ y1).setCell ⟨T, 2, none⟩ y2).setCell ⟨T, 3, none⟩ y3).setCell ⟨T, 4, none⟩ y4).setCell ⟨T, 5, none⟩ y5).cell? ⟨b, 3, none⟩ = some (.slice a3 Sj.pend.length c3) ∧ ((((((W.setCell ⟨T, 0, none⟩ y0).setCell ⟨T, 1, none⟩ y1).setCell ⟨T, 2, none⟩ y2).setCell ⟨T, 3, none⟩ y3).setCell ⟨T, 4, none⟩ y4).setCell ⟨T, 5, none⟩ y5).cell? ⟨b, 4, none⟩ = some (.bool Sj.lim) ∧ ((((((W.setCell ⟨T, 0, none⟩ y0).setCell ⟨T, 1, none⟩ y1).setCell ⟨T, 2, none⟩ y2).setCell ⟨T, 3, none⟩ y3).setCell ⟨T, 4, none⟩ y4).setCell ⟨T, 5, none⟩ y5).cell? ⟨b, 5, none⟩ = some (.int .i64 Sj.left)) ∧ (((((((W.setCell ⟨T, 0, none⟩ y0).setCell ⟨T, 1, none⟩ y1).setCell ⟨T, 2, none⟩ y2).setCell ⟨T, 3, none⟩ y3).setCell ⟨T, 4, none⟩ y4).setCell ⟨T, 5, none⟩ y5).cell? (ad.add (j * 6)) = some (.int .i64 x.f0) ∧ ((((((W.setCell ⟨T, 0, none⟩ y0).setCell ⟨T, 1, none⟩ y1).setCell ⟨T, 2, none⟩ y2).setCell ⟨T, 3, none⟩ y3).setCell ⟨T, 4, none⟩ y4).setCell ⟨T, 5, none⟩ y5).cell? ⟨(ad.add (j * 6)).block, (ad.add (j * 6)).off + 1, none⟩ = some (.string x.f1) ∧ ((((((W.setCell ⟨T, 0, none⟩ y0).setCell ⟨T, 1, none⟩ y1).setCell ⟨T, 2, none⟩ y2).setCell ⟨T, 3, none⟩ y3).setCell ⟨T, 4, none⟩ y4).setCell ⟨T, 5, none⟩ y5).cell? ⟨(ad.add (j * 6)).block, (ad.add (j * 6)).off + 2, none⟩ = some (.slice A7 x.f2.length c7) ∧ ((((((W.setCell ⟨T, 0, none⟩ y0).setCell ⟨T, 1, none⟩ y1).setCell ⟨T, 2, none⟩ y2).setCell ⟨T, 3, none⟩ y3).setCell ⟨T, 4, none⟩ y4).setCell ⟨T, 5, none⟩ y5).cell? ⟨(ad.add (j * 6)).block, (ad.add (j * 6)).off + 3, none⟩ = some (.slice A8 x.f3.length c8) ∧ ((((((W.setCell ⟨T, 0, none⟩ y0).setCell ⟨T, 1, none⟩ y1).setCell ⟨T, 2, none⟩ y2).setCell ⟨T, 3, none⟩ y3).setCell ⟨T, 4, none⟩ y4).setCell ⟨T, 5, none⟩ y5).cell? ⟨(ad.add (j * 6)).block, (ad.add (j * 6)).off + 4, none⟩ = some (.int .i64 x.f4) ∧ ((((((W.setCell ⟨T, 0, none⟩ y0).setCell ⟨T, 1, none⟩ y1).setCell ⟨T, 2, none⟩ y2).setCell ⟨T, 3, none⟩ y3).setCell ⟨T, 4, none⟩ y4).setCell ⟨T, 5, none⟩ y5).cell? ⟨(ad.add (j * 6)).block, (ad.add (j * 6)).off + 5, none⟩ = some (.slice A10 x.f5.length c10)) :=
  held21 ho (below_six hb hT y0 y1 y2 y3 y4 y5) (set_six_other hk hne y0 y1 y2 y3 y4 y5)
/-- Behind the step: its state lies in a block of its own. -/
def MidT (w : World) (d b : Nat) (S' : PS) (a v : Value) (w' : World) : Prop :=
  ∃ (T : Nat) (F ok : Nat → Prop) (b0 : Option Addr) (d0 : Nat) (b1 : Option Addr) (d1 : Nat) (b2 : Option Addr) (d2 : Nat) (b3 : Option Addr) (d3 : Nat) (x0 x1 x2 x3 x4 x5 : Value), a = .pointer (some ⟨T, 0, none⟩) ∧ v = .bool true ∧ w'.heap[T]? = some (.cells (svC b0 d0 b1 d1 b2 d2 b3 d3 S') tState (0, 0)) ∧ w'.heap[b]? = some (.cells #[x0, x1, x2, x3, x4, x5] tState (0, 0)) ∧
    Pair w' F ok d (sv b0 d0 b1 d1 b2 d2 b3 d3 S') S' ∧ Below w.heap.size w w' ∧ (∀ k, F k → w.heap.size ≤ k ∧ k ≠ b) ∧ (∀ k, ok k → k ≠ b ∧ k < w'.heap.size) ∧ ∀ k, k < w.heap.size → ok k
theorem mid_of {w wr wx w5 w6 : World} {S' : PS} {d b T : Nat} {F ok F' : Nat → Prop} {b0 : Option Addr} {d0 : Nat} {b1 : Option Addr} {d1 : Nat} {b2 : Option Addr} {d2 : Nat} {b3 : Option Addr} {d3 : Nat} {x0 x1 x2 x3 x4 x5 : Value}
    (hw : w.heap.size ≤ b) (hbw : Below w.heap.size w wr) (hbx : Below wr.heap.size wr wx) (hk : wr.heap[b]? = some (.cells #[x0, x1, x2, x3, x4, x5] tState (0, 0)))
    (hF : ∀ k, F k → w.heap.size ≤ k ∧ k ≠ b) (hok : ∀ k, ok k → k ≠ b ∧ k < wr.heap.size) (hold : ∀ k, k < w.heap.size → ok k) (hp : Pair w5 F' (okN ok wx F') d (sv b0 d0 b1 d1 b2 d2 b3 d3 S') S') (hc : Chg wx F w5 F')
    (hTn : wr.heap.size ≤ T) (hTF : ¬ F' T) (hTo : T < wx.heap.size ∨ w5.heap.size ≤ T)
    (hT : w6.heap[T]? = some (.cells (svC b0 d0 b1 d1 b2 d2 b3 d3 S') tState (0, 0))) (hfar : ∀ k, k < w5.heap.size → k ≠ T → w6.heap[k]? = w5.heap[k]?) (h56 : Below w.heap.size w5 w6) :
    MidT w d b S' (.pointer (some ⟨T, 0, none⟩)) (.bool true) w6 := by
  have l6 := lt_blk hk
  have sx := hbx.size
  have s5 : wx.heap.size ≤ w5.heap.size := hc.fr.size
  have s6 := h56.size
  have sw := hbw.size
  have e5 : w5.heap[b]? = some (.cells #[x0, x1, x2, x3, x4, x5] tState (0, 0)) := (hc.fr.block b (by omega) (fun e => (hF _ e).2 rfl)).trans ((hbx.block b l6).trans hk)
  have newF : ∀ k, F' k → w.heap.size ≤ k ∧ k ≠ b := fun k hk => by
    rcases hc.new k hk with h1 | h1
    · exact hF k h1
    · omega
  have bx5 : Below w.heap.size wx w5 := hc.fr.toBelow (by omega) (fun k hk => (hF k hk).1)
  refine ⟨T, F', fun k => okN ok wx F' k ∧ k < w5.heap.size, b0, d0, b1, d1, b2, d2, b3, d3, x0, x1, x2, x3, x4, x5, rfl, rfl, hT, (hfar b (by omega) (by omega)).trans e5, ?_, ((hbw.trans (hbx.mono hbw.size)).trans bx5).trans h56, newF, fun k hk => ⟨?_, ?_⟩, fun k hk => ⟨.inl ⟨hold k hk, by omega⟩, by omega⟩⟩
  · refine (hp.mono (ok' := fun k => okN ok wx F' k ∧ k < w5.heap.size) (fun k h1 h2 => ⟨h1, h2⟩) (fun k hk => hp.apart k hk.1)).move s6 (fun k hk hlt => hfar k hlt ?_)
    rintro rfl
    rcases hk with hk | hk
    · exact hTF hk
    · rcases hTo with h1 | h1
      · rcases hk.1 with h2 | h2
        · have := (hok _ h2.1).2; omega
        · have := h2.1; omega
      · have := hk.2; omega
  · rcases hk.1 with h | h
    · exact (hok k h.1).1
    · have := h.1; omega
  · have := hk.2; omega
theorem seq_next {w w6 w7 w8 : World} {S' : PS} {d b : Nat} {F ok : Nat → Prop} {b0 : Option Addr} {d0 : Nat} {b1 : Option Addr} {d1 : Nat} {b2 : Option Addr} {d2 : Nat} {b3 : Option Addr} {d3 : Nat} {x0 x1 x2 x3 x4 x5 : Value}
    (hw : w.heap.size ≤ b) (hk : w6.heap[b]? = some (.cells #[x0, x1, x2, x3, x4, x5] tState (0, 0))) (hp : Pair w6 F ok d (sv b0 d0 b1 d1 b2 d2 b3 d3 S') S') (hb : Below w.heap.size w w6) (hF : ∀ k, F k → w.heap.size ≤ k ∧ k ≠ b) (hok : ∀ k, ok k → k ≠ b ∧ k < w6.heap.size) (hb7 : Below w6.heap.size w6 w7)
    (h8 : w8 = ((((((w7.setCell ⟨b, 0, none⟩ (.slice b0 S'.files.length d0)).setCell ⟨b, 1, none⟩ (.slice b1 S'.dir.length d1)).setCell ⟨b, 2, none⟩ (.slice b2 S'.dur.length d2)).setCell ⟨b, 3, none⟩ (.slice b3 S'.pend.length d3)).setCell ⟨b, 4, none⟩ (.bool S'.lim)).setCell ⟨b, 5, none⟩ (.int .i64 S'.left))) :
    w8.heap[b]? = some (.cells (svC b0 d0 b1 d1 b2 d2 b3 d3 S') tState (0, 0)) ∧ Pair w8 F ok d (sv b0 d0 b1 d1 b2 d2 b3 d3 S') S' ∧ Below w.heap.size w w8 ∧ ∀ k, ok k → k ≠ b ∧ k < w8.heap.size := by
  have l6 := lt_blk hk
  have s7 := hb7.size
  have e7 : w7.heap[b]? = some (.cells #[x0, x1, x2, x3, x4, x5] tState (0, 0)) := (hb7.block b l6).trans hk
  have far : ∀ k, k ≠ b → w8.heap[k]? = w7.heap[k]? := fun k hk => by rw [h8, other_six hk]
  have hsz : w8.heap.size = w7.heap.size := by rw [h8]; simp [World.setCell]
  have b78 : Below w.heap.size w7 w8 := by
    rw [h8]
    exact below_six (Below.refl _ _) hw _ _ _ _ _ _
  refine ⟨?_, ?_, (hb.trans (hb7.mono hb.size)).trans b78, fun k hk => ⟨(hok k hk).1, by have := (hok k hk).2; omega⟩⟩
  · rw [h8]
    exact set_six _ _ _ _ _ _ e7
  · exact (hp.below hb7).move (by omega) (fun k hk _ => far k (by rcases hk with hk | hk; exact (hF k hk).2; exact (hok k hk).1))
theorem refV_of {w : World} {ok : Nat → Prop} {b0 : Option Addr} {d0 : Nat} {b1 : Option Addr} {d1 : Nat} {b2 : Option Addr} {d2 : Nat} {b3 : Option Addr} {d3 : Nat} {S : PS} (h : RefV w ok (sv b0 d0 b1 d1 b2 d2 b3 d3 S) S) : Ref w ok b0 d0 b1 d1 b2 d2 b3 d3 S := by
  obtain ⟨a0, c0, a1, c1, a2, c2, a3, c3, hv, hr⟩ := h
  cases hv
  exact hr
/-- The loop of the law. -/
def SeqRel21 (w : World) (l : List OOp) (d b : Nat) (i : Value) (wr : World) : Prop :=
  ∃ (j : Nat) (F ok : Nat → Prop) (a0 : Option Addr) (c0 : Nat) (a1 : Option Addr) (c1 : Nat) (a2 : Option Addr) (c2 : Nat) (a3 : Option Addr) (c3 : Nat), j ≤ l.length ∧ i = .int .i64 j ∧
    wr.heap[b]? = some (.cells (svC a0 c0 a1 c1 a2 c2 a3 c3 (st21 l j)) tState (0, 0)) ∧
    Pair wr F ok d (sv a0 c0 a1 c1 a2 c2 a3 c3 (st21 l j)) (st21 l j) ∧ Below w.heap.size w wr ∧ (∀ k, F k → w.heap.size ≤ k ∧ k ≠ b) ∧ (∀ k, ok k → k ≠ b ∧ k < wr.heap.size) ∧ ∀ k, k < w.heap.size → ok k
set_option maxHeartbeats 8000000 in
set_option maxRecDepth 100000 in
theorem objseq_walk (w : World) (A : Option Addr) (c : Nat) (l : List OOp) (h : Kd.C kOOp w A l.length l) (hc : l.length ≤ c) (hw : ∀ x ∈ l, WfOO x) (n : ByteArray) :
    Calls Tryz.prog 3 #[.slice A l.length c, .string n] w fun e w' => e = .returned (.bool true) ∧ Below w.heap.size w w' := by
  have HR := Lib.hid (Rd.ofC heap_oop h hc)
  have HW := Lib.hid hw
  clear h hc hw
  cases hl : lightS l with
  | false =>
    have HL := Lib.hid hl
    clear hl
    go_enter Tryz.func3, Tryz.ntmps3
    go_wp2_with (first | (go_at_call 5; refine (light21_calls _ A c l HR.out.now HR.out.le).mono ?_; rw [HL.out]; rintro e w1 ⟨rfl, hd⟩; have HB1 := Lib.hid (drawn0_below2 hd); clear hd) | (go_at_call 6; refine (lives_calls _).mono ?_; rintro e w2 ⟨rfl, hb⟩; have HB2 := Lib.hid hb; clear hb) | fail)
    go_ret
    exact ⟨rfl, HB1.out.trans (HB2.out.mono HB1.out.size)⟩
  | true =>
    have HL := Lib.hid hl
    clear hl
    by_cases hn : n.size ≤ 200
    case neg =>
      have hnb : decide ((200 : Int) < (n.size : Int)) = true := by simp; omega
      go_enter Tryz.func3, Tryz.ntmps3
      go_wp2_with (first | (go_at_call 5; refine (light21_calls _ A c l HR.out.now HR.out.le).mono ?_; rw [HL.out]; rintro e w1 ⟨rfl, hd⟩; have HB1 := Lib.hid (drawn0_below2 hd); clear hd) | (go_at_call 6; refine (lives_calls _).mono ?_; rintro e w2 ⟨rfl, hb⟩; have HB2 := Lib.hid hb; clear hb) | fail)
      go_ret
      exact ⟨rfl, HB1.out.trans (HB2.out.mono HB1.out.size)⟩
    case pos =>
      have hnb : decide ((200 : Int) < (n.size : Int)) = false := by simp; omega
      go_enter Tryz.func3, Tryz.ntmps3
      go_wp2_with (first | (go_at_call 5; refine (light21_calls _ A c l HR.out.now HR.out.le).mono ?_; rw [HL.out]; rintro e w1 ⟨rfl, hd⟩; have HB1 := Lib.hid (drawn0_below2 hd); clear hd) | (go_at_call 7; refine (New_calls _).mono ?_; rintro e w2 ⟨d, F, L, rfl, hr, hch⟩; have HREP2 := Lib.hid hr; have HCH2 := Lib.hid hch; clear hr hch) | (go_at_call 8; refine (refNew_calls _).mono ?_; rintro e w3 ⟨rfl, hb⟩; have HB3 := Lib.hid hb; clear hb) | fail)
      have hc2 := HCH2.out
      have hs2 : w1.heap.size ≤ w2.heap.size := hc2.fr.size
      have hs3 := HB3.out.size
      have hs1 := HB1.out.size
      have HBW := Lib.hid (show Below w.heap.size w w3 from (HB1.out.trans (hc2.fr.toBelow (B := w.heap.size) (by omega) (fun _ hk => hk.elim))).trans (HB3.out.mono (by omega)))
      have HP3 := Lib.hid (pair_new HREP2.out hc2 HB3.out)
      obtain ⟨b, hb⟩ : ∃ b, b = w3.heap.size := ⟨_, rfl⟩
      have hFk : ∀ k, F k → w.heap.size ≤ k ∧ k ≠ b := fun k hk => by
        have h2 := hc2.lt k hk
        rcases hc2.new k hk with h1 | h1
        · exact h1.elim
        · omega
      have HFK := Lib.hid hFk
      have HBB := Lib.hid (show w.heap.size ≤ b by omega)
      rw [← hb]
      have HE := Lib.hid hb
      clear hc2 hs2 hs3 hs1 hFk hb
      go_loopw [7] (fun i wr => SeqRel21 w l d b i wr) (fun i _ => l.length - (intOf i).toNat)
      case atStart =>
        refine ⟨0, F, fun k => k < w.heap.size, none, 0, none, 0, none, 0, none, 0, Nat.zero_le _, rfl, by rw [HE.out]; exact heap_alloc_new w3 _, ?_, below_alloc HBW.out _, HFK.out, fun k hk => ⟨?_, ?_⟩, fun _ hk => hk⟩
        · exact (HP3.out.mono (ok' := fun k => k < w.heap.size) (fun _ hk => hk.elim) (fun k hk e => by have := (HFK.out k e).1; omega)).below (below_alloc (Below.refl _ _) _)
        · have := HBB.out; omega
        · have := HBW.out.size; simp; omega
      case round =>
        obtain ⟨j, Fj, okj, a0, c0, a1, c1, a2, c2, a3, c3, hj, rfl, hk, hp, hbw, hF, hok, hold⟩ := hrel
        have K := Lib.hid hk
        have HP := Lib.hid hp
        have HBR := Lib.hid hbw
        have HF := Lib.hid hF
        have HOK := Lib.hid hok
        have HOLD := Lib.hid hold
        clear hk hp hbw hF hok hold
        by_cases hlt : j < l.length
        · have HST := Lib.hid (st21_succ l j hlt)
          have HAT := Lib.hid (st21_at HL.out HW.out j (Nat.le_of_lt hlt))
          have HLO := Lib.hid ((light21_at HL.out).2 _ (List.getElem_mem hlt))
          have HWO := Lib.hid (HW.out _ (List.getElem_mem hlt))
          have hj30 : j < 30 := by have := (light21_at HL.out).1; omega
          obtain ⟨x, hx⟩ : ∃ x, x = l[j] := ⟨_, rfl⟩
          obtain ⟨ad, A7, c7, A8, c8, A10, c10, hA, hcells, h7, h8, h10⟩ := op21_cells HR.out j hlt hx
          subst hA
          rw [← hx] at HST HLO HWO
          have X7 := Lib.hid (h7.mono (ok' := okj) (fun k hk _ => HOLD.out k hk))
          have X8 := Lib.hid (h8.mono (ok' := okj) (fun k hk _ => HOLD.out k hk))
          have X10 := Lib.hid (h10.mono (ok' := okj) (fun k hk _ => HOLD.out k hk))
          have HO := Lib.hid hcells
          obtain ⟨Sj, hSj⟩ : ∃ Sj, Sj = st21 l j := ⟨_, rfl⟩
          rw [← hSj] at HST HAT HP K
          obtain ⟨S', hS'⟩ : ∃ S', S' = pStep21 Sj x := ⟨_, rfl⟩
          rw [← hS'] at HST
          have HS' := Lib.hid hS'
          have HAT' := Lib.hid (show At21 S' (j + 1) by rw [hS']; exact HAT.out.step hj30 HLO.out HWO.out)
          clear hx hcells h7 h8 h10 hSj hS'
          go_wp2_with fail
          go_cut [8, 9] from 29 to 38 (fun a v w' => MidT w d b S' a v w')
          case first =>
            have P0 := Lib.hid (held21 HO.out (W := wr.drew) (HBR.out.trans (((Below.refl _ wr).drew).mono HBR.out.size)) K.out)
            have P1 := Lib.hid (held21 HO.out (W := ((wr.alloc (.cells zeroC tState)).drew)) (HBR.out.trans (((Below.of_alloc' wr (.cells zeroC tState)).drew).mono HBR.out.size)) (blk_allocN K.out (.cells zeroC tState)))
            have XA7 := Lib.hid ((((X7.out.below HBR.out).mono (ok' := fun k => okj k ∧ k < wr.heap.size) (fun k h1 h2 => ⟨h1, h2⟩)).below (Below.of_alloc' wr (.cells zeroC tState))).move (w' := ((wr.alloc (.cells zeroC tState)).drew)) (fun _ _ _ => rfl))
            have XA8 := Lib.hid ((((X8.out.below HBR.out).mono (ok' := fun k => okj k ∧ k < wr.heap.size) (fun k h1 h2 => ⟨h1, h2⟩)).below (Below.of_alloc' wr (.cells zeroC tState))).move (w' := ((wr.alloc (.cells zeroC tState)).drew)) (fun _ _ _ => rfl))
            have XA10 := Lib.hid ((((X10.out.below HBR.out).mono (ok' := fun k => okj k ∧ k < wr.heap.size) (fun k h1 h2 => ⟨h1, h2⟩)).below (Below.of_alloc' wr (.cells zeroC tState))).move (w' := ((wr.alloc (.cells zeroC tState)).drew)) (fun _ _ _ => rfl))
            have CB := Lib.hid (step21_calls wr.drew Fj okj d _ Sj j x A7 c7 A8 c8 A10 c10 (HP.out.below ((Below.refl _ wr).drew)) HAT.out hj30 HLO.out HWO.out ((X7.out.below HBR.out).move (w' := wr.drew) (fun _ _ _ => rfl)) ((X8.out.below HBR.out).move (w' := wr.drew) (fun _ _ _ => rfl)) ((X10.out.below HBR.out).move (w' := wr.drew) (fun _ _ _ => rfl)))
            have CA := Lib.hid (step21_calls ((wr.alloc (.cells zeroC tState)).drew) Fj (fun k => okj k ∧ k < wr.heap.size) d _ Sj j x A7 c7 A8 c8 A10 c10 ((HP.out.mono (ok' := fun k => okj k ∧ k < wr.heap.size) (fun k h1 h2 => ⟨h1, h2⟩) (fun k hk => HP.out.apart k hk.1)).below ((Below.of_alloc' wr (.cells zeroC tState)).drew)) HAT.out hj30 HLO.out HWO.out XA7.out XA8.out XA10.out)
            rw [← HS'.out] at CA CB
            clear XA7 XA8 XA10 X7 X8 X10 HAT HLO HWO
            have P5 := Lib.hid True.intro
            have P6 := Lib.hid True.intro
            have P7 := Lib.hid True.intro
            go_region_held3 (fun w' => (w'.cell? ⟨b, 0, none⟩ = some (.slice a0 Sj.files.length c0) ∧ w'.cell? ⟨b, 1, none⟩ = some (.slice a1 Sj.dir.length c1) ∧ w'.cell? ⟨b, 2, none⟩ = some (.slice a2 Sj.dur.length c2) ∧ w'.cell? ⟨b, 3, none⟩ = some (.slice a3 Sj.pend.length c3) ∧ w'.cell? ⟨b, 4, none⟩ = some (.bool Sj.lim) ∧ w'.cell? ⟨b, 5, none⟩ = some (.int .i64 Sj.left)) ∧ (w'.cell? (ad.add (j * 6)) = some (.int .i64 x.f0) ∧ w'.cell? ⟨(ad.add (j * 6)).block, (ad.add (j * 6)).off + 1, none⟩ = some (.string x.f1) ∧ w'.cell? ⟨(ad.add (j * 6)).block, (ad.add (j * 6)).off + 2, none⟩ = some (.slice A7 x.f2.length c7) ∧ w'.cell? ⟨(ad.add (j * 6)).block, (ad.add (j * 6)).off + 3, none⟩ = some (.slice A8 x.f3.length c8) ∧ w'.cell? ⟨(ad.add (j * 6)).block, (ad.add (j * 6)).off + 4, none⟩ = some (.int .i64 x.f4) ∧ w'.cell? ⟨(ad.add (j * 6)).block, (ad.add (j * 6)).off + 5, none⟩ = some (.slice A10 x.f5.length c10)))
              (first | (with_reducible exact P0.out) | (with_reducible exact P1.out) | (with_reducible exact P5.out) | (with_reducible exact P6.out) | (with_reducible exact P7.out) | exact held21_set HO.out HB5.out K5.out (by have := HBR.out.size; simp; omega) (by have := lt_blk K.out; simp; omega) _ _ _ _ _ _)
              (first
                | (go_at_call 9; (with_reducible refine CB.out.mono ?_); have HBX := Lib.hid (HBR.out.trans (((Below.refl _ wr).drew).mono HBR.out.size)); have KX := Lib.hid (show wr.drew.heap[b]? = some (.cells (svC a0 c0 a1 c1 a2 c2 a3 c3 Sj) tState (0, 0)) from K.out); rintro e w5 ⟨v, F', rfl, hp, hch⟩; obtain ⟨b0, d0, b1, d1, b2, d2, b3, d3, hv, _⟩ := hp.ref; subst hv; have HP5 := Lib.hid hp; have HC5 := Lib.hid hch; have HB5 := Lib.hid (HBX.out.trans (hch.fr.toBelow (B := w.heap.size) (by have h := HBR.out.size; first | exact h | (simp; omega)) (fun k hk => (HF.out k hk).1))); have K5 := Lib.hid (chg_blk hch KX.out (fun e => (HF.out _ e).2 rfl)); have P5 := Lib.hid (held21 HO.out HB5.out K5.out); have HB6 := Lib.hid (HB5.out.trans ((Below.of_alloc' w5 (.cells zeroC tState)).mono HB5.out.size)); have K6 := Lib.hid (blk_allocN K5.out (.cells zeroC tState)); have P6 := Lib.hid (held21 HO.out HB6.out K6.out); have P7 := Lib.hid (held21 HO.out (HB5.out.trans ((Below.of_alloc' w5 (.cells #[.slice b0 S'.files.length d0, .slice b1 S'.dir.length d1, .slice b2 S'.dur.length d2, .slice b3 S'.pend.length d3, .bool S'.lim, .int .i64 S'.left] tState)).mono HB5.out.size)) (blk_allocN K5.out (.cells #[.slice b0 S'.files.length d0, .slice b1 S'.dir.length d1, .slice b2 S'.dur.length d2, .slice b3 S'.pend.length d3, .bool S'.lim, .int .i64 S'.left] tState))); clear P6; have P6 := Lib.hid (held21 HO.out HB6.out K6.out); obtain ⟨z0, z1, z2, z3, z4, z5⟩ := six_cells (heap_alloc_new w5 (.cells zeroC tState)); obtain ⟨g0, g1, g2, g3, g4, g5⟩ := six_frozen (heap_alloc_new w5 (.cells zeroC tState)); clear hp hch)
                | (go_at_call 9; (with_reducible refine CA.out.mono ?_); have HBX := Lib.hid (HBR.out.trans (((Below.of_alloc' wr (.cells zeroC tState)).drew).mono HBR.out.size)); have KX := Lib.hid (show (wr.alloc (.cells zeroC tState)).drew.heap[b]? = some (.cells (svC a0 c0 a1 c1 a2 c2 a3 c3 Sj) tState (0, 0)) from blk_allocN K.out (.cells zeroC tState)); rintro e w5 ⟨v, F', rfl, hp, hch⟩; obtain ⟨b0, d0, b1, d1, b2, d2, b3, d3, hv, _⟩ := hp.ref; subst hv; have HP5 := Lib.hid hp; have HC5 := Lib.hid hch; have HB5 := Lib.hid (HBX.out.trans (hch.fr.toBelow (B := w.heap.size) (by have h := HBR.out.size; first | exact h | (simp; omega)) (fun k hk => (HF.out k hk).1))); have K5 := Lib.hid (chg_blk hch KX.out (fun e => (HF.out _ e).2 rfl)); have P5 := Lib.hid (held21 HO.out HB5.out K5.out); have KT := Lib.hid (chg_blk hch (heap_alloc_new wr (.cells zeroC tState)) (fun e => Nat.lt_irrefl _ (HP.out.lt _ e))); obtain ⟨z0, z1, z2, z3, z4, z5⟩ := six_cells KT.out; obtain ⟨g0, g1, g2, g3, g4, g5⟩ := six_frozen KT.out; clear hp hch))
            · go_wp2_with fail
              go_meet
              exact mid_of (T := w5.heap.size) HBB.out HBR.out ((Below.refl _ wr).drew) K.out HF.out HOK.out HOLD.out HP5.out HC5.out HC5.out.fr.size (fun e => Nat.lt_irrefl _ (HC5.out.lt _ e)) (.inr (Nat.le_refl _)) (heap_alloc_new w5 _) (fun k hk _ => (Below.of_alloc' w5 _).block k hk) ((Below.of_alloc' w5 _).mono HB5.out.size)
            · go_wp2_with fail
              go_meet
              exact mid_of (T := wr.heap.size) HBB.out HBR.out ((Below.of_alloc' wr (.cells zeroC tState)).drew) K.out HF.out (fun k hk => HOK.out k hk.1) (fun k hk => ⟨HOLD.out k hk, Nat.lt_of_lt_of_le hk HBR.out.size⟩) HP5.out HC5.out (Nat.le_refl _) (fun e => by
                rcases HC5.out.new _ e with h | h
                · exact Nat.lt_irrefl _ (HP.out.lt _ h)
                · have h2 : (wr.alloc (.cells zeroC tState)).heap.size ≤ wr.heap.size := h
                  have h3 : (wr.alloc (.cells zeroC tState)).heap.size = wr.heap.size + 1 := by simp
                  omega) (.inl (show wr.heap.size < (wr.alloc (.cells zeroC tState)).heap.size by simp)) (set_six _ _ _ _ _ _ KT.out) (fun k _ hne => other_six hne _ _ _ _ _ _) (below_six (Below.refl _ _) HBR.out.size _ _ _ _ _ _)
          case rest =>
            obtain ⟨T, F6, ok6, b0, d0, b1, d1, b2, d2, b3, d3, y0, y1, y2, y3, y4, y5, rfl, rfl, hT, hkb, hp, hb6, hF, hok, hold⟩ := hcut
            have KT := Lib.hid hT
            have KB := Lib.hid hkb
            have HP6 := Lib.hid hp
            have HB6 := Lib.hid hb6
            have HF6 := Lib.hid hF
            have HOK6 := Lib.hid hok
            have HOLD6 := Lib.hid hold
            obtain ⟨B', hs', hB'⟩ := HAT'.out.snd
            have HG := Lib.hid hs'.good
            have hB5 : B' ≤ 549755813888 := by omega
            clear hT hkb hp hb6 hF hok hold hs' hB'
            obtain ⟨wq, hwq⟩ : ∃ wq, wq = wc := ⟨_, rfl⟩
            rw [← hwq] at KT KB HP6 HB6 HOK6 ⊢
            clear hwq
            have HHQ := Lib.hid (fun W (hW : Below wq.heap.size wq W) => show (W.cell? ⟨T, 0, none⟩ = some (.slice b0 S'.files.length d0) ∧ W.cell? ⟨T, 1, none⟩ = some (.slice b1 S'.dir.length d1) ∧ W.cell? ⟨T, 2, none⟩ = some (.slice b2 S'.dur.length d2) ∧ W.cell? ⟨T, 3, none⟩ = some (.slice b3 S'.pend.length d3) ∧ W.cell? ⟨T, 4, none⟩ = some (.bool S'.lim) ∧ W.cell? ⟨T, 5, none⟩ = some (.int .i64 S'.left)) ∧ W.cell? ⟨(ad.add (j * 6)).block, (ad.add (j * 6)).off + 1, none⟩ = some (.string x.f1) from ⟨six_cells (blk_below KT.out hW), (((HB6.out.trans (hW.mono HB6.out.size)).cell (World.block_lt_of_cell? w _ HO.out.2.1)).trans HO.out.2.1)⟩)
            have CQ := Lib.hid (fun W m (hW : Below wq.heap.size wq W) => agree_calls W F6 ok6 d _ S' B' m (HP6.out.below hW) HG.out hB5)
            have Q0 := Lib.hid (HHQ.out wq.drew ((Below.refl _ wq).drew))
            have Q7 := Lib.hid True.intro
            have Q8 := Lib.hid True.intro
            go_upto_region 11 with (fail)
            go_region_held3 (fun w' => (w'.cell? ⟨T, 0, none⟩ = some (.slice b0 S'.files.length d0) ∧ w'.cell? ⟨T, 1, none⟩ = some (.slice b1 S'.dir.length d1) ∧ w'.cell? ⟨T, 2, none⟩ = some (.slice b2 S'.dur.length d2) ∧ w'.cell? ⟨T, 3, none⟩ = some (.slice b3 S'.pend.length d3) ∧ w'.cell? ⟨T, 4, none⟩ = some (.bool S'.lim) ∧ w'.cell? ⟨T, 5, none⟩ = some (.int .i64 S'.left)) ∧ w'.cell? ⟨(ad.add (j * 6)).block, (ad.add (j * 6)).off + 1, none⟩ = some (.string x.f1))
              (first | (with_reducible exact Q0.out) | (with_reducible exact Q7.out) | (with_reducible exact Q8.out))
              (first
                | (go_at_call 10; have hz := HB7.out; clear hz; (with_reducible refine (CQ.out w7 x.f1 HB7.out).mono ?_); rintro e w8 ⟨rfl, hb⟩; have HB8 := Lib.hid (HB7.out.trans (hb.mono HB7.out.size)); have Q8 := Lib.hid (HHQ.out w8 HB8.out); clear hb)
                | (go_at_call 10; (with_reducible refine (CQ.out wq.drew n ((Below.refl _ wq).drew)).mono ?_); rintro e w7 ⟨rfl, hbq⟩; have hb : Below wq.heap.size wq w7 := ((Below.refl _ wq).drew).trans hbq; have HB7 := Lib.hid hb; have Q7 := Lib.hid (HHQ.out w7 HB7.out); clear hb hbq))
            have K8 := Lib.hid (blk_below KT.out HB8.out)
            have J8 := Lib.hid (blk_below KB.out HB8.out)
            obtain ⟨s0, s1, s2, s3, s4, s5⟩ := six_cells K8.out
            obtain ⟨z0, z1, z2, z3, z4, z5⟩ := six_cells J8.out
            obtain ⟨g0, g1, g2, g3, g4, g5⟩ := six_frozen J8.out
            go_wp2_with fail
            go_roundw
            case rel =>
              obtain ⟨q1, q2, q3, q4⟩ := seq_next HBB.out KB.out HP6.out HB6.out HF6.out HOK6.out HB8.out rfl
              exact ⟨j + 1, F6, ok6, b0, d0, b1, d1, b2, d2, b3, d3, by omega, by go_num, by rw [HST.out]; exact q1, by rw [HST.out]; exact q2, q3, HF6.out, q4, HOLD6.out⟩
            case measure => simp [intOf]; omega
        · obtain rfl : j = l.length := by omega
          go_wp2_with (first | (go_at_call 6; refine (lives_calls _).mono ?_; rintro e w9 ⟨rfl, hb⟩; have HB9 := Lib.hid hb; clear hb) | fail)
          go_ret
          exact ⟨rfl, HBR.out.trans (HB9.out.mono HBR.out.size)⟩
end Go.Proofs.YtehhafnjbkbmjaaGreat.Disk

/- The law ObjstoreSequence holds: for every input the call returns true, and each argument reads behind the call as it read before. No condition. -/
namespace Go.Proofs.YtehhafnjbkbmjaaGreat.objstoreSequence
open Go.ChangeShapes Go.WideShapes Go.ChangeAt Go.RowKit
open Go.ChangeMaps (open_string shut_string)
open Go.Proofs.YtehhafnjbkbmjaaGreatW.PrintWords Go.Proofs.YtehhafnjbkbmjaaGreat.Disk
set_option linter.unusedVariables false
theorem own : ownKnob Tryz.prog.godebug = none := by kernel_rfl
theorem laidOut : laidOutB Tryz.prog = true := by kernel_rfl
set_option maxRecDepth 100000 in
theorem lifted (os : Os) (started : os.Started) (H : Type) (enc : TypeId × Value → H) :
    ReturnsInHanded {} Tryz.checked os 3 .any (Rows.objstoreSequenceSpec.pre6 enc Tryz.prog Tryz.f3 Rows.objstoreSequenceRow.domain false) (Rows.objstoreSequenceSpec.post enc Tryz.prog Tryz.f3 false true false false) := by
  refine returnsInHanded_of_change_sized (C := Tryz.checked) own started (by kernel_rfl) Tryz.func3
    (ChangeSpec.witness6 (enc := enc) (C := Tryz.checked) false ⟨#[], #[.slice none 0 0, .string ByteArray.empty], []⟩ 8 (by kernel_rfl) (by kernel_rfl) (by kernel_rfl) (by kernel_rfl)) ?_
  intro W base args ds gs before hval0 hW hcnd hsz0 _
  have hval : ∀ (j : Nat) t v, Tryz.f3.params[j]? = some t → args[j]? = some v → Value.okWide Tryz.prog W .any base t v := hval0
  have hW' := hW
  obtain ⟨p, q, hA0, hV, rfl, hfz, hnd⟩ := hW
  have hA : DataW.TrodAll enc Tryz.prog W 0 (fun _ => true) true Tryz.f3.params.toList args.toList ds p := hA0
  rw [Tryz.params3] at hA hval
  obtain ⟨v0, vs0, d0, ds0, p0, q0, hargs, rfl, rfl, h0, r0⟩ := trodAll_cons hA
  obtain ⟨v1, vs1, d1, ds1, p1, q1, rfl, rfl, rfl, h1, r1⟩ := trodAll_cons r0
  obtain ⟨rfl, rfl, rfl⟩ := trodAll_nil r1
  obtain rfl : args = #[v0, v1] := by cases args; simp_all
  obtain ⟨rfl, rfl⟩ := trodVars_none hV
  obtain ⟨a0, len0, cap0, rfl⟩ := okWide_slice Tryz.underlying22 (hval 0 22 v0 rfl rfl)
  have lt0 : ∀ x ∈ p0, x.block < W.heap.size := by obtain ⟨m, hm⟩ := h0; exact DataW.trod_lt m _ _ _ hm
  obtain ⟨l0, rfl, hc0, hC0, hw0⟩ := ops21_row h0
  obtain ⟨s1, rfl, rfl, rfl, w1⟩ := open_string Tryz.underlying9 (hval 1 9 v1 rfl rfl) h1
  clear hA0 hval0 hsz0
  refine (objseq_walk W a0 cap0 l0 hC0 hc0 hw0 s1).mono fun e W' ⟨he, bel⟩ => ?_
  subst he
  exact ⟨_, rfl, _, _, _, [], _, [], hW', trodAll_mk1 (shut_bool Tryz.underlying4 _), (trodAll_cons_mk (Below.trod laidOut (by kernel_rfl) (of_decide_eq_true (by kernel_rfl)) h0 bel lt0) (trodAll_cons_mk (shut_string Tryz.underlying9 w1) trodAll_mk0)), rfl, bel.frame _, fun h => by cases h⟩
theorem over : Rows.objstoreSequenceRow.holds Tryz.pinned (OpenSpec.ofChange Rows.objstoreSequenceSpec) :=
  OpenClaim.holds_of_wide 3 Tryz.f3 rfl rfl rfl rfl rfl rfl rfl ⟨rfl, rfl, rfl, rfl, rfl⟩ rfl rfl rfl rfl rfl (by kernel_rfl) Tryz.func3 (by kernel_rfl)
    (of_decide_eq_true (by kernel_rfl)) (by unfold Func.isWrapper; first | (rw [if_pos (by decide +kernel)]; kernel_rfl) | (rw [if_neg (by decide +kernel)]; exact ⟨rfl, rfl⟩))
    (fun os started H enc _ => lifted os started H enc)
theorem proved : Rows.ObjstoreSequenceSaid := over
#print axioms proved
end Go.Proofs.YtehhafnjbkbmjaaGreat.objstoreSequence
namespace Go.Proofs.YtehhafnjbkbmjaaGreat
theorem objstoreSequence_holds : Rows.ObjstoreSequenceSaid := objstoreSequence.proved
end Go.Proofs.YtehhafnjbkbmjaaGreat
