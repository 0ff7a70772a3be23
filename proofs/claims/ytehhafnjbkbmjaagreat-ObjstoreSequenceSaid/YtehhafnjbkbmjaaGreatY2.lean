/- The disk's methods. -/
import Derived.Test.YtehhafnjbkbmjaaGreatY1
import Derived.WalkSpells
/- The disk's methods: Create, Remove, Rename. -/
namespace Go.Proofs.YtehhafnjbkbmjaaGreat.Disk
open Go Go.RowKit Go.Proofs.YtehhafnjbkbmjaaGreatW.PrintWords Go.Proofs.YtehhafnjbkbmjaaGreatW.PrintLast Go.Proofs.YtehhafnjbkbmjaaGreatW.PrintMore Go.Proofs.YtehhafnjbkbmjaaGreat.PCommitlogSequence

theorem C_one {w : World} {b : Nat} {n : ByteArray} {fz : Nat × Nat} (h : w.heap[b]? = some (.cells #[.string n] 9 fz)) : Kd.C Kd.string w (some ⟨b, 0, none⟩) [n].length [n] :=
  ⟨rfl, by simp, fun _ => ⟨_, rfl, fun j p hj => by
    have hj0 : j = 0 := by
      have := (List.getElem?_eq_some_iff.1 hj).1
      simpa using this
    subst hj0
    simp at hj
    subst hj
    refine ⟨[.string n], rfl, rfl, fun i u hu => ?_⟩
    have hi0 : i = 0 := by
      have := (List.getElem?_eq_some_iff.1 hu).1
      simpa using this
    subst hi0
    simp at hu
    subst hu
    rw [Addr.add_lit]
    exact cell_blk h 0⟩⟩
theorem C_two {w : World} {b : Nat} {m n : ByteArray} {fz : Nat × Nat} (h : w.heap[b]? = some (.cells #[.string m, .string n] 9 fz)) : Kd.C Kd.string w (some ⟨b, 0, none⟩) [m, n].length [m, n] :=
  ⟨rfl, by simp, fun _ => ⟨_, rfl, fun j p hj => by
    have hj0 : j = 0 ∨ j = 1 := by
      have := (List.getElem?_eq_some_iff.1 hj).1
      simp at this
      omega
    rcases hj0 with rfl | rfl
    · simp at hj
      subst hj
      refine ⟨[.string m], rfl, rfl, fun i u hu => ?_⟩
      have hi0 : i = 0 := by
        have := (List.getElem?_eq_some_iff.1 hu).1
        simpa using this
      subst hi0
      simp at hu
      subst hu
      rw [Addr.add_lit]
      exact cell_blk h 0
    · simp at hj
      subst hj
      refine ⟨[.string n], rfl, rfl, fun i u hu => ?_⟩
      have hi0 : i = 0 := by
        have := (List.getElem?_eq_some_iff.1 hu).1
        simpa using this
      subst hi0
      simp at hu
      subst hu
      rw [Addr.add_lit]
      exact cell_blk h 1⟩⟩

/-- What holds of every state that the operations reach; B bounds all sizes. -/
structure Good (S : PS) (B : Nat) : Prop where
  nFiles : S.files.length ≤ B
  nDir : S.dir.length ≤ B
  nDur : S.dur.length ≤ B
  nPend : S.pend.length ≤ B
  left : S.lim = true → 0 ≤ S.left ∧ S.left ≤ 9223372036854775807
  range : ∀ i, Live S i → 0 ≤ i ∧ i < S.files.length
  nBytes : ∀ f ∈ S.files, f.f0.length ≤ B
  dur : ∀ f ∈ S.files, 0 ≤ f.f1 ∧ f.f1 ≤ f.f0.length
  bytes : ∀ f ∈ S.files, ∀ x ∈ f.f0, 0 ≤ x ∧ x ≤ 255
  nameD : ∀ e ∈ S.dir, okName e.f0 = true
  nameU : ∀ e ∈ S.dur, okName e.f0 = true
  ops : ∀ o ∈ S.pend, OpnOk o
theorem okName_size {s : ByteArray} (h : okName s = true) : s.size ≤ 64 := by
  unfold okName at h
  simp only [Bool.and_eq_true, decide_eq_true_eq] at h
  omega
theorem okAll_zero {l : List ByteArray} (h : okAll l = 0) : ∀ s ∈ l, okName s = true := by
  unfold okAll at h
  split at h
  · rename_i hl
    exact fun s hs => List.all_eq_true.1 hl s hs
  · omega
theorem okAll_cases (l : List ByteArray) : okAll l = 0 ∨ okAll l = 8 := by
  unfold okAll
  split <;> simp
theorem pCheck_cases (lim : Bool) (left : Int) (l : List ByteArray) : pCheck lim left l = 0 ∨ pCheck lim left l = 8 ∨ pCheck lim left l = 16 := by
  unfold pCheck
  have := okAll_cases l
  split
  · simp
  · omega
theorem pCheck_zero {lim : Bool} {left : Int} {l : List ByteArray} (h : pCheck lim left l = 0) : (lim = true → 0 < left) ∧ ∀ s ∈ l, okName s = true := by
  unfold pCheck at h
  split at h
  · omega
  · rename_i hn
    refine ⟨fun hl => ?_, okAll_zero h⟩
    subst hl
    simp at hn
    omega
theorem pCheck_left {lim : Bool} {a b : Int} (l : List ByteArray) (h : lim = true → a = b) : pCheck lim a l = pCheck lim b l := by
  cases lim
  · rfl
  · rw [h rfl]

def pCreate (S : PS) (n : ByteArray) : PS × Int :=
  if pCheck S.lim S.left [n] = 0 then
    if (pLook S.dir n).isSome then (S, 9) else (pDone (pDir { S with files := S.files ++ [⟨[], 0⟩] } ⟨1, n, ⟨#[]⟩, S.files.length⟩), 0)
  else (S, pCheck S.lim S.left [n])
def pRemove (S : PS) (n : ByteArray) : PS × Int :=
  if pCheck S.lim S.left [n] = 0 then
    if (pLook S.dir n).isSome then (pDone (pDir S ⟨3, n, ⟨#[]⟩, 0⟩), 0) else (S, 15)
  else (S, pCheck S.lim S.left [n])
def pRename (S : PS) (m n : ByteArray) : PS × Int :=
  if pCheck S.lim S.left [m, n] = 0 then
    if (pLook S.dir m).isSome then (if m = n then (pDone S, 0) else (pDone (pDir S ⟨2, m, n, 0⟩), 0)) else (S, 15)
  else (S, pCheck S.lim S.left [m, n])

/-- What a method leaves: the disk stands as S. -/
def After (w : World) (F : Nat → Prop) (d : Nat) (S : PS) (w' : World) : Prop := ∃ F' L', Rep w' F' d L' S (Live S) ∧ Chg w F w' F'
theorem After.of {w w' : World} {F : Nat → Prop} {d : Nat} {L : Lay} {S : PS} {X : Int → Prop} (h : Rep w' (grow F w w') d L S X) (hf : Fr F w w') : After w F d S w' := ⟨_, L, h.less h.live (fun _ hi => hi), Chg.grow hf⟩
theorem After.same {w w' : World} {F : Nat → Prop} {d : Nat} {L : Lay} {S : PS} (h : Rep w' F d L S (Live S)) (hf : Fr (fun _ => False) w w') : After w F d S w' :=
  ⟨grow F w w', L, h.mono (fun _ hk hlt => .inl ⟨hk, hlt⟩), Chg.grow (hf.mono (fun _ (hk : False) => hk.elim))⟩
/-- Ahead of the change something else, among new blocks, has been done. -/
theorem After.behind {w w1 w' : World} {F G : Nat → Prop} {d : Nat} {S : PS} (h : After w1 G d S w') (hf : Fr F w w1) (hG : ∀ k, G k → F k ∨ w.heap.size ≤ k) : After w F d S w' := by
  obtain ⟨F', L', h1, h2⟩ := h
  exact ⟨F', L', h1, ⟨hf.trans h2.fr hG, fun k hk => by
    rcases h2.new k hk with h3 | h3
    · exact hG k h3
    · exact .inr (Nat.le_trans hf.size h3), h2.lt⟩⟩
theorem keyN {s : ByteArray} (h : okName s = true) : keyOf Tryz.prog 9 (.string s) = some (entKey s) := keyS (by have := okName_size h; unfold maxLen; omega)

/-- begin, on a disk that stands as S, handed one new name | two. -/
theorem begin_one (w : World) (F : Nat → Prop) (d : Nat) (L : Lay) (S : PS) (n : ByteArray) (c : Int) (h : Rep w F d L S (Live S)) (hc : pCheck S.lim S.left [n] = c) :
    Calls Tryz.prog 87 #[.pointer (some ⟨d, 0, none⟩), .slice (some ⟨w.heap.size, 0, none⟩) 1 1] (w.alloc (.cells #[.string n] 9)) fun e w' => e = .returned (.int .i64 c) ∧ Rep w' F d L S (Live S) ∧ Fr (fun _ => False) w w' := by
  have hr := h.alloc (.cells #[.string n] 9)
  refine (begin_calls _ d L.cur L.dur L.pend S.lim L.left (some ⟨w.heap.size, 0, none⟩) 1 [n] hr.disk (C_one (heap_alloc_new w _)) (by simp)).mono fun e w' ⟨q1, q2⟩ => ⟨?_, hr.drawn q2, ((Fr.refl _ w).alloc _).drawn q2⟩
  rw [q1, pCheck_left [n] h.left, hc]
theorem begin_two (w : World) (F : Nat → Prop) (d : Nat) (L : Lay) (S : PS) (m n : ByteArray) (c : Int) (h : Rep w F d L S (Live S)) (hc : pCheck S.lim S.left [m, n] = c) :
    Calls Tryz.prog 87 #[.pointer (some ⟨d, 0, none⟩), .slice (some ⟨w.heap.size, 0, none⟩) 2 2] (w.alloc (.cells #[.string m, .string n] 9)) fun e w' => e = .returned (.int .i64 c) ∧ Rep w' F d L S (Live S) ∧ Fr (fun _ => False) w w' := by
  have hr := h.alloc (.cells #[.string m, .string n] 9)
  refine (begin_calls _ d L.cur L.dur L.pend S.lim L.left (some ⟨w.heap.size, 0, none⟩) 2 [m, n] hr.disk (C_two (heap_alloc_new w _)) (by simp)).mono fun e w' ⟨q1, q2⟩ => ⟨?_, hr.drawn q2, ((Fr.refl _ w).alloc _).drawn q2⟩
  rw [q1, pCheck_left [m, n] h.left, hc]
theorem begin_none (w : World) (F : Nat → Prop) (d : Nat) (L : Lay) (S : PS) (c : Int) (h : Rep w F d L S (Live S)) (hc : pCheck S.lim S.left [] = c) :
    Calls Tryz.prog 87 #[.pointer (some ⟨d, 0, none⟩), .slice none 0 0] w fun e w' => e = .returned (.int .i64 c) ∧ Rep w' F d L S (Live S) ∧ Fr (fun _ => False) w w' := by
  refine (begin_calls _ d L.cur L.dur L.pend S.lim L.left none 0 [] h.disk (Kd.C_nil _ _) (by simp)).mono fun e w' ⟨q1, q2⟩ => ⟨?_, h.drawn q2, (Fr.refl _ w).drawn q2⟩
  rw [q1, pCheck_left [] h.left, hc]

/-- A change that reaches no new file. -/
theorem change_plain (w w1 : World) (F : Nat → Prop) (d : Nat) (L : Lay) (S : PS) (B : Nat) (o : Opn) (cs : Array Value) (h : Rep w1 F d L S (Live S)) (hf : Fr (fun _ => False) w w1) (hg : Good S B) (hB : B ≤ 549755813888) (ho : OpnOk o) (h1 : o.f0 ≠ 1) (hl : S.lim = true → 0 < S.left)
    (hcs : cs = (opCells L.blk o).toArray) : Calls Tryz.prog 88 #[.pointer (some ⟨d, 0, none⟩), .agg cs] w1 fun e w' => e = .returned (.int .i64 0) ∧ After w F d (pDone (pDir S o)) w' := by
  subst hcs
  refine (change_calls w1 F d L S (Live S) o h (fun e => absurd e h1) ho (by have := hg.nDir; omega) (by have := hg.nPend; omega) (fun e => ⟨hl e, (hg.left e).2⟩)).mono fun e w' ⟨q1, L', _, _, q2, q3⟩ => ⟨q1, ?_⟩
  exact (After.of q2 q3).behind (hf.mono (fun _ (hk : False) => hk.elim)) (fun _ => .inl)

set_option maxHeartbeats 4000000 in
theorem Remove_calls (w : World) (F : Nat → Prop) (d : Nat) (L : Lay) (S : PS) (B : Nat) (n : ByteArray) (h : Rep w F d L S (Live S)) (hg : Good S B) (hB : B ≤ 549755813888) :
    Calls Tryz.prog 58 #[.pointer (some ⟨d, 0, none⟩), .string n] w fun e w' => e = .returned (.int .i64 (pRemove S n).2) ∧ After w F d (pRemove S n).1 w' := by
  have H := Lib.hid h
  have HG := Lib.hid hg
  have HB := Lib.hid hB
  clear h hg hB
  rcases pCheck_cases S.lim S.left [n] with hc | hc | hc
  · have HC := Lib.hid hc
    have HN := Lib.hid (pCheck_zero hc)
    have HM := Lib.hid (okName_size (HN.out.2 n (by simp)))
    cases hp : pLook S.dir n with
    | none =>
      have e : pRemove S n = (S, 15) := by simp [pRemove, hc, hp]
      rw [e]
      have hh : Maps.has (dirD L.blk S.dir) (entKey n) = false := by rw [dirD_has, hp]; rfl
      clear hc hp e
      go_enter Tryz.func58, Tryz.ntmps58
      go_wp2_with (first | (go_at_call 87; refine (begin_one w F d L S n 0 H.out HC.out).mono ?_; rintro e w1 ⟨rfl, hr1, hf1⟩; have HR1 := Lib.hid hr1; have HF1 := Lib.hid hf1; have c0 := cell_blk hr1.disk 0; simp [diskCells] at c0; clear hr1 hf1) | (at_lookup; refine wpList_lookup_own_ok _ rfl _ _ 68 rfl 9 100 dirK dirT fileElem (zeroFile _) .nil [] rfl L.cur _ _ rfl HR1.out.cur _ (entKey n) rfl (keyN (HN.out.2 n (by simp))) ?_; intro v ps hv; clear hv) | fail)
      go_ret
      exact ⟨rfl, After.same HR1.out HF1.out⟩
    | some i =>
      have e : pRemove S n = (pDone (pDir S ⟨3, n, ⟨#[]⟩, 0⟩), 0) := by simp [pRemove, hc, hp]
      rw [e]
      have hh : Maps.has (dirD L.blk S.dir) (entKey n) = true := by rw [dirD_has, hp]; rfl
      clear hc hp e
      go_enter Tryz.func58, Tryz.ntmps58
      go_wp2_with (first | (go_at_call 87; refine (begin_one w F d L S n 0 H.out HC.out).mono ?_; rintro e w1 ⟨rfl, hr1, hf1⟩; have HR1 := Lib.hid hr1; have HF1 := Lib.hid hf1; have c0 := cell_blk hr1.disk 0; simp [diskCells] at c0; clear hr1 hf1) | (at_lookup; refine wpList_lookup_own_ok _ rfl _ _ 68 rfl 9 100 dirK dirT fileElem (zeroFile _) .nil [] rfl L.cur _ _ rfl HR1.out.cur _ (entKey n) rfl (keyN (HN.out.2 n (by simp))) ?_; intro v ps hv; clear hv) | (go_at_call 88; refine (change_plain w w1 F d L S B ⟨3, n, ⟨#[]⟩, 0⟩ _ HR1.out HF1.out HG.out HB.out ⟨.inr (.inr rfl), HM.out, Nat.zero_le _⟩ (show (3 : Int) ≠ 1 by decide) HN.out.1 rfl).mono ?_; rintro e w2 ⟨rfl, ha⟩) | fail)
      go_ret
      exact ⟨rfl, ha⟩
  · have e : pRemove S n = (S, 8) := by simp [pRemove, hc]
    rw [e]
    have HC := Lib.hid hc
    clear hc e
    go_enter Tryz.func58, Tryz.ntmps58
    go_wp2_with (first | (go_at_call 87; refine (begin_one w F d L S n 8 H.out HC.out).mono ?_; rintro e w1 ⟨rfl, hr1, hf1⟩; have HR1 := Lib.hid hr1; have HF1 := Lib.hid hf1; have c0 := cell_blk hr1.disk 0; simp [diskCells] at c0; clear hr1 hf1) | fail)
    go_ret
    exact ⟨rfl, After.same HR1.out HF1.out⟩
  · have e : pRemove S n = (S, 16) := by simp [pRemove, hc]
    rw [e]
    have HC := Lib.hid hc
    clear hc e
    go_enter Tryz.func58, Tryz.ntmps58
    go_wp2_with (first | (go_at_call 87; refine (begin_one w F d L S n 16 H.out HC.out).mono ?_; rintro e w1 ⟨rfl, hr1, hf1⟩; have HR1 := Lib.hid hr1; have HF1 := Lib.hid hf1; have c0 := cell_blk hr1.disk 0; simp [diskCells] at c0; clear hr1 hf1) | fail)
    go_ret
    exact ⟨rfl, After.same HR1.out HF1.out⟩

/-- done, on a disk that stands as S. -/
theorem done_rep (w : World) (F : Nat → Prop) (d : Nat) (L : Lay) (S : PS) (X : Int → Prop) (h : Rep w F d L S X) (hl : S.lim = true → 0 < S.left ∧ S.left ≤ 9223372036854775807) :
    Calls Tryz.prog 90 #[.pointer (some ⟨d, 0, none⟩)] w fun e w' => e = .returned (.int .i64 0) ∧ Rep w' F d { L with left := doneLeft S.lim L.left } (pDone S) X ∧ Fr F w w' := by
  refine (done_calls w d L.cur L.dur L.pend S.lim L.left h.disk (fun e => by rw [h.left e]; exact hl e)).mono fun e w' ⟨q1, q2, q3⟩ => ⟨q1, ?_, q3.mono (fun k hk => .inl (by rw [hk]; exact h.inD))⟩
  have stay : ∀ k, k < w.heap.size → k ≠ d → w'.heap[k]? = w.heap[k]? := fun k hk hne => q3.block k hk hne
  exact
    { disk := q2
      left := fun e => by
        show doneLeft S.lim L.left = doneLeft S.lim S.left
        rw [h.left e]
      cur := ownDir_move h.cur (stay _ h.cur.lt (fun e => h.d_ne_cur e.symm))
      dur := ownDir_move h.dur (stay _ h.dur.lt (fun e => h.d_ne_dur e.symm))
      ne := h.ne
      pend := own_move h.pend (fun k hk => stay k (ownBlock_lt h.pend hk) (fun e => h.d_ne_pend (by rw [hk, e])))
      live := h.live
      file := fun i hi => (stay _ (lt_blk (h.file i hi)) (fun e => h.d_ne_blk hi e.symm)).trans (h.file i hi)
      data := fun i hi => own_move (h.data i hi) (fun k hk => stay k (ownBlock_lt (h.data i hi) hk) (fun e => h.d_ne_data hi (by rw [hk, e])))
      inj := h.inj
      apart := h.apart
      inD := h.inD
      inC := h.inC
      inU := h.inU
      inP := h.inP
      inB := h.inB
      inV := h.inV }
theorem done_plain (w w1 : World) (F : Nat → Prop) (d : Nat) (L : Lay) (S : PS) (B : Nat) (h : Rep w1 F d L S (Live S)) (hf : Fr (fun _ => False) w w1) (hg : Good S B) (hl : S.lim = true → 0 < S.left) :
    Calls Tryz.prog 90 #[.pointer (some ⟨d, 0, none⟩)] w1 fun e w' => e = .returned (.int .i64 0) ∧ After w F d (pDone S) w' := by
  refine (done_rep w1 F d L S (Live S) h (fun e => ⟨hl e, (hg.left e).2⟩)).mono fun e w' ⟨q1, q2, q3⟩ => ⟨q1, ?_⟩
  exact (After.of (q2.mono (fun k hk hlt => .inl ⟨hk, hlt⟩)) q3).behind (hf.mono (fun _ (hk : False) => hk.elim)) (fun _ => .inl)

set_option maxHeartbeats 4000000 in
theorem Rename_calls (w : World) (F : Nat → Prop) (d : Nat) (L : Lay) (S : PS) (B : Nat) (m n : ByteArray) (h : Rep w F d L S (Live S)) (hg : Good S B) (hB : B ≤ 549755813888) :
    Calls Tryz.prog 65 #[.pointer (some ⟨d, 0, none⟩), .string m, .string n] w fun e w' => e = .returned (.int .i64 (pRename S m n).2) ∧ After w F d (pRename S m n).1 w' := by
  have H := Lib.hid h
  have HG := Lib.hid hg
  have HB := Lib.hid hB
  clear h hg hB
  rcases pCheck_cases S.lim S.left [m, n] with hc | hc | hc
  · have HC := Lib.hid hc
    have HN := Lib.hid (pCheck_zero hc)
    have HM := Lib.hid (okName_size (HN.out.2 m (by simp)))
    have HM2 := Lib.hid (okName_size (HN.out.2 n (by simp)))
    cases hp : pLook S.dir m with
    | none =>
      have e : pRename S m n = (S, 15) := by simp [pRename, hc, hp]
      rw [e]
      have hh : Maps.has (dirD L.blk S.dir) (entKey m) = false := by rw [dirD_has, hp]; rfl
      clear hc hp e
      go_enter Tryz.func65, Tryz.ntmps65
      go_wp2_with (first | (go_at_call 87; refine (begin_two w F d L S m n 0 H.out HC.out).mono ?_; rintro e w1 ⟨rfl, hr1, hf1⟩; have HR1 := Lib.hid hr1; have HF1 := Lib.hid hf1; have c0 := cell_blk hr1.disk 0; simp [diskCells] at c0; clear hr1 hf1) | (at_lookup; refine wpList_lookup_own_ok _ rfl _ _ 68 rfl 9 100 dirK dirT fileElem (zeroFile _) .nil [] rfl L.cur _ _ rfl HR1.out.cur _ (entKey m) rfl (keyN (HN.out.2 m (by simp))) ?_; intro v ps hv; clear hv) | fail)
      go_ret
      exact ⟨rfl, After.same HR1.out HF1.out⟩
    | some i =>
      have hh : Maps.has (dirD L.blk S.dir) (entKey m) = true := by rw [dirD_has, hp]; rfl
      by_cases hmn : m = n
      · subst hmn
        have e : pRename S m m = (pDone S, 0) := by simp [pRename, hc, hp]
        rw [e]
        clear hc hp e
        go_enter Tryz.func65, Tryz.ntmps65
        go_wp2_with (first | (go_at_call 87; refine (begin_two w F d L S m m 0 H.out HC.out).mono ?_; rintro e w1 ⟨rfl, hr1, hf1⟩; have HR1 := Lib.hid hr1; have HF1 := Lib.hid hf1; have c0 := cell_blk hr1.disk 0; simp [diskCells] at c0; clear hr1 hf1) | (at_lookup; refine wpList_lookup_own_ok _ rfl _ _ 68 rfl 9 100 dirK dirT fileElem (zeroFile _) .nil [] rfl L.cur _ _ rfl HR1.out.cur _ (entKey m) rfl (keyN (HN.out.2 m (by simp))) ?_; intro v ps hv; clear hv) | (go_at_call 90; refine (done_plain w w1 F d L S B HR1.out HF1.out HG.out HN.out.1).mono ?_; rintro e w2 ⟨rfl, ha⟩) | fail)
        go_ret
        exact ⟨rfl, ha⟩
      · have e : pRename S m n = (pDone (pDir S ⟨2, m, n, 0⟩), 0) := by simp [pRename, hc, hp, hmn]
        rw [e]
        have hmn1 : ¬ m.toList = n.toList := fun e => hmn ((toList_eq_iff m n).1 e)
        have hmn2 : (m.toList == n.toList) = false := by simpa using hmn1
        clear hc hp e
        go_enter Tryz.func65, Tryz.ntmps65
        go_wp2_with (first | (go_at_call 87; refine (begin_two w F d L S m n 0 H.out HC.out).mono ?_; rintro e w1 ⟨rfl, hr1, hf1⟩; have HR1 := Lib.hid hr1; have HF1 := Lib.hid hf1; have c0 := cell_blk hr1.disk 0; simp [diskCells] at c0; clear hr1 hf1) | (at_lookup; refine wpList_lookup_own_ok _ rfl _ _ 68 rfl 9 100 dirK dirT fileElem (zeroFile _) .nil [] rfl L.cur _ _ rfl HR1.out.cur _ (entKey m) rfl (keyN (HN.out.2 m (by simp))) ?_; intro v ps hv; clear hv) | (go_at_call 88; refine (change_plain w w1 F d L S B ⟨2, m, n, 0⟩ _ HR1.out HF1.out HG.out HB.out ⟨.inr (.inl rfl), HM.out, HM2.out⟩ (show (2 : Int) ≠ 1 by decide) HN.out.1 rfl).mono ?_; rintro e w2 ⟨rfl, ha⟩) | fail)
        go_ret
        exact ⟨rfl, ha⟩
  · have e : pRename S m n = (S, 8) := by simp [pRename, hc]
    rw [e]
    have HC := Lib.hid hc
    clear hc e
    go_enter Tryz.func65, Tryz.ntmps65
    go_wp2_with (first | (go_at_call 87; refine (begin_two w F d L S m n 8 H.out HC.out).mono ?_; rintro e w1 ⟨rfl, hr1, hf1⟩; have HR1 := Lib.hid hr1; have HF1 := Lib.hid hf1; have c0 := cell_blk hr1.disk 0; simp [diskCells] at c0; clear hr1 hf1) | fail)
    go_ret
    exact ⟨rfl, After.same HR1.out HF1.out⟩
  · have e : pRename S m n = (S, 16) := by simp [pRename, hc]
    rw [e]
    have HC := Lib.hid hc
    clear hc e
    go_enter Tryz.func65, Tryz.ntmps65
    go_wp2_with (first | (go_at_call 87; refine (begin_two w F d L S m n 16 H.out HC.out).mono ?_; rintro e w1 ⟨rfl, hr1, hf1⟩; have HR1 := Lib.hid hr1; have HF1 := Lib.hid hf1; have c0 := cell_blk hr1.disk 0; simp [diskCells] at c0; clear hr1 hf1) | fail)
    go_ret
    exact ⟨rfl, After.same HR1.out HF1.out⟩
end Go.Proofs.YtehhafnjbkbmjaaGreat.Disk

/- The disk's methods: Create. -/
namespace Go.Proofs.YtehhafnjbkbmjaaGreat.Disk
open Go Go.RowKit Go.Proofs.YtehhafnjbkbmjaaGreatW.PrintWords Go.Proofs.YtehhafnjbkbmjaaGreatW.PrintLast Go.Proofs.YtehhafnjbkbmjaaGreatW.PrintMore Go.Proofs.YtehhafnjbkbmjaaGreat.PCommitlogSequence

theorem opsCells_congr {blk blk' : Int → Nat} {l : List Opn} (h : ∀ o ∈ l, o.f0 = 1 → blk o.f3 = blk' o.f3) : opsCells blk l = opsCells blk' l := by
  unfold opsCells
  rw [List.flatMap_def, List.flatMap_def]
  congr 1
  refine List.map_congr_left (fun o ho => ?_)
  unfold opCells opPtr
  split
  · rw [h o ho ‹_›]
  · rfl
/-- The state with one more file. -/
def pFile (S : PS) (f : Fil) : PS := { S with files := S.files ++ [f] }
theorem fileAt_old {S : PS} {f : Fil} {i : Int} (h0 : 0 ≤ i) (h : i < S.files.length) : fileAt (pFile S f) i = fileAt S i := by
  unfold fileAt pFile
  have : i.toNat < S.files.length := by omega
  simp [List.getD, List.getElem?_append_left this]
theorem fileAt_new {S : PS} {f : Fil} : fileAt (pFile S f) S.files.length = f := by
  unfold fileAt pFile
  simp [List.getD]
/-- A new file of no bytes, in a new block. -/
theorem rep_file {w : World} {F : Nat → Prop} {d : Nat} {L : Lay} {S : PS} {B : Nat} (h : Rep w F d L S (Live S)) (hg : Good S B) :
    Rep (w.alloc (.cells (fileCells (.slice none 0 0) 0) tFile)) (fun k => F k ∨ k = w.heap.size) d { L with blk := fun j => if j = S.files.length then w.heap.size else L.blk j, data := fun j => if j = S.files.length then .slice none 0 0 else L.data j }
      (pFile S ⟨[], 0⟩) (fun i => Live S i ∨ i = S.files.length) := by
  have hr := h.alloc (.cells (fileCells (.slice none 0 0) 0) tFile)
  have old : ∀ {i}, Live S i → ¬ i = S.files.length := fun hi e => by have := (hg.range _ hi).2; omega
  have e1 : dirD (fun j => if j = (S.files.length : Int) then w.heap.size else L.blk j) S.dir = dirD L.blk S.dir := dirD_congr (fun e he => by rw [if_neg (old (.inl ⟨e, he, rfl⟩))])
  have e2 : dirD (fun j => if j = (S.files.length : Int) then w.heap.size else L.blk j) S.dur = dirD L.blk S.dur := dirD_congr (fun e he => by rw [if_neg (old (.inr (.inl ⟨e, he, rfl⟩)))])
  have e3 : opsCells (fun j => if j = (S.files.length : Int) then w.heap.size else L.blk j) S.pend = opsCells L.blk S.pend := opsCells_congr (fun o ho h1 => by rw [if_neg (old (.inr (.inr ⟨o, ho, h1, rfl⟩)))])
  exact
    { disk := hr.disk
      left := hr.left
      cur := by
        show OwnDir _ L.cur S.dir.length (dirD _ S.dir)
        rw [e1]; exact hr.cur
      dur := by
        show OwnDir _ L.dur S.dur.length (dirD _ S.dur)
        rw [e2]; exact hr.dur
      ne := h.ne
      pend := by
        show World.ownsRow _ 0 tOp 4 L.pend S.pend.length (opsCells _ S.pend)
        rw [e3]; exact hr.pend
      live := fun i hi => .inl hi
      file := fun i hi => by
        rcases hi with hi | rfl
        · simp only [if_neg (old hi)]
          rw [fileAt_old (hg.range i hi).1 (hg.range i hi).2]
          exact hr.file i hi
        · simp only [if_pos]
          rw [fileAt_new]
          exact heap_alloc_new w _
      data := fun i hi => by
        rcases hi with hi | rfl
        · simp only [if_neg (old hi)]
          rw [fileAt_old (hg.range i hi).1 (hg.range i hi).2]
          exact hr.data i hi
        · simp only [if_pos]
          rw [fileAt_new]
          exact World.ownsRow_nil _ _ _ _
      inj := fun i j hi hj e => by
        rcases hi with hi | rfl <;> rcases hj with hj | rfl
        · simp only [if_neg (old hi), if_neg (old hj)] at e
          exact h.inj i j hi hj e
        · simp only [if_neg (old hi), if_pos] at e
          have := lt_blk (h.file i hi)
          omega
        · simp only [if_neg (old hj), if_pos] at e
          have := lt_blk (h.file j hj)
          omega
        · rfl
      apart := fun i j hi hj hne => by
        rcases hi with hi | rfl <;> rcases hj with hj | rfl
        · simp only [if_neg (old hi), if_neg (old hj)]
          exact h.apart i j hi hj hne
        · simp only [if_neg (old hi), if_pos]
          cases hq : (L.data i).ownBlock
          · exact .inl rfl
          · exact .inr (by simp [Value.ownBlock])
        · simp only [if_pos]
          exact .inl rfl
        · exact absurd rfl hne
      inD := .inl h.inD
      inC := .inl h.inC
      inU := .inl h.inU
      inP := fun k hk => .inl (h.inP k hk)
      inB := fun i hi => by
        rcases hi with hi | rfl
        · simp only [if_neg (old hi)]
          exact .inl (h.inB i hi)
        · exact .inr (if_pos rfl)
      inV := fun i hi k hk => by
        rcases hi with hi | rfl
        · simp only [if_neg (old hi)] at hk
          exact .inl (h.inV i hi k hk)
        · simp only [if_pos] at hk
          simp [Value.ownBlock] at hk }
theorem change_made (w w1 : World) (F : Nat → Prop) (d : Nat) (L : Lay) (S : PS) (B : Nat) (n : ByteArray) (h : Rep w1 F d L S (Live S)) (hf : Fr (fun _ => False) w w1) (hg : Good S B) (hB : B ≤ 549755813888) (hn : n.size ≤ 64) (hl : S.lim = true → 0 < S.left) :
    Calls Tryz.prog 88 #[.pointer (some ⟨d, 0, none⟩), .agg #[.int .i64 0, .string ⟨#[]⟩, .string n, .pointer (some ⟨w1.heap.size, 0, none⟩)]] (w1.alloc (.cells #[.slice none 0 0, .int .i64 0] tFile)) fun e w' =>
      e = .returned (.int .i64 0) ∧ After w F d (pDone (pDir (pFile S ⟨[], 0⟩) ⟨1, n, ⟨#[]⟩, S.files.length⟩)) w' := by
  have hr := rep_file h hg
  have hc := change_calls _ _ d _ (pFile S ⟨[], 0⟩) _ ⟨1, n, ⟨#[]⟩, S.files.length⟩ hr (fun _ => .inr rfl) ⟨.inl rfl, hn, Nat.zero_le _⟩ (by have := hg.nDir; show S.dir.length ≤ _; omega) (by have := hg.nPend; show S.pend.length ≤ _; omega) (fun e => ⟨hl e, (hg.left e).2⟩)
  have e : (opCells (fun j => if j = (S.files.length : Int) then w1.heap.size else L.blk j) ⟨1, n, ⟨#[]⟩, S.files.length⟩).toArray = #[.int .i64 0, .string ⟨#[]⟩, .string n, .pointer (some ⟨w1.heap.size, 0, none⟩)] := by simp [opCells, opFrom, opTo, opPtr]
  rw [e] at hc
  refine hc.mono fun e w' ⟨q1, L', _, _, q2, q3⟩ => ⟨q1, ?_⟩
  refine (After.of q2 q3).behind ((hf.mono (fun _ (hk : False) => hk.elim)).alloc _) (fun k hk => ?_)
  rcases hk with hk | rfl
  · exact .inl hk
  · exact .inr hf.size

set_option maxHeartbeats 4000000 in
theorem Create_calls (w : World) (F : Nat → Prop) (d : Nat) (L : Lay) (S : PS) (B : Nat) (n : ByteArray) (h : Rep w F d L S (Live S)) (hg : Good S B) (hB : B ≤ 549755813888) :
    Calls Tryz.prog 31 #[.pointer (some ⟨d, 0, none⟩), .string n] w fun e w' => e = .returned (.int .i64 (pCreate S n).2) ∧ After w F d (pCreate S n).1 w' := by
  have H := Lib.hid h
  have HG := Lib.hid hg
  have HB := Lib.hid hB
  clear h hg hB
  rcases pCheck_cases S.lim S.left [n] with hc | hc | hc
  · have HC := Lib.hid hc
    have HN := Lib.hid (pCheck_zero hc)
    have HM := Lib.hid (okName_size (HN.out.2 n (by simp)))
    cases hp : pLook S.dir n with
    | none =>
      have e : pCreate S n = (pDone (pDir (pFile S ⟨[], 0⟩) ⟨1, n, ⟨#[]⟩, S.files.length⟩), 0) := by simp [pCreate, hc, hp, pFile]
      rw [e]
      have hh : Maps.has (dirD L.blk S.dir) (entKey n) = false := by rw [dirD_has, hp]; rfl
      clear hc hp e
      go_enter Tryz.func31, Tryz.ntmps31
      go_wp2_with (first | (go_at_call 87; refine (begin_one w F d L S n 0 H.out HC.out).mono ?_; rintro e w1 ⟨rfl, hr1, hf1⟩; have HR1 := Lib.hid hr1; have HF1 := Lib.hid hf1; have c0 := cell_blk hr1.disk 0; simp [diskCells] at c0; clear hr1 hf1) | (at_lookup; refine wpList_lookup_own_ok _ rfl _ _ 68 rfl 9 100 dirK dirT fileElem (zeroFile _) .nil [] rfl L.cur _ _ rfl HR1.out.cur _ (entKey n) rfl (keyN (HN.out.2 n (by simp))) ?_; intro v ps hv; clear hv) | (go_at_call 88; refine (change_made w w1 F d L S B n HR1.out HF1.out HG.out HB.out HM.out HN.out.1).mono ?_; rintro e w2 ⟨rfl, ha⟩) | fail)
      go_ret
      exact ⟨rfl, ha⟩
    | some i =>
      have e : pCreate S n = (S, 9) := by simp [pCreate, hc, hp]
      rw [e]
      have hh : Maps.has (dirD L.blk S.dir) (entKey n) = true := by rw [dirD_has, hp]; rfl
      clear hc hp e
      go_enter Tryz.func31, Tryz.ntmps31
      go_wp2_with (first | (go_at_call 87; refine (begin_one w F d L S n 0 H.out HC.out).mono ?_; rintro e w1 ⟨rfl, hr1, hf1⟩; have HR1 := Lib.hid hr1; have HF1 := Lib.hid hf1; have c0 := cell_blk hr1.disk 0; simp [diskCells] at c0; clear hr1 hf1) | (at_lookup; refine wpList_lookup_own_ok _ rfl _ _ 68 rfl 9 100 dirK dirT fileElem (zeroFile _) .nil [] rfl L.cur _ _ rfl HR1.out.cur _ (entKey n) rfl (keyN (HN.out.2 n (by simp))) ?_; intro v ps hv; clear hv) | fail)
      go_ret
      exact ⟨rfl, After.same HR1.out HF1.out⟩
  · have e : pCreate S n = (S, 8) := by simp [pCreate, hc]
    rw [e]
    have HC := Lib.hid hc
    clear hc e
    go_enter Tryz.func31, Tryz.ntmps31
    go_wp2_with (first | (go_at_call 87; refine (begin_one w F d L S n 8 H.out HC.out).mono ?_; rintro e w1 ⟨rfl, hr1, hf1⟩; have HR1 := Lib.hid hr1; have HF1 := Lib.hid hf1; have c0 := cell_blk hr1.disk 0; simp [diskCells] at c0; clear hr1 hf1) | fail)
    go_ret
    exact ⟨rfl, After.same HR1.out HF1.out⟩
  · have e : pCreate S n = (S, 16) := by simp [pCreate, hc]
    rw [e]
    have HC := Lib.hid hc
    clear hc e
    go_enter Tryz.func31, Tryz.ntmps31
    go_wp2_with (first | (go_at_call 87; refine (begin_one w F d L S n 16 H.out HC.out).mono ?_; rintro e w1 ⟨rfl, hr1, hf1⟩; have HR1 := Lib.hid hr1; have HF1 := Lib.hid hf1; have c0 := cell_blk hr1.disk 0; simp [diskCells] at c0; clear hr1 hf1) | fail)
    go_ret
    exact ⟨rfl, After.same HR1.out HF1.out⟩

end Go.Proofs.YtehhafnjbkbmjaaGreat.Disk

/- The disk's methods: Append, Sync. -/
namespace Go.Proofs.YtehhafnjbkbmjaaGreat.Disk
open Go Go.RowKit Go.Proofs.YtehhafnjbkbmjaaGreatW.PrintWords Go.Proofs.YtehhafnjbkbmjaaGreatW.PrintLast Go.Proofs.YtehhafnjbkbmjaaGreatW.PrintMore Go.Proofs.YtehhafnjbkbmjaaGreat.PCommitlogSequence

theorem reads_of_C {w : World} {k : IntKind} {A : Option Addr} {n : Nat} {xs : List Int} (h : Kd.C (Kd.int k) w A n xs) : ReadsInt w k A n xs :=
  ⟨h.1, h.2.1, fun hn => by
    obtain ⟨ad, e, hc⟩ := h.2.2 hn
    refine ⟨ad, e, fun j hj => ?_⟩
    have hjl : j < xs.length := by have := h.1; omega
    obtain ⟨c, _, hK, hcell⟩ := hc j xs[j] (List.getElem?_eq_getElem hjl)
    obtain rfl := hK
    have := hcell 0 _ rfl
    rw [show (Kd.int k).sz = 1 from rfl] at this
    simpa [List.getD, hjl] using this⟩
theorem C_of_reads {w : World} {k : IntKind} {A : Option Addr} {n : Nat} {xs : List Int} (h : ReadsInt w k A n xs) : Kd.C (Kd.int k) w A n xs :=
  ⟨h.1, h.2.1, fun hn => by
    obtain ⟨ad, e, hc⟩ := h.2.2 hn
    refine ⟨ad, e, fun j p hj => ⟨[.int k p], rfl, rfl, fun i u hu => ?_⟩⟩
    have hi0 : i = 0 := by
      have := (List.getElem?_eq_some_iff.1 hu).1
      simpa using this
    subst hi0
    simp at hu
    subst hu
    obtain ⟨hjl, rfl⟩ := List.getElem?_eq_some_iff.1 hj
    rw [show (Kd.int k).sz = 1 from rfl]
    have := hc j (by have := h.1; omega)
    simpa [List.getD, hjl] using this⟩

def pSet (S : PS) (i : Int) (f : Fil) : PS := { S with files := S.files.set i.toNat f }
theorem fileAt_set {S : PS} {i j : Int} {f : Fil} (hi : 0 ≤ i ∧ i < S.files.length) (hj : 0 ≤ j) : fileAt (pSet S i f) j = if j = i then f else fileAt S j := by
  unfold fileAt pSet
  by_cases h : j = i
  · subst h
    rw [if_pos rfl]
    have : j.toNat < S.files.length := by omega
    simp [List.getD, this]
  · rw [if_neg h]
    have : ¬ i.toNat = j.toNat := by omega
    simp [List.getD, this]
/-- One file's bytes and durable length turn. -/
theorem rep_set {w w' : World} {F : Nat → Prop} {d : Nat} {L : Lay} {S : PS} {B : Nat} {i : Int} {f : Fil} {v : Value} (h : Rep w F d L S (Live S)) (hg : Good S B) (hi : Live S i)
    (h1 : w'.heap[L.blk i]? = some (.cells (fileCells v f.f1) tFile (0, 0))) (h2 : w'.ownsRow 0 5 1 v f.f0.length (u8s f.f0)) (hf : Fr (fun k => k = L.blk i ∨ (L.data i).ownBlock = some k) w w')
    (hv : v.ownBlock = (L.data i).ownBlock ∨ ∃ b, v.ownBlock = some b ∧ w.heap.size ≤ b) :
    Rep w' (grow F w w') d { L with data := fun j => if j = i then v else L.data j } (pSet S i f) (Live S) ∧ Fr F w w' := by
  have stay : ∀ k, k < w.heap.size → k ≠ L.blk i → (L.data i).ownBlock ≠ some k → w'.heap[k]? = w.heap[k]? := fun k hk n1 n2 => hf.block k hk (fun e => by rcases e with e | e; exact n1 e; exact n2 e)
  have inG : ∀ k, F k → k < w.heap.size → grow F w w' k := fun k hk hlt => .inl ⟨hk, by have := hf.size; omega⟩
  have ri := hg.range i hi
  refine ⟨?_, hf.mono (fun k hk => by rcases hk with rfl | hk; exact .inl (h.inB i hi); exact .inl (h.inV i hi k hk))⟩
  exact
    { disk := (stay _ (lt_blk h.disk) (h.d_ne_blk hi) (fun e => h.d_ne_data hi e.symm)).trans h.disk
      left := h.left
      cur := ownDir_move h.cur (stay _ h.cur.lt (h.cur_ne_blk hi) (fun e => h.cur_ne_data hi e.symm))
      dur := ownDir_move h.dur (stay _ h.dur.lt (h.dur_ne_blk hi) (fun e => h.dur_ne_data hi e.symm))
      ne := h.ne
      pend := own_move h.pend (fun k hk => stay k (ownBlock_lt h.pend hk) (fun e => h.blk_ne_pend hi (by rw [hk, e])) (fun e => h.pend_ne_data hi hk e))
      live := h.live
      file := fun j hj => by
        rw [fileAt_set ri (hg.range j hj).1]
        by_cases e : j = i
        · subst e
          simp only [if_pos]
          exact h1
        · simp only [if_neg e]
          exact (stay _ (lt_blk (h.file j hj)) (fun q => e (h.inj j i hj hi q)) (fun q => h.blk_ne_data hj hi q.symm)).trans (h.file j hj)
      data := fun j hj => by
        rw [fileAt_set ri (hg.range j hj).1]
        by_cases e : j = i
        · subst e
          simp only [if_pos]
          exact h2
        · simp only [if_neg e]
          refine own_move (h.data j hj) (fun k hk => stay k (ownBlock_lt (h.data j hj) hk) (fun q => h.blk_ne_data hi hj (by rw [hk, q])) (fun q => ?_))
          rcases h.apart j i hj hi e with a | a
          · rw [a] at hk; cases hk
          · exact a (by rw [hk, q])
      inj := h.inj
      apart := fun j k hj hk hne => by
        have key : ∀ j, Live S j → j ≠ i → (L.data j).ownBlock = none ∨ (L.data j).ownBlock ≠ v.ownBlock := fun j hj hne => by
          rcases hv with hv | ⟨b, hb, hlt⟩
          · rw [hv]
            exact h.apart j i hj hi hne
          · cases hq : (L.data j).ownBlock with
            | none => exact .inl rfl
            | some q =>
              right
              rw [hb]
              intro e
              have := ownBlock_lt (h.data j hj) hq
              cases e
              omega
        by_cases e1 : j = i
        · subst e1
          simp only [if_pos, if_neg (fun e => hne e.symm : ¬ k = j)]
          rcases key k hk (fun e => hne e.symm) with a | a
          · rw [a]
            cases v.ownBlock
            · exact .inl rfl
            · exact .inr (by simp)
          · exact .inr (fun e => a e.symm)
        · by_cases e2 : k = i
          · subst e2
            simp only [if_pos, if_neg e1]
            exact key j hj e1
          · simp only [if_neg e1, if_neg e2]
            exact h.apart j k hj hk hne
      inD := inG _ h.inD (lt_blk h.disk)
      inC := inG _ h.inC h.cur.lt
      inU := inG _ h.inU h.dur.lt
      inP := fun k hk => inG k (h.inP k hk) (ownBlock_lt h.pend hk)
      inB := fun j hj => inG _ (h.inB j hj) (lt_blk (h.file j hj))
      inV := fun j hj k hk => by
        by_cases e : j = i
        · subst e
          simp only [if_pos] at hk
          rcases hv with hv | ⟨b, hb, hlt⟩
          · rw [hv] at hk
            exact inG k (h.inV j hj k hk) (ownBlock_lt (h.data j hj) hk)
          · exact .inr ⟨by rw [hb] at hk; cases hk; exact hlt, ownBlock_lt h2 hk⟩
        · simp only [if_neg e] at hk
          exact inG k (h.inV j hj k hk) (ownBlock_lt (h.data j hj) hk) }

def pAppend (S : PS) (n : ByteArray) (b : List Int) : PS × Int :=
  if pCheck S.lim S.left [n] = 0 then
    match pLook S.dir n with
    | some i => (pDone (pSet S i ⟨(fileAt S i).f0 ++ b, (fileAt S i).f1⟩), 0)
    | none => (S, 15)
  else (S, pCheck S.lim S.left [n])
def pSync (S : PS) (n : ByteArray) : PS × Int :=
  if pCheck S.lim S.left [n] = 0 then
    match pLook S.dir n with
    | some i => (pDone (pSet S i ⟨(fileAt S i).f0, (fileAt S i).f0.length⟩), 0)
    | none => (S, 15)
  else (S, pCheck S.lim S.left [n])
theorem live_look {S : PS} {n : ByteArray} {i : Int} (h : pLook S.dir n = some i) : Live S i := by
  obtain ⟨e, he, _, rfl⟩ := pLook_mem h
  exact .inl ⟨e, he, rfl⟩
theorem fileAt_mem {S : PS} {i : Int} (h : 0 ≤ i ∧ i < S.files.length) : fileAt S i ∈ S.files := by
  unfold fileAt
  have : i.toNat < S.files.length := by omega
  simp [List.getD, this]
/-- done, on a disk of which one file has turned. -/
theorem done_set (w w1 w2 : World) (F : Nat → Prop) (d : Nat) (L : Lay) (S : PS) (B : Nat) (i : Int) (f : Fil) (v : Value) (h : Rep w1 F d L S (Live S)) (hf0 : Fr (fun _ => False) w w1) (hg : Good S B) (hi : Live S i) (hl : S.lim = true → 0 < S.left)
    (h1 : w2.heap[L.blk i]? = some (.cells (fileCells v f.f1) tFile (0, 0))) (h2 : w2.ownsRow 0 5 1 v f.f0.length (u8s f.f0)) (hf : Fr (fun k => k = L.blk i ∨ (L.data i).ownBlock = some k) w1 w2)
    (hv : v.ownBlock = (L.data i).ownBlock ∨ ∃ b, v.ownBlock = some b ∧ w1.heap.size ≤ b) :
    Calls Tryz.prog 90 #[.pointer (some ⟨d, 0, none⟩)] w2 fun e w' => e = .returned (.int .i64 0) ∧ After w F d (pDone (pSet S i f)) w' := by
  obtain ⟨q, qf⟩ := rep_set h hg hi h1 h2 hf hv
  refine (done_rep w2 _ d _ (pSet S i f) _ q (fun e => ⟨hl e, (hg.left e).2⟩)).mono fun e w' ⟨q1, q2, q3⟩ => ⟨q1, ?_⟩
  refine (After.of (q2.mono (fun k hk hlt => .inl ⟨hk, hlt⟩)) q3).behind ((hf0.mono (F' := F) (fun _ (hk : False) => hk.elim)).trans qf (fun _ => .inl)) (fun k hk => ?_)
  rcases hk with ⟨hk, _⟩ | ⟨hk, _⟩
  · exact .inl hk
  · exact .inr (Nat.le_trans hf0.size hk)
theorem infoB : (Tryz.prog.info? 5).map (fun i => (i.zero, i.size, i.bytes)) = some (some (.int .u8 0), 1, 1) := by kernel_rfl
theorem sync_done (w w1 : World) (F : Nat → Prop) (d : Nat) (L : Lay) (S : PS) (B : Nat) (i : Int) (dn : Nat) (hdn : dn = (fileAt S i).f0.length) (h : Rep w1 F d L S (Live S)) (hf0 : Fr (fun _ => False) w w1) (hg : Good S B) (hi : Live S i) (hl : S.lim = true → 0 < S.left) :
    Calls Tryz.prog 90 #[.pointer (some ⟨d, 0, none⟩)] (w1.setCell ⟨L.blk i, 1, none⟩ (.int .i64 dn)) fun e w' => e = .returned (.int .i64 0) ∧ After w F d (pDone (pSet S i ⟨(fileAt S i).f0, (fileAt S i).f0.length⟩)) w' := by
  subst hdn
  refine done_set w w1 _ F d L S B i _ (L.data i) h hf0 hg hi hl (blk_set (h.file i hi) 1 _) (own_move (h.data i hi) (fun k hk => Below.heap_setCell _ _ _ _ (fun e => h.blk_ne_data hi hi (by rw [hk, e])))) ?_ (.inl rfl)
  exact Fr.setCell (Fr.refl _ w1) (p := ⟨L.blk i, 1, none⟩) (.inl (.inl rfl)) _
theorem data_form {w : World} {v : Value} {l : List Int} (h : w.ownsRow 0 5 1 v l.length (u8s l)) : ∃ A n c, v = .slice A n c ∧ n = l.length ∧ n ≤ 9223372036854775807 := by
  obtain ⟨A, c, e, hr⟩ := own_reads h
  exact ⟨A, _, c, e, rfl, hr.2.1⟩

set_option maxHeartbeats 4000000 in
theorem Sync_calls (w : World) (F : Nat → Prop) (d : Nat) (L : Lay) (S : PS) (B : Nat) (n : ByteArray) (h : Rep w F d L S (Live S)) (hg : Good S B) (hB : B ≤ 549755813888) :
    Calls Tryz.prog 63 #[.pointer (some ⟨d, 0, none⟩), .string n] w fun e w' => e = .returned (.int .i64 (pSync S n).2) ∧ After w F d (pSync S n).1 w' := by
  have H := Lib.hid h
  have HG := Lib.hid hg
  have HB := Lib.hid hB
  clear h hg hB
  rcases pCheck_cases S.lim S.left [n] with hc | hc | hc
  · have HC := Lib.hid hc
    have HN := Lib.hid (pCheck_zero hc)
    have HM := Lib.hid (okName_size (HN.out.2 n (by simp)))
    cases hp : pLook S.dir n with
    | none =>
      have e : pSync S n = (S, 15) := by simp [pSync, hc, hp]
      rw [e]
      have hh : Maps.has (dirD L.blk S.dir) (entKey n) = false := by rw [dirD_has, hp]; rfl
      clear hc hp e
      go_enter Tryz.func63, Tryz.ntmps63
      go_wp2_with (first | (go_at_call 87; refine (begin_one w F d L S n 0 H.out HC.out).mono ?_; rintro e w1 ⟨rfl, hr1, hf1⟩; have HR1 := Lib.hid hr1; have HF1 := Lib.hid hf1; have c0 := cell_blk hr1.disk 0; simp [diskCells] at c0; clear hr1 hf1) | (at_lookup; refine wpList_lookup_own_ok _ rfl _ _ 68 rfl 9 100 dirK dirT fileElem (zeroFile _) .nil [] rfl L.cur _ _ rfl HR1.out.cur _ (entKey n) rfl (keyN (HN.out.2 n (by simp))) ?_; intro v ps hv; clear hv) | fail)
      go_ret
      exact ⟨rfl, After.same HR1.out HF1.out⟩
    | some i =>
      have e : pSync S n = (pDone (pSet S i ⟨(fileAt S i).f0, (fileAt S i).f0.length⟩), 0) := by simp [pSync, hc, hp]
      rw [e]
      have hh : Maps.has (dirD L.blk S.dir) (entKey n) = true := by rw [dirD_has, hp]; rfl
      have HAT : Hid (∀ z : DataW Unit, (dirD L.blk S.dir).atKey (entKey n) z = .lit (.int .i64 (L.blk i))) := fun z => by rw [dirD_atKey, hp]
      have HI := Lib.hid (live_look hp)
      have HRI := Lib.hid (HG.out.range i HI.out)
      have HFM := Lib.hid (fileAt_mem HRI.out)
      clear hc hp e
      go_enter Tryz.func63, Tryz.ntmps63
      obtain ⟨dA, dn, dc, hdv, hdn, hdm⟩ : ∃ A n c, L.data i = .slice A n c ∧ n = (fileAt S i).f0.length ∧ n ≤ 9223372036854775807 := data_form (H.out.data i HI.out)
      have HDN := Lib.hid hdn
      have HDV := Lib.hid hdv
      clear hdn
      go_wp2_with (first | (go_at_call 87; refine (begin_one w F d L S n 0 H.out HC.out).mono ?_; rintro e w1 ⟨rfl, hr1, hf1⟩; have HR1 := Lib.hid hr1; have HF1 := Lib.hid hf1; have c0 := cell_blk hr1.disk 0; simp [diskCells] at c0; have b0 := cell_blk (hr1.file i HI.out) 0; have b1 := cell_blk (hr1.file i HI.out) 1; have f0 := frozen_blk (hr1.file i HI.out) 0; have f1 := frozen_blk (hr1.file i HI.out) 1; simp [fileCells] at b0 b1; clear hr1 hf1) | (at_lookup; refine wpList_lookup_own_ok _ rfl _ _ 68 rfl 9 100 dirK dirT fileElem (zeroFile _) .nil [] rfl L.cur _ _ rfl HR1.out.cur _ (entKey n) rfl (keyN (HN.out.2 n (by simp))) ?_; intro v ps hv; rw [HAT.out .nil] at hv; obtain rfl := fileElem_lit hv; clear hv) | (go_at_call 90; refine (sync_done w w1 F d L S B i dn HDN.out HR1.out HF1.out HG.out HI.out HN.out.1).mono ?_; rintro e w2 ⟨rfl, ha⟩) | fail)
      go_ret
      exact ⟨rfl, ha⟩
  · have e : pSync S n = (S, 8) := by simp [pSync, hc]
    rw [e]
    have HC := Lib.hid hc
    clear hc e
    go_enter Tryz.func63, Tryz.ntmps63
    go_wp2_with (first | (go_at_call 87; refine (begin_one w F d L S n 8 H.out HC.out).mono ?_; rintro e w1 ⟨rfl, hr1, hf1⟩; have HR1 := Lib.hid hr1; have HF1 := Lib.hid hf1; have c0 := cell_blk hr1.disk 0; simp [diskCells] at c0; clear hr1 hf1) | fail)
    go_ret
    exact ⟨rfl, After.same HR1.out HF1.out⟩
  · have e : pSync S n = (S, 16) := by simp [pSync, hc]
    rw [e]
    have HC := Lib.hid hc
    clear hc e
    go_enter Tryz.func63, Tryz.ntmps63
    go_wp2_with (first | (go_at_call 87; refine (begin_one w F d L S n 16 H.out HC.out).mono ?_; rintro e w1 ⟨rfl, hr1, hf1⟩; have HR1 := Lib.hid hr1; have HF1 := Lib.hid hf1; have c0 := cell_blk hr1.disk 0; simp [diskCells] at c0; clear hr1 hf1) | fail)
    go_ret
    exact ⟨rfl, After.same HR1.out HF1.out⟩
theorem append_done (w w1 w2 : World) (F : Nat → Prop) (d : Nat) (L : Lay) (S : PS) (B : Nat) (i : Int) (bs : List Int) (v1 : Value) (h : Rep w1 F d L S (Live S)) (hf0 : Fr (fun _ => False) w w1) (hg : Good S B) (hi : Live S i) (hl : S.lim = true → 0 < S.left)
    (h1 : w2.heap[L.blk i]? = some (.cells (fileCells (L.data i) (fileAt S i).f1) tFile (0, 0))) (h2 : w2.ownsRow 0 5 1 v1 ((fileAt S i).f0 ++ bs).length (nums .u8 ((fileAt S i).f0 ++ bs))) (h3 : w1.grownBy w2 (L.data i).ownBlock)
    (h4 : v1.ownBlock = (L.data i).ownBlock ∨ ∃ b, v1.ownBlock = some b ∧ w1.heap.size ≤ b) :
    Calls Tryz.prog 90 #[.pointer (some ⟨d, 0, none⟩)] (w2.setCell ⟨L.blk i, 0, none⟩ v1) fun e w' => e = .returned (.int .i64 0) ∧ After w F d (pDone (pSet S i ⟨(fileAt S i).f0 ++ bs, (fileAt S i).f1⟩)) w' := by
  refine done_set w w1 _ F d L S B i _ v1 h hf0 hg hi hl (blk_set h1 0 _) (own_move h2 (fun k hk => Below.heap_setCell _ _ _ _ (fun e => ?_))) ?_ h4
  · obtain ⟨c, hc⟩ := own_typed h2 k hk
    rw [e] at hc
    exact cells_ne_type h1 hc (by decide) rfl
  · exact Fr.setCell ((Fr.refl _ w1).grown h3 (fun k hk => .inl (.inr hk))) (p := ⟨L.blk i, 0, none⟩) (.inl (.inl rfl)) _

set_option maxHeartbeats 4000000 in
theorem Append_calls (w : World) (F : Nat → Prop) (d : Nat) (L : Lay) (S : PS) (B : Nat) (n : ByteArray) (A : Option Addr) (bs : List Int) (cc : Nat) (hbs : Kd.C (Kd.int .u8) w A bs.length bs) (hbl : bs.length ≤ 1099511627776) (h : Rep w F d L S (Live S)) (hg : Good S B) (hB : B ≤ 549755813888) :
    Calls Tryz.prog 33 #[.pointer (some ⟨d, 0, none⟩), .string n, .slice A bs.length cc] w fun e w' => e = .returned (.int .i64 (pAppend S n bs).2) ∧ After w F d (pAppend S n bs).1 w' := by
  have H := Lib.hid h
  have HG := Lib.hid hg
  have HB := Lib.hid hB
  have HBS := Lib.hid hbs
  have HBL := Lib.hid hbl
  clear h hg hB hbs hbl
  rcases pCheck_cases S.lim S.left [n] with hc | hc | hc
  · have HC := Lib.hid hc
    have HN := Lib.hid (pCheck_zero hc)
    have HM := Lib.hid (okName_size (HN.out.2 n (by simp)))
    cases hp : pLook S.dir n with
    | none =>
      have e : pAppend S n bs = (S, 15) := by simp [pAppend, hc, hp]
      rw [e]
      have hh : Maps.has (dirD L.blk S.dir) (entKey n) = false := by rw [dirD_has, hp]; rfl
      clear hc hp e
      go_enter Tryz.func33, Tryz.ntmps33
      go_wp2_with (first | (go_at_call 87; refine (begin_one w F d L S n 0 H.out HC.out).mono ?_; rintro e w1 ⟨rfl, hr1, hf1⟩; have HR1 := Lib.hid hr1; have HF1 := Lib.hid hf1; have c0 := cell_blk hr1.disk 0; simp [diskCells] at c0; clear hr1 hf1) | (at_lookup; refine wpList_lookup_own_ok _ rfl _ _ 68 rfl 9 100 dirK dirT fileElem (zeroFile _) .nil [] rfl L.cur _ _ rfl HR1.out.cur _ (entKey n) rfl (keyN (HN.out.2 n (by simp))) ?_; intro v ps hv; clear hv) | fail)
      go_ret
      exact ⟨rfl, After.same HR1.out HF1.out⟩
    | some i =>
      have e : pAppend S n bs = (pDone (pSet S i ⟨(fileAt S i).f0 ++ bs, (fileAt S i).f1⟩), 0) := by simp [pAppend, hc, hp]
      rw [e]
      have hh : Maps.has (dirD L.blk S.dir) (entKey n) = true := by rw [dirD_has, hp]; rfl
      have HAT : Hid (∀ z : DataW Unit, (dirD L.blk S.dir).atKey (entKey n) z = .lit (.int .i64 (L.blk i))) := fun z => by rw [dirD_atKey, hp]
      have HI := Lib.hid (live_look hp)
      have HRI := Lib.hid (HG.out.range i HI.out)
      have HFM := Lib.hid (fileAt_mem HRI.out)
      clear hc hp e
      go_enter Tryz.func33, Tryz.ntmps33
      go_wp2_with (first | (go_at_call 87; refine (begin_one w F d L S n 0 H.out HC.out).mono ?_; rintro e w1 ⟨rfl, hr1, hf1⟩; have HR1 := Lib.hid hr1; have HF1 := Lib.hid hf1; have c0 := cell_blk hr1.disk 0; simp [diskCells] at c0; have b0 := cell_blk (hr1.file i HI.out) 0; have b1 := cell_blk (hr1.file i HI.out) 1; have f0 := frozen_blk (hr1.file i HI.out) 0; have f1 := frozen_blk (hr1.file i HI.out) 1; simp [fileCells] at b0 b1; clear hr1 hf1) | (at_lookup; refine wpList_lookup_own_ok _ rfl _ _ 68 rfl 9 100 dirK dirT fileElem (zeroFile _) .nil [] rfl L.cur _ _ rfl HR1.out.cur _ (entKey n) rfl (keyN (HN.out.2 n (by simp))) ?_; intro v ps hv; rw [HAT.out .nil] at hv; obtain rfl := fileElem_lit hv; clear hv) | (at_builtin; refine print_append_row (w0 := w1) 0 rfl _ _ 36 5 .u8 1 rfl Tryz.underlying36 infoB (by decide) (L.data i) (fileAt S i).f0 bs A bs.length cc rfl rfl (HR1.out.data i HI.out) (reads_of_C (Kd.C_below HBS.out (HF1.out.toBelow (Nat.le_refl _) (fun _ (hk : False) => hk.elim)))) (Below.refl 0 w1) (Nat.zero_le _) (by have := HG.out.nBytes _ HFM.out; have := HB.out; have := HBL.out; omega) ?_; intro v1 w2 ho2 hbb hg2 hat2; obtain ⟨A1, n1, c1, rfl, hn1, hm1⟩ := data_form ho2; clear hn1 hm1; have hfi := (hg2.block (L.blk i) (lt_blk (HR1.out.file i HI.out)) (HR1.out.blk_ne_data HI.out HI.out)).trans (HR1.out.file i HI.out); have b02 := cell_blk hfi 0; have f02 := frozen_blk hfi 0; simp [fileCells] at b02; have HFI := Lib.hid hfi; have HO2 := Lib.hid ho2; have HG2 := Lib.hid hg2; have HA2 := Lib.hid hat2; clear hfi ho2 hbb hg2 hat2) | (go_at_call 90; refine (append_done w w1 w2 F d L S B i bs _ HR1.out HF1.out HG.out HI.out HN.out.1 HFI.out HO2.out HG2.out HA2.out).mono ?_; rintro e w3 ⟨rfl, ha⟩) | fail)
      go_ret
      exact ⟨rfl, ha⟩
  · have e : pAppend S n bs = (S, 8) := by simp [pAppend, hc]
    rw [e]
    have HC := Lib.hid hc
    clear hc e
    go_enter Tryz.func33, Tryz.ntmps33
    go_wp2_with (first | (go_at_call 87; refine (begin_one w F d L S n 8 H.out HC.out).mono ?_; rintro e w1 ⟨rfl, hr1, hf1⟩; have HR1 := Lib.hid hr1; have HF1 := Lib.hid hf1; have c0 := cell_blk hr1.disk 0; simp [diskCells] at c0; clear hr1 hf1) | fail)
    go_ret
    exact ⟨rfl, After.same HR1.out HF1.out⟩
  · have e : pAppend S n bs = (S, 16) := by simp [pAppend, hc]
    rw [e]
    have HC := Lib.hid hc
    clear hc e
    go_enter Tryz.func33, Tryz.ntmps33
    go_wp2_with (first | (go_at_call 87; refine (begin_one w F d L S n 16 H.out HC.out).mono ?_; rintro e w1 ⟨rfl, hr1, hf1⟩; have HR1 := Lib.hid hr1; have HF1 := Lib.hid hf1; have c0 := cell_blk hr1.disk 0; simp [diskCells] at c0; clear hr1 hf1) | fail)
    go_ret
    exact ⟨rfl, After.same HR1.out HF1.out⟩

end Go.Proofs.YtehhafnjbkbmjaaGreat.Disk

/- The disk's methods: SyncDir, FailAfter, Read, List, New. -/
namespace Go.Proofs.YtehhafnjbkbmjaaGreat.Disk
open Go Go.RowKit Go.Proofs.YtehhafnjbkbmjaaGreatW.PrintWords Go.Proofs.YtehhafnjbkbmjaaGreatW.PrintLast Go.Proofs.YtehhafnjbkbmjaaGreatW.PrintMore Go.Proofs.YtehhafnjbkbmjaaGreat.PCommitlogSequence

def pSynced (S : PS) : PS := { S with dur := S.dir, pend := [] }
def pSyncDir (S : PS) : PS × Int :=
  if pCheck S.lim S.left [] = 0 then (pDone (pSynced S), 0) else (S, pCheck S.lim S.left [])
theorem live_synced {S : PS} {i : Int} (h : Live (pSynced S) i) : Live S i := by
  rcases h with h | h | ⟨o, ho, _⟩
  · exact .inl h
  · exact .inl h
  · simp [pSynced] at ho
/-- The durable directory is the current one's copy; nothing is pending. -/
theorem rep_synced {w1 w2 w4 : World} {F : Nat → Prop} {d bo : Nat} {L : Lay} {S : PS} (h : Rep w1 F d L S (Live S)) (hf : Fr (fun _ => False) w1 w2) (hbo : w1.heap.size ≤ bo) (hc : OwnDir w2 bo S.dir.length (dirD L.blk S.dir))
    (hd4 : w4.heap[d]? = some (.cells (diskCells L.cur bo (.slice none 0 0) S.lim L.left) tDisk (0, 0))) (hf4 : Fr (fun k => k = d) w2 w4) :
    Rep w4 (grow F w1 w4) d { L with dur := bo, pend := .slice none 0 0 } (pSynced S) (Live S) ∧ Fr F w1 w4 := by
  have h2 := h.fr hf (fun _ _ => id)
  have stay : ∀ k, k < w2.heap.size → k ≠ d → w4.heap[k]? = w2.heap[k]? := fun k hk hne => hf4.block k hk hne
  have inG : ∀ k, F k → k < w2.heap.size → grow F w1 w4 k := fun k hk hlt => .inl ⟨hk, by have := hf4.size; omega⟩
  have hdb : d ≠ bo := fun e => by have := lt_blk h.disk; omega
  refine ⟨?_, (hf.mono (F' := F) (fun _ (hk : False) => hk.elim)).trans hf4 (fun k hk => .inl (by rw [hk]; exact h.inD))⟩
  exact
    { disk := hd4
      left := h.left
      cur := ownDir_move h2.cur (stay _ h2.cur.lt (fun e => h.d_ne_cur e.symm))
      dur := ownDir_move hc (stay _ hc.lt (fun e => hdb e.symm))
      ne := fun e => by have := h.cur.lt; have e' : L.cur = bo := e; omega
      pend := World.ownsRow_nil _ _ _ _
      live := fun i hi => live_synced hi
      file := fun i hi => (stay _ (lt_blk (h2.file i hi)) (fun e => h.d_ne_blk hi e.symm)).trans (h2.file i hi)
      data := fun i hi => own_move (h2.data i hi) (fun k hk => stay k (ownBlock_lt (h2.data i hi) hk) (fun e => h.d_ne_data hi (by rw [hk, e])))
      inj := h.inj
      apart := h.apart
      inD := inG _ h.inD (lt_blk h2.disk)
      inC := inG _ h.inC h2.cur.lt
      inU := .inr ⟨hbo, by have := hc.lt; have := hf4.size; show bo < _; omega⟩
      inP := fun k hk => by simp [Value.ownBlock] at hk
      inB := fun i hi => inG _ (h.inB i hi) (lt_blk (h2.file i hi))
      inV := fun i hi k hk => inG k (h.inV i hi k hk) (ownBlock_lt (h2.data i hi) hk) }
theorem syncdir_done (w w1 w2 w4 : World) (F : Nat → Prop) (d bo : Nat) (L : Lay) (S : PS) (B : Nat) (h : Rep w1 F d L S (Live S)) (hf0 : Fr (fun _ => False) w w1) (hg : Good S B) (hl : S.lim = true → 0 < S.left) (hf : Fr (fun _ => False) w1 w2) (hbo : w1.heap.size ≤ bo)
    (hc : OwnDir w2 bo S.dir.length (dirD L.blk S.dir)) (hw4 : w4 = (w2.setCell ⟨d, 1, none⟩ (.map (some bo))).setCell ⟨d, 2, none⟩ (.slice none 0 0)) :
    Calls Tryz.prog 90 #[.pointer (some ⟨d, 0, none⟩)] w4 fun e w' => e = .returned (.int .i64 0) ∧ After w F d (pDone (pSynced S)) w' := by
  have h2 := h.fr hf (fun _ _ => id)
  obtain ⟨q, qf⟩ := rep_synced (w4 := w4) h hf hbo hc (by rw [hw4]; exact blk_set (blk_set h2.disk 1 _) 2 _) (by rw [hw4]; exact Fr.setCell (F := fun k => k = d) (Fr.setCell (F := fun k => k = d) (Fr.refl _ w2) (p := ⟨d, 1, none⟩) (.inl rfl) _) (p := ⟨d, 2, none⟩) (.inl rfl) _)
  refine (done_rep w4 _ d _ (pSynced S) _ q (fun e => ⟨hl e, (hg.left e).2⟩)).mono fun e w' ⟨q1, q2, q3⟩ => ⟨q1, ?_⟩
  refine (After.of (q2.mono (fun k hk hlt => .inl ⟨hk, hlt⟩)) q3).behind ((hf0.mono (F' := F) (fun _ (hk : False) => hk.elim)).trans qf (fun _ => .inl)) (fun k hk => ?_)
  rcases hk with ⟨hk, _⟩ | ⟨hk, _⟩
  · exact .inl hk
  · exact .inr (Nat.le_trans hf0.size hk)

set_option maxHeartbeats 4000000 in
theorem SyncDir_calls (w : World) (F : Nat → Prop) (d : Nat) (L : Lay) (S : PS) (B : Nat) (h : Rep w F d L S (Live S)) (hg : Good S B) (hB : B ≤ 549755813888) :
    Calls Tryz.prog 66 #[.pointer (some ⟨d, 0, none⟩)] w fun e w' => e = .returned (.int .i64 (pSyncDir S).2) ∧ After w F d (pSyncDir S).1 w' := by
  have H := Lib.hid h
  have HG := Lib.hid hg
  have HB := Lib.hid hB
  clear h hg hB
  rcases pCheck_cases S.lim S.left [] with hc | hc | hc
  · have HC := Lib.hid hc
    have HN := Lib.hid (pCheck_zero hc)
    have e : pSyncDir S = (pDone (pSynced S), 0) := by simp [pSyncDir, hc]
    rw [e]
    clear hc e
    go_enter Tryz.func66, Tryz.ntmps66
    go_wp2_with (first | (go_at_call 87; refine (begin_none w F d L S 0 H.out HC.out).mono ?_; rintro e w1 ⟨rfl, hr1, hf1⟩; have HR1 := Lib.hid hr1; have HF1 := Lib.hid hf1; have c0 := cell_blk hr1.disk 0; simp [diskCells] at c0; clear hr1 hf1) | (go_at_call 71; refine (clone_calls w1 L.cur S.dir.length _ HR1.out.cur (by have := HG.out.nDir; have := HB.out; unfold maxLen; omega)).mono ?_; rintro e w2 ⟨bo, rfl, hbo, hco, hcu, hf2⟩; have hd2 := (HR1.out.fr hf2 (fun _ _ => id)).disk; have c1 := cell_blk hd2 1; have f1 := frozen_blk hd2 1; have c2 := cell_blk hd2 2; have f2 := frozen_blk hd2 2; simp [diskCells] at c1 c2; have HBO := Lib.hid hbo; have HCO := Lib.hid hco; have HF2 := Lib.hid hf2; clear hbo hco hcu hf2 hd2) | (go_at_call 90; refine (syncdir_done w w1 w2 _ F d bo L S B HR1.out HF1.out HG.out HN.out.1 HF2.out HBO.out HCO.out rfl).mono ?_; rintro e w3 ⟨rfl, ha⟩) | fail)
    go_ret
    exact ⟨rfl, ha⟩
  · have e : pSyncDir S = (S, 8) := by simp [pSyncDir, hc]
    rw [e]
    have HC := Lib.hid hc
    clear hc e
    go_enter Tryz.func66, Tryz.ntmps66
    go_wp2_with (first | (go_at_call 87; refine (begin_none w F d L S 8 H.out HC.out).mono ?_; rintro e w1 ⟨rfl, hr1, hf1⟩; have HR1 := Lib.hid hr1; have HF1 := Lib.hid hf1; clear hr1 hf1) | fail)
    go_ret
    exact ⟨rfl, After.same HR1.out HF1.out⟩
  · have e : pSyncDir S = (S, 16) := by simp [pSyncDir, hc]
    rw [e]
    have HC := Lib.hid hc
    clear hc e
    go_enter Tryz.func66, Tryz.ntmps66
    go_wp2_with (first | (go_at_call 87; refine (begin_none w F d L S 16 H.out HC.out).mono ?_; rintro e w1 ⟨rfl, hr1, hf1⟩; have HR1 := Lib.hid hr1; have HF1 := Lib.hid hf1; clear hr1 hf1) | fail)
    go_ret
    exact ⟨rfl, After.same HR1.out HF1.out⟩

/-! ### FailAfter -/
def pFail (S : PS) (n : Int) : PS := { S with lim := decide (0 ≤ n), left := if n < 0 then 0 else n }
set_option maxHeartbeats 2000000 in
theorem fail_walk (w : World) (d c u : Nat) (pv : Value) (lim : Bool) (left n : Int) (hd : w.heap[d]? = some (.cells (diskCells c u pv lim left) tDisk (0, 0))) :
    Calls Tryz.prog 19 #[.pointer (some ⟨d, 0, none⟩), .int .i64 n] w fun e w' => e = .returned (.tuple #[]) ∧ w'.heap[d]? = some (.cells (diskCells c u pv (decide (0 ≤ n)) n) tDisk (0, 0)) ∧ Fr (fun k => k = d) w w' := by
  have HD := Lib.hid hd
  have c3 := cell_blk hd 3
  have f3 := frozen_blk hd 3
  have c4 := cell_blk hd 4
  have f4 := frozen_blk hd 4
  simp [diskCells] at c3 c4
  clear hd
  go_enter Tryz.func19, Tryz.ntmps19
  go_wp2
  go_end0
  exact ⟨rfl, blk_set (blk_set HD.out 3 _) 4 _, Fr.setCell (F := fun k => k = d) (Fr.setCell (F := fun k => k = d) (Fr.refl _ w) (p := ⟨d, 3, none⟩) (.inl rfl) _) (p := ⟨d, 4, none⟩) (.inl rfl) _⟩
theorem FailAfter_calls (w : World) (F : Nat → Prop) (d : Nat) (L : Lay) (S : PS) (n : Int) (h : Rep w F d L S (Live S)) :
    Calls Tryz.prog 19 #[.pointer (some ⟨d, 0, none⟩), .int .i64 n] w fun e w' => e = .returned (.tuple #[]) ∧ After w F d (pFail S n) w' := by
  refine (fail_walk w d L.cur L.dur L.pend S.lim L.left n h.disk).mono fun e w' ⟨q1, q2, q3⟩ => ⟨q1, ?_⟩
  have stay : ∀ k, k < w.heap.size → k ≠ d → w'.heap[k]? = w.heap[k]? := fun k hk hne => q3.block k hk hne
  have q : Rep w' F d { L with left := n } (pFail S n) (Live (pFail S n)) :=
    { disk := q2
      left := fun e => by
        have e' : decide (0 ≤ n) = true := e
        have : ¬ n < 0 := by simpa using e'
        show n = if n < 0 then 0 else n
        rw [if_neg this]
      cur := ownDir_move h.cur (stay _ h.cur.lt (fun e => h.d_ne_cur e.symm))
      dur := ownDir_move h.dur (stay _ h.dur.lt (fun e => h.d_ne_dur e.symm))
      ne := h.ne
      pend := own_move h.pend (fun k hk => stay k (ownBlock_lt h.pend hk) (fun e => h.d_ne_pend (by rw [hk, e])))
      live := fun _ hi => hi
      file := fun i hi => (stay _ (lt_blk (h.file i hi)) (fun e => h.d_ne_blk (i := i) hi e.symm)).trans (h.file i hi)
      data := fun i hi => own_move (h.data i hi) (fun k hk => stay k (ownBlock_lt (h.data i hi) hk) (fun e => h.d_ne_data (i := i) hi (by rw [hk, e])))
      inj := h.inj
      apart := h.apart
      inD := h.inD
      inC := h.inC
      inU := h.inU
      inP := h.inP
      inB := h.inB
      inV := h.inV }
  exact After.of (q.mono (fun k hk hlt => .inl ⟨hk, hlt⟩)) (q3.mono (fun k hk => .inl (by rw [hk]; exact h.inD)))
end Go.Proofs.YtehhafnjbkbmjaaGreat.Disk

/- The disk's methods: Read, List, New; slices.Clone. -/
namespace Go.Proofs.YtehhafnjbkbmjaaGreat.Disk
open Go Go.RowKit Go.Proofs.YtehhafnjbkbmjaaGreatW.PrintWords Go.Proofs.YtehhafnjbkbmjaaGreatW.PrintLast Go.Proofs.YtehhafnjbkbmjaaGreatW.PrintMore Go.Proofs.YtehhafnjbkbmjaaGreat.PCommitlogSequence

set_option maxHeartbeats 2000000 in
theorem Clone_nil (w : World) : Calls Tryz.prog 51 #[.slice none 0 0] w fun e w' => e = .returned (.slice none 0 0) ∧ w' = w := by
  have heq := fun (w : World) (a : Option Addr) (n c : Nat) => Lib.run_eql_slice_nil (P := Tryz.prog) w 36 5 a n c 0 0 Tryz.underlying36
  go_enter Tryz.func51, Tryz.ntmps51
  go_wp2
  go_ret
  exact ⟨rfl, rfl⟩
set_option maxHeartbeats 2000000 in
theorem Clone_some (w : World) (ad : Addr) (cc : Nat) (bs : List Int) (hr : ReadsInt w .u8 (some ad) bs.length bs) (hl : bs.length ≤ 1099511627776) :
    Calls Tryz.prog 51 #[.slice (some ad) bs.length cc] w fun e w' => ∃ v, e = .returned v ∧ w'.ownsRow w.heap.size 5 1 v bs.length (nums .u8 bs) ∧ Fr (fun _ => False) w w' := by
  have HR := Lib.hid hr
  have HL := Lib.hid hl
  clear hr hl
  have heq := fun (w : World) (a : Option Addr) (n c : Nat) => Lib.run_eql_slice_nil (P := Tryz.prog) w 36 5 a n c 0 0 Tryz.underlying36
  go_enter Tryz.func51, Tryz.ntmps51
  go_wp2_with (first | (at_builtin; refine print_append_row (w0 := w) w.heap.size rfl _ _ 36 5 .u8 1 rfl Tryz.underlying36 infoB (by decide) _ [] bs (some ad) bs.length cc rfl rfl (World.ownsRow_lit (base := w.heap.size) (e := 5) (size := 1) w #[] 0 (Nat.le_refl _) (by decide) rfl) (HR.out.allocS _) (below_alloc (Below.refl _ _) _) (by simp) (by have := HL.out; simp only [List.length_nil]; omega) ?_; intro v1 w2 ho2 hb2 hg2 hat2; have HO2 := Lib.hid ho2; have HB2 := Lib.hid hb2; clear ho2 hb2 hg2 hat2) | fail)
  go_ret
  exact ⟨_, rfl, HO2.out, Below.toFr HB2.out _⟩
theorem Clone_take (w : World) (A : Option Addr) (n c k : Nat) (bs : List Int) (h : w.ownsRow 0 5 1 (.slice A n c) bs.length (nums .u8 bs)) (hk : k ≤ bs.length) (hl : bs.length ≤ 1099511627776) :
    Calls Tryz.prog 51 #[.slice A k c] w fun e w' => ∃ v, e = .returned v ∧ w'.ownsRow w.heap.size 5 1 v (bs.take k).length (nums .u8 (bs.take k)) ∧ Fr (fun _ => False) w w' := by
  have hlen : (bs.take k).length = k := by simp; omega
  rcases h.2 with ⟨h1, h2⟩ | ⟨g, cap, cur, h1, _⟩
  · simp only [Value.slice.injEq] at h1
    obtain ⟨rfl, rfl, rfl⟩ := h1
    obtain rfl : k = 0 := by omega
    refine (Clone_nil w).mono fun e w' ⟨q1, q2⟩ => ⟨_, q1, ?_, by rw [q2]; exact Fr.refl _ _⟩
    exact World.ownsRow_nil _ _ _ _
  · simp only [Value.slice.injEq] at h1
    obtain ⟨rfl, rfl, rfl⟩ := h1
    have hr := reads_take (own_reads' h) k hk
    have := Clone_some w ⟨g, 0, none⟩ c (bs.take k) hr (by omega)
    rwa [hlen] at this ⊢
theorem Clone_own (w : World) (v : Value) (bs : List Int) (h : w.ownsRow 0 5 1 v bs.length (nums .u8 bs)) (hl : bs.length ≤ 1099511627776) :
    Calls Tryz.prog 51 #[v] w fun e w' => ∃ v', e = .returned v' ∧ w'.ownsRow w.heap.size 5 1 v' bs.length (nums .u8 bs) ∧ Fr (fun _ => False) w w' := by
  obtain ⟨A, n, c, rfl, rfl, _⟩ := data_form h
  have := Clone_take w A _ c bs.length bs h (Nat.le_refl _) hl
  simpa using this

def pRead (S : PS) (n : ByteArray) : List Int × Int :=
  if okName n then (match pLook S.dir n with | some i => ((fileAt S i).f0, 0) | none => ([], 15)) else ([], 8)
set_option maxHeartbeats 4000000 in
theorem Read_calls (w : World) (F : Nat → Prop) (d : Nat) (L : Lay) (S : PS) (B : Nat) (n : ByteArray) (h : Rep w F d L S (Live S)) (hg : Good S B) (hB : B ≤ 549755813888) :
    Calls Tryz.prog 14 #[.pointer (some ⟨d, 0, none⟩), .string n] w fun e w' => ∃ v, e = .returned (.tuple #[v, .int .i64 (pRead S n).2]) ∧ w'.ownsRow w.heap.size 5 1 v (pRead S n).1.length (nums .u8 (pRead S n).1) ∧ Fr (fun _ => False) w w' := by
  have H := Lib.hid h
  have HG := Lib.hid hg
  have HB := Lib.hid hB
  clear h hg hB
  have HS := Lib.hid (isName_f n 67 (by omega))
  cases hb : okName n
  · have e : pRead S n = ([], 8) := by simp [pRead, hb]
    rw [e]
    rw [hb] at HS
    clear e hb
    go_enter Tryz.func14, Tryz.ntmps14
    go_wp2_with (first | (go_at_call 50; refine (simdisk_isName.calls 67 _ _ _ HS.out).mono ?_; rintro e w1 ⟨rfl, hd⟩; have HD := Lib.hid hd; clear hd) | fail)
    go_ret2
    exact ⟨_, rfl, World.ownsRow_nil _ _ _ _, (Fr.refl _ w).drawn HD.out⟩
  · have HN := Lib.hid hb
    rw [hb] at HS
    cases hp : pLook S.dir n with
    | none =>
      have e : pRead S n = ([], 15) := by simp [pRead, hb, hp]
      rw [e]
      have hh : Maps.has (dirD L.blk S.dir) (entKey n) = false := by rw [dirD_has, hp]; rfl
      clear e hb hp
      go_enter Tryz.func14, Tryz.ntmps14
      go_wp2_with (first | (go_at_call 50; refine (simdisk_isName.calls 67 _ _ _ HS.out).mono ?_; rintro e w1 ⟨rfl, hd⟩; have HD := Lib.hid hd; have hr1 := H.out.drawn hd; have HR1 := Lib.hid hr1; have c0 := cell_blk hr1.disk 0; simp [diskCells] at c0; clear hd hr1) | (at_lookup; refine wpList_lookup_own_ok _ rfl _ _ 68 rfl 9 100 dirK dirT fileElem (zeroFile _) .nil [] rfl L.cur _ _ rfl HR1.out.cur _ (entKey n) rfl (keyN HN.out) ?_; intro v ps hv; clear hv) | fail)
      go_ret2
      exact ⟨_, rfl, World.ownsRow_nil _ _ _ _, (Fr.refl _ w).drawn HD.out⟩
    | some i =>
      have e : pRead S n = ((fileAt S i).f0, 0) := by simp [pRead, hb, hp]
      rw [e]
      have hh : Maps.has (dirD L.blk S.dir) (entKey n) = true := by rw [dirD_has, hp]; rfl
      have HAT : Hid (∀ z : DataW Unit, (dirD L.blk S.dir).atKey (entKey n) z = .lit (.int .i64 (L.blk i))) := fun z => by rw [dirD_atKey, hp]
      have HI := Lib.hid (live_look hp)
      have HRI := Lib.hid (HG.out.range i HI.out)
      have HFM := Lib.hid (fileAt_mem HRI.out)
      clear e hb hp
      go_enter Tryz.func14, Tryz.ntmps14
      go_wp2_with (first | (go_at_call 50; refine (simdisk_isName.calls 67 _ _ _ HS.out).mono ?_; rintro e w1 ⟨rfl, hd⟩; have HD := Lib.hid hd; have hr1 := H.out.drawn hd; have HR1 := Lib.hid hr1; have c0 := cell_blk hr1.disk 0; simp [diskCells] at c0; have b0 := cell_blk (hr1.file i HI.out) 0; simp [fileCells] at b0; clear hd hr1) | (at_lookup; refine wpList_lookup_own_ok _ rfl _ _ 68 rfl 9 100 dirK dirT fileElem (zeroFile _) .nil [] rfl L.cur _ _ rfl HR1.out.cur _ (entKey n) rfl (keyN HN.out) ?_; intro v ps hv; rw [HAT.out .nil] at hv; obtain rfl := fileElem_lit hv; clear hv) | (go_at_call 51; refine (Clone_own w1 (L.data i) (fileAt S i).f0 (HR1.out.data i HI.out) (by have := HG.out.nBytes _ HFM.out; have := HB.out; omega)).mono ?_; rintro e w2 ⟨v, rfl, ho, hf⟩; have HO := Lib.hid ho; have HF := Lib.hid hf; clear ho hf) | fail)
      go_ret2
      have hsz := (HD.out).out
      obtain ⟨m, rfl⟩ := hsz
      exact ⟨_, rfl, HO.out, ((Fr.refl _ w).drewN m).trans HF.out (fun _ => .inl)⟩

/-! ### List -/
set_option maxHeartbeats 2000000 in
theorem List_calls (w : World) (F : Nat → Prop) (d : Nat) (L : Lay) (S : PS) (B : Nat) (h : Rep w F d L S (Live S)) (hg : Good S B) (hB : B ≤ 549755813888) :
    Calls Tryz.prog 24 #[.pointer (some ⟨d, 0, none⟩)] w fun e w' => ∃ v, e = .returned v ∧ w'.ownsRow w.heap.size 9 1 v S.dir.length (pw_strs (S.dir.map (·.f0))) ∧ Fr (fun _ => False) w w' := by
  have H := Lib.hid h
  have HG := Lib.hid hg
  have HB := Lib.hid hB
  have c0 := cell_blk h.disk 0
  simp [diskCells] at c0
  clear h hg hB
  have hk : strKeys (dirD L.blk S.dir) = S.dir.map (fun e => e.f0.data.toList) := by simp [strKeys, dirD, ent, entKey, strOf]
  have HK := Lib.hid hk
  clear hk
  go_enter Tryz.func24, Tryz.ntmps24
  go_wp2_with (first | (go_at_call 73; refine (names_calls w L.cur S.dir.length _ H.out.cur (by have := HG.out.nDir; have := HB.out; omega)).mono ?_; rintro e w1 ⟨v, rfl, ho, hf⟩; have HO := Lib.hid ho; have HF := Lib.hid hf; clear ho hf) | fail)
  go_ret
  refine ⟨_, rfl, ?_, HF.out⟩
  have e1 : (strKeys (dirD L.blk S.dir)).length = S.dir.length := by rw [HK.out, List.length_map]
  have e2 : (strKeys (dirD L.blk S.dir)).map encStr = pw_strs (S.dir.map (·.f0)) := by rw [HK.out]; simp [pw_strs]
  rw [← e1, ← e2]
  exact HO.out

/-! ### New -/
def pNew : PS := ⟨[], [], [], [], false, 0⟩
theorem new_rep (w w' : World) (hw : w' = ((w.alloc (.map #[] 0)).alloc (.map #[] 0)).alloc (.cells (diskCells w.heap.size (w.heap.size + 1) (.slice none 0 0) false 0) tDisk)) :
    ∃ d F L, Ending.returned (.pointer (some ⟨w.heap.size + 2, 0, none⟩)) = .returned (.pointer (some ⟨d, 0, none⟩)) ∧ Rep w' F d L pNew (Live pNew) ∧ Chg w (fun _ => False) w' F := by
  subst hw
  have no : ∀ i, ¬ Live pNew i := fun i h => by
    rcases h with ⟨e, he, _⟩ | ⟨e, he, _⟩ | ⟨e, he, _⟩ <;> simp [pNew] at he
  have h0 := World.ownsMap_made w Tryz.prog 9 fileElem
  have h1 := World.ownsMap_made (w.alloc (.map #[] 0)) Tryz.prog 9 fileElem
  have hs1 : (w.alloc (.map #[] 0)).heap.size = w.heap.size + 1 := by simp
  have hs2 : ((w.alloc (.map #[] 0)).alloc (.map #[] 0)).heap.size = w.heap.size + 2 := by simp
  rw [hs1] at h1
  have h2 := heap_alloc_new ((w.alloc (.map #[] 0)).alloc (.map #[] 0)) (.cells (diskCells w.heap.size (w.heap.size + 1) (.slice none 0 0) false 0) tDisk)
  rw [hs2] at h2
  refine ⟨w.heap.size + 2, fun k => w.heap.size ≤ k ∧ k < w.heap.size + 3, ⟨fun _ => 0, w.heap.size, w.heap.size + 1, .slice none 0 0, fun _ => .slice none 0 0, 0⟩, rfl, ?_, ?_⟩
  · exact
      { disk := h2
        left := fun h => by cases h
        cur := (h0.alloc _).alloc _
        dur := h1.alloc _
        ne := by simp
        pend := World.ownsRow_nil _ _ _ _
        live := fun i hi => (no i hi).elim
        file := fun i hi => (no i hi).elim
        data := fun i hi => (no i hi).elim
        inj := fun i j hi _ _ => (no i hi).elim
        apart := fun i j hi _ _ => (no i hi).elim
        inD := ⟨by omega, by omega⟩
        inC := ⟨by simp, by simp⟩
        inU := ⟨by simp, by simp⟩
        inP := fun k hk => by simp [Value.ownBlock] at hk
        inB := fun i hi => (no i hi).elim
        inV := fun i hi => (no i hi).elim }
  · exact ⟨(((Fr.refl _ w).alloc _).alloc _).alloc _, fun k hk => .inr hk.1, fun k hk => by have := hk.2; simp; omega⟩
set_option maxHeartbeats 2000000 in
theorem New_calls (w : World) : Calls Tryz.prog 7 #[] w fun e w' => ∃ d F L, e = .returned (.pointer (some ⟨d, 0, none⟩)) ∧ Rep w' F d L pNew (Live pNew) ∧ Chg w (fun _ => False) w' F := by
  have hmm := @run_makeMap Tryz.prog
  go_enter Tryz.func7, Tryz.ntmps7
  go_wp2
  go_ret
  exact new_rep w _ rfl
end Go.Proofs.YtehhafnjbkbmjaaGreat.Disk

/- The disk's methods: Crash, plain. -/
namespace Go.Proofs.YtehhafnjbkbmjaaGreat.Disk
open Go Go.RowKit Go.Proofs.YtehhafnjbkbmjaaGreatW.PrintWords Go.Proofs.YtehhafnjbkbmjaaGreatW.PrintLast Go.Proofs.YtehhafnjbkbmjaaGreatW.PrintMore Go.Proofs.YtehhafnjbkbmjaaGreat.PCommitlogSequence
abbrev Cf := S62
def less (a b : ByteArray) : Bool := Op.bytesLess a.toList b.toList
def Sorted (l : List Ent) : Prop := l.Pairwise (fun a b => less a.f0 b.f0 = true)
theorem bytesLess_irrefl : ∀ a : List UInt8, Op.bytesLess a a = false
  | [] => rfl
  | a :: r => by simp [Op.bytesLess, bytesLess_irrefl r]
theorem bytesLess_asymm : ∀ a b : List UInt8, Op.bytesLess a b = true → Op.bytesLess b a = false
  | [], [], h => by simp [Op.bytesLess] at h
  | [], _ :: _, _ => rfl
  | _ :: _, [], h => by simp [Op.bytesLess] at h
  | a :: r, b :: s, h => by
    simp only [Op.bytesLess, Bool.or_eq_true, Bool.and_eq_true, decide_eq_true_eq, beq_iff_eq] at h
    simp only [Op.bytesLess, Bool.or_eq_false_iff, Bool.and_eq_false_iff, decide_eq_false_iff_not]
    rcases h with h | ⟨rfl, h⟩
    · refine ⟨fun e => absurd (UInt8.lt_trans h e) (UInt8.lt_irrefl _), .inl ?_⟩
      rw [beq_eq_false_iff_ne]
      rintro rfl
      exact UInt8.lt_irrefl _ h
    · exact ⟨UInt8.lt_irrefl _, .inr (bytesLess_asymm r s h)⟩
theorem less_ne {a b : ByteArray} (h : less a b = true) : a ≠ b := by
  rintro rfl
  unfold less at h
  rw [bytesLess_irrefl] at h
  cases h
theorem less_asymm {a b : ByteArray} (h : less a b = true) : less b a = false := bytesLess_asymm _ _ h
theorem own_Sorted {w : World} {b n : Nat} {blk : Int → Nat} {l : List Ent} (h : OwnDir w b n (dirD blk l)) : Sorted l := by
  obtain ⟨es, he, hp, _⟩ := h.canon dirK
  have e1 : l.map (ent blk) = es := DataW.map.inj he
  subst e1
  refine (List.pairwise_map.1 hp).imp (fun {a b} hab => ?_)
  have : (entKey a.f0).before (entKey b.f0) = true := hab
  rwa [entKey_before] at this
theorem pWithout_other {l : List Ent} {n : ByteArray} (h : ∀ e ∈ l, e.f0 ≠ n) : pWithout l n = l := by
  unfold pWithout
  rw [List.filter_eq_self]
  intro e he
  simp [h e he]
theorem pInsert_last {x : Ent} : ∀ {l : List Ent}, (∀ e ∈ l, less x.f0 e.f0 = false) → pInsert x l = l ++ [x]
  | [], _ => rfl
  | y :: r, h => by
    unfold pInsert
    have h1 := h y (by simp)
    unfold less at h1
    rw [if_neg (by rw [h1]; simp), pInsert_last (fun e he => h e (by simp [he]))]
    rfl
theorem pWith_last {l : List Ent} {n : ByteArray} {i : Int} (h : ∀ e ∈ l, less e.f0 n = true) : pWith l n i = l ++ [⟨n, i⟩] := by
  unfold pWith
  rw [pWithout_other (fun e he => less_ne (h e he))]
  exact pInsert_last (fun e he => less_asymm (h e he))
theorem Sorted.look {l : List Ent} (h : Sorted l) (k : Nat) (hk : k < l.length) : pLook l l[k].f0 = some l[k].f1 := by
  induction l generalizing k with
  | nil => simp at hk
  | cons y r ih =>
    obtain ⟨h1, h2⟩ := List.pairwise_cons.1 h
    rw [pLook_cons]
    cases k with
    | zero => simp
    | succ k =>
      have hk' : k < r.length := by simpa using hk
      simp only [List.getElem_cons_succ]
      rw [if_neg (less_ne (h1 _ (List.getElem_mem hk')))]
      exact ih h2 k hk'

/-! ### Crash, plain -/
def pCrashDir (S : PS) (n : Int) : List Ent := (S.pend.take n.toNat).foldl pApply S.dur
def pKept (f : Fil) (c : Cf) : Int := mn (mx 0 c.f0) ((f.f0.length : Int) - f.f1)
def pLeft (f : Fil) (c : Cf) : List Int :=
  let b := f.f0.take (f.f1 + pKept f c).toNat
  if c.f1 = true ∧ 0 < pKept f c then b.set (b.length - 1) (Go.bits .xor .u8 (rd b ((b.length : Int) - 1)) 255) else b
def cfAt (cs : List Cf) (i : Nat) : Cf := cs.getD i z62
def newDir (l : List Ent) (k : Nat) : List Ent := (l.take k).zipIdx.map (fun p => ⟨p.1.f0, (p.2 : Int)⟩)
def newFiles (S : PS) (l : List Ent) (cs : List Cf) : List Fil := l.zipIdx.map (fun p => ⟨pLeft (fileAt S p.1.f1) (cfAt cs p.2), (pLeft (fileAt S p.1.f1) (cfAt cs p.2)).length⟩)
def pCrash (S : PS) (n : Int) (cs : List Cf) : PS :=
  ⟨newFiles S (pCrashDir S n) cs, newDir (pCrashDir S n) (pCrashDir S n).length, newDir (pCrashDir S n) (pCrashDir S n).length, [], false, 0⟩
theorem newDir_succ (l : List Ent) (k : Nat) (hk : k < l.length) : newDir l (k + 1) = newDir l k ++ [⟨l[k].f0, (k : Int)⟩] := by
  unfold newDir
  rw [List.take_succ_eq_append_getElem hk, List.zipIdx_append, List.map_append]
  simp
  omega
theorem newDir_with (l : List Ent) (h : Sorted l) (k : Nat) (hk : k < l.length) : pWith (newDir l k) l[k].f0 k = newDir l (k + 1) := by
  rw [newDir_succ l k hk]
  refine pWith_last (fun e he => ?_)
  unfold newDir at he
  obtain ⟨⟨x, j⟩, hx, rfl⟩ := List.mem_map.1 he
  have hx1 := List.mem_zipIdx hx
  simp only [Nat.zero_add] at hx1
  obtain ⟨_, hj, hxe⟩ := hx1
  have hjk : j < k := by have : (l.take k).length ≤ k := List.length_take_le _ _; omega
  have hjl : j < l.length := by omega
  have e1 : x = l[j] := by rw [hxe]; simp
  show less x.f0 l[k].f0 = true
  rw [e1]
  exact List.pairwise_iff_getElem.1 h j k hjl hk hjk
theorem newFiles_length (S : PS) (l : List Ent) (cs : List Cf) : (newFiles S l cs).length = l.length := by simp [newFiles]
theorem newFiles_at (S : PS) (l : List Ent) (cs : List Cf) (k : Nat) (hk : k < l.length) : (newFiles S l cs).getD k z107 = ⟨pLeft (fileAt S l[k].f1) (cfAt cs k), (pLeft (fileAt S l[k].f1) (cfAt cs k)).length⟩ := by
  simp [newFiles, List.getD, hk]
def nf (S : PS) (l : List Ent) (cs : List Cf) (k : Nat) : Fil := (newFiles S l cs).getD k z107
theorem newDir_length (l : List Ent) (k : Nat) (hk : k ≤ l.length) : (newDir l k).length = k := by
  unfold newDir
  simp
  omega
theorem newDir_mem {l : List Ent} {k : Nat} {e : Ent} (h : e ∈ newDir l k) : ∃ j : Nat, j < k ∧ j < l.length ∧ e.f1 = (j : Int) ∧ ∃ hj : j < l.length, e.f0 = l[j].f0 := by
  unfold newDir at h
  obtain ⟨⟨x, j⟩, hx, rfl⟩ := List.mem_map.1 h
  have hx1 := List.mem_zipIdx hx
  simp only [Nat.zero_add] at hx1
  obtain ⟨_, hj, hxe⟩ := hx1
  have hjk : j < k := by have : (l.take k).length ≤ k := List.length_take_le _ _; omega
  have hjl : j < l.length := by have : (l.take k).length ≤ l.length := by simp; omega
                                omega
  exact ⟨j, hjk, hjl, rfl, hjl, by rw [hxe]; simp⟩
/-- The files that a crash has written so far. -/
structure Part (w : World) (lo ba : Nat) (blk : Int → Nat) (data : Int → Value) (S : PS) (l : List Ent) (cs : List Cf) (k : Nat) : Prop where
  map : OwnDir w ba (newDir l k).length (dirD blk (newDir l k))
  file : ∀ j : Nat, j < k → w.heap[blk j]? = some (.cells (fileCells (data j) (nf S l cs j).f1) tFile (0, 0))
  rows : ∀ j : Nat, j < k → w.ownsRow 0 5 1 (data j) (nf S l cs j).f0.length (u8s (nf S l cs j).f0)
  inj : ∀ i j : Nat, i < k → j < k → blk i = blk j → i = j
  apart : ∀ i j : Nat, i < k → j < k → i ≠ j → (data i).ownBlock = none ∨ (data i).ownBlock ≠ (data j).ownBlock
  loA : lo ≤ ba
  loB : ∀ j : Nat, j < k → lo ≤ blk j
  loV : ∀ j : Nat, j < k → ∀ b, (data j).ownBlock = some b → lo ≤ b
theorem Part.start {w : World} {lo ba : Nat} {S : PS} {l : List Ent} {cs : List Cf} (h : OwnDir w ba 0 (.map [])) (hlo : lo ≤ ba) : Part w lo ba (fun _ => 0) (fun _ => .nilIface) S l cs 0 :=
  { map := by simpa [newDir, dirD] using h
    file := fun j hj => by omega
    rows := fun j hj => by omega
    inj := fun i j hi => by omega
    apart := fun i j hi => by omega
    loA := hlo
    loB := fun j hj => by omega
    loV := fun j hj => by omega }
theorem Part.step {w w' : World} {lo ba fb : Nat} {blk : Int → Nat} {data : Int → Value} {S : PS} {l : List Ent} {cs : List Cf} {k m : Nat} {v : Value} (h : Part w lo ba blk data S l cs k) (hs : Sorted l) (hk : k < l.length) (hlo : lo ≤ w.heap.size)
    (hf : Fr (fun b => b = ba) w w') (hm : OwnDir w' ba m ((dirD blk (newDir l k)).put (entKey l[k].f0) (.lit (.int .i64 fb)))) (hfb : w.heap.size ≤ fb)
    (h1 : w'.heap[fb]? = some (.cells (fileCells v (nf S l cs k).f1) tFile (0, 0))) (h2 : w'.ownsRow 0 5 1 v (nf S l cs k).f0.length (u8s (nf S l cs k).f0)) (hv : ∀ b, v.ownBlock = some b → w.heap.size ≤ b) :
    Part w' lo ba (fun j => if j = (k : Int) then fb else blk j) (fun j => if j = (k : Int) then v else data j) S l cs (k + 1) := by
  have stay : ∀ b, b < w.heap.size → b ≠ ba → w'.heap[b]? = w.heap[b]? := fun b hb hne => hf.block b hb hne
  have old : ∀ j : Nat, j < k → ¬ (j : Int) = (k : Int) := fun j hj e => by omega
  have bA : ∀ j : Nat, j < k → blk j ≠ ba := fun j hj e => by
    obtain ⟨_, _, hb, _⟩ := h.map
    exact cells_ne_map (h.file j hj) hb e
  have dA : ∀ j : Nat, j < k → (data j).ownBlock ≠ some ba := fun j hj e => by
    obtain ⟨_, _, hb, _⟩ := h.map
    obtain ⟨c, hc⟩ := own_typed (h.rows j hj) _ e
    exact cells_ne_map hc hb rfl
  exact
    { map := by
        have e1 : dirD (fun j => if j = (k : Int) then fb else blk j) (newDir l k) = dirD blk (newDir l k) := dirD_congr (fun e he => by
          obtain ⟨j, hj, _, hj2, _⟩ := newDir_mem he
          rw [if_neg (by rw [hj2]; exact old j hj)])
        have e2 := dirD_put (fun j => if j = (k : Int) then fb else blk j) (newDir l k) l[k].f0 (k : Int)
        rw [e1, if_pos rfl, newDir_with l hs k hk] at e2
        rw [← e2]
        rw [e2] at hm ⊢
        exact ownDir_tight hm
      file := fun j hj => by
        by_cases e : j = k
        · subst e
          simp only [if_pos]
          exact h1
        · have hj' : j < k := by omega
          simp only [if_neg (old j hj')]
          exact (stay _ (lt_blk (h.file j hj')) (bA j hj')).trans (h.file j hj')
      rows := fun j hj => by
        by_cases e : j = k
        · subst e
          simp only [if_pos]
          exact h2
        · have hj' : j < k := by omega
          simp only [if_neg (old j hj')]
          exact own_move (h.rows j hj') (fun b hb => stay b (ownBlock_lt (h.rows j hj') hb) (fun e => dA j hj' (by rw [hb, e])))
      inj := fun i j hi hj e => by
        by_cases ei : i = k <;> by_cases ej : j = k
        · omega
        · subst ei
          have hj' : j < i := by omega
          simp only [if_pos, if_neg (old j hj')] at e
          have := lt_blk (h.file j hj')
          omega
        · subst ej
          have hi' : i < j := by omega
          simp only [if_pos, if_neg (old i hi')] at e
          have := lt_blk (h.file i hi')
          omega
        · simp only [if_neg (old i (by omega)), if_neg (old j (by omega))] at e
          exact h.inj i j (by omega) (by omega) e
      apart := fun i j hi hj hne => by
        by_cases ei : i = k
        · subst ei
          have hj' : j < i := by omega
          simp only [if_pos, if_neg (old j hj')]
          cases hq : v.ownBlock with
          | none => exact .inl rfl
          | some b =>
            right
            intro e
            have h3 := hv b hq
            have h4 := ownBlock_lt (h.rows j hj') e.symm
            omega
        · have hi' : i < k := by omega
          by_cases ej : j = k
          · subst ej
            simp only [if_pos, if_neg (old i hi')]
            cases hq : (data i).ownBlock with
            | none => exact .inl rfl
            | some b =>
              right
              intro e
              have h3 := hv b e.symm
              have h4 := ownBlock_lt (h.rows i hi') hq
              omega
          · simp only [if_neg (old i hi'), if_neg (old j (by omega))]
            exact h.apart i j hi' (by omega) hne
      loA := h.loA
      loB := fun j hj => by
        by_cases e : j = k
        · subst e
          simp only [if_pos]
          omega
        · simp only [if_neg (old j (by omega))]
          exact h.loB j (by omega)
      loV := fun j hj b hb => by
        by_cases e : j = k
        · subst e
          simp only [if_pos] at hb
          have := hv b hb
          omega
        · simp only [if_neg (old j (by omega))] at hb
          exact h.loV j (by omega) b hb }
theorem Part.move {w w' : World} {lo ba : Nat} {blk : Int → Nat} {data : Int → Value} {S : PS} {l : List Ent} {cs : List Cf} {k : Nat} (h : Part w lo ba blk data S l cs k) (hm : ∀ b, lo ≤ b → b < w.heap.size → w'.heap[b]? = w.heap[b]?) : Part w' lo ba blk data S l cs k :=
  { h with
    map := ownDir_move h.map (hm _ h.loA h.map.lt)
    file := fun j hj => (hm _ (h.loB j hj) (lt_blk (h.file j hj))).trans (h.file j hj)
    rows := fun j hj => own_move (h.rows j hj) (fun b hb => hm b (h.loV j hj b hb) (ownBlock_lt (h.rows j hj) hb)) }
end Go.Proofs.YtehhafnjbkbmjaaGreat.Disk

/- The disk's methods: Crash. -/
namespace Go.Proofs.YtehhafnjbkbmjaaGreat.Disk
open Go Go.RowKit Go.Proofs.YtehhafnjbkbmjaaGreatW.PrintWords Go.Proofs.YtehhafnjbkbmjaaGreatW.PrintLast Go.Proofs.YtehhafnjbkbmjaaGreatW.PrintMore Go.Proofs.YtehhafnjbkbmjaaGreat.PCommitlogSequence
attribute [local go_sem] max2_int min2_int max_two min_two max_three min_three max_four min_four

theorem cut_eq (n : Int) (m : Nat) : ∃ k : Nat, mn (mx 0 n) (m : Int) = (k : Int) ∧ k = min n.toNat m := by
  refine ⟨min n.toNat m, ?_, rfl⟩
  unfold mn mx
  split <;> split <;> omega

theorem opsCells_at (blk : Int → Nat) : ∀ (l : List Opn) (k j : Nat) (hk : k < l.length), j < 4 → (opsCells blk l)[k * 4 + j]? = (opCells blk l[k])[j]?
  | [], k, j, hk, _ => by simp at hk
  | o :: r, 0, j, _, hj => by
    have : opsCells blk (o :: r) = opCells blk o ++ opsCells blk r := rfl
    rw [this, List.getElem?_append_left (by simp [opCells]; omega)]
    simp
  | o :: r, k + 1, j, hk, hj => by
    have e : opsCells blk (o :: r) = opCells blk o ++ opsCells blk r := rfl
    have h4 : (opCells blk o).length = 4 := rfl
    rw [e, List.getElem?_append_right (by omega), h4, show (k + 1) * 4 + j - 4 = k * 4 + j by omega]
    exact opsCells_at blk r k j (by simpa using hk) hj
/-- The pending operations' cells. -/
theorem pend_cells {w : World} {A : Option Addr} {c : Nat} {blk : Int → Nat} {l : List Opn} (h : w.ownsRow 0 tOp 4 (.slice A l.length c) l.length (opsCells blk l)) (k : Nat) (hk : k < l.length) :
    ∃ g, A = some ⟨g, 0, none⟩ ∧ w.cell? ⟨g, k * 4, none⟩ = some (.int .i64 (l[k].f0 - 1)) ∧ w.cell? ⟨g, k * 4 + 1, none⟩ = some (.string (opFrom l[k])) ∧ w.cell? ⟨g, k * 4 + 2, none⟩ = some (.string (opTo l[k])) ∧ w.cell? ⟨g, k * 4 + 3, none⟩ = some (opPtr blk l[k]) := by
  rcases h.2 with ⟨h1, h2⟩ | ⟨g, cap, cur, h1, _⟩
  · omega
  · simp only [Value.slice.injEq] at h1
    obtain ⟨rfl, _, rfl⟩ := h1
    have key := fun j u (hj : j < 4) (hu : (opCells blk l[k])[j]? = some u) => h.cells (g := g) rfl (k * 4 + j) u (by rw [opsCells_at blk l k j hk hj]; exact hu)
    refine ⟨g, rfl, ?_, ?_, ?_, ?_⟩
    · have := key 0 _ (by omega) rfl
      rwa [Addr.add_lit, Nat.zero_add] at this
    · have := key 1 _ (by omega) rfl
      rwa [Addr.add_lit, Nat.zero_add] at this
    · have := key 2 _ (by omega) rfl
      rwa [Addr.add_lit, Nat.zero_add] at this
    · have := key 3 _ (by omega) rfl
      rwa [Addr.add_lit, Nat.zero_add] at this
def dirAt (S : PS) (k : Nat) : List Ent := (S.pend.take k).foldl pApply S.dur
theorem dirAt_succ (S : PS) (k : Nat) (hk : k < S.pend.length) : dirAt S (k + 1) = pApply (dirAt S k) S.pend[k] := by
  unfold dirAt
  rw [List.take_succ_eq_append_getElem hk, List.foldl_append]
  rfl
theorem dirAt_length (S : PS) (k : Nat) : (dirAt S k).length ≤ S.dur.length + k := by
  unfold dirAt
  have : ∀ (l : List Opn) (m : List Ent), (l.foldl pApply m).length ≤ m.length + l.length := by
    intro l
    induction l with
    | nil => intro m; simp
    | cons o r ih =>
      intro m
      have h1 := ih (pApply m o)
      have h2 := pApply_length m o
      simp only [List.foldl_cons, List.length_cons]
      omega
  have h1 := this (S.pend.take k) S.dur
  have h2 : (S.pend.take k).length ≤ k := List.length_take_le _ _
  omega
theorem apply_ptr (w : World) (b : Nat) (blk : Int → Nat) (l : List Ent) (o : Opn) (pp : Option Addr) (hpp : opPtr blk o = .pointer pp) (hm : OwnDir w b l.length (dirD blk l)) (ho : OpnOk o) (hl : l.length ≤ 1099511627776) :
    Calls Tryz.prog 72 #[.map (some b), .agg #[.int .i64 (o.f0 - 1), .string (opFrom o), .string (opTo o), .pointer pp]] w fun e w' =>
      e = .returned (.tuple #[]) ∧ OwnDir w' b (pApply l o).length (dirD blk (pApply l o)) ∧ Fr (fun k => k = b) w w' := by
  have := apply_calls w b blk l o hm ho hl
  rwa [show (opCells blk o).toArray = #[.int .i64 (o.f0 - 1), .string (opFrom o), .string (opTo o), .pointer pp] by simp [opCells, hpp]] at this
theorem strs_form {w : World} {base : Nat} {v : Value} {n : Nat} {l : List (List UInt8)} (h : w.ownsRow base 9 1 v n (l.map encStr)) : ∃ A m c, v = .slice A m c ∧ m = n ∧ m ≤ 9223372036854775807 := by
  rcases h.2 with ⟨h1, h2⟩ | ⟨g, cap, cur, h1, _, _, h2, h3, _⟩
  · exact ⟨none, 0, 0, h1, h2.symm, by omega⟩
  · exact ⟨_, _, _, h1, rfl, by unfold maxLen at h3; omega⟩
theorem wpList_lookup_dir (w : World) {ops : Array Oper} {rest : List Oper} {o : Oper} {a : Act} {Q : Exit → Act → World → Prop} (hg : o.guard = none) (m x : Operand) (hop : o.op = Op.lookup 68 m x false)
    (b n : Nat) (D : DataW Unit) (hm : a.eval m = .map (some b)) (hown : OwnDir w b n D) (s : ByteArray) (hx : a.eval x = .string s) (hs : s.size ≤ maxLen) (blk : Nat) (hat : ∀ z, D.atKey (entKey s) z = .lit (.int .i64 blk))
    (hK : wpList Tryz.prog ops Q rest (a.put o.dst (.pointer (some ⟨blk, 0, none⟩))) w) : wpList Tryz.prog ops Q (o :: rest) a w := by
  refine wpList_plain hg fun K' hK' => ?_
  obtain ⟨v, ps, hrun, hv⟩ := hown.lookup dirK dirT (zeroFile w) (zd := .nil) (zp := []) rfl (keyS hs)
  rw [hat .nil] at hv
  obtain rfl := fileElem_lit hv
  unfold Oper.wp
  simp [execOp, hop, hm, hx, hrun, Result.andThen]
  exact hK' _ _ hK
theorem cf_at {w : World} {A : Option Addr} {cs : List Cf} (h : Kd.C k62 w A cs.length cs) (k : Nat) (hk : k < cs.length) :
    ∃ ad, A = some ad ∧ w.cell? (ad.add (k * 2)) = some (.int .i64 (cfAt cs k).f0) ∧ w.cell? ⟨(ad.add (k * 2)).block, (ad.add (k * 2)).off + 1, none⟩ = some (.bool (cfAt cs k).f1) := by
  obtain ⟨ad, h1, h2, h3⟩ := at_T62 h (k : Int) (by omega) (by omega)
  exact ⟨ad, h1, h2, h3⟩
def CrashRel2 (w : World) (bo ba : Nat) (nv : Value) (S : PS) (L : Lay) (l : List Ent) (cs : List Cf) (i : Value) (wr : World) : Prop :=
  ∃ (k : Nat) (blk : Int → Nat) (data : Int → Value), k ≤ l.length ∧ i = .int .i64 k ∧ Part wr w.heap.size ba blk data S l cs k ∧ Fr (fun _ => False) w wr ∧ OwnDir wr bo l.length (dirD L.blk l) ∧ wr.ownsRow w.heap.size 9 1 nv l.length (l.map (fun e => .string e.f0)) ∧ ba ≠ bo
def CrashRel1 (w : World) (bo k0 : Nat) (L : Lay) (S : PS) (i : Value) (wr : World) : Prop :=
  ∃ k : Nat, k ≤ k0 ∧ i = .int .i64 k ∧ OwnDir wr bo (dirAt S k).length (dirD L.blk (dirAt S k)) ∧ Fr (fun _ => False) w wr

theorem wpList_any {P : Program} {ops : Array Oper} {Q : Exit → Act → World → Prop} {l : List Oper} {a : Act} {w : World} (R : World → Prop) (hR : R w) (h : ∀ w, R w → wpList P ops Q l a w) : wpList P ops Q l a w := h w hR
theorem cell_alloc {w : World} {a : Addr} {v : Value} (h : w.cell? a = some v) (o : Obj) : (w.alloc o).cell? a = some v :=
  (World.cell?_of_block (w := w) (Below.heap_alloc w o a.block (World.block_lt_of_cell? w a h))).trans h
theorem data_form2 {w : World} {v : Value} {l : List Int} (h : w.ownsRow 0 5 1 v l.length (u8s l)) : ∃ A n c, v = .slice A n c ∧ n = l.length ∧ n ≤ c := by
  rcases h.2 with ⟨h1, h2⟩ | ⟨g, cap, cur, h1, _, _, h2, _⟩
  · exact ⟨none, 0, 0, h1, h2.symm, Nat.le_refl _⟩
  · exact ⟨_, _, _, h1, rfl, h2⟩
theorem names_cell {w : World} {B n c : Nat} {A : Option Addr} {l : List Ent} (h : w.ownsRow B 9 1 (.slice A n c) l.length (l.map (fun e => .string e.f0))) (k : Nat) (hk : k < l.length) : ∃ g, A = some ⟨g, 0, none⟩ ∧ w.cell? ⟨g, k, none⟩ = some (.string l[k].f0) := by
  rcases h.2 with ⟨h1, h2⟩ | ⟨g, cap, cur, h1, _⟩
  · omega
  · simp only [Value.slice.injEq] at h1
    obtain ⟨rfl, rfl, rfl⟩ := h1
    have := h.cells (g := g) rfl k (.string l[k].f0) (by simp [hk])
    rw [Addr.add_lit, Nat.zero_add] at this
    exact ⟨g, rfl, this⟩
theorem dirAt_live (S : PS) : ∀ (k : Nat) (e : Ent), e ∈ dirAt S k → Live S e.f1 := by
  intro k
  induction k with
  | zero =>
    intro e he
    exact .inr (.inl ⟨e, by simpa [dirAt] using he, rfl⟩)
  | succ k ih =>
    intro e he
    by_cases hk : k < S.pend.length
    · rw [dirAt_succ S k hk] at he
      rcases mem_pApply he with ⟨e', he', h⟩ | ⟨h1, h2⟩
      · rw [← h]
        exact ih e' he'
      · exact .inr (.inr ⟨_, List.getElem_mem hk, h1, h2.symm⟩)
    · have : dirAt S (k + 1) = dirAt S k := by
        unfold dirAt
        rw [List.take_of_length_le (by omega), List.take_of_length_le (by omega)]
      rw [this] at he
      exact ih e he
theorem own_names {w : World} {b n : Nat} {blk : Int → Nat} {l : List Ent} (h : OwnDir w b n (dirD blk l)) {e : Ent} (he : e ∈ l) : e.f0.size ≤ maxLen := by
  have h1 := strKeys_le h Tryz.underlying9 e.f0.data.toList (by simp only [strKeys, dirD, List.map_map, List.mem_map]; exact ⟨e, he, rfl⟩)
  rwa [data_length] at h1
/-- The file's form: its slice, its durable length, how many bytes are kept. -/
theorem kept_form {S : PS} {B : Nat} {i : Int} {cf : Cf} {n : Nat} (hg : Good S B) (hi : Live S i) (hn : n = (fileAt S i).f0.length) : ∃ (du kp : Nat) (x0 : Int), (fileAt S i).f1 = (du : Int) ∧ du ≤ n ∧ (if (0 : Int) < cf.f0 then cf.f0 else 0) = x0 ∧ (if ((n : Int) - (du : Int)) < x0 then ((n : Int) - (du : Int)) else x0) = (kp : Int) ∧ du + kp ≤ n ∧ pKept (fileAt S i) cf = (kp : Int) := by
  obtain ⟨h0, h1⟩ := hg.dur _ (fileAt_mem (hg.range i hi))
  obtain ⟨du, hdu⟩ := Int.eq_ofNat_of_zero_le h0
  have e : ((fileAt S i).f0.length : Int) - (fileAt S i).f1 = (n : Int) - (du : Int) := by rw [hn, hdu]
  refine ⟨du, (mn (mx 0 cf.f0) ((n : Int) - (du : Int))).toNat, _, hdu, by omega, rfl, ?_, ?_, ?_⟩
  · show mn (mx 0 cf.f0) _ = _
    have : 0 ≤ mn (mx 0 cf.f0) ((n : Int) - (du : Int)) := by unfold mn mx; split <;> split <;> omega
    omega
  · have : mn (mx 0 cf.f0) ((n : Int) - (du : Int)) ≤ (n : Int) - (du : Int) := by unfold mn; split <;> omega
    omega
  · unfold pKept
    rw [e]
    have : 0 ≤ mn (mx 0 cf.f0) ((n : Int) - (du : Int)) := by unfold mn mx; split <;> split <;> omega
    omega
theorem torn_form {w : World} {B mp : Nat} {v : Value} {l : List Int} (h : w.ownsRow B 5 1 v l.length (nums .u8 l)) (hl : l.length = mp + 1) : ∃ g cap, v = .slice (some ⟨g, 0, none⟩) (mp + 1) cap ∧ B ≤ g ∧ w.cell? ⟨g, mp, none⟩ = some (.int .u8 (rd l (mp : Int))) ∧ w.frozen? ⟨g, mp, none⟩ = false := by
  obtain ⟨g, cap, rfl, hg, _⟩ := h.form (by omega)
  obtain ⟨h1, h2⟩ := own_at h (mp : Int) (by omega) (by omega)
  exact ⟨g, cap, by rw [hl], hg, h1, h2⟩
theorem torn_ways (ct : Bool) (kp : Nat) : (ct = true ∧ 0 < kp) ∨ (ct = false) ∨ (ct = true ∧ kp = 0) := by
  cases ct
  · exact .inr (.inl rfl)
  · rcases Nat.eq_zero_or_pos kp with h | h
    · exact .inr (.inr ⟨rfl, h⟩)
    · exact .inl ⟨rfl, h⟩
theorem crash_round {w wr w8 w9 : World} {bo ba m j : Nat} {nv v : Value} {L : Lay} {S : PS} {l : List Ent} {cs : List Cf} {blk : Int → Nat} {data : Int → Value} {bs : List Int} (hp : Part wr w.heap.size ba blk data S l cs j) (hj : j < l.length)
    (hfr : Fr (fun _ => False) w wr) (hdr : OwnDir wr bo l.length (dirD L.blk l)) (hnm : wr.ownsRow w.heap.size 9 1 nv l.length (l.map (fun e => .string e.f0))) (hab : ba ≠ bo)
    (hf8 : Fr (fun _ => False) wr w8) (hv8 : w8.ownsRow 0 5 1 v bs.length (nums .u8 bs)) (hvb : ∀ b, v.ownBlock = some b → wr.heap.size ≤ b)
    (hm9 : OwnDir w9 ba m ((dirD blk (newDir l j)).put (entKey l[j].f0) (.lit (.int .i64 w8.heap.size)))) (hg9 : (w8.alloc (.cells (fileCells v bs.length) tFile)).grownBy w9 (some ba)) (hnf : nf S l cs j = ⟨bs, bs.length⟩) :
    CrashRel2 w bo ba nv S L l cs (.int .i64 ((j + 1 : Nat) : Int)) w9 := by
  have hf9 : Fr (fun b => b = ba) wr w9 := ((hf8.mono (F' := fun b => b = ba) (fun _ (hk : False) => hk.elim)).alloc (.cells (fileCells v bs.length) tFile)).grown hg9 (fun k hk => .inl (by cases hk; rfl))
  have hba8 : ba < w8.heap.size := Nat.lt_of_lt_of_le hp.map.lt hf8.size
  have st : ∀ b, b < (w8.alloc (.cells (fileCells v bs.length) tFile)).heap.size → b ≠ ba → w9.heap[b]? = (w8.alloc (.cells (fileCells v bs.length) tFile)).heap[b]? := fun b hb hne => hg9.block b hb (fun e => hne (by cases e; rfl))
  refine ⟨j + 1, _, _, hj, rfl, hp.step (fb := w8.heap.size) (v := v) (own_Sorted hdr) hj hfr.size hf9 hm9 hf8.size ?_ ?_ hvb, ?_, ?_, ?_, hab⟩
  · rw [hnf]
    exact (st _ (by simp) (by omega)).trans (heap_alloc_new w8 _)
  · rw [hnf]
    refine own_move hv8 (fun b hb => ?_)
    have h1 := ownBlock_lt hv8 hb
    refine (st b (by simp; omega) (fun e => ?_)).trans (Below.heap_alloc w8 _ b h1)
    have h2 := hvb b hb
    have h3 := hp.map.lt
    omega
  · exact hfr.trans hf9 (fun k hk => .inr (by rw [hk]; exact hp.loA))
  · exact ownDir_move hdr (hf9.block _ hdr.lt (fun e => hab e.symm))
  · refine own_move hnm (fun b hb => hf9.block b (ownBlock_lt hnm hb) (fun e => ?_))
    obtain ⟨_, _, hq, _⟩ := hp.map
    obtain ⟨c, hc⟩ := own_typed hnm b hb
    rw [e] at hc
    exact cells_ne_map hc hq rfl
theorem crash_torn {w wr w7 w9 : World} {bo ba m j vg mp vcap C : Nat} {nv : Value} {L : Lay} {S : PS} {l : List Ent} {cs : List Cf} {blk : Int → Nat} {data : Int → Value} {b0 : List Int} {x : Int} (hp : Part wr w.heap.size ba blk data S l cs j) (hj : j < l.length)
    (hfr : Fr (fun _ => False) w wr) (hdr : OwnDir wr bo l.length (dirD L.blk l)) (hnm : wr.ownsRow w.heap.size 9 1 nv l.length (l.map (fun e => .string e.f0))) (hab : ba ≠ bo)
    (hf7 : Fr (fun _ => False) wr w7) (hv7 : w7.ownsRow C 5 1 (.slice (some ⟨vg, 0, none⟩) (mp + 1) vcap) b0.length (nums .u8 b0)) (hl : b0.length = mp + 1) (hvg : wr.heap.size ≤ vg)
    (hm9 : OwnDir w9 ba m ((dirD blk (newDir l j)).put (entKey l[j].f0) (.lit (.int .i64 w7.heap.size)))) (hg9 : ((w7.setCell ⟨vg, mp, none⟩ (.int .u8 x)).alloc (.cells #[.slice (some ⟨vg, 0, none⟩) (mp + 1) vcap, .int .i64 ((mp : Int) + 1)] tFile)).grownBy w9 (some ba))
    (hnf : nf S l cs j = ⟨b0.set mp x, (b0.set mp x).length⟩) : CrashRel2 w bo ba nv S L l cs (.int .i64 ((j + 1 : Nat) : Int)) w9 := by
  have hs := own_store (own_weaken (base' := 0) (by rw [hl] at hv7; exact hv7) (Nat.zero_le _)) (mp : Int) x
  have hlen : (b0.set mp x).length = mp + 1 := by rw [List.length_set, hl]
  refine crash_round (w8 := w7.setCell ⟨vg, mp, none⟩ (.int .u8 x)) (v := .slice (some ⟨vg, 0, none⟩) (mp + 1) vcap) (bs := b0.set mp x) (m := m) hp hj hfr hdr hnm hab (hf7.setCell (.inr hvg) _) ?_ (fun b hb => by simp only [Value.ownBlock, Option.some.injEq] at hb; omega) (by simpa using hm9) ?_ hnf
  · rw [hlen]
    exact hs.1
  · rw [hlen]
    exact hg9
theorem nf_plain {S : PS} {l : List Ent} {cs : List Cf} {j mk du kp : Nat} {i : Int} (hj : j < l.length) (hi : i = l[j].f1) (h1 : (fileAt S i).f1 = (du : Int)) (h2 : pKept (fileAt S i) (cfAt cs j) = (kp : Int)) (hm : mk = du + kp) (hn : ¬ ((cfAt cs j).f1 = true ∧ 0 < kp)) :
    nf S l cs j = ⟨(fileAt S i).f0.take mk, ((fileAt S i).f0.take mk).length⟩ := by
  have e : pLeft (fileAt S i) (cfAt cs j) = (fileAt S i).f0.take mk := by
    unfold pLeft
    rw [h1, h2, if_neg (by intro h; exact hn ⟨h.1, by have := h.2; omega⟩), hm]
    rfl
  rw [nf, newFiles_at S l cs j hj, ← hi, e]
theorem nf_torn {S : PS} {l : List Ent} {cs : List Cf} {j mp du kp : Nat} {i : Int} (hj : j < l.length) (hi : i = l[j].f1) (h1 : (fileAt S i).f1 = (du : Int)) (h2 : pKept (fileAt S i) (cfAt cs j) = (kp : Int)) (hm : mp + 1 = du + kp) (hn : (cfAt cs j).f1 = true ∧ 0 < kp) (hl : mp + 1 ≤ (fileAt S i).f0.length) :
    nf S l cs j = ⟨((fileAt S i).f0.take (mp + 1)).set mp (Go.bits .xor .u8 (rd ((fileAt S i).f0.take (mp + 1)) (mp : Int)) 255), (((fileAt S i).f0.take (mp + 1)).set mp (Go.bits .xor .u8 (rd ((fileAt S i).f0.take (mp + 1)) (mp : Int)) 255)).length⟩ := by
  have hlen : ((fileAt S i).f0.take (mp + 1)).length = mp + 1 := by rw [List.length_take]; omega
  have e : pLeft (fileAt S i) (cfAt cs j) = ((fileAt S i).f0.take (mp + 1)).set mp (Go.bits .xor .u8 (rd ((fileAt S i).f0.take (mp + 1)) (mp : Int)) 255) := by
    unfold pLeft
    rw [h1, h2, if_pos ⟨hn.1, by have := hn.2; omega⟩, show ((du : Int) + (kp : Int)).toNat = mp + 1 by omega, hlen]
    rw [show ((mp + 1 : Nat) : Int) - 1 = (mp : Int) by omega]
    rfl
  rw [nf, newFiles_at S l cs j hj, ← hi, e]
theorem crash_start {w w2 w3 : World} {bo nn nc : Nat} {nA : Option Addr} {L : Lay} {S : PS} {l : List Ent} {cs : List Cf} (hf : Fr (fun _ => False) w w2) (ho : OwnDir w2 bo l.length (dirD L.blk l)) (hf3 : Fr (fun _ => False) (w2.alloc (.map #[] 0)) w3)
    (hn : w3.ownsRow (w2.alloc (.map #[] 0)).heap.size 9 1 (.slice nA nn nc) (strKeys (dirD L.blk l)).length ((strKeys (dirD L.blk l)).map encStr)) (_hbo : w.heap.size ≤ bo) (_hnn : nn = l.length) :
    CrashRel2 w bo w2.heap.size (.slice nA nn nc) S L l cs (.int .i64 0) w3 := by
  have hk : strKeys (dirD L.blk l) = l.map (fun e => e.f0.data.toList) := by simp [strKeys, dirD, ent, entKey, strOf]
  have h1 : (strKeys (dirD L.blk l)).length = l.length := by rw [hk, List.length_map]
  have h2 : (strKeys (dirD L.blk l)).map encStr = l.map (fun e => .string e.f0) := by rw [hk]; simp
  have hsz := hf.size
  have hb3 : ∀ b, b < (w2.alloc (.map #[] 0)).heap.size → w3.heap[b]? = (w2.alloc (.map #[] 0)).heap[b]? := fun b hb => hf3.block b hb id
  refine ⟨0, _, _, Nat.zero_le _, rfl, Part.start (ownDir_move (World.ownsMap_made w2 Tryz.prog 9 fileElem) (hb3 _ (by simp))) hsz, (hf.alloc _).trans hf3 (fun _ => .inl), ownDir_move (ho.alloc _) (hb3 _ (by have := ho.lt; simp; omega)), ?_, fun e => by have := ho.lt; omega⟩
  rw [h1, h2] at hn
  exact own_weaken hn (by simp; omega)

theorem part_end {wr : World} {lo ba j : Nat} {n : Int} {S : PS} {cs : List Cf} {l : List Ent} {blk : Int → Nat} {data : Int → Value} (h : Part wr lo ba blk data S l cs j) (hj : j = l.length) (hl : l = pCrashDir S n) : Part wr lo ba blk data S (pCrashDir S n) cs (pCrashDir S n).length := by
  subst hj
  rw [← hl]
  exact h
theorem live_crash {S : PS} {n : Int} {cs : List Cf} {i : Int} (h : Live (pCrash S n cs) i) : ∃ j : Nat, j < (pCrashDir S n).length ∧ i = (j : Int) := by
  have key : ∀ e ∈ newDir (pCrashDir S n) (pCrashDir S n).length, e.f1 = i → ∃ j : Nat, j < (pCrashDir S n).length ∧ i = (j : Int) := fun e he h1 => by
    obtain ⟨j, _, h2, h3, _⟩ := newDir_mem he
    exact ⟨j, h2, by rw [← h1, h3]⟩
  rcases h with ⟨e, he, h1⟩ | ⟨e, he, h1⟩ | ⟨o, ho, _⟩
  · exact key e he h1
  · exact key e he h1
  · simp [pCrash] at ho
theorem fileAt_crash {S : PS} {n : Int} {cs : List Cf} (j : Nat) : fileAt (pCrash S n cs) (j : Int) = nf S (pCrashDir S n) cs j := rfl
theorem crash_end {w wr w6 w7 : World} {F : Nat → Prop} {d ba bc m : Nat} {n : Int} {L : Lay} {S : PS} {cs : List Cf} {blk : Int → Nat} {data : Int → Value} (h : Rep w F d L S (Live S)) (hfr : Fr (fun _ => False) w wr) (hp : Part wr w.heap.size ba blk data S (pCrashDir S n) cs (pCrashDir S n).length)
    (hf6 : Fr (fun _ => False) wr w6) (hbc : wr.heap.size ≤ bc) (hcc : OwnDir w6 bc m (dirD blk (newDir (pCrashDir S n) (pCrashDir S n).length)))
    (hw7 : w7 = (((w6.setCell ⟨d, 0, none⟩ (.map (some ba))).setCell ⟨d, 1, none⟩ (.map (some bc))).setCell ⟨d, 2, none⟩ (.slice none 0 0)).setCell ⟨d, 3, none⟩ (.bool false)) : After w F d (pCrash S n cs) w7 := by
  have hf06 : Fr (fun _ => False) w w6 := hfr.trans hf6 (fun _ => .inl)
  have h6 := h.fr hf06 (fun _ _ => id)
  have hp6 := hp.move (w' := w6) (fun b _ hb => hf6.block b hb id)
  have hdl := lt_blk h.disk
  have hf67 : Fr (fun k => k = d) w6 w7 := by
    rw [hw7]
    exact Fr.setCell (F := fun k => k = d) (Fr.setCell (F := fun k => k = d) (Fr.setCell (F := fun k => k = d) (Fr.setCell (F := fun k => k = d) (Fr.refl _ w6) (p := ⟨d, 0, none⟩) (.inl rfl) _) (p := ⟨d, 1, none⟩) (.inl rfl) _) (p := ⟨d, 2, none⟩) (.inl rfl) _) (p := ⟨d, 3, none⟩) (.inl rfl) _
  have hd7 : w7.heap[d]? = some (.cells (diskCells ba bc (.slice none 0 0) false L.left) tDisk (0, 0)) := by
    rw [hw7]
    exact blk_set (blk_set (blk_set (blk_set h6.disk 0 _) 1 _) 2 _) 3 _
  have hp7 := hp6.move (w' := w7) (fun b hb hlt => hf67.block b hlt (fun e => by rw [e] at hb; omega))
  have hs := hfr.size
  have hcl := hcc.lt
  have hs7 := hf67.size
  have hcc7 := ownDir_move hcc (hf67.block bc hcl (fun e => by omega))
  have fF : Fr F w w7 := (hf06.mono (F' := F) (fun _ (hk : False) => hk.elim)).trans hf67 (fun k hk => .inl (by rw [hk]; exact h.inD))
  have new : ∀ k, w.heap.size ≤ k → k < w7.heap.size → grow F w w7 k := fun k h1 h2 => .inr ⟨h1, h2⟩
  refine After.of (L := ⟨blk, ba, bc, .slice none 0 0, data, L.left⟩) (X := Live (pCrash S n cs)) ?_ fF
  exact
    { disk := hd7
      left := fun e => by cases e
      cur := hp7.map
      dur := ownDir_tight hcc7
      ne := fun e => by have := hp.map.lt; have e' : ba = bc := e; omega
      pend := World.ownsRow_nil _ _ _ _
      live := fun _ hi => hi
      file := fun i hi => by
        obtain ⟨j, hj, rfl⟩ := live_crash hi
        rw [fileAt_crash]
        exact hp7.file j hj
      data := fun i hi => by
        obtain ⟨j, hj, rfl⟩ := live_crash hi
        rw [fileAt_crash]
        exact hp7.rows j hj
      inj := fun i i' hi hi' e => by
        obtain ⟨j, hj, rfl⟩ := live_crash hi
        obtain ⟨j', hj', rfl⟩ := live_crash hi'
        rw [hp7.inj j j' hj hj' e]
      apart := fun i i' hi hi' e => by
        obtain ⟨j, hj, rfl⟩ := live_crash hi
        obtain ⟨j', hj', rfl⟩ := live_crash hi'
        exact hp7.apart j j' hj hj' (fun h => e (by rw [h]))
      inD := .inl ⟨h.inD, by have := hf06.size; omega⟩
      inC := new _ hp.loA hp7.map.lt
      inU := new _ (by show w.heap.size ≤ bc; omega) hcc7.lt
      inP := fun k hk => by simp [Value.ownBlock] at hk
      inB := fun i hi => by
        obtain ⟨j, hj, rfl⟩ := live_crash hi
        exact new _ (hp.loB j hj) (lt_blk (hp7.file j hj))
      inV := fun i hi k hk => by
        obtain ⟨j, hj, rfl⟩ := live_crash hi
        exact new _ (hp.loV j hj k hk) (ownBlock_lt (hp7.rows j hj) hk) }

set_option maxHeartbeats 8000000 in
set_option maxRecDepth 100000 in
theorem Crash_calls (w : World) (F : Nat → Prop) (d : Nat) (L : Lay) (S : PS) (B : Nat) (n : Int) (A : Option Addr) (cc : Nat) (cs : List Cf) (hcs : Kd.C k62 w A cs.length cs) (h : Rep w F d L S (Live S)) (hg : Good S B) (hB : B ≤ 549755813888) :
    Calls Tryz.prog 20 #[.pointer (some ⟨d, 0, none⟩), .int .i64 n, .slice A cs.length cc] w fun e w' => e = .returned (.tuple #[]) ∧ After w F d (pCrash S n cs) w' := by
  have H := Lib.hid h
  have HG := Lib.hid hg
  have HB := Lib.hid hB
  have HCS := Lib.hid hcs
  have c1 := cell_blk h.disk 1
  have c2 := cell_blk h.disk 2
  simp [diskCells] at c1 c2
  obtain ⟨pA, pc, hpv, hpl⟩ : ∃ A c, L.pend = .slice A S.pend.length c ∧ S.pend.length ≤ c := by
    rcases h.pend.2 with ⟨h1, h2⟩ | ⟨g, cap, cur, h1, _, _, h2, _⟩
    · exact ⟨none, 0, by rw [h1, h2], by omega⟩
    · exact ⟨_, _, h1, h2⟩
  have HPV := Lib.hid hpv
  have HPL := Lib.hid hpl
  rw [hpv] at c2
  obtain ⟨m0, e1⟩ : ∃ m0, (if (0 : Int) < n then n else 0) = m0 := ⟨_, rfl⟩
  obtain ⟨k0, e2, hk1⟩ : ∃ k0 : Nat, (if (S.pend.length : Int) < m0 then (S.pend.length : Int) else m0) = (k0 : Int) ∧ k0 = min n.toNat S.pend.length := by
    obtain ⟨k, h1, h2⟩ := cut_eq n S.pend.length
    refine ⟨k, ?_, h2⟩
    rw [← h1, ← e1]
    rfl
  have hk2 : k0 ≤ S.pend.length := by omega
  have hk3 : k0 ≤ pc := by omega
  have hk4 : k0 ≤ 549755813888 := by have := hg.nPend; omega
  have HK1 := Lib.hid hk1
  clear h hg hB hcs hpv hpl hk1
  go_enter Tryz.func20, Tryz.ntmps20
  go_wp2_with (first | (go_at_call 71; refine (clone_calls w L.dur S.dur.length _ H.out.dur (by have := HG.out.nDur; have := HB.out; unfold maxLen; omega)).mono ?_; rintro e w1 ⟨bo, rfl, hbo, hco, hcu, hf1⟩; have hd1 := (H.out.fr hf1 (fun _ _ => id)).disk; have HBO := Lib.hid hbo; have HCO := Lib.hid hco; have HF1 := Lib.hid hf1; have c12 := cell_blk hd1 2; simp [diskCells] at c12; rw [HPV.out] at c12; clear hbo hco hcu hf1 hd1) | fail)
  go_loopw [39, 9] (fun i _ wr => CrashRel1 w bo k0 L S i wr) (fun i _ _ => k0 - (intOf i).toNat)
  case atStart => exact ⟨0, Nat.zero_le _, rfl, HCO.out, HF1.out⟩
  case round =>
    obtain ⟨k, hk, rfl, ho, hf⟩ := hrel
    have HO := Lib.hid ho
    have HF := Lib.hid hf
    clear ho hf c1 c2 c12
    by_cases hlt : k < k0
    · have hkp : k < S.pend.length := by omega
      obtain ⟨g, hgA, q0, q1, q2, q3⟩ := pend_cells (HPV.out ▸ (H.out.fr HF.out (fun _ _ => id)).pend) k hkp
      subst hgA
      obtain ⟨o, ho⟩ : ∃ o, o = S.pend[k] := ⟨_, rfl⟩
      rw [← ho] at q0 q1 q2 q3
      have HOP := Lib.hid (show OpnOk o by rw [ho]; exact HG.out.ops _ (List.getElem_mem hkp))
      have HNX := Lib.hid (show dirAt S (k + 1) = pApply (dirAt S k) o by rw [ho]; exact dirAt_succ S k hkp)
      obtain ⟨pp, hpp⟩ : ∃ pp : Option Addr, opPtr L.blk o = .pointer pp := by unfold opPtr; split <;> exact ⟨_, rfl⟩
      rw [hpp] at q3
      have HPP := Lib.hid hpp
      clear ho hkp hpp
      go_wp2_with (first | (go_at_call 72; refine (apply_ptr _ bo L.blk (dirAt S k) o pp HPP.out (HO.out.alloc _) HOP.out (by have := dirAt_length S k; have := HG.out.nDur; have := HG.out.nPend; have := HB.out; omega)).mono ?_; rintro e w2 ⟨rfl, ho2, hf2⟩; have HO2 := Lib.hid ho2; have HF2 := Lib.hid hf2; clear ho2 hf2) | fail)
      go_roundw
      case rel => exact ⟨k + 1, by omega, by go_num, by rw [HNX.out]; exact HO2.out, ((HF.out.alloc _).trans HF2.out (fun j hj => .inr (by rw [hj]; exact HBO.out)))⟩
      case measure => simp [intOf]; omega
    · have hkk : k = k0 := by omega
      subst hkk
      have hmm := @run_makeMap Tryz.prog
      go_wp2_with (first | (go_at_call 73; refine (names_calls _ bo _ _ (HO.out.alloc _) (by have := dirAt_length S k; have := HG.out.nDur; have := HG.out.nPend; have := HB.out; omega)).mono ?_; rintro e w3 ⟨v, rfl, hno, hnf⟩; obtain ⟨nA, nn, nc, rfl, hnn, hnm⟩ := strs_form hno; have HNO := Lib.hid hno; have HNF := Lib.hid hnf; have HNN := Lib.hid hnn; clear hno hnf hnn) | fail)
      have hcr := HNF.out
      have hl2 : nn = (dirAt S k).length := by
        have := HNN.out
        rw [this]
        simp [strKeys, dirD]
      have HL2 := Lib.hid hl2
      have hrel0 : CrashRel2 w bo wr.heap.size (.slice nA nn nc) S L (dirAt S k) cs (.int .i64 0) w3 := crash_start HF.out HO.out HNF.out HNO.out HBO.out (by rw [hl2])
      clear hcr hl2
      go_loopw [51, 11, 12, 13, 14, 15, 16] (fun i _ _ _ _ _ _ wr' => CrashRel2 w bo wr.heap.size (.slice nA nn nc) S L (dirAt S k) cs i wr') (fun i _ _ _ _ _ _ _ => nn - (intOf i).toNat)
      case atStart => exact hrel0
      case round =>
        obtain ⟨j, blk, data, hj, rfl, hpt, hfr, hdr, hnm, hab⟩ := hrel
        have HPT := Lib.hid hpt
        have HFR := Lib.hid hfr
        have HDR := Lib.hid hdr
        have HNM := Lib.hid hnm
        have HAB := Lib.hid hab
        have HJ := Lib.hid hj
        clear hpt hfr hdr hnm hab hrel0 hj
        have hnl : nn ≤ 1099511627776 := by rw [HL2.out]; have := dirAt_length S k; have := HG.out.nDur; have := HG.out.nPend; have := HB.out; omega
        by_cases hlt : j < nn
        · have hjl : j < (dirAt S k).length := by rw [← HL2.out]; exact hlt
          obtain ⟨ng, hnA, qn⟩ := names_cell HNM.out j hjl
          subst hnA
          obtain ⟨nm, hnm⟩ : ∃ nm, nm = (dirAt S k)[j].f0 := ⟨_, rfl⟩
          obtain ⟨i, hi⟩ : ∃ i, i = (dirAt S k)[j].f1 := ⟨_, rfl⟩
          rw [← hnm] at qn
          have HNZ := Lib.hid (show nm.size ≤ maxLen by rw [hnm]; exact own_names HDR.out (List.getElem_mem hjl))
          have HAT : Hid (∀ z : DataW Unit, (dirD L.blk (dirAt S k)).atKey (entKey nm) z = .lit (.int .i64 (L.blk i))) := fun z => by rw [dirD_atKey, hnm, (own_Sorted HDR.out).look j hjl, ← hi]
          have HLV := Lib.hid (show Live S i by rw [hi]; exact dirAt_live S k _ (List.getElem_mem hjl))
          have HNMJ := Lib.hid hnm
          have HIJ := Lib.hid hi
          have HJL := Lib.hid hjl
          have HLT := Lib.hid hlt
          clear hnm hi
          by_cases hks : j < cs.length
          focus
            obtain ⟨ad, hA, r0, r1⟩ := cf_at (Kd.C_below HCS.out (HFR.out.toBelow (Nat.le_refl _) (fun _ (hk : False) => hk.elim))) j hks
            subst hA
            have ra0 := fun o => cell_alloc r0 o
            have ra1 := fun o => cell_alloc r1 o
            go_wp2_with (first | (at_lookup; refine wpList_any (fun w4 => Fr (fun _ => False) wr w4 ∧ w4.heap[wr.heap.size]? = some (.cells #[.int .i64 (cfAt cs j).f0, .bool (cfAt cs j).f1] 62 (0, 0))) ⟨(Fr.refl _ wr).alloc _, heap_alloc_new wr _⟩ ?_) | fail)
          rotate_left
          focus
            have q1 := heap_alloc_new wr (.cells #[.int .i64 0, .bool false] 62)
            have HEZ := Lib.hid <| show cfAt cs j = z62 by unfold cfAt; simp [List.getD, List.getElem?_eq_none (Nat.le_of_not_lt hks)]
            go_wp2_with (first | (at_lookup; refine wpList_any (fun w4 => Fr (fun _ => False) wr w4 ∧ w4.heap[wr.heap.size]? = some (.cells #[.int .i64 (cfAt cs j).f0, .bool (cfAt cs j).f1] 62 (0, 0))) ⟨(Fr.refl _ wr).alloc _, by rw [HEZ.out]; exact q1⟩ ?_) | fail)
          all_goals
            intro w4 hw4
            obtain ⟨hf4, hc4⟩ := hw4
            have HF4 := Lib.hid hf4
            have HC4 := Lib.hid hc4
            have HR4 := Lib.hid ((H.out.fr HFR.out (fun _ _ => id)).fr hf4 (fun _ _ => id))
            have hdr4 := ownDir_move HDR.out (hf4.block _ HDR.out.lt id)
            obtain ⟨dA, dn, dc, hdv, hdn, hdc⟩ : ∃ A n c, L.data i = .slice A n c ∧ n = (fileAt S i).f0.length ∧ n ≤ c := data_form2 (HR4.out.data i HLV.out)
            have hdm : dn ≤ 549755813888 := by rw [hdn]; have := HG.out.nBytes _ (fileAt_mem (HG.out.range i HLV.out)); have := HB.out; omega
            obtain ⟨du, kp, x0, g1, g2, e3, e4, g5, g6⟩ := kept_form (cf := cfAt cs j) HG.out HLV.out hdn
            have b0 := cell_blk (HR4.out.file i HLV.out) 0
            have b1 := cell_blk (HR4.out.file i HLV.out) 1
            have b2 := cell_blk hc4 0
            have b3 := cell_blk hc4 1
            simp [fileCells] at b0 b1 b2 b3
            rw [hdv] at b0
            rw [g1] at b1
            have HDV := Lib.hid hdv
            have HDN := Lib.hid hdn
            have HDU := Lib.hid g1
            have HPK := Lib.hid g6
            clear hf4 hc4 hdv hdn g1 g6
            go_wp2_with (first | (at_lookup; refine wpList_lookup_dir _ rfl _ _ rfl bo _ _ rfl hdr4 nm rfl HNZ.out (L.blk i) HAT.out ?_) | fail)
            refine region_tail 14 (by kernel_rfl) (by kernel_rfl) ?_
            intro w5 hd5
            obtain ⟨md, hmd⟩ := hd5.out
            have HR5 := Lib.hid (HR4.out.drawn hd5)
            have b05 : w5.cell? ⟨L.blk i, 0, none⟩ = _ := (drawn_cell hd5 _).trans b0
            have b15 : w5.cell? ⟨L.blk i, 1, none⟩ = _ := (drawn_cell hd5 _).trans b1
            have b25 : w5.cell? ⟨wr.heap.size, 0, none⟩ = _ := (drawn_cell hd5 _).trans b2
            have b35 : w5.cell? ⟨wr.heap.size, 1, none⟩ = _ := (drawn_cell hd5 _).trans b3
            have HF5 := Lib.hid (HF4.out.drawn hd5)
            have HD5 := Lib.hid hd5
            have hwr : IntKind.i64.wrap ((dn : Int) - (du : Int)) = (dn : Int) - (du : Int) := IntWalk.i64_in _ (by omega)
            clear hd5 hmd b0 b1 b2 b3
            simp only [List.take_succ_cons, List.take_zero, List.drop_succ_cons, List.drop_zero]
            repeat still_step
            refine wpStill_nil ?_
            have HE3 := Lib.hid e3
            have HE4 := Lib.hid e4
            clear hwr e3 e4
            go_wp2_with fail
            refine region_tail 11 (by kernel_rfl) (by kernel_rfl) ?_
            intro w6 hd6
            have HR6 := Lib.hid (HR5.out.drawn hd6)
            have b06 : w6.cell? ⟨L.blk i, 0, none⟩ = _ := (drawn_cell hd6 _).trans b05
            have b16 : w6.cell? ⟨L.blk i, 1, none⟩ = _ := (drawn_cell hd6 _).trans b15
            have HF6 := Lib.hid (HF5.out.drawn hd6)
            have hc6 : w6.heap[wr.heap.size]? = some (.cells #[.int .i64 (cfAt cs j).f0, .bool (cfAt cs j).f1] 62 (0, 0)) := by obtain ⟨m1, h1⟩ := HD5.out.out; obtain ⟨m2, h2⟩ := hd6.out; rw [h2, h1]; exact HC4.out
            have HC6 := Lib.hid hc6
            obtain ⟨mk, hmk⟩ : ∃ mk : Nat, mk = du + kp := ⟨_, rfl⟩
            have hws : IntKind.i64.wrap ((du : Int) + (kp : Int)) = (mk : Int) := by rw [IntWalk.i64_in _ (by omega)]; omega
            have hk5 : mk ≤ dc := by omega
            have hk6 : mk ≤ 549755813888 := by omega
            have hk7 : (mk : Int) ≤ (dc : Int) := by omega
            have HMK := Lib.hid hmk
            clear hmk
            clear hd6 b05 b15 b25 b35 hc6
            simp only [List.take_succ_cons, List.take_zero, List.drop_succ_cons, List.drop_zero]
            repeat still_step
            first | refine wpStill_nil ?_ | (refine wpStill_step (fun K hK => ?_); go_simp)
            clear hws b06 b16
            obtain ⟨ct, hct⟩ : ∃ ct, ct = (cfAt cs j).f1 := ⟨_, rfl⟩
            have HCT := Lib.hid hct
            clear hct
            rcases torn_ways ct kp with hw | hw | hw
            · obtain ⟨rfl, hk0⟩ := hw
              obtain ⟨mp, rfl⟩ : ∃ mp, mk = mp + 1 := ⟨mk - 1, by have := HMK.out; omega⟩
              go_wp2_with (first | (go_at_call 51; refine (Clone_take w6 dA dn dc (mp + 1) (fileAt S i).f0 (by rw [← HDV.out]; exact HR6.out.data i HLV.out) (by rw [← HDN.out]; have := HMK.out; omega) (by rw [← HDN.out]; omega)).mono ?_; rintro e w7 ⟨v, rfl, ho7, hf7⟩; obtain ⟨vg, vcap, rfl, hvg, hq1, hq2⟩ := torn_form (mp := mp) ho7 (by rw [List.length_take]; have := HMK.out; have := HDN.out; omega); have HVG := Lib.hid hvg; obtain ⟨xv, hxv⟩ : ∃ xv, xv = rd ((fileAt S i).f0.take (mp + 1)) (mp : Int) := ⟨_, rfl⟩; rw [← hxv] at hq1; have HXV := Lib.hid hxv; clear hvg hxv; have b37 := cell_blk ((hf7.block _ (lt_blk HC6.out) id).trans HC6.out) 1; simp at b37; rw [← HCT.out] at b37; have HO7 := Lib.hid ho7; have HF7 := Lib.hid (HF6.out.trans hf7 (fun _ => .inl)); have hmp7 := ownDir_move HPT.out.map ((HF6.out.trans hf7 (fun _ => .inl)).block _ HPT.out.map.lt id); have hmp8 := fun u => ownDir_move (w' := w7.setCell ⟨vg, mp, none⟩ u) hmp7 (Below.heap_setCell _ _ _ _ (fun e => by have h1 := HVG.out; have h2 := HF6.out.size; have h3 := HPT.out.map.lt; simp only at e; omega)); clear ho7 hf7 hmp7) | (at_mapUpdate; refine wpList_mapUpdate_own _ rfl _ _ _ 68 rfl 9 100 dirK dirT fileElem _ _ _ rfl (by exact (hmp8 _).alloc _) (by have := newDir_length (dirAt S k) j (Nat.le_of_lt HJL.out); unfold maxLen; omega) _ _ (entKey nm) rfl rfl (keyS HNZ.out) (.lit (.int .i64 w7.heap.size)) [] rfl ?_; intro w9 hm9 hg9; have HM9 := Lib.hid hm9; have HG9 := Lib.hid hg9; clear hm9 hg9) | fail)
              go_roundw
              case rel =>
                have hlen : ((fileAt S i).f0.take (mp + 1)).length = mp + 1 := by rw [List.length_take]; have := HMK.out; have := HDN.out; omega
                refine crash_torn (x := Go.bits .xor .u8 xv 255) (b0 := (fileAt S i).f0.take (mp + 1)) HPT.out HJL.out HFR.out HDR.out HNM.out HAB.out HF7.out HO7.out hlen (by have h1 := HVG.out; have h2 := HF6.out.size; omega) (by rw [← HNMJ.out]; exact HM9.out) (by exact HG9.out) ?_
                rw [HXV.out]
                exact nf_torn HJL.out HIJ.out HDU.out HPK.out HMK.out ⟨by rw [← HCT.out], hk0⟩ (by have := HMK.out; have := HDN.out; omega)
              case measure => simp [intOf]; omega
            all_goals
              have HW := Lib.hid (show ¬ ((cfAt cs j).f1 = true ∧ 0 < kp) by rw [← HCT.out]; rintro ⟨z1, z2⟩; first | (rw [hw] at z1; cases z1) | (have := hw.2; omega))
              first | (obtain ⟨rfl, rfl⟩ := hw) | subst hw
              go_wp2_with (first | (go_at_call 51; refine (Clone_take w6 dA dn dc mk (fileAt S i).f0 (by rw [← HDV.out]; exact HR6.out.data i HLV.out) (by rw [← HDN.out]; have := HMK.out; omega) (by rw [← HDN.out]; omega)).mono ?_; rintro e w7 ⟨v, rfl, ho7, hf7⟩; obtain ⟨vA, vn, vc, rfl, hvn, hvc⟩ := data_form2 (own_weaken ho7 (Nat.zero_le _)); have b37 := cell_blk ((hf7.block _ (lt_blk HC6.out) id).trans HC6.out) 1; simp at b37; rw [← HCT.out] at b37; have HO7 := Lib.hid ho7; have HF7 := Lib.hid (HF6.out.trans hf7 (fun _ => .inl)); have HVN := Lib.hid hvn; have hmp7 := ownDir_move HPT.out.map ((HF6.out.trans hf7 (fun _ => .inl)).block _ HPT.out.map.lt id); clear ho7 hf7 hvn hvc) | (at_mapUpdate; refine wpList_mapUpdate_own _ rfl _ _ _ 68 rfl 9 100 dirK dirT fileElem _ _ _ rfl (by exact hmp7.alloc _) (by have := newDir_length (dirAt S k) j (Nat.le_of_lt HJL.out); unfold maxLen; omega) _ _ (entKey nm) rfl rfl (keyS HNZ.out) (.lit (.int .i64 w7.heap.size)) [] rfl ?_; intro w9 hm9 hg9; have HM9 := Lib.hid hm9; have HG9 := Lib.hid hg9; clear hm9 hg9) | fail)
              go_roundw
              case rel =>
                refine crash_round (v := .slice vA vn vc) (bs := (fileAt S i).f0.take mk) HPT.out HJL.out HFR.out HDR.out HNM.out HAB.out HF7.out (own_weaken HO7.out (Nat.zero_le _)) (fun b hb => by have h1 := (HO7.out.lt b hb).1; have h2 := HF6.out.size; omega) (by rw [← HNMJ.out]; exact HM9.out) (by rw [← HVN.out]; exact HG9.out) (nf_plain HJL.out HIJ.out HDU.out HPK.out HMK.out HW.out)
              case measure => simp [intOf]; omega
        · have hjj : j = (dirAt S k).length := by have := HJ.out; have := HL2.out; omega
          have HJJ := Lib.hid hjj
          have hcd : dirAt S k = pCrashDir S n := by
            unfold dirAt pCrashDir
            rw [HK1.out, ← List.take_eq_take_min]
          have HCD := Lib.hid hcd
          have HPE := Lib.hid (part_end HPT.out HJJ.out HCD.out)
          clear hjj hcd
          go_wp2_with (first | (go_at_call 71; refine (clone_calls wr _ _ _ HPE.out.map (by have := newDir_length (pCrashDir S n) _ (Nat.le_refl _); have := HL2.out; rw [HCD.out] at this; unfold maxLen; omega)).mono ?_; rintro e w6 ⟨bc, rfl, hbc, hcc, hca, hf6⟩; have hd6 := (H.out.fr (HFR.out.trans hf6 (fun _ => .inl)) (fun _ _ => id)).disk; have c0 := cell_blk hd6 0; have c1 := cell_blk hd6 1; have c2 := cell_blk hd6 2; have c3 := cell_blk hd6 3; have f0 := frozen_blk hd6 0; have f1 := frozen_blk hd6 1; have f2 := frozen_blk hd6 2; have f3 := frozen_blk hd6 3; simp [diskCells] at c0 c1 c2 c3; have HBC := Lib.hid hbc; have HCC := Lib.hid hcc; have HF6 := Lib.hid hf6; clear hbc hcc hca hf6 hd6) | fail)
          go_end0
          exact ⟨rfl, crash_end H.out HFR.out HPE.out HF6.out HBC.out HCC.out rfl⟩
end Go.Proofs.YtehhafnjbkbmjaaGreat.Disk
