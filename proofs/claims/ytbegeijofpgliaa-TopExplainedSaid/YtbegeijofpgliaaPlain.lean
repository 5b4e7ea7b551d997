/-
  The plain law of TopExplained: trying all orders finds just what the search by sets finds. Lists and numbers alone; no program.
-/
namespace Go.Proofs.Ytbegeijofpgliaa

structure LOp where
  wr : Bool
  val : UInt8
  beg : Int
  fin : Int

def opAt (l : List LOp) (i : Nat) : LOp := l.getD i ⟨true, 0, 0, 0⟩

def cur (l : List LOp) (c : UInt8) : List Nat → UInt8
  | [] => c
  | i :: r => cur l (if (opAt l i).wr then (opAt l i).val else c) r

def rdOk (l : List LOp) : UInt8 → List Nat → Bool
  | _, [] => true
  | c, i :: r => if (opAt l i).wr then rdOk l (opAt l i).val r else ((opAt l i).val == c) && rdOk l c r

theorem cur_append (l : List LOp) (a b : List Nat) : ∀ c, cur l c (a ++ b) = cur l (cur l c a) b := by
  induction a with
  | nil => intro c; rfl
  | cons i r ih => intro c; simp only [List.cons_append, cur]; exact ih _

theorem rdOk_append (l : List LOp) (a b : List Nat) : ∀ c, rdOk l c (a ++ b) = (rdOk l c a && rdOk l (cur l c a) b) := by
  induction a with
  | nil => intro c; simp [rdOk, cur]
  | cons i r ih =>
    intro c
    simp only [List.cons_append, rdOk, cur]
    split
    · exact ih _
    · rw [ih, Bool.and_assoc]

theorem snoc_ind {α : Type} {p : List α → Prop} (h0 : p []) (h1 : ∀ o i, p o → p (o ++ [i])) (o : List α) : p o := by
  have : ∀ n (o : List α), o.length = n → p o := by
    intro n
    induction n with
    | zero => intro o h; rw [List.length_eq_zero_iff] at h; rw [h]; exact h0
    | succ n ih =>
      intro o h
      rcases List.eq_nil_or_concat o with e | ⟨b, x, e⟩
      · rw [e]; exact h0
      · rw [List.concat_eq_append] at e
        rw [e]
        apply h1
        apply ih
        rw [e] at h
        simpa using h
  exact this _ o rfl

/-- The place of an operation in an order; -1: it is not there. -/
def pl (o : List Nat) (i : Nat) : Int := if i ∈ o then (o.idxOf i : Int) else -1

theorem pl_mem {o : List Nat} {i : Nat} : 0 ≤ pl o i ↔ i ∈ o := by
  unfold pl; split <;> rename_i h <;> simp [h]

theorem pl_neg {o : List Nat} {i : Nat} : pl o i < 0 ↔ i ∉ o := by
  rw [← pl_mem]; omega

theorem pl_at {a b : List Nat} {i : Nat} (h : i ∉ a) : pl (a ++ i :: b) i = a.length := by
  unfold pl
  rw [if_pos (by simp), List.idxOf_append, if_neg h]
  simp

theorem pl_left {a b : List Nat} {j : Nat} (h : j ∈ a) : pl (a ++ b) j < a.length := by
  unfold pl
  rw [if_pos (by simp [h]), List.idxOf_append, if_pos h]
  have := List.idxOf_lt_length_of_mem h
  omega

theorem pl_right {a b : List Nat} {j : Nat} (h : j ∉ a) (hb : j ∈ b) : (a.length : Int) ≤ pl (a ++ b) j := by
  unfold pl
  rw [if_pos (by simp [hb]), List.idxOf_append, if_neg h]
  omega

/-- What is wrong at an operation: it has ended, and is not there. -/
def lacks (l : List LOp) (o : List Nat) (i : Nat) : Prop := 0 < (opAt l i).fin ∧ pl o i < 0
/-- One that is ahead stands behind, or nowhere. -/
def crossed (l : List LOp) (o : List Nat) (i k : Nat) : Prop :=
  0 < (opAt l i).fin ∧ (opAt l i).fin < (opAt l k).beg ∧ 0 ≤ pl o k ∧ (pl o i < 0 ∨ pl o k < pl o i)

def Expl (l : List LOp) (c : UInt8) (o : List Nat) : Prop :=
  rdOk l c o = true ∧ ∀ i, i < l.length → ¬ lacks l o i ∧ ∀ k, k < l.length → ¬ crossed l o i k

noncomputable instance (l : List LOp) (c : UInt8) (o : List Nat) : Decidable (Expl l c o) := Classical.propDecidable _

def Valid (l : List LOp) : Prop := ∀ i, i < l.length → 1 ≤ (opAt l i).beg ∧ ((opAt l i).fin = 0 ∨ (opAt l i).beg < (opAt l i).fin)

/-- An operation may come next. -/
def Next (l : List LOp) (c : UInt8) (o : List Nat) (i : Nat) : Prop :=
  i ∉ o ∧ (∀ j, j < l.length → 0 < (opAt l j).fin → (opAt l j).fin < (opAt l i).beg → j ∈ o) ∧ ((opAt l i).wr = true ∨ (opAt l i).val = cur l c o)

noncomputable instance (l : List LOp) (c : UInt8) (o : List Nat) (i : Nat) : Decidable (Next l c o i) := Classical.propDecidable _

def Ended (l : List LOp) (o : List Nat) : Prop := ∀ i, i < l.length → 0 < (opAt l i).fin → i ∈ o

noncomputable instance (l : List LOp) (o : List Nat) : Decidable (Ended l o) := Classical.propDecidable _

def PV (l : List LOp) (c : UInt8) (o : List Nat) : Prop := ∀ a i b, o = a ++ i :: b → Next l c a i

def Fine (l : List LOp) (o : List Nat) : Prop := o.Nodup ∧ ∀ i ∈ o, i < l.length

theorem Fine.left {l : List LOp} {a b : List Nat} (h : Fine l (a ++ b)) : Fine l a :=
  ⟨(List.nodup_append.1 h.1).1, fun i hi => h.2 i (by simp [hi])⟩

theorem Fine.snoc {l : List LOp} {o : List Nat} {i : Nat} (h : Fine l o) (hi : i < l.length) (hn : i ∉ o) : Fine l (o ++ [i]) := by
  refine ⟨?_, ?_⟩
  · rw [List.nodup_append]
    refine ⟨h.1, by simp, ?_⟩
    intro a ha b hb
    simp at hb
    subst hb
    exact fun e => hn (e ▸ ha)
  · intro j hj
    rcases List.mem_append.1 hj with hj | hj
    · exact h.2 j hj
    · simp at hj; omega

theorem PV.left {l : List LOp} {c : UInt8} {a b : List Nat} (h : PV l c (a ++ b)) : PV l c a := by
  intro x i y e
  exact h x i (y ++ b) (by rw [e]; simp)

theorem PV.snoc {l : List LOp} {c : UInt8} {o : List Nat} {i : Nat} (h : PV l c o) (hn : Next l c o i) : PV l c (o ++ [i]) := by
  intro a j b e
  rcases List.eq_nil_or_concat b with hb | ⟨b', x, hb⟩
  · subst hb
    obtain ⟨e1, e2⟩ := List.append_inj' e rfl
    simp at e2
    subst e1; subst e2; exact hn
  · rw [List.concat_eq_append] at hb
    subst hb
    have e' : o ++ [i] = (a ++ j :: b') ++ [x] := by rw [e]; simp
    obtain ⟨e1, _⟩ := List.append_inj' e' rfl
    exact h a j b' e1

theorem PV.last {l : List LOp} {c : UInt8} {o : List Nat} {i : Nat} (h : PV l c (o ++ [i])) : Next l c o i := h o i [] rfl

theorem PV.reads {l : List LOp} {c : UInt8} : ∀ {o : List Nat}, PV l c o → rdOk l c o = true := by
  intro o
  induction o using snoc_ind with
  | h0 => intro _; rfl
  | h1 o i ih =>
    intro h
    rw [rdOk_append, ih h.left]
    simp only [rdOk, Bool.true_and]
    rcases h.last.2.2 with hw | hv
    · simp [hw]
    · simp [hv]

theorem expl_iff {l : List LOp} {c : UInt8} (hv : Valid l) {o : List Nat} (hf : Fine l o) : Expl l c o ↔ PV l c o ∧ Ended l o := by
  constructor
  · rintro ⟨hr, hc⟩
    refine ⟨?_, ?_⟩
    · intro a i b e
      subst e
      have hia : i ∉ a := by
        intro hm
        exact (List.nodup_append.1 hf.1).2.2 i hm i (by simp) rfl
      refine ⟨hia, ?_, ?_⟩
      · intro j hj h0 h1
        have hi : i < l.length := hf.2 i (by simp)
        have hx := (hc j hj).2 i hi
        have hpi : pl (a ++ i :: b) i = a.length := pl_at hia
        by_cases hja : j ∈ a
        · exact hja
        exfalso
        apply hx
        refine ⟨h0, h1, by rw [hpi]; omega, ?_⟩
        by_cases hjo : j ∈ a ++ i :: b
        · right
          have hjb : j ∈ i :: b := by
            rcases List.mem_append.1 hjo with h | h
            · exact absurd h hja
            · exact h
          have hne : j ≠ i := by
            intro e
            subst e
            rcases (hv j hj).2 with h | h <;> omega
          have hle := pl_right hja hjb
          rw [hpi]
          rcases Int.lt_or_eq_of_le hle with h | h
          · exact h
          · exfalso
            have e1 : (a ++ i :: b).idxOf j = a.length := by
              unfold pl at h; rw [if_pos hjo] at h; omega
            have e2 := List.getElem_idxOf (x := j) (xs := a ++ i :: b) (by rw [e1]; simp)
            have e3 : (a ++ i :: b)[a.length]'(by simp) = i := by simp
            apply hne
            rw [← e2]
            simp only [e1]
            exact e3
        · left
          exact pl_neg.2 hjo
      · rw [rdOk_append] at hr
        simp only [Bool.and_eq_true] at hr
        have h2 := hr.2
        simp only [rdOk] at h2
        split at h2
        · rename_i hw; exact .inl hw
        · simp only [Bool.and_eq_true, beq_iff_eq] at h2
          exact .inr h2.1
    · intro i hi h0
      have := (hc i hi).1
      by_cases hm : i ∈ o
      · exact hm
      · exact absurd ⟨h0, pl_neg.2 hm⟩ this
  · rintro ⟨hp, he⟩
    refine ⟨hp.reads, ?_⟩
    intro i hi
    refine ⟨?_, ?_⟩
    · rintro ⟨h0, h1⟩
      exact pl_neg.1 h1 (he i hi h0)
    · rintro k hk ⟨h0, h1, h2, h3⟩
      obtain ⟨a, b, hs⟩ := List.append_of_mem (pl_mem.1 h2)
      have hn := hp a k b hs
      have hia := hn.2.1 i hi h0 h1
      have h4 : pl o i < a.length := by rw [hs]; exact pl_left hia
      have h5 : pl o k = a.length := by rw [hs]; exact pl_at hn.1
      have h6 : 0 ≤ pl o i := pl_mem.2 (by rw [hs]; simp [hia])
      rcases h3 with h | h <;> omega

def tight (l : List LOp) (o : List Nat) : Prop := o = [] ∨ 0 < (opAt l (o.getLastD 0)).fin

noncomputable instance (l : List LOp) (o : List Nat) : Decidable (tight l o) := Classical.propDecidable _

/-- All orders, number by number. -/
noncomputable def ord (l : List LOp) (c : UInt8) : Nat → List Nat → Option (List Nat)
  | 0, _ => none
  | f + 1, o => if tight l o ∧ Expl l c o then some o else (List.range l.length).findSome? fun i => if i ∈ o then none else ord l c f (o ++ [i])

/-- The search by what may come next. -/
noncomputable def dfs (l : List LOp) (c : UInt8) : Nat → List Nat → Option (List Nat)
  | 0, _ => none
  | f + 1, o => if Ended l o then some o else (List.range l.length).findSome? fun i => if Next l c o i then dfs l c f (o ++ [i]) else none

theorem findSome_none {α β : Type} (xs : List α) (p : α → Option β) (h : ∀ x ∈ xs, p x = none) : xs.findSome? p = none := by
  rw [List.findSome?_eq_none_iff]; exact h

theorem findSome_congr {α β : Type} (p q : α → Option β) : ∀ (xs : List α), (∀ x ∈ xs, p x = q x) → xs.findSome? p = xs.findSome? q
  | [], _ => rfl
  | x :: r, h => by
    simp only [List.findSome?_cons]
    rw [h x (by simp), findSome_congr p q r (fun y hy => h y (by simp [hy]))]

theorem ord_none {l : List LOp} {c : UInt8} (hv : Valid l) : ∀ (f : Nat) (o : List Nat), Fine l o → ¬ PV l c o → ord l c f o = none
  | 0, _, _, _ => rfl
  | f + 1, o, hf, hp => by
    unfold ord
    rw [if_neg (fun h => hp ((expl_iff hv hf).1 h.2).1)]
    apply findSome_none
    intro i hi
    split
    · rfl
    · rename_i hn
      exact ord_none hv f (o ++ [i]) (hf.snoc (List.mem_range.1 hi) hn) (fun h => hp h.left)

theorem ord_dfs {l : List LOp} {c : UInt8} (hv : Valid l) : ∀ (f : Nat) (o : List Nat), Fine l o → PV l c o → (o = [] ∨ ¬ Ended l o.dropLast) → ord l c f o = dfs l c f o
  | 0, _, _, _, _ => rfl
  | f + 1, o, hf, hp, hd => by
    unfold ord dfs
    by_cases he : Ended l o
    · rw [if_pos he, if_pos]
      refine ⟨?_, (expl_iff hv hf).2 ⟨hp, he⟩⟩
      rcases hd with hd | hd
      · exact .inl hd
      · by_cases hn : o = []
        · exact .inl hn
        right
        by_cases h0 : 0 < (opAt l (o.getLastD 0)).fin
        · exact h0
        exfalso
        apply hd
        intro i hi hfi
        have hm := he i hi hfi
        rw [← List.dropLast_concat_getLast hn] at hm
        rcases List.mem_append.1 hm with h | h
        · exact h
        · exfalso
          simp only [List.mem_singleton] at h
          apply h0
          have : o.getLastD 0 = o.getLast hn := by
            rw [List.getLastD_eq_getLast?, List.getLast?_eq_some_getLast hn]; rfl
          rw [this, ← h]; exact hfi
    · rw [if_neg he, if_neg (fun h => he ((expl_iff hv hf).1 h.2).2)]
      apply findSome_congr
      intro i hi
      have hil := List.mem_range.1 hi
      by_cases hm : i ∈ o
      · rw [if_pos hm, if_neg (fun h : Next l c o i => h.1 hm)]
      · rw [if_neg hm]
        by_cases hn : Next l c o i
        · rw [if_pos hn]
          exact ord_dfs hv f (o ++ [i]) (hf.snoc hil hm) (hp.snoc hn) (.inr (by rw [List.dropLast_concat]; exact he))
        · rw [if_neg hn]
          exact ord_none hv f (o ++ [i]) (hf.snoc hil hm) (fun h => hn h.last)

theorem ord_is_dfs {l : List LOp} {c : UInt8} (hv : Valid l) (f : Nat) : ord l c f [] = dfs l c f [] :=
  ord_dfs hv f [] ⟨by simp, by simp⟩ (fun a i b e => by simp at e) (.inl rfl)

/-- The last write of an order; -1: none. -/
def lw (l : List LOp) : Int → List Nat → Int
  | x, [] => x
  | x, i :: r => lw l (if (opAt l i).wr then (i : Int) else x) r

theorem lw_snoc (l : List LOp) (o : List Nat) (i : Nat) : ∀ x, lw l x (o ++ [i]) = if (opAt l i).wr then (i : Int) else lw l x o := by
  induction o with
  | nil => intro x; rfl
  | cons j r ih => intro x; simp only [List.cons_append, lw]; exact ih _

theorem cur_snoc (l : List LOp) (c : UInt8) (o : List Nat) (i : Nat) : cur l c (o ++ [i]) = if (opAt l i).wr then (opAt l i).val else cur l c o := by
  rw [cur_append]; rfl

theorem cur_lw (l : List LOp) (c : UInt8) (o : List Nat) : cur l c o = if 0 ≤ lw l (-1) o then (opAt l (lw l (-1) o).toNat).val else c := by
  induction o using snoc_ind with
  | h0 => simp [lw, cur]
  | h1 o i ih =>
    rw [cur_snoc, lw_snoc]
    split
    · rw [if_pos (by omega)]; simp
    · exact ih

def bitsOf (o : List Nat) : Nat := o.foldl (fun a i => a ||| 1 <<< i) 0

theorem bitsOf_snoc (o : List Nat) (i : Nat) : bitsOf (o ++ [i]) = bitsOf o ||| 1 <<< i := by
  simp [bitsOf]

theorem testBit_bitsOf (o : List Nat) (j : Nat) : (bitsOf o).testBit j = decide (j ∈ o) := by
  induction o using snoc_ind with
  | h0 => simp [bitsOf]
  | h1 o i ih =>
    rw [bitsOf_snoc, Nat.testBit_or, ih, Nat.one_shiftLeft, Nat.testBit_two_pow]
    simp only [List.mem_append, List.mem_singleton]
    rw [Bool.eq_iff_iff]
    simp only [Bool.or_eq_true, decide_eq_true_eq]
    exact or_congr Iff.rfl ⟨fun h => h.symm, fun h => h.symm⟩

theorem bitsOf_lt {o : List Nat} {n : Nat} (h : ∀ i ∈ o, i < n) : bitsOf o < 2 ^ n := by
  apply Nat.lt_pow_two_of_testBit
  intro j hj
  rw [testBit_bitsOf, decide_eq_false_iff_not]
  intro hm
  have := h j hm
  omega

/-- Whether anything is found hangs on the set, and on the value. -/
theorem dfs_same {l : List LOp} {c : UInt8} : ∀ (f : Nat) (o o' : List Nat), (∀ i, i ∈ o ↔ i ∈ o') → cur l c o = cur l c o' → (dfs l c f o = none ↔ dfs l c f o' = none)
  | 0, _, _, _, _ => Iff.rfl
  | f + 1, o, o', hm, hc => by
    unfold dfs
    have he : Ended l o ↔ Ended l o' := by
      constructor
      · intro h i hi h0; exact (hm i).1 (h i hi h0)
      · intro h i hi h0; exact (hm i).2 (h i hi h0)
    by_cases h : Ended l o
    · rw [if_pos h, if_pos (he.1 h)]; simp
    · rw [if_neg h, if_neg (fun x => h (he.2 x))]
      rw [List.findSome?_eq_none_iff, List.findSome?_eq_none_iff]
      have hn : ∀ i, Next l c o i ↔ Next l c o' i := by
        intro i
        unfold Next
        rw [hc, hm i]
        constructor
        · rintro ⟨h1, h2, h3⟩; exact ⟨h1, fun j hj a b => (hm j).1 (h2 j hj a b), h3⟩
        · rintro ⟨h1, h2, h3⟩; exact ⟨h1, fun j hj a b => (hm j).2 (h2 j hj a b), h3⟩
      apply forall_congr'
      intro i
      apply imp_congr_right
      intro hi
      by_cases hni : Next l c o i
      · rw [if_pos hni, if_pos ((hn i).1 hni)]
        apply dfs_same f
        · intro j; simp [hm j]
        · rw [cur_snoc, cur_snoc, hc]
      · rw [if_neg hni, if_neg (fun x => hni ((hn i).2 x))]

theorem dfs_key {l : List LOp} {c : UInt8} (f : Nat) (o o' : List Nat) (hb : bitsOf o = bitsOf o') (hl : lw l (-1) o = lw l (-1) o') : dfs l c f o = none ↔ dfs l c f o' = none := by
  apply dfs_same
  · intro i
    have h1 := testBit_bitsOf o i
    have h2 := testBit_bitsOf o' i
    rw [hb, h2] at h1
    simp at h1
    exact h1.symm
  · rw [cur_lw, cur_lw, hl]

end Go.Proofs.Ytbegeijofpgliaa
