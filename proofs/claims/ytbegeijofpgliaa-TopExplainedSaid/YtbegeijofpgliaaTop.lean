/-
  The walk of TopExplained.
-/
import Derived.Test.YtbegeijofpgliaaExplained
import Derived.Deep.AppendLies
namespace Go.Proofs.Ytbegeijofpgliaa
open Go.RowKit Go.Maps

/-- What op answers: an operation; its value lies in a row of its own. -/
def OpPost (wr : Bool) (v b f : Int) (w : World) (e : Ending) (w' : World) : Prop :=
  Below w.heap.size w w' ∧ ∃ g, e = .returned (.agg #[.bool wr, .slice (some ⟨g, 0, none⟩) 1 1, .int .i64 b, .int .i64 f]) ∧ w'.heap[g]? = some (.cells #[.int .u8 v] 5 (0, 0))

set_option maxHeartbeats 800000 in
theorem op_any (wr : Bool) (v b f : Int) (w : World) : Calls Try.prog 4 #[.bool wr, .int .u8 v, .int .i64 b, .int .i64 f] w (OpPost wr v b f w) := by
  go_enter Try.func4, Try.ntmps4
  go_wp2
  refine bodyPost_ret (v := .agg #[.bool wr, .slice (some ⟨w.heap.size + 1, 0, none⟩) 1 1, .int .i64 b, .int .i64 f]) (by simp [results, Try.results4, go_sem]) rfl ⟨?_, w.heap.size + 1, rfl, ?_⟩
  · exact ((Below.refl _ _).alloc (Nat.le_refl _) _).alloc (by simp) _
  · exact heap_at _ _ _ (by simp)

/-- The search, by what a machine can reckon. -/
def nextB (l : List LOp) (c : UInt8) (o : List Nat) (i : Nat) : Bool :=
  !o.contains i && ((List.range l.length).all fun j => !(decide (0 < (opAt l j).fin) && decide ((opAt l j).fin < (opAt l i).beg)) || o.contains j) && ((opAt l i).wr || (opAt l i).val == cur l c o)
def endedB (l : List LOp) (o : List Nat) : Bool := (List.range l.length).all fun i => !decide (0 < (opAt l i).fin) || o.contains i
def dfsB (l : List LOp) (c : UInt8) : Nat → List Nat → Option (List Nat)
  | 0, _ => none
  | f + 1, o => if endedB l o then some o else (List.range l.length).findSome? fun i => if nextB l c o i then dfsB l c f (o ++ [i]) else none

theorem next_iff (l : List LOp) (c : UInt8) (o : List Nat) (i : Nat) : Next l c o i ↔ nextB l c o i = true := by
  unfold Next nextB
  simp only [Bool.and_eq_true, Bool.not_eq_true', List.all_eq_true, List.mem_range, Bool.or_eq_true, beq_iff_eq, List.contains_eq_mem, decide_eq_true_eq, decide_eq_false_iff_not]
  constructor
  · rintro ⟨h1, h2, h3⟩
    refine ⟨⟨h1, fun j hj => ?_⟩, h3⟩
    by_cases ha : 0 < (opAt l j).fin ∧ (opAt l j).fin < (opAt l i).beg
    · exact .inr (h2 j hj ha.1 ha.2)
    · left
      simp only [Bool.and_eq_false_iff, decide_eq_false_iff_not]
      omega
  · rintro ⟨⟨h1, h2⟩, h3⟩
    refine ⟨h1, fun j hj ha hb => ?_, h3⟩
    rcases h2 j hj with h | h
    · simp [ha, hb] at h
    · exact h

theorem ended_iff' (l : List LOp) (o : List Nat) : Ended l o ↔ endedB l o = true := by
  unfold Ended endedB
  simp only [List.all_eq_true, List.mem_range, Bool.or_eq_true, Bool.not_eq_true', decide_eq_false_iff_not, List.contains_eq_mem, decide_eq_true_eq]
  constructor
  · intro h i hi
    by_cases h0 : 0 < (opAt l i).fin
    · exact .inr (h i hi h0)
    · exact .inl h0
  · intro h i hi h0
    rcases h i hi with h1 | h1
    · exact absurd h0 h1
    · exact h1

theorem dfs_eq (l : List LOp) (c : UInt8) : ∀ (f : Nat) (o : List Nat), dfs l c f o = dfsB l c f o
  | 0, _ => rfl
  | f + 1, o => by
    unfold dfs dfsB
    by_cases h : Ended l o
    · rw [if_pos h, if_pos ((ended_iff' l o).1 h)]
    · rw [if_neg h, if_neg (fun x => h ((ended_iff' l o).2 x))]
      apply findSome_congr
      intro i _
      by_cases hn : Next l c o i
      · rw [if_pos hn, if_pos ((next_iff l c o i).1 hn)]
        exact dfs_eq l c f _
      · rw [if_neg hn, if_neg (fun x => hn ((next_iff l c o i).2 x))]

def yes59 : List LOp := [⟨true, 1, 1, 0⟩, ⟨false, 1, 2, 3⟩, ⟨false, 1, 4, 5⟩]
def no59 : List LOp := [⟨true, 1, 1, 0⟩, ⟨false, 1, 2, 3⟩, ⟨false, 0, 4, 5⟩]

theorem good_of {l : List LOp} (h : ((List.range l.length).all fun i => !badOp (opAt l i)) = true) : ¬ anyBad l := by
  rintro ⟨i, hi, hb⟩
  rw [List.all_eq_true] at h
  have := h i (List.mem_range.2 hi)
  rw [hb] at this
  cases this

theorem yes_good : ¬ anyBad yes59 := good_of (by decide)
theorem no_good : ¬ anyBad no59 := good_of (by decide)
theorem yes_found : (ord yes59 0 (yes59.length + 1) []).isSome = true := by
  rw [ord_is_dfs (valid_of yes_good), dfs_eq]; decide
theorem no_found : (ord no59 0 (no59.length + 1) []).isSome = false := by
  rw [ord_is_dfs (valid_of no_good), dfs_eq]; decide

def opCells (p : LOp × Nat) : List Value := [.bool p.1.wr, .slice (some ⟨p.2, 0, none⟩) 1 1, .int .i64 p.1.beg, .int .i64 p.1.fin]
def histCells (ps : List (LOp × Nat)) : List Value := ps.flatMap opCells

theorem histCells_length (ps : List (LOp × Nat)) : (histCells ps).length = ps.length * 4 := by
  induction ps with
  | nil => rfl
  | cons p r ih => simp only [histCells, List.flatMap_cons, List.length_append, List.length_cons] at ih ⊢; rw [ih]; simp [opCells]; omega

theorem histCells_at : ∀ (ps : List (LOp × Nat)) (k j : Nat) (p : LOp × Nat), ps[k]? = some p → j < 4 → (histCells ps)[k * 4 + j]? = (opCells p)[j]?
  | [], k, j, p, h, _ => by simp at h
  | q :: r, 0, j, p, h, hj => by
    simp at h; subst h
    simp only [histCells, List.flatMap_cons]
    rw [List.getElem?_append_left (by simp [opCells]; omega)]
    simp
  | q :: r, k + 1, j, p, h, hj => by
    simp at h
    have := histCells_at r k j p h hj
    simp only [histCells, List.flatMap_cons] at this ⊢
    rw [List.getElem?_append_right (by simp [opCells]; omega), ← this]
    congr 1
    simp [opCells]; omega

/-- The values' rows. -/
def Vals (w : World) (ps : List (LOp × Nat)) : Prop := ∀ p ∈ ps, w.heap[p.2]? = some (.cells #[.int .u8 (p.1.val.toNat : Int)] 5 (0, 0))

theorem Vals.below {w w' : World} {ps : List (LOp × Nat)} (h : Vals w ps) (hb : Below w.heap.size w w') : Vals w' ps :=
  fun p hp => (hb.block _ (lt_of_block (h p hp))).trans (h p hp)

theorem opAt_map {ps : List (LOp × Nat)} {k : Nat} {p : LOp × Nat} (h : ps[k]? = some p) : opAt (ps.map Prod.fst) k = p.1 := by
  simp [opAt, List.getD_eq_getElem?_getD, h]

theorem hist_of {w : World} {b : Nat} {ps : List (LOp × Nat)} (hc : ∀ j, j < ps.length * 4 → w.cell? ⟨b, j, none⟩ = (histCells ps)[j]?) (hv : Vals w ps) : Hist w (some ⟨b, 0, none⟩) (ps.map Prod.fst) := by
  intro _
  refine ⟨b, rfl, ?_⟩
  intro k hk
  rw [List.length_map] at hk
  obtain ⟨p, hp⟩ : ∃ p, ps[k]? = some p := ⟨ps[k], by simp [hk]⟩
  rw [opAt_map hp]
  have h : ∀ j, j < 4 → w.cell? ⟨b, k * 4 + j, none⟩ = (opCells p)[j]? := fun j hj => by rw [hc _ (by omega), histCells_at ps k j p hp hj]
  exact ⟨h 0 (by omega), ⟨p.2, h 1 (by omega), cell_of_one (hv p (List.mem_of_getElem? hp))⟩, h 2 (by omega), h 3 (by omega)⟩

theorem hist_lit (w : World) (ps : List (LOp × Nat)) (hv : Vals w ps) : Hist (w.alloc (.cells (histCells ps).toArray 25)) (some ⟨w.heap.size, 0, none⟩) (ps.map Prod.fst) := by
  refine hist_of ?_ (hv.below (below_alloc1 _ _))
  intro j hj
  rw [World.cell?_alloc_at _ _ _ _ rfl]
  simp

theorem hist_own {w : World} {base : Nat} {v : Value} {ps : List (LOp × Nat)} (h : w.ownsRow base 25 4 v ps.length (histCells ps)) (hv : Vals w ps) : ∃ A c, v = .slice A ps.length c ∧ Hist w A (ps.map Prod.fst) := by
  obtain ⟨hl, ⟨rfl, h0⟩ | ⟨g, cap, cur, rfl, h1, h2, h3, h4, h5, h6⟩⟩ := h
  · refine ⟨none, 0, by rw [h0], fun hx => ?_⟩
    rw [List.length_map] at hx; omega
  · refine ⟨_, cap, rfl, hist_of ?_ hv⟩
    intro j hj
    have h7 : w.cell? ⟨g, j, none⟩ = cur[j]? := by simp [World.cell?, h2]
    rw [h7, ← Array.getElem?_toList, ← h6, List.getElem?_take_of_lt hj]

def bad1 : List LOp := [⟨true, 1, 0, 4⟩]
def bad2 : List LOp := [⟨true, 1, 4, 4⟩]
theorem bad1_check : checkE bad1 = 2 := by
  unfold checkE; rw [if_neg (by decide), if_pos ⟨0, by decide, by decide⟩]
theorem bad2_check : checkE bad2 = 2 := by
  unfold checkE; rw [if_neg (by decide), if_pos ⟨0, by decide, by decide⟩]

theorem vals_one {w : World} {x : LOp} {g : Nat} {v : Int} (h : w.heap[g]? = some (.cells #[.int .u8 v] 5 (0, 0))) (hv : (x.val.toNat : Int) = v) : Vals w [(x, g)] := by
  intro p hp
  simp at hp
  subst hp
  simp only
  rw [hv]; exact h

theorem vals_snoc {w : World} {ps : List (LOp × Nat)} {x : LOp} {g : Nat} {v : Int} (h : Vals w ps) (hg : w.heap[g]? = some (.cells #[.int .u8 v] 5 (0, 0))) (hv : (x.val.toNat : Int) = v) : Vals w (ps ++ [(x, g)]) := by
  intro p hp
  rcases List.mem_append.1 hp with hp | hp
  · exact h p hp
  · exact vals_one hg hv p hp

/-- What stands of the history behind some rounds. -/
def Hst (base : Nat) (h : Value) (k : Nat) (w : World) : Prop := ∃ ps : List (LOp × Nat), ps.length = k ∧ w.ownsRow base 25 4 h k (histCells ps) ∧ Vals w ps ∧ ¬ anyBad (ps.map Prod.fst)

theorem own_type {w : World} {base e size n : Nat} {v : Value} {xs : List Value} (h : w.ownsRow base e size v n xs) {j : Nat} (hj : v.ownBlock = some j) : ∃ cur, w.heap[j]? = some (.cells cur e (0, 0)) := by
  obtain ⟨_, ⟨rfl, _⟩ | ⟨g, cap, cur, rfl, _, h2, _⟩⟩ := h
  · cases hj
  · simp only [Value.ownBlock, Option.some.injEq] at hj
    subst hj
    exact ⟨cur, h2⟩

theorem good_snoc {ps : List (LOp × Nat)} {x : LOp} {g : Nat} (h : ¬ anyBad (ps.map Prod.fst)) (hx : badOp x = false) : ¬ anyBad ((ps ++ [(x, g)]).map Prod.fst) := by
  rintro ⟨i, hi, hb⟩
  simp only [List.map_append, List.map_cons, List.map_nil, List.length_append, List.length_map, List.length_singleton] at hi hb
  by_cases h1 : i < ps.length
  · apply h
    refine ⟨i, by simpa using h1, ?_⟩
    have : opAt (ps.map Prod.fst ++ [x]) i = opAt (ps.map Prod.fst) i := by
      simp only [opAt, List.getD_eq_getElem?_getD]
      rw [List.getElem?_append_left (by simpa using h1)]
    rwa [this] at hb
  · have : opAt (ps.map Prod.fst ++ [x]) i = x := by
      simp only [opAt, List.getD_eq_getElem?_getD]
      rw [List.getElem?_append_right (by simp; omega)]
      simp [show i - ps.length = 0 from by omega]
    rw [this, hx] at hb
    cases hb

theorem hst_step {base k : Nat} {u v' : Value} {wr w1 w2 : World} {ps : List (LOp × Nat)} {x : LOp} {g1 : Nat} {vv : Int} {o : Obj} (hpl : ps.length = k) (hown : wr.ownsRow base 25 4 u k (histCells ps)) (hv : Vals wr ps) (hgood : ¬ anyBad (ps.map Prod.fst)) (hb : Below wr.heap.size wr w1)
    (hg1 : w1.heap[g1]? = some (.cells #[.int .u8 vv] 5 (0, 0))) (hvv : (x.val.toNat : Int) = vv) (hgrow : (w1.alloc o).grownBy w2 u.ownBlock) (hown2 : w2.ownsRow base 25 4 v' (k + 1) (histCells ps ++ opCells (x, g1))) (hx : badOp x = false) : Hst base v' (k + 1) w2 := by
  have hb2 := hb.trans ((below_alloc1 w1 o).mono hb.size)
  have hown1 := own_below hown hb2
  have keep : ∀ (g : Nat) (u' : Value), (w1.alloc o).heap[g]? = some (.cells #[u'] 5 (0, 0)) → w2.heap[g]? = some (.cells #[u'] 5 (0, 0)) := by
    intro g u' h
    refine (hgrow.block g (lt_of_block h) ?_).trans h
    intro e
    obtain ⟨cur, hc⟩ := own_type hown1 e.symm
    rw [hc] at h
    simp at h
  have hvn : Vals (w1.alloc o) (ps ++ [(x, g1)]) := vals_snoc (hv.below hb2) ((below_alloc1 w1 o).block g1 (lt_of_block hg1) |>.trans hg1) hvv
  refine ⟨ps ++ [(x, g1)], by simp [hpl], ?_, fun p hp => keep _ _ (hvn p hp), good_snoc hgood hx⟩
  have : histCells (ps ++ [(x, g1)]) = histCells ps ++ opCells (x, g1) := by simp [histCells]
  rw [this]; exact hown2

theorem u8_val (v : Int) : ((UInt8.ofNat (v % 3).toNat).toNat : Int) = v % 3 := by
  have : (v % 3).toNat < 256 := by omega
  simp only [UInt8.toNat_ofNat']
  rw [Nat.mod_eq_of_lt (by omega)]
  omega

theorem u8_val' (v : Int) (h0 : 0 ≤ v) : ((UInt8.ofNat (v % 3).toNat).toNat : Int) = v.tmod 3 := by
  rw [u8_val, Int.tmod_eq_emod_of_nonneg h0]

theorem conv_mod (w : World) (x : UInt8) (z : Int) (h : (x.toNat : Int) = z) : (convert 23 9 (.slice (some ⟨w.heap.size, 0, none⟩) 1 1)).run Try.prog (w.alloc (.cells #[.int .u8 z] 5)) = .ok (.string ⟨#[x]⟩) (w.alloc (.cells #[.int .u8 z] 5)) := by
  subst h
  exact conv1 (World.cell?_alloc_at _ _ _ _ rfl) 1

/-- The last call. -/
theorem hst_call {base k : Nat} {h : Value} {w : World} (hs : Hst base h k w) (hk : k ≤ 14) (x : UInt8) (z : Int) : ∃ A c, h = .slice A k c ∧
    Calls Try.prog 5 #[.slice A k c, .string ⟨#[x]⟩] (w.alloc (.cells #[.int .u8 z] 5)) fun e w' => (∃ t, e = .returned (.tuple #[.bool t, .bool true])) ∧ Below w.heap.size w w' := by
  obtain ⟨ps, rfl, hown, hvals, hgood⟩ := hs
  obtain ⟨A, c, rfl, hh⟩ := hist_own hown hvals
  refine ⟨A, c, rfl, ?_⟩
  have := explained_any (ps.map Prod.fst) A c x (w.alloc (.cells #[.int .u8 z] 5)) (by simpa using hk) (hh.below (below_alloc1 _ _)) hgood
  rw [List.length_map] at this
  exact this.mono fun e w' ⟨h1, h2⟩ => ⟨⟨_, h2⟩, (below_alloc1 _ _).trans (h1.mono (by simp))⟩

end Go.Proofs.Ytbegeijofpgliaa
