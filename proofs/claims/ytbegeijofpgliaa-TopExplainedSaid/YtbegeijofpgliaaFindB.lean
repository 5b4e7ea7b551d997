/-
  The walk of the search's closure.
-/
import Derived.Test.YtbegeijofpgliaaFindA
import Derived.Maps.OwnSet
namespace Go.Proofs.Ytbegeijofpgliaa
open Go.RowKit Go.Maps

set_option maxHeartbeats 400000 in
theorem equal_any (a b : UInt8) (g h c d : Nat) (w : World) (h1 : w.cell? ⟨g, 0, none⟩ = some (.int .u8 a.toNat)) (h2 : w.cell? ⟨h, 0, none⟩ = some (.int .u8 b.toNat)) :
    Calls Try.prog 15 #[.slice (some ⟨g, 0, none⟩) 1 c, .slice (some ⟨h, 0, none⟩) 1 d] w fun e w' => e = .returned (.bool (a == b)) ∧ w' = w := by
  have e1 := conv1 h1 c
  have e2 := conv1 h2 d
  go_enter Try.func15, Try.ntmps15
  go_wp2
  go_ret
  exact ⟨by simp, rfl⟩

def Fails (p : Par) (o : List Nat) : Prop := dfs p.l p.fst (p.l.length + 1 - o.length) o = none

/-- The order's cell. -/
def Holds (p : Par) (w : World) (ov : Value) (o : List Nat) : Prop :=
  w.heap[p.bo]? = some (.cells #[ov] 35 (0, 0)) ∧ w.ownsRow p.ob 3 1 ov o.length (nats o)

def Tried (p : Par) (w : World) (N : Nat) (Q : List Nat → Prop) : Prop := ∃ D : Dw, w.ownsMap Try.prog 50 (plainElem Try.prog 3) p.M N D ∧ Says p.l Q D

def FindPost (p : Par) (f : Nat) (o : List Nat) (w : World) (N : Nat) (Q : List Nat → Prop) (e : Ending) (w' : World) : Prop :=
  Fx p w' ∧ Moved p w w' ∧ ∃ ov',
    ((∃ r, dfs p.l p.fst f o = some r ∧ e = .returned (.bool true) ∧ Holds p w' ov' r) ∨
      (dfs p.l p.fst f o = none ∧ e = .returned (.bool false) ∧ Holds p w' ov' o ∧ Tried p w' (N + 15 ^ f) (fun o' => Q o' ∨ Fails p o')))

def FindAt (p : Par) (f : Nat) : Prop :=
  ∀ (o : List Nat) (ov : Value) (w : World) (N : Nat) (Q : List Nat → Prop), o.length + f = p.l.length + 1 → Fine p.l o → Fx p w → Holds p w ov o → Tried p w N Q → N + 15 ^ f ≤ maxLen → (∀ o', Fine p.l o' → Q o' → o'.length < o.length ∨ Fails p o') →
    Calls Try.prog 14 #[.agg #[.int .i64 (bitsOf o : Nat), .int .i64 (lw p.l (-1) o)], at0 p.be, at0 p.bt, at0 p.bf, at0 p.bl, at0 p.bb, at0 p.bo, at0 p.bd] w (FindPost p f o w N Q)

theorem below_alloc1 (w : World) (o : Obj) : Below w.heap.size w (w.alloc o) := (Below.refl _ _).alloc (Nat.le_refl _) _

theorem Holds.below {p : Par} {w w' : World} {ov : Value} {o : List Nat} (h : Holds p w ov o) (hb : Below w.heap.size w w') : Holds p w' ov o :=
  ⟨(hb.block _ (lt_of_block h.1)).trans h.1, own_below h.2 hb⟩

theorem Says.imp {l : List LOp} {Q Q' : List Nat → Prop} {D : Dw} (h : Says l Q D) (hQ : ∀ o', Fine l o' → Q o' → Q' o') : Says l Q' D :=
  fun o' ho c hc h0 => hQ o' ho (h o' ho c hc h0)

/-- Two orders of one set are of one length. -/
theorem same_length {l : List LOp} {o o' : List Nat} (h : Fine l o) (h' : Fine l o') (e : bitsOf o = bitsOf o') : o.length = o'.length := by
  have hm : ∀ i, i ∈ o ↔ i ∈ o' := by
    intro i
    have h1 := testBit_bitsOf o i
    have h2 := testBit_bitsOf o' i
    rw [e, h2] at h1
    simp at h1
    exact h1.symm
  have h1 := h.1.length_le_of_subset (fun i hi => (hm i).1 hi)
  have h2 := h'.1.length_le_of_subset (fun i hi => (hm i).2 hi)
  omega

/-- What was tried, while a state is under way. -/
def Under (p : Par) (o : List Nat) (Q : List Nat → Prop) (o' : List Nat) : Prop := Q o' ∨ Fails p o' ∨ (bitsOf o = bitsOf o' ∧ lw p.l (-1) o = lw p.l (-1) o')

/-- What one step more tries. -/
noncomputable def dkid (p : Par) (f : Nat) (o : List Nat) (i : Nat) : Option (List Nat) := if Next p.l p.fst o i then dfs p.l p.fst f (o ++ [i]) else none

theorem dfs_miss {p : Par} {f : Nat} {o : List Nat} (h : ¬ Ended p.l o) : dfs p.l p.fst (f + 1) o = (List.range p.l.length).findSome? (dkid p f o) := by
  conv => lhs; unfold dfs
  rw [if_neg h]; rfl

/-- The last write is one of the order. -/
theorem lw_mem (l : List LOp) (o : List Nat) (h : 0 ≤ lw l (-1) o) : (lw l (-1) o).toNat ∈ o := by
  induction o using snoc_ind with
  | h0 => simp [lw] at h
  | h1 o i ih =>
    rw [lw_snoc] at h ⊢
    split
    · simp
    · rename_i hw
      rw [if_neg hw] at h
      simp [ih h]

/-- Where the register's value lies. -/
theorem value_at {p : Par} (hp : p.Ok) {o : List Nat} (hf : Fine p.l o) :
    (∃ j b G : Nat, lw p.l (-1) o = (j : Int) ∧ j < p.l.length ∧ p.A = some ⟨b, 0, none⟩ ∧ p.W.cell? ⟨b, j * 4 + 1, none⟩ = some (.slice (some ⟨G, 0, none⟩) 1 1) ∧ p.W.cell? ⟨G, 0, none⟩ = some (.int .u8 (cur p.l p.fst o).toNat)) ∨
    (lw p.l (-1) o < 0 ∧ p.W.cell? ⟨p.F, 0, none⟩ = some (.int .u8 (cur p.l p.fst o).toNat)) := by
  by_cases h : 0 ≤ lw p.l (-1) o
  · left
    have hm := lw_mem p.l o h
    have hj := hf.2 _ hm
    obtain ⟨b, hA, hk⟩ := hp.hist (by omega)
    obtain ⟨-, ⟨G, h1, h2⟩, -, -⟩ := hk _ hj
    refine ⟨(lw p.l (-1) o).toNat, b, G, by omega, hj, hA, h1, ?_⟩
    rw [cur_lw, if_pos h]
    exact h2
  · right
    refine ⟨by omega, ?_⟩
    rw [cur_lw, if_neg h]
    exact hp.first

theorem bit_in {o : List Nat} {k : Nat} (h : bitsOf o < 4611686018427387904) : (bits BinOp.and IntKind.i64 ((bitsOf o : Nat) / 2 ^ k) 1 == 1) = decide (k ∈ o) := by
  have e1 : (((bitsOf o : Nat) : Int) / 2 ^ k) = ((bitsOf o / 2 ^ k : Nat) : Int) := by simp
  have e2 := i64_and (bitsOf o / 2 ^ k) 1 (by have := Nat.div_le_self (bitsOf o) (2 ^ k); omega) (by omega)
  rw [e1, show (1 : Int) = ((1 : Nat) : Int) from rfl, e2, ← testBit_bitsOf, Nat.testBit_eq_decide_div_mod_eq, Nat.and_one_is_mod, Bool.eq_iff_iff]
  simp only [beq_iff_eq, decide_eq_true_eq]
  omega

theorem ahead_out {l : List LOp} {o : List Nat} {k : Nat} (hn : l.length ≤ 14) (h : bitsOf o < 4611686018427387904) :
    (bits BinOp.andNot IntKind.i64 (aheadSet l k l.length : Nat) (bitsOf o : Nat) != 0) = decide (∃ j, j < l.length ∧ isAhead l k j = true ∧ j ∉ o) := by
  have h1 : aheadSet l k l.length < 2 ^ 62 := by
    have := bitsOf_small (n := 14) (fun i hi => by have := ahead_lt (l := l) (i := k) (q := l.length) i hi; omega) (by omega)
    unfold aheadSet; omega
  rw [i64_andNot _ _ (by omega) h, Bool.eq_iff_iff]
  simp only [bne_iff_ne, ne_eq, decide_eq_true_eq]
  have hb : ∀ j, (aheadSet l k l.length &&& (18446744073709551615 - bitsOf o)).testBit j = decide (j < l.length ∧ isAhead l k j = true ∧ j ∉ o) := by
    intro j
    rw [Nat.testBit_and]
    unfold aheadSet
    rw [testBit_bitsOf]
    by_cases hj : j < 64
    · have e : 18446744073709551615 - bitsOf o = 2 ^ 64 - (bitsOf o + 1) := by omega
      rw [e, Nat.testBit_two_pow_sub_succ (by omega), testBit_bitsOf]
      rw [Bool.eq_iff_iff]
      simp [hj]
      constructor
      · rintro ⟨⟨a, b⟩, c⟩; exact ⟨a, b, c⟩
      · rintro ⟨a, b, c⟩; exact ⟨⟨a, b⟩, c⟩
    · have : ¬ j < l.length := by omega
      simp [this]
  constructor
  · intro hne
    have hne' : aheadSet l k l.length &&& (18446744073709551615 - bitsOf o) ≠ 0 := by omega
    obtain ⟨j, hj⟩ := Nat.exists_testBit_of_ne_zero hne'
    rw [hb j] at hj
    exact ⟨j, by simpa using hj⟩
  · rintro ⟨j, hj⟩ he
    have h2 := hb j
    rw [show aheadSet l k l.length &&& (18446744073709551615 - bitsOf o) = 0 from by omega] at h2
    simp [hj] at h2

/-- What holds at the head of a round. -/
def RI (p : Par) (f : Nat) (o : List Nat) (ws : World) (N : Nat) (Q : List Nat → Prop) (k : Nat) (wr : World) : Prop :=
  Fx p wr ∧ Moved p ws wr ∧ ∃ ovr, Holds p wr ovr o ∧ Tried p wr (N + 1 + k * 15 ^ f) (Under p o Q) ∧ ∀ j, j < k → dkid p f o j = none

theorem next_of {l : List LOp} {c : UInt8} {o : List Nat} {k : Nat} (h1 : k ∉ o) (h2 : ¬ ∃ j, j < l.length ∧ isAhead l k j = true ∧ j ∉ o) (h3 : (opAt l k).wr = true ∨ (opAt l k).val = cur l c o) : Next l c o k := by
  refine ⟨h1, fun j hj ha hb => ?_, h3⟩
  by_cases hm : j ∈ o
  · exact hm
  · exact absurd ⟨j, hj, by unfold isAhead; simp [ha, hb], hm⟩ h2

theorem dkid_not {p : Par} {f : Nat} {o : List Nat} {i : Nat} (h : ¬ Next p.l p.fst o i) : dkid p f o i = none := by
  unfold dkid; rw [if_neg h]

theorem ri_skip {p : Par} (hp : p.Ok) {f : Nat} {o : List Nat} {ws wr w2 : World} {N k : Nat} {Q : List Nat → Prop} (h : RI p f o ws N Q k wr) (hk : dkid p f o k = none) (hb : Below wr.heap.size wr w2) : RI p f o ws N Q (k + 1) w2 := by
  obtain ⟨hx, hm, ovr, hh, ⟨D, hD, hS⟩, hno⟩ := h
  refine ⟨hx.moved hp (.of_below hb), hm.trans (.of_below hb), ovr, hh.below hb, ⟨D, ?_, hS⟩, ?_⟩
  · exact (hD.kept (row := none) ⟨hb.os, hb.tape, hb.output, hb.size, fun j hj _ => hb.block j hj⟩ (by simp)).mono (by rw [Nat.succ_mul]; exact Nat.add_le_add_left (Nat.le_add_right _ _) _)
  · intro j hj
    rcases Nat.lt_or_ge j k with h | h
    · exact hno j h
    · obtain rfl : j = k := by omega
      exact hk

theorem ri_start {p : Par} (hp : p.Ok) {f : Nat} {o : List Nat} (hf : Fine p.l o) {ov : Value} {ws w1 : World} {N : Nat} {Q : List Nat → Prop} {D : Dw} (hx : Fx p w1) (hm : Moved p ws w1) (ho : Holds p w1 ov o)
    (hD : w1.ownsMap Try.prog 50 (plainElem Try.prog 3) p.M (N + 1) (D.put (keyLit p.l o) (.lit (.int .i64 1)))) (hS : Says p.l Q D) : RI p f o ws N Q 0 w1 :=
  ⟨hx, hm, ov, ho, ⟨_, hD.mono (by omega), says_put hp.n14 hS hf (fun _ _ h => .inl h) (fun _ _ h1 h2 => .inr (.inr ⟨h1, h2⟩))⟩, fun j hj => by omega⟩

theorem zero3 (w : World) : (zeroValue 3).run Try.prog w = .ok (.int .i64 0) w := by kernel_rfl

theorem ended_iff {l : List LOp} {o : List Nat} : (((bitsOf o &&& endedSet l l.length : Nat) : Int) == (endedSet l l.length : Nat)) = decide (Ended l o) := by
  rw [Bool.eq_iff_iff]
  simp only [beq_iff_eq, decide_eq_true_eq, Int.natCast_inj]
  constructor
  · intro h i hi h0
    have h1 : (endedSet l l.length).testBit i = true := by
      unfold endedSet
      rw [testBit_bitsOf]
      simp [isEnded, hi, h0]
    rw [← h, Nat.testBit_and, testBit_bitsOf] at h1
    simp at h1
    exact h1.1
  · intro h
    apply Nat.eq_of_testBit_eq
    intro i
    rw [Nat.testBit_and]
    unfold endedSet
    rw [testBit_bitsOf, testBit_bitsOf]
    by_cases hm : i ∈ (List.range l.length).filter (isEnded l)
    · have h2 : i ∈ o := by
        simp [isEnded] at hm
        exact h i hm.1 hm.2
      simp [h2]
    · simp [hm]

theorem nats_add (o : List Nat) (k : Nat) : nats o ++ [.int .i64 (k : Int)] = nats (o ++ [k]) := by simp [nats]

theorem pow_room {N k f m : Nat} (hk : k < 14) (h : N + 15 ^ (f + 1) ≤ m) : N + 1 + k * 15 ^ f + 15 ^ f ≤ m := by
  have h0 : 0 < 15 ^ f := Nat.pow_pos (by omega)
  rw [Nat.pow_succ] at h
  generalize 15 ^ f = x at *
  have : k * x ≤ 13 * x := Nat.mul_le_mul_right _ (by omega)
  omega

/-- All is ready for one step more. -/
theorem ready {p : Par} (hp : p.Ok) {o : List Nat} {k N : Nat} {Q : List Nat → Prop} {wr wx w2 : World} {ovr v' : Value} (hx : Fx p wr) (hh : Holds p wr ovr o) (ht : Tried p wr N Q) (hb : Below wr.heap.size wr wx) (hg : wx.grownBy w2 ovr.ownBlock)
    (hown : w2.ownsRow p.ob 3 1 v' (o.length + 1) (nats (o ++ [k]))) :
    Fx p (w2.setCell ⟨p.bo, 0, none⟩ v') ∧ Moved p wr (w2.setCell ⟨p.bo, 0, none⟩ v') ∧ Holds p (w2.setCell ⟨p.bo, 0, none⟩ v') v' (o ++ [k]) ∧ Tried p (w2.setCell ⟨p.bo, 0, none⟩ v') N Q ∧ w2.heap[p.bo]? = some (.cells #[ovr] 35 (0, 0)) := by
  have hh1 := hh.below hb
  have m1 : Moved p wr w2 := (Moved.of_below hb).trans (.of_grown hg hh1.2)
  have m2 := m1.trans (.of_set w2 v')
  have hbo : w2.heap[p.bo]? = some (.cells #[ovr] 35 (0, 0)) := by
    refine (hg.block _ (lt_of_block hh1.1) ?_).trans hh1.1
    intro e
    have := (hh1.2.lt _ e.symm).1
    have := hp.lbo.1
    omega
  refine ⟨hx.moved hp m2, m2, ⟨one_setCell hbo, ?_⟩, ?_, hbo⟩
  · rw [List.length_append]
    exact ownsRow_setCell_below hown hp.lbo.1 _
  · obtain ⟨D, hD, hS⟩ := ht
    refine ⟨D, ?_, hS⟩
    have h1 := hD.kept (row := none) ⟨hb.os, hb.tape, hb.output, hb.size, fun j hj _ => hb.block j hj⟩ (by simp)
    have h2 := h1.kept hg (by
      intro e
      have := (hh1.2.lt _ e.symm).1
      have := hp.lM.1
      omega)
    exact h2.setCell (by have := hp.lM.2.2; exact this) _

theorem under_room {p : Par} {o : List Nat} {Q : List Nat → Prop} {k : Nat} (hf : Fine p.l o) (hQ : ∀ o', Fine p.l o' → Q o' → o'.length < o.length ∨ Fails p o') : ∀ o', Fine p.l o' → Under p o Q o' → o'.length < (o ++ [k]).length ∨ Fails p o' := by
  intro o' hf' h
  rw [List.length_append, List.length_singleton]
  rcases h with h | h | h
  · rcases hQ o' hf' h with h | h
    · exact .inl (by omega)
    · exact .inr h
  · exact .inr h
  · exact .inl (by have := same_length hf hf' h.1; omega)

/-- A step that found nothing. -/
theorem ri_kid {p : Par} {f : Nat} {o : List Nat} {ws wr w4 w5 : World} {N k : Nat} {Q : List Nat → Prop} {ov' : Value} (hp : p.Ok) (hm : Moved p ws wr) (hno : ∀ j, j < k → dkid p f o j = none) (hm2 : Moved p wr w4) (hx : Fx p w4)
    (hk : dkid p f o k = none) (ht : Tried p w4 (N + 1 + k * 15 ^ f + 15 ^ f) (fun o' => Under p o Q o' ∨ Fails p o')) (hm3 : Moved p w4 w5) (hh : Holds p w5 ov' o) (ht5 : ∀ R M, Tried p w4 M R → Tried p w5 M R) : RI p f o ws N Q (k + 1) w5 := by
  refine ⟨hx.moved hp hm3, (hm.trans hm2).trans hm3, ov', hh, ?_, ?_⟩
  · obtain ⟨D, hD, hS⟩ := ht5 _ _ ht
    refine ⟨D, by rw [Nat.succ_mul, ← Nat.add_assoc]; exact hD, hS.imp (fun o' _ h => ?_)⟩
    rcases h with h | h
    · exact h
    · exact .inr (.inl h)
  · intro j hj
    rcases Nat.lt_or_ge j k with h | h
    · exact hno j h
    · obtain rfl : j = k := by omega
      exact hk

theorem heap_new (w : World) (o : Obj) : (w.alloc o).heap[w.heap.size]? = some o := by
  show (w.heap.push o)[w.heap.size]? = some o
  simp

def Ready (p : Par) (wr : World) (o : List Nat) (k N : Nat) (Q : List Nat → Prop) (v' : Value) (w3 : World) : Prop := Fx p w3 ∧ Moved p wr w3 ∧ Holds p w3 v' (o ++ [k]) ∧ Tried p w3 N Q

/-- What the walk asks behind the append. -/
theorem tail_facts {p : Par} (hp : p.Ok) {o : List Nat} {k N nb : Nat} {Q : List Nat → Prop} {wr we w2 : World} {ovr v' : Value} {B L : Int} (hx : Fx p wr) (hh : Holds p wr ovr o) (ht : Tried p wr N Q) (hb : Below wr.heap.size wr we)
    (hnb : we.heap[nb]? = some (.cells #[.int .i64 B, .int .i64 L] 50 (0, 0))) (hnn : p.ob ≤ nb) (hg : (we.alloc (.cells #[.int .i64 (k : Int)] 3)).grownBy w2 ovr.ownBlock) (hown : w2.ownsRow p.ob 3 1 v' (o.length + 1) (nats o ++ [.int .i64 (k : Int)])) :
    w2.cell? ⟨p.bo, 0, none⟩ = some ovr ∧ w2.frozen? ⟨p.bo, 0, none⟩ = false ∧ (w2.setCell ⟨p.bo, 0, none⟩ v').cell? ⟨p.bd, 0, none⟩ = some (.func (.func 14) #[] p.caps) ∧ (w2.setCell ⟨p.bo, 0, none⟩ v').cell? ⟨nb, 0, none⟩ = some (.int .i64 B) ∧
      (w2.setCell ⟨p.bo, 0, none⟩ v').cell? ⟨nb, 1, none⟩ = some (.int .i64 L) ∧ Hid (Ready p wr o k N Q v' (w2.setCell ⟨p.bo, 0, none⟩ v')) := by
  have hbx : Below wr.heap.size wr (we.alloc (.cells #[.int .i64 (k : Int)] 3)) := hb.trans ((below_alloc1 _ _).mono hb.size)
  rw [nats_add] at hown
  obtain ⟨r1, r2, r3, r4, r5⟩ := ready hp hx hh ht hbx hg hown
  have m : Moved p we (w2.setCell ⟨p.bo, 0, none⟩ v') := ((Moved.of_below (below_alloc1 _ _)).trans (.of_grown hg (hh.below hbx).2)).trans (.of_set _ _)
  have h1 := hp.lbo.1
  have h2 := hp.lM.1
  have c : ∀ (i : Nat) (u : Value), (#[Value.int .i64 B, .int .i64 L])[i]? = some u → (w2.setCell ⟨p.bo, 0, none⟩ v').cell? ⟨nb, i, none⟩ = some u := by
    intro i u hu
    refine m.cell (a := ⟨nb, i, none⟩) ?_ (by simp; omega) (by simp; omega) (.inr (by intro cs; rw [hnb]; simp))
    simp [World.cell?, hnb, hu]
  exact ⟨cell_of_one r5, free_of_one r5, r1.cd, c 0 _ rfl, c 1 _ rfl, r1, r2, r3, r4⟩

/-- The end of a search that found something. -/
theorem post_found {p : Par} {f k : Nat} {o r : List Nat} {w ws wr w3 w4 : World} {N : Nat} {Q : List Nat → Prop} {ov' : Value} (hE : ¬ Ended p.l o) (hws : Below w.heap.size w ws) (hm : Moved p ws wr) (hk : k < p.l.length) (hno : ∀ j, j < k → dkid p f o j = none) (hnx : Next p.l p.fst o k)
    (hm2 : Moved p wr w3) (hm3 : Moved p w3 w4) (hx : Fx p w4) (hr : dfs p.l p.fst f (o ++ [k]) = some r) (hh : Holds p w4 ov' r) : FindPost p (f + 1) o w N Q (.returned (.bool true)) w4 := by
  refine ⟨hx, (((Moved.of_below hws).trans hm).trans hm2).trans hm3, ov', .inl ⟨r, ?_, rfl, hh⟩⟩
  rw [dfs_miss hE]
  exact find_hit hk hno (by unfold dkid; rw [if_pos hnx]; exact hr)

/-- The end of a search that found nothing. -/
theorem post_none {p : Par} (hp : p.Ok) {f : Nat} {o : List Nat} {w ws wr : World} {N : Nat} {Q : List Nat → Prop} (hlen : o.length + (f + 1) = p.l.length + 1) (hf : Fine p.l o) (hE : ¬ Ended p.l o) (hws : Below w.heap.size w ws) (h : RI p f o ws N Q p.l.length wr) :
    FindPost p (f + 1) o w N Q (.returned (.bool false)) wr := by
  obtain ⟨hx, hm, ovr, hh, ⟨D, hD, hS⟩, hno⟩ := h
  have hd : dfs p.l p.fst (f + 1) o = none := by rw [dfs_miss hE]; exact find_none hno
  refine ⟨hx, (Moved.of_below hws).trans hm, ovr, .inr ⟨hd, rfl, hh, D, hD.mono ?_, hS.imp ?_⟩⟩
  · have h0 : 0 < 15 ^ f := Nat.pow_pos (by omega)
    rw [Nat.pow_succ]
    generalize 15 ^ f = x at *
    have : p.l.length * x ≤ 14 * x := Nat.mul_le_mul_right _ hp.n14
    omega
  · intro o' hf' h
    rcases h with h | h | ⟨h1, h2⟩
    · exact .inl h
    · exact .inr h
    · right
      unfold Fails
      have := same_length hf hf' h1
      rw [show p.l.length + 1 - o'.length = f + 1 from by omega]
      exact (dfs_key (f + 1) o o' h1 h2).1 hd

theorem own_shape {w : World} {base n : Nat} {v : Value} {xs : List Value} (h : w.ownsRow base 3 1 v (n + 1) xs) : ∃ g cap, v = .slice (some ⟨g, 0, none⟩) (n + 1) cap ∧ n + 1 ≤ cap := by
  obtain ⟨_, ⟨_, h0⟩ | ⟨g, cap, _, rfl, _, _, h1, _⟩⟩ := h
  · omega
  · exact ⟨g, cap, rfl, h1⟩

/-- The last step is taken back. -/
theorem holds_pop {p : Par} (hp : p.Ok) {w : World} {o : List Nat} {k g cap : Nat} (h : Holds p w (.slice (some ⟨g, 0, none⟩) (o.length + 1) cap) (o ++ [k])) : Holds p (w.setCell ⟨p.bo, 0, none⟩ (.slice (some ⟨g, 0, none⟩) o.length cap)) (.slice (some ⟨g, 0, none⟩) o.length cap) o := by
  refine ⟨one_setCell h.1, ownsRow_setCell_below ?_ hp.lbo.1 _⟩
  have h2 := h.2
  rw [List.length_append, List.length_singleton, ← nats_add] at h2
  exact ownsRow_pop (by simp [nats]) h2

theorem tried_set {p : Par} (hp : p.Ok) {w : World} {v : Value} : ∀ R M, Tried p w M R → Tried p (w.setCell ⟨p.bo, 0, none⟩ v) M R := by
  rintro R M ⟨D, hD, hS⟩
  exact ⟨D, hD.setCell (by have := hp.lM.2.2; exact this) _, hS⟩

theorem cell_of2 {w : World} {b : Nat} {v u : Value} {t : TypeId} (h : w.heap[b]? = some (.cells #[v, u] t (0, 0))) : w.cell? ⟨b, 1, none⟩ = some u ∧ w.frozen? ⟨b, 1, none⟩ = false := by
  simp [World.cell?, World.frozen?, h]

theorem set2 {w : World} {b : Nat} {v u : Value} {t : TypeId} (h : w.heap[b]? = some (.cells #[v, u] t (0, 0))) (x : Value) : (w.setCell ⟨b, 1, none⟩ x).heap[b]? = some (.cells #[v, x] t (0, 0)) := by
  show (w.heap.modify b _)[b]? = _
  rw [Array.getElem?_modify, if_pos rfl, h]
  simp

theorem cell_one_at (w : World) (v : Value) (t n : Nat) (h : n = w.heap.size) : ∀ j u, [v][j]? = some u → (w.alloc (.cells #[v] t)).cell? ((⟨n, 0, none⟩ : Addr).add j) = some u := by
  subst h; exact cell_one_new _ _ _

theorem lw_yes {l : List LOp} {o : List Nat} {k : Nat} (h : (opAt l k).wr = true) : lw l (-1) (o ++ [k]) = (k : Int) := by rw [lw_snoc, if_pos h]
theorem lw_no {l : List LOp} {o : List Nat} {k : Nat} (h : (opAt l k).wr = false) : lw l (-1) (o ++ [k]) = lw l (-1) o := by rw [lw_snoc, h]; rfl

end Go.Proofs.Ytbegeijofpgliaa
