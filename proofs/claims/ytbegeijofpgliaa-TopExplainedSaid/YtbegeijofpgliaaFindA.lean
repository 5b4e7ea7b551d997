/-
  The search's closure: its captured variables, its memory, its map of what was tried.
-/
import Derived.Test.YtbegeijofpgliaaAhead
import Derived.Maps.OwnOps
import Derived.DeepKeys4
namespace Go.Proofs.Ytbegeijofpgliaa
open Go.RowKit Go.Maps

theorem Try.laidOut : laidOutB Try.prog = true := by kernel_rfl
theorem Try.cells50 : Try.prog.cellsOf 50 = 2 := by kernel_rfl
theorem Try.cells3 : Try.prog.cellsOf 3 = 1 := by kernel_rfl
theorem Try.key50 : Try.prog.keyType 50 = true := by kernel_rfl
theorem Try.wide50 : (match Try.prog.underlying 50 with | some (.array _ _) | some (.struct _) => true | _ => false) = true := by kernel_rfl
theorem Try.law50 : Keyed Try.prog 50 := Keyed.of_law (deep_law_laid Try.laidOut (m := 3) (by omega) (of_decide_eq_true (by kernel_rfl)) (by kernel_rfl) Try.wide50)
theorem lits_state (d : Nat) (a b : Int) (ha : (Lit.int .i64 a).wf = true) (hb : (Lit.int .i64 b).wf = true) : Program.keyLits Try.prog (d + 2) 50 [.int .i64 a, .int .i64 b] = some [.int .i64 a, .int .i64 b] := by
  have h1 : ∀ x : Int, (Lit.int .i64 x).wf = true → Program.keyLits Try.prog (d + 1) 3 [.int .i64 x] = some [.int .i64 x] := by
    intro x hx
    unfold Program.keyLits
    rw [Try.underlying3]
    simp [hx]
  unfold Program.keyLits
  rw [Try.underlying50]
  simp [Try.cells50, Try.cells3, h1 a ha, h1 b hb]

theorem key_state (a b : Int) (ha : (Lit.int .i64 a).wf = true) (hb : (Lit.int .i64 b).wf = true) : keyOf Try.prog 50 (.agg #[.int .i64 a, .int .i64 b]) = some (.string (keyBytes [.int .i64 a, .int .i64 b])) := by
  have hf : (Value.agg #[.int .i64 a, .int .i64 b]).formed Try.prog 50 = true := by simp [Value.formed, Try.underlying50, Try.cells50]
  have hu := Try.underlying50
  unfold keyOf
  rw [hu]
  simp only [Try.key50, hf, Bool.and_self, if_true]
  have h := lits_state 69 a b ha hb
  have : Try.prog.types.size + 1 = 69 + 2 := by kernel_rfl
  rw [this]
  have hc : (Value.agg #[.int .i64 a, .int .i64 b]).cells.toList = [.int .i64 a, .int .i64 b] := rfl
  rw [hc, h]
  rfl
/-- The numbers of a search: the history, what the register has, the world in which Order was called, the captured variables' blocks. -/
structure Par where
  l : List LOp
  fst : UInt8
  W : World
  A : Option Addr
  c : Nat
  F : Nat
  fc : Nat
  be : Nat
  bt : Nat
  bf : Nat
  bl : Nat
  bb : Nat
  bo : Nat
  bd : Nat
  M : Nat
  BB : Nat
  bc : Nat
  ob : Nat

def at0 (b : Nat) : Value := .pointer (some ⟨b, 0, none⟩)

def Par.caps (p : Par) : Array Value := #[at0 p.be, at0 p.bt, at0 p.bf, at0 p.bl, at0 p.bb, at0 p.bo, at0 p.bd]

/-- What is known of a search once for all. -/
structure Par.Ok (p : Par) : Prop where
  n14 : p.l.length ≤ 14
  hist : Hist p.W p.A p.l
  first : p.W.cell? ⟨p.F, 0, none⟩ = some (.int .u8 p.fst.toNat)
  lbe : p.be < p.ob ∧ p.be ≠ p.bo ∧ p.be ≠ p.M
  lbt : p.bt < p.ob ∧ p.bt ≠ p.bo ∧ p.bt ≠ p.M
  lbf : p.bf < p.ob ∧ p.bf ≠ p.bo ∧ p.bf ≠ p.M
  lbl : p.bl < p.ob ∧ p.bl ≠ p.bo ∧ p.bl ≠ p.M
  lbb : p.bb < p.ob ∧ p.bb ≠ p.bo ∧ p.bb ≠ p.M
  lbd : p.bd < p.ob ∧ p.bd ≠ p.bo ∧ p.bd ≠ p.M
  lBB : p.BB < p.ob ∧ p.BB ≠ p.bo ∧ p.BB ≠ p.M
  lbo : p.bo < p.ob ∧ p.W.heap.size ≤ p.bo
  lM : p.M < p.ob ∧ p.W.heap.size ≤ p.M ∧ p.M ≠ p.bo
  lW : p.W.heap.size ≤ p.ob

/-- What every world of the search has. -/
structure Fx (p : Par) (w : World) : Prop where
  size : p.ob ≤ w.heap.size
  below : Below p.W.heap.size p.W w
  ce : w.cell? ⟨p.be, 0, none⟩ = some (.int .i64 (endedSet p.l p.l.length : Nat))
  ct : w.cell? ⟨p.bt, 0, none⟩ = some (.map (some p.M))
  cf : w.cell? ⟨p.bf, 0, none⟩ = some (.slice (some ⟨p.F, 0, none⟩) 1 p.fc)
  cl : w.cell? ⟨p.bl, 0, none⟩ = some (.slice p.A p.l.length p.c)
  cb : 0 < p.l.length → w.cell? ⟨p.bb, 0, none⟩ = some (.slice (some ⟨p.BB, 0, none⟩) p.l.length p.bc)
  cB : ∀ k, k < p.l.length → w.cell? ⟨p.BB, k, none⟩ = some (.int .i64 (aheadSet p.l k p.l.length : Nat))
  cd : w.cell? ⟨p.bd, 0, none⟩ = some (.func (.func 14) #[] p.caps)

/-- A world behind another one: old blocks but the map, the order's cell, and rows of numbers of the search's own, are as they were. -/
structure Moved (p : Par) (w w' : World) : Prop where
  os : w'.os = w.os
  tape : w'.tape = w.tape
  output : w'.output = w.output
  size : w.heap.size ≤ w'.heap.size
  block : ∀ k, k < w.heap.size → k ≠ p.bo → k ≠ p.M → (k < p.ob ∨ ∀ cs, w.heap[k]? ≠ some (.cells cs 3 (0, 0))) → w'.heap[k]? = w.heap[k]?

theorem Moved.refl (p : Par) (w : World) : Moved p w w := ⟨rfl, rfl, rfl, Nat.le_refl _, fun _ _ _ _ _ => rfl⟩

theorem Moved.of_below {p : Par} {w w' : World} (h : Below w.heap.size w w') : Moved p w w' :=
  ⟨h.os, h.tape, h.output, h.size, fun k hk _ _ _ => h.block k hk⟩

theorem Moved.of_grown {p : Par} {w w' : World} {v : Value} {n : Nat} {xs : List Value} (h : w.grownBy w' v.ownBlock) (ho : w.ownsRow p.ob 3 1 v n xs) : Moved p w w' :=
  ⟨h.os, h.tape, h.output, h.size, fun k hk _ _ h1 => h.block k hk (by
    intro e
    rcases h1 with h1 | h1
    · have := (ho.lt k e.symm).1
      omega
    · obtain ⟨_, ⟨rfl, _⟩ | ⟨g, cap, cur, rfl, _, h2, _⟩⟩ := ho
      · cases e
      · simp only [Value.ownBlock, Option.some.injEq] at e
        subst e
        exact h1 _ h2)⟩

theorem Moved.of_grown_M {p : Par} {w w' : World} (h : w.grownBy w' (some p.M)) : Moved p w w' :=
  ⟨h.os, h.tape, h.output, h.size, fun k hk _ h1 _ => h.block k hk (by simpa using h1)⟩

theorem Moved.of_set {p : Par} (w : World) (v : Value) : Moved p w (w.setCell ⟨p.bo, 0, none⟩ v) :=
  ⟨rfl, rfl, rfl, by simp, fun k _ h1 _ _ => Below.heap_setCell w _ v k h1⟩

theorem Moved.trans {p : Par} {a b c : World} (h : Moved p a b) (k : Moved p b c) : Moved p a c :=
  ⟨k.os.trans h.os, k.tape.trans h.tape, k.output.trans h.output, Nat.le_trans h.size k.size, fun j hj h1 h2 h3 => by
    have e := h.block j hj h1 h2 h3
    refine (k.block j (Nat.lt_of_lt_of_le hj h.size) h1 h2 ?_).trans e
    rcases h3 with h3 | h3
    · exact .inl h3
    · right; intro cs; rw [e]; exact h3 cs⟩

theorem Moved.cell {p : Par} {w w' : World} (h : Moved p w w') {a : Addr} {v : Value} (hc : w.cell? a = some v) (h1 : a.block ≠ p.bo) (h2 : a.block ≠ p.M) (h3 : a.block < p.ob ∨ ∀ cs, w.heap[a.block]? ≠ some (.cells cs 3 (0, 0))) : w'.cell? a = some v := by
  rw [World.cell?_of_block (h.block _ (cell_lt hc) h1 h2 h3)]; exact hc

/-- The search's facts stay. -/
theorem Fx.moved {p : Par} (hp : p.Ok) {w w' : World} (h : Fx p w) (m : Moved p w w') : Fx p w' := by
  have key : ∀ (b o : Nat) (v : Value), w.cell? ⟨b, o, none⟩ = some v → b < p.ob ∧ b ≠ p.bo ∧ b ≠ p.M → w'.cell? ⟨b, o, none⟩ = some v := by
    intro b o v hc ⟨h1, h2, h3⟩
    exact m.cell hc h2 h3 (.inl h1)
  refine ⟨Nat.le_trans h.size m.size, ⟨m.os.trans h.below.os, m.tape.trans h.below.tape, m.output.trans h.below.output, Nat.le_trans h.below.size m.size, fun k hk => ?_⟩, key _ _ _ h.ce hp.lbe, key _ _ _ h.ct hp.lbt, key _ _ _ h.cf hp.lbf, key _ _ _ h.cl hp.lbl, fun h0 => key _ _ _ (h.cb h0) hp.lbb,
    fun k hk => key _ _ _ (h.cB k hk) hp.lBB, key _ _ _ h.cd hp.lbd⟩
  have h1 := hp.lbo.2
  have h2 := hp.lM.2.1
  have h3 := hp.lW
  exact (m.block k (by have := h.below.size; omega) (by omega) (by omega) (.inl (by omega))).trans (h.below.block k hk)

/-- The key of a state. -/
def keyLit (l : List LOp) (o : List Nat) : Lit := .string (keyBytes [.int .i64 (bitsOf o : Nat), .int .i64 (lw l (-1) o)])

abbrev Dw := DataW Unit

/-- What is told of a state by what was tried. -/
def tells (D : Dw) (l : List LOp) (o : List Nat) : Dw := D.atKey (keyLit l o) (.lit (.int .i64 0))

/-- Each state that was tried is as it is said. -/
def Says (l : List LOp) (Q : List Nat → Prop) (D : Dw) : Prop := ∀ o, Fine l o → ∀ c : Int, tells D l o = .lit (.int .i64 c) → 0 < c → Q o

theorem lw_range (l : List LOp) (o : List Nat) (h : ∀ i ∈ o, i < 14) : -1 ≤ lw l (-1) o ∧ lw l (-1) o < 14 := by
  induction o using snoc_ind with
  | h0 => simp [lw]
  | h1 o i ih =>
    rw [lw_snoc]
    have hi := h i (by simp)
    have := ih (fun j hj => h j (by simp [hj]))
    split <;> omega

theorem wf_i64 (x : Int) (h1 : -9223372036854775808 ≤ x) (h2 : x ≤ 9223372036854775807) : (Lit.int .i64 x).wf = true := WalkArith.wf_i64 ⟨h1, h2⟩

theorem key_wf {l : List LOp} (hn : l.length ≤ 14) {o : List Nat} (h : Fine l o) : (Lit.int .i64 (bitsOf o : Nat)).wf = true ∧ (Lit.int .i64 (lw l (-1) o)).wf = true := by
  have h1 := bitsOf_small (n := 14) (fun i hi => by have := h.2 i hi; omega) (by omega)
  have h2 := lw_range l o (fun i hi => by have := h.2 i hi; omega)
  exact ⟨wf_i64 _ (by omega) (by omega), wf_i64 _ (by omega) (by omega)⟩

theorem key_of {l : List LOp} (hn : l.length ≤ 14) {o : List Nat} (h : Fine l o) : keyOf Try.prog 50 (.agg #[.int .i64 (bitsOf o : Nat), .int .i64 (lw l (-1) o)]) = some (keyLit l o) :=
  key_state _ _ (key_wf hn h).1 (key_wf hn h).2

/-- Two states of one key have one set, and one last write. -/
theorem key_inj {l : List LOp} (hn : l.length ≤ 14) {o o' : List Nat} (h : Fine l o) (h' : Fine l o') (e : keyLit l o = keyLit l o') : bitsOf o = bitsOf o' ∧ lw l (-1) o = lw l (-1) o' := by
  have := Try.law50.inj (key_of hn h) (e ▸ key_of hn h')
  simp at this
  omega

theorem says_put {l : List LOp} (hn : l.length ≤ 14) {Q Q' : List Nat → Prop} {D : Dw} (h : Says l Q D) {o : List Nat} (ho : Fine l o) (hQ : ∀ o', Fine l o' → Q o' → Q' o') (hsame : ∀ o', Fine l o' → bitsOf o = bitsOf o' → lw l (-1) o = lw l (-1) o' → Q' o') :
    Says l Q' (D.put (keyLit l o) (.lit (.int .i64 1))) := by
  intro o' ho' c hc h0
  by_cases e : keyLit l o' = keyLit l o
  · obtain ⟨h1, h2⟩ := key_inj hn ho' ho e
    exact hsame o' ho' h1.symm h2.symm
  · refine hQ o' ho' (h o' ho' c ?_ h0)
    unfold tells at hc ⊢
    rwa [atKey_put_other e] at hc

end Go.Proofs.Ytbegeijofpgliaa
