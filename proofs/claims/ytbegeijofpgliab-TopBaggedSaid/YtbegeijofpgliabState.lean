/-
  All that the test keeps, in memory, and how calls turn it.
-/
import Derived.Test.YtbegeijofpgliabTags
import Derived.Test.YtbegeijofpgliabVector
import Derived.Test.YtbegeijofpgliabDrop
import Derived.Test.YtbegeijofpgliabNext
import Derived.Test.YtbegeijofpgliabSame
namespace Go.Proofs.Ytbegeijofpgliab
open Go.RowKit Go.Maps

/-- The four blocks that stay. -/
structure Four where
  b : Nat
  t : Nat
  M : Nat
  N : Nat

/-- A block that no call turns. -/
structure Out (F : Four) (A1 A2 : Option Addr) (w : World) (k : Nat) : Prop where
  lt : k < w.heap.size
  b : k ≠ F.b
  t : k ≠ F.t
  M : k ≠ F.M
  N : k ≠ F.N
  A1 : some k ≠ blk A1
  A2 : some k ≠ blk A2

def Turn (F : Four) (A1 A2 : Option Addr) (w : World) (A1' A2' : Option Addr) (w' : World) : Prop :=
  ∀ k, Out F A1 A2 w k → w'.heap[k]? = w.heap[k]? ∧ Out F A1' A2' w' k

structure Inv (w0 : World) (F : Four) (w : World) (A1 : Option Addr) (c1 : Nat) (L1 : List Msg) (s l : Nat) (A2 : Option Addr) (c2 : Nat) (L2 : List Msg) (n : Nat) (T1 : List Tg) (a : Nat) (n2 : Nat) (T2 : List Tg) : Prop where
  bag : Bag w F.b A1 c1 L1 s l
  all : Has w A2 c2 L2
  led : Led w F.t F.M n T1 a
  tags : Tgs w F.N n2 T2
  ne : F.M ≠ F.N
  apart : ∀ k, blk A1 = some k → blk A2 ≠ some k
  below : Below w0.heap.size w0 w
  hb : w0.heap.size ≤ F.b
  ht : w0.heap.size ≤ F.t
  hM : w0.heap.size ≤ F.M
  hN : w0.heap.size ≤ F.N
  h1 : ∀ k, blk A1 = some k → w0.heap.size ≤ k
  h2 : ∀ k, blk A2 = some k → w0.heap.size ≤ k

section
variable {w0 w w' : World} {F : Four} {A1 A2 : Option Addr} {c1 c2 s l n a n2 : Nat} {L1 L2 : List Msg} {T1 T2 : List Tg}

theorem Inv.types (h : Inv w0 F w A1 c1 L1 s l A2 c2 L2 n T1 a n2 T2) :
    (∃ cs, w.heap[F.b]? = some (.cells cs 58 (0, 0))) ∧ (∃ cs, w.heap[F.t]? = some (.cells cs 61 (0, 0))) ∧ (∃ es c, w.heap[F.M]? = some (.map es c)) ∧ (∃ es c, w.heap[F.N]? = some (.map es c)) ∧
    (∀ k, blk A1 = some k → ∃ cs, w.heap[k]? = some (.cells cs 36 (0, 0))) ∧ (∀ k, blk A2 = some k → ∃ cs, w.heap[k]? = some (.cells cs 36 (0, 0))) := by
  refine ⟨?_, ⟨_, h.led.is⟩, ?_, h.tags.map, h.bag.has.is36, h.all.is36⟩
  · obtain ⟨cs, h1, _⟩ := h.bag.is; exact ⟨cs, h1⟩
  · obtain ⟨D, ⟨es, c, h1, _⟩, _⟩ := h.led.has; exact ⟨es, c, h1⟩

/-- A block of cells of another type is out. -/
theorem Inv.out (h : Inv w0 F w A1 c1 L1 s l A2 c2 L2 n T1 a n2 T2) {k : Nat} {cs : Array Value} {t : TypeId} {f : Nat × Nat} (hk : w.heap[k]? = some (.cells cs t f)) (h58 : t ≠ 58) (h61 : t ≠ 61) (h36 : t ≠ 36) : Out F A1 A2 w k := by
  obtain ⟨⟨c1, t1⟩, ⟨c2, t2⟩, ⟨e3, c3, t3⟩, ⟨e4, c4, t4⟩, t5, t6⟩ := h.types
  refine ⟨(Array.getElem?_eq_some_iff.1 hk).1, ?_, ?_, ?_, ?_, ?_, ?_⟩
  · rintro rfl; rw [t1] at hk; simp at hk; exact h58 hk.2.1.symm
  · rintro rfl; rw [t2] at hk; simp at hk; exact h61 hk.2.1.symm
  · rintro rfl; rw [t3] at hk; simp at hk
  · rintro rfl; rw [t4] at hk; simp at hk
  · intro e; obtain ⟨c, t⟩ := t5 k e.symm; rw [t] at hk; simp at hk; exact h36 hk.2.1.symm
  · intro e; obtain ⟨c, t⟩ := t6 k e.symm; rw [t] at hk; simp at hk; exact h36 hk.2.1.symm

theorem Inv.lts (h : Inv w0 F w A1 c1 L1 s l A2 c2 L2 n T1 a n2 T2) : F.b < w.heap.size ∧ F.t < w.heap.size ∧ F.M < w.heap.size ∧ F.N < w.heap.size ∧ (∀ k, blk A1 = some k → k < w.heap.size) ∧ (∀ k, blk A2 = some k → k < w.heap.size) :=
  ⟨h.bag.lt, h.led.lt.1, h.led.lt.2, h.tags.lt, h.bag.has.lt, h.all.lt⟩

/-- A new block is out. -/
theorem Inv.new (h : Inv w0 F w A1 c1 L1 s l A2 c2 L2 n T1 a n2 T2) {k : Nat} (hk : w.heap.size ≤ k) (hl : k < w'.heap.size) : Out F A1 A2 w' k := by
  obtain ⟨a1, a2, a3, a4, a5, a6⟩ := h.lts
  exact ⟨hl, by omega, by omega, by omega, by omega, fun e => by have := a5 k e.symm; omega, fun e => by have := a6 k e.symm; omega⟩

theorem Turn.trans {B1 B2 C1 C2 : Option Addr} {w'' : World} (h : Turn F A1 A2 w B1 B2 w') (h' : Turn F B1 B2 w' C1 C2 w'') : Turn F A1 A2 w C1 C2 w'' := fun k hk =>
  ⟨(h' k (h k hk).2).1.trans (h k hk).1, (h' k (h k hk).2).2⟩

theorem turn_below (hb : Below w.heap.size w w') : Turn F A1 A2 w A1 A2 w' := fun k hk =>
  ⟨hb.block k hk.lt, ⟨Nat.lt_of_lt_of_le hk.lt hb.size, hk.b, hk.t, hk.M, hk.N, hk.A1, hk.A2⟩⟩

theorem Inv.later (h : Inv w0 F w A1 c1 L1 s l A2 c2 L2 n T1 a n2 T2) (hb : Below w.heap.size w w') : Inv w0 F w' A1 c1 L1 s l A2 c2 L2 n T1 a n2 T2 :=
  ⟨h.bag.later hb, h.all.later (fun k hk => hb.block k (h.all.lt k hk)) (Below.same5 hb), h.led.later hb, h.tags.other (hb.block _ h.tags.lt), h.ne, h.apart, h.below.trans (hb.mono h.below.size), h.hb, h.ht, h.hM, h.hN, h.h1, h.h2⟩

theorem Inv.ne4 (h : Inv w0 F w A1 c1 L1 s l A2 c2 L2 n T1 a n2 T2) : F.b ≠ F.t ∧ F.b ≠ F.M ∧ F.b ≠ F.N ∧ F.t ≠ F.M ∧ F.t ≠ F.N ∧ some F.b ≠ blk A1 ∧ some F.b ≠ blk A2 ∧ some F.t ≠ blk A1 ∧ some F.t ≠ blk A2 ∧ some F.M ≠ blk A1 ∧ some F.M ≠ blk A2 ∧ some F.N ≠ blk A1 ∧ some F.N ≠ blk A2 := by
  obtain ⟨⟨c1, t1⟩, ⟨c2, t2⟩, ⟨e3, c3, t3⟩, ⟨e4, c4, t4⟩, t5, t6⟩ := h.types
  refine ⟨?_, ?_, ?_, ?_, ?_, ?_, ?_, ?_, ?_, ?_, ?_, ?_, ?_⟩
  · intro e; rw [e, t2] at t1; simp at t1
  · intro e; rw [e, t3] at t1; simp at t1
  · intro e; rw [e, t4] at t1; simp at t1
  · intro e; rw [e, t3] at t2; simp at t2
  · intro e; rw [e, t4] at t2; simp at t2
  · intro e; obtain ⟨c, t⟩ := t5 _ e.symm; rw [t] at t1; simp at t1
  · intro e; obtain ⟨c, t⟩ := t6 _ e.symm; rw [t] at t1; simp at t1
  · intro e; obtain ⟨c, t⟩ := t5 _ e.symm; rw [t] at t2; simp at t2
  · intro e; obtain ⟨c, t⟩ := t6 _ e.symm; rw [t] at t2; simp at t2
  · intro e; obtain ⟨c, t⟩ := t5 _ e.symm; rw [t] at t3; simp at t3
  · intro e; obtain ⟨c, t⟩ := t6 _ e.symm; rw [t] at t3; simp at t3
  · intro e; obtain ⟨c, t⟩ := t5 _ e.symm; rw [t] at t4; simp at t4
  · intro e; obtain ⟨c, t⟩ := t6 _ e.symm; rw [t] at t4; simp at t4

theorem Inv.bagT (h : Inv w0 F w A1 c1 L1 s l A2 c2 L2 n T1 a n2 T2) {A1' : Option Addr} {c1' s' l' : Nat} {L1' : List Msg} (hbag : Bag w' F.b A1' c1' L1' s' l') (hk : Kept F.b A1 w w') (hf : Fresh A1 A1' w) :
    Inv w0 F w' A1' c1' L1' s' l' A2 c2 L2 n T1 a n2 T2 ∧ Turn F A1 A2 w A1' A2 w' := by
  obtain ⟨p1, p2, p3, p4, p5, p6, p7, p8, p9, p10, p11, p12, p13⟩ := h.ne4
  have hA2 : ∀ k, blk A2 = some k → w'.heap[k]? = w.heap[k]? := fun k hk2 => hk.block k (h.all.lt k hk2) (by rintro rfl; exact p7 hk2.symm) (by intro e; exact h.apart k e.symm hk2)
  refine ⟨⟨hbag, h.all.later hA2 (Kept.same5 h.bag hk), h.led.other fun k hk2 => ?_, h.tags.other (hk.block _ h.tags.lt (Ne.symm p3) p12), h.ne, ?_, ⟨hk.os.trans h.below.os, hk.tape.trans h.below.tape, hk.output.trans h.below.output, Nat.le_trans h.below.size hk.size, fun k e => ?_⟩, h.hb, h.ht, h.hM, h.hN, ?_, h.h2⟩, fun k hk2 => ⟨hk.block k hk2.lt hk2.b hk2.A1, Nat.lt_of_lt_of_le hk2.lt hk.size, hk2.b, hk2.t, hk2.M, hk2.N, ?_, hk2.A2⟩⟩
  · rcases hk2 with rfl | rfl
    · exact hk.block _ h.led.lt.1 (Ne.symm p1) p8
    · exact hk.block _ h.led.lt.2 (Ne.symm p2) p10
  · intro k e1 e2
    rcases hf with e | e
    · rw [e] at e1; exact h.apart k e1 e2
    · have := e k e1; have := h.all.lt k e2; omega
  · rw [hk.block k (Nat.lt_of_lt_of_le e h.below.size) (by have := h.hb; omega) (by intro e2; have := h.h1 k e2.symm; omega)]
    exact h.below.block k e
  · intro k e1
    rcases hf with e | e
    · rw [e] at e1; exact h.h1 k e1
    · have := e k e1; have := h.below.size; omega
  · intro e1
    rcases hf with e | e
    · rw [e] at e1; exact hk2.A1 e1
    · have := e k e1.symm; have := hk2.lt; omega

theorem Inv.ledT (h : Inv w0 F w A1 c1 L1 s l A2 c2 L2 n T1 a n2 T2) {n' a' : Nat} {T1' : List Tg} (hl : Led w' F.t F.M n' T1' a') (hk : KeptL F.t F.M w w') :
    Inv w0 F w' A1 c1 L1 s l A2 c2 L2 n' T1' a' n2 T2 ∧ Turn F A1 A2 w A1 A2 w' := by
  obtain ⟨p1, p2, p3, p4, p5, p6, p7, p8, p9, p10, p11, p12, p13⟩ := h.ne4
  have h5 : Same5 w w' := by
    intro i cs hi
    have := h.out hi (by decide) (by decide) (by decide)
    rw [hk.block i this.lt this.t this.M]; exact hi
  refine ⟨⟨h.bag.other (fun k e1 e2 => ?_) h5, h.all.later (fun k e => hk.block k (h.all.lt k e) (by rintro rfl; exact p9 e.symm) (by rintro rfl; exact p11 e.symm)) h5, hl, h.tags.other (hk.block _ h.tags.lt (Ne.symm p5) (Ne.symm h.ne)), h.ne, h.apart,
    ⟨hk.os.trans h.below.os, hk.tape.trans h.below.tape, hk.output.trans h.below.output, Nat.le_trans h.below.size hk.size, fun k e => ?_⟩, h.hb, h.ht, h.hM, h.hN, h.h1, h.h2⟩, fun k hk2 => ⟨hk.block k hk2.lt hk2.t hk2.M, Nat.lt_of_lt_of_le hk2.lt hk.size, hk2.b, hk2.t, hk2.M, hk2.N, hk2.A1, hk2.A2⟩⟩
  · rcases e2 with rfl | e2
    · exact hk.block _ e1 p1 p2
    · exact hk.block _ e1 (by rintro rfl; exact p8 e2) (by rintro rfl; exact p10 e2)
  · rw [hk.block k (Nat.lt_of_lt_of_le e h.below.size) (by have := h.ht; omega) (by have := h.hM; omega)]
    exact h.below.block k e

theorem Inv.allT (h : Inv w0 F w A1 c1 L1 s l A2 c2 L2 n T1 a n2 T2) {A2' : Option Addr} {c2' : Nat} {L2' : List Msg} (hh : Has w' A2' c2' L2') (hg : w.grownBy w' (blk A2)) (hf : blk A2' = blk A2 ∨ ∀ k, blk A2' = some k → w.heap.size ≤ k) :
    Inv w0 F w' A1 c1 L1 s l A2' c2' L2' n T1 a n2 T2 ∧ Turn F A1 A2 w A1 A2' w' := by
  obtain ⟨p1, p2, p3, p4, p5, p6, p7, p8, p9, p10, p11, p12, p13⟩ := h.ne4
  have h5 : Same5 w w' := by
    intro i cs hi
    have := h.out hi (by decide) (by decide) (by decide)
    rw [hg.block i this.lt this.A2]; exact hi
  refine ⟨⟨h.bag.other (fun k e1 e2 => ?_) h5, hh, h.led.other fun k hk2 => ?_, h.tags.other (hg.block _ h.tags.lt p13), h.ne, ?_,
    ⟨hg.os.trans h.below.os, hg.tape.trans h.below.tape, hg.output.trans h.below.output, Nat.le_trans h.below.size hg.size, fun k e => ?_⟩, h.hb, h.ht, h.hM, h.hN, h.h1, ?_⟩, fun k hk2 => ⟨hg.block k hk2.lt hk2.A2, Nat.lt_of_lt_of_le hk2.lt hg.size, hk2.b, hk2.t, hk2.M, hk2.N, hk2.A1, ?_⟩⟩
  · rcases e2 with rfl | e2
    · exact hg.block _ e1 p7
    · exact hg.block _ e1 (fun e => h.apart k e2.symm e.symm)
  · rcases hk2 with rfl | rfl
    · exact hg.block _ h.led.lt.1 p9
    · exact hg.block _ h.led.lt.2 p11
  · intro k e1 e2
    rcases hf with e | e
    · rw [e] at e2; exact h.apart k e1 e2
    · have := e k e2; have := h.bag.has.lt k e1; omega
  · rw [hg.block k (Nat.lt_of_lt_of_le e h.below.size) (by intro e2; have := h.h2 k e2.symm; omega)]
    exact h.below.block k e
  · intro k e1
    rcases hf with e | e
    · rw [e] at e1; exact h.h2 k e1
    · have := e k e1; have := h.below.size; omega
  · intro e1
    rcases hf with e | e
    · rw [e] at e1; exact hk2.A2 e1
    · have := e k e1.symm; have := hk2.lt; omega

theorem Inv.tagT (h : Inv w0 F w A1 c1 L1 s l A2 c2 L2 n T1 a n2 T2) {n2' : Nat} {T2' : List Tg} (ht : Tgs w' F.N n2' T2') (hg : w.grownBy w' (some F.N)) :
    Inv w0 F w' A1 c1 L1 s l A2 c2 L2 n T1 a n2' T2' ∧ Turn F A1 A2 w A1 A2 w' := by
  obtain ⟨p1, p2, p3, p4, p5, p6, p7, p8, p9, p10, p11, p12, p13⟩ := h.ne4
  have h5 : Same5 w w' := by
    intro i cs hi
    have := h.out hi (by decide) (by decide) (by decide)
    rw [hg.block i this.lt (by simpa using this.N)]; exact hi
  refine ⟨⟨h.bag.other (fun k e1 e2 => ?_) h5, h.all.later (fun k e => hg.block k (h.all.lt k e) (by intro e2; exact p13 (e2 ▸ e.symm))) h5, h.led.other fun k hk2 => ?_, ht, h.ne, h.apart,
    ⟨hg.os.trans h.below.os, hg.tape.trans h.below.tape, hg.output.trans h.below.output, Nat.le_trans h.below.size hg.size, fun k e => ?_⟩, h.hb, h.ht, h.hM, h.hN, h.h1, h.h2⟩, fun k hk2 => ⟨hg.block k hk2.lt (by simpa using hk2.N), Nat.lt_of_lt_of_le hk2.lt hg.size, hk2.b, hk2.t, hk2.M, hk2.N, hk2.A1, hk2.A2⟩⟩
  · rcases e2 with rfl | e2
    · exact hg.block _ e1 (by simpa using p3)
    · exact hg.block _ e1 (by intro e3; exact p12 (e3 ▸ e2))
  · rcases hk2 with rfl | rfl
    · exact hg.block _ h.led.lt.1 (by simpa using p5)
    · exact hg.block _ h.led.lt.2 (by simpa using h.ne)
  · rw [hg.block k (Nat.lt_of_lt_of_le e h.below.size) (by have := h.hN; simp; omega)]
    exact h.below.block k e
end

/-- What a round has of its own: the doing, the note, its bytes, the digest. -/
structure Loc (F : Four) (A1 A2 : Option Addr) (w : World) (bx be bg bd : Nat) (x : Note5) (k : Nat) : Prop where
  cx : w.heap[bx]? = some (.cells #[.int .u8 x.kind.toNat, .int .u8 x.frm.toNat, .int .u8 x.to.toNat, .int .u8 x.i.toNat, .int .u8 x.byte.toNat] 24 (0, 0))
  ce : w.heap[be]? = some (.cells #[.int .i64 (x.f : Int), .int .i64 (x.t : Int), .slice (some ⟨bg, 0, none⟩) 2 2] 36 (0, 0))
  cg : Byt w bg (x.msg k)
  cd : DigAt w bd x.d
  ox : Out F A1 A2 w bx
  oe : Out F A1 A2 w be
  og : Out F A1 A2 w bg
  od : Out F A1 A2 w bd

theorem Loc.turn {F : Four} {A1 A2 A1' A2' : Option Addr} {w w' : World} {bx be bg bd : Nat} {x : Note5} {k : Nat} (h : Loc F A1 A2 w bx be bg bd x k) (ht : Turn F A1 A2 w A1' A2' w') : Loc F A1' A2' w' bx be bg bd x k :=
  ⟨(ht _ h.ox).1.trans h.cx, (ht _ h.oe).1.trans h.ce, h.cg.later (ht _ h.og).1, (ht _ h.od).1.trans h.cd, (ht _ h.ox).2, (ht _ h.oe).2, (ht _ h.og).2, (ht _ h.od).2⟩

end Go.Proofs.Ytbegeijofpgliab
