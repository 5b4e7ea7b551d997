/-
  Rows of which a part may be cut off behind; notes in memory; a bag.
-/
import Derived.Test.YtbegeijofpgliabRows
import Derived.Test.YtbegeijofpgliabPlain
import Derived.WalkKit
import Derived.WalkSpells
import Derived.WalkLawsBesides
import Derived.Lib.Hide
import Derived.Deep.QuietTactic
import Derived.Deep.AppendLies
import Derived.ArgAppend
import Derived.BigQuiet
namespace Go.Proofs.Ytbegeijofpgliab
open Go.RowKit

/-- A row in memory whose block may be longer than its capacity. -/
def Row (w : World) (e : TypeId) (size : Nat) (A : Option Addr) (n cap : Nat) (xs : List Value) : Prop :=
  xs.length = n * size ∧ ((A = none ∧ n = 0 ∧ cap = 0) ∨
    ∃ g cur, A = some ⟨g, 0, none⟩ ∧ w.heap[g]? = some (.cells cur e (0, 0)) ∧ n ≤ cap ∧ cap ≤ maxLen ∧ cap * size ≤ cur.size ∧ cur.toList.take (n * size) = xs)

def blk : Option Addr → Option Nat
  | some a => some a.block
  | none => none

theorem own_blk (A : Option Addr) (n c : Nat) : (Value.slice A n c).ownBlock = blk A := by cases A <;> rfl

theorem Row.nil (w : World) (e : TypeId) (size : Nat) : Row w e size none 0 0 [] := ⟨by simp, .inl ⟨rfl, rfl, rfl⟩⟩

theorem Row.of_own {w : World} {b : Nat} {e : TypeId} {size : Nat} {v : Value} {n : Nat} {xs : List Value} (h : w.ownsRow b e size v n xs) :
    ∃ A cap, v = .slice A n cap ∧ Row w e size A n cap xs ∧ (∀ k, blk A = some k → b ≤ k) := by
  obtain ⟨h1, ⟨rfl, rfl⟩ | ⟨g, cap, cur, rfl, h2, h3, h4, h5, h6, h7⟩⟩ := h
  · exact ⟨none, 0, rfl, ⟨h1, .inl ⟨rfl, rfl, rfl⟩⟩, fun k hk => by cases hk⟩
  · exact ⟨_, cap, rfl, ⟨h1, .inr ⟨g, cur, rfl, h3, h4, h5, by omega, h7⟩⟩, fun k hk => by cases hk; exact h2⟩

theorem Row.lt {w : World} {e : TypeId} {size : Nat} {A : Option Addr} {n cap : Nat} {xs : List Value} (h : Row w e size A n cap xs) : ∀ k, blk A = some k → k < w.heap.size := by
  obtain ⟨_, ⟨rfl, _⟩ | ⟨g, cur, rfl, h3, _⟩⟩ := h
  · intro k hk; cases hk
  · intro k hk; cases hk
    exact (Array.getElem?_eq_some_iff.1 h3).1

theorem Row.later {w w' : World} {e : TypeId} {size : Nat} {A : Option Addr} {n cap : Nat} {xs : List Value} (h : Row w e size A n cap xs) (hb : ∀ k, blk A = some k → w'.heap[k]? = w.heap[k]?) : Row w' e size A n cap xs := by
  obtain ⟨h1, h2⟩ := h
  refine ⟨h1, ?_⟩
  rcases h2 with h2 | ⟨g, cur, rfl, h3, h4⟩
  · exact .inl h2
  · exact .inr ⟨g, cur, rfl, by rw [hb g rfl]; exact h3, h4⟩

theorem Row.cell {w : World} {e : TypeId} {size : Nat} {A : Option Addr} {n cap : Nat} {xs : List Value} (h : Row w e size A n cap xs) {g : Nat} (hA : A = some ⟨g, 0, none⟩) : ∀ j u, xs[j]? = some u → w.cell? ⟨g, j, none⟩ = some u := by
  obtain ⟨h1, ⟨rfl, _⟩ | ⟨g', cur, rfl, h3, h4, h5, h6, h7⟩⟩ := h
  · cases hA
  · cases hA
    intro j u hu
    rw [cell_of_row w _ j cur e (0, 0) h3]
    rw [← h7, List.getElem?_take] at hu
    split at hu
    · simpa using hu
    · cases hu

theorem Row.some {w : World} {e : TypeId} {size : Nat} {A : Option Addr} {n cap : Nat} {xs : List Value} (h : Row w e size A n cap xs) (h0 : 0 < n) : ∃ g, A = .some ⟨g, 0, none⟩ := by
  obtain ⟨_, ⟨_, h2, _⟩ | ⟨g, _, h2, _⟩⟩ := h
  · omega
  · exact ⟨g, h2⟩

/-- What begins a row, its capacity cut as one likes. -/
theorem Row.cut {w : World} {e : TypeId} {size : Nat} {A : Option Addr} {n cap : Nat} {xs : List Value} (h : Row w e size A n cap xs) {g : Nat} (hA : A = .some ⟨g, 0, none⟩) (i c : Nat) (h1 : i ≤ c) (h2 : c ≤ cap) (h3 : i ≤ n) : Row w e size A i c (xs.take (i * size)) := by
  obtain ⟨h4, ⟨rfl, _⟩ | ⟨g', cur, h5, h6, h7, h8, h9, h10⟩⟩ := h
  · cases hA
  · have hm : i * size ≤ n * size := Nat.mul_le_mul_right _ h3
    have hc : c * size ≤ cap * size := Nat.mul_le_mul_right _ h2
    refine ⟨by rw [List.length_take]; omega, .inr ⟨g', cur, h5, h6, h1, by omega, by omega, ?_⟩⟩
    rw [← h10, List.take_take]
    congr 1
    omega

section
variable {P : Program} (w : World)
theorem run_append_row (t ty e : TypeId) (i : TypeInfo) (z : Value) (size bytes : Nat) (ht : P.underlying t = some (.slice e)) (hi : P.info? e = some i) (hz : i.zero = some z)
    (hsize : i.size = size) (hby : i.bytes = bytes) (hzs : z.cells.size = size) (hsz : 0 < size)
    (A : Option Addr) (n cap : Nat) (xs : List Value) (hown : Row w e size A n cap xs)
    (a : Addr) (m c : Nat) (news : List Value) (hl : news.length = m * size) (hnews : ∀ j u, news[j]? = some u → w.cell? (a.add j) = some u) (h1 : ∀ u ∈ news, u.oneCell' = true)
    (h63 : n + m ≤ maxLen) (hbytes : (n + m) * bytes ≤ 140737488355328) :
    ∃ A' cap' w', (Builtin.append_ #[t, t] ty #[.slice A n cap, .slice (some a) m c]).run P w = .ok (.slice A' (n + m) cap') w' ∧ Row w' e size A' (n + m) cap' (xs ++ news) ∧ w.grownBy w' (blk A) ∧
      (blk A' = blk A ∨ ∀ k, blk A' = some k → w.heap.size ≤ k) := by
  subst hsize
  obtain ⟨hlen, ⟨rfl, rfl, rfl⟩ | ⟨g, cur, rfl, h3, h4, h5, h6, h7⟩⟩ := hown
  · have hx : xs = [] := List.eq_nil_of_length_eq_zero (by omega)
    subst hx
    obtain ⟨v', w', hr, ho, hg, _⟩ := run_append_own (P := P) w w.heap.size t ty e i z i.size bytes ht hi hz rfl hby hzs hsz _ 0 [] (World.ownsRow_nil _ _ _ _) a m c news hl hnews h1 h63 hbytes (Nat.le_refl _)
    obtain ⟨A', cap', rfl, hR, hk⟩ := Row.of_own ho
    exact ⟨A', cap', w', hr, hR, hg, .inr hk⟩
  · by_cases hroom : n + m ≤ cap
    · have hmm : (n + m) * i.size ≤ cap * i.size := Nat.mul_le_mul_right _ hroom
      rw [Nat.add_mul] at hmm
      have hr := run_append_room (P := P) w t ty e i ht hi g n cap cur h3 a m c news hl hnews h1 hroom (by omega)
      refine ⟨_, _, _, hr, ⟨?_, .inr ⟨g, _, rfl, setRow_heap w g cur _ e _ h3, hroom, h5, ?_, ?_⟩⟩, ?_, .inl rfl⟩
      · rw [List.length_append, hlen, hl, Nat.add_mul]
      · simp; omega
      · rw [h7, Nat.add_mul]
        simp only [List.append_assoc]
        rw [← List.append_assoc, List.take_left' (by rw [List.length_append]; omega)]
      · exact ⟨rfl, rfl, rfl, by simp, fun k _ hk2 => setRow_other w g k _ (by intro e; subst e; exact hk2 rfl)⟩
    · obtain ⟨v', w', hr, ho, hg⟩ := run_append_arg_grows (P := P) w t ty e i z i.size bytes ht hi hz rfl hby hzs hsz ⟨g, 0, none⟩ n cap xs hlen
        (fun j u hu => by rw [Addr.add_lit, Nat.zero_add]; exact Row.cell (w := w) (e := e) (size := i.size) (n := n) (cap := cap) ⟨hlen, .inr ⟨g, cur, rfl, h3, h4, h5, h6, h7⟩⟩ rfl j u hu) a m c news hl hnews (by omega) h63 hbytes
      obtain ⟨A', cap', rfl, hR, hk⟩ := Row.of_own ho
      exact ⟨A', cap', w', hr, hR, ⟨hg.os, hg.tape, hg.output, hg.size, fun k h1 _ => hg.block k h1 (by simp)⟩, .inr hk⟩
theorem wp_append_row {o : Oper} {a : Act} {K : Act → World → Prop} {Q : Exit → Act → World → Prop} (s x : Operand) (t : TypeId)
    (ho : o.op = .call { callee := .builtin .append, args := #[s, x], argTypes := #[t, t] })
    (e : TypeId) (i : TypeInfo) (z : Value) (size bytes : Nat) (ht : P.underlying t = some (.slice e)) (hi : P.info? e = some i) (hz : i.zero = some z)
    (hsize : i.size = size) (hby : i.bytes = bytes) (hzs : z.cells.size = size) (hsz : 0 < size)
    (A : Option Addr) (n cap : Nat) (xs : List Value) (hs : a.eval s = .slice A n cap) (hown : Row w e size A n cap xs)
    (ad : Addr) (m c : Nat) (news : List Value) (hx : a.eval x = .slice (some ad) m c) (hl : news.length = m * size) (hnews : ∀ j u, news[j]? = some u → w.cell? (ad.add j) = some u) (h1 : ∀ u ∈ news, u.oneCell' = true)
    (h63 : n + m ≤ maxLen) (hbytes : (n + m) * bytes ≤ 140737488355328)
    (h : ∀ A' cap' w', Row w' e size A' (n + m) cap' (xs ++ news) → w.grownBy w' (blk A) → (blk A' = blk A ∨ ∀ k, blk A' = some k → w.heap.size ≤ k) → K (a.put o.dst (.slice A' (n + m) cap')) w') : o.wp P a w K Q := by
  obtain ⟨A', cap', w', hr, h2, h3, h4⟩ := run_append_row (P := P) w t o.type e i z size bytes ht hi hz hsize hby hzs hsz A n cap xs hown ad m c news hl hnews h1 h63 hbytes
  unfold Oper.wp execOp
  simp only [ho, resolve, invoke, builtin, Sem.run_bind, Sem.run_pure, Result.andThen_ok, List.map_toArray, List.map_cons, List.map_nil, hs, hx, hr]
  exact h A' cap' w' h2 h3 h4

theorem wpList_append_row {ops : Array Oper} {rest : List Oper} {o : Oper} {a : Act} {Q : Exit → Act → World → Prop} (hgd : o.guard = none) (s x : Operand) (t : TypeId)
    (ho : o.op = .call { callee := .builtin .append, args := #[s, x], argTypes := #[t, t] })
    (e : TypeId) (i : TypeInfo) (z : Value) (size bytes : Nat) (ht : P.underlying t = some (.slice e)) (hi : P.info? e = some i) (hz : i.zero = some z)
    (hsize : i.size = size) (hby : i.bytes = bytes) (hzs : z.cells.size = size) (hsz : 0 < size)
    (A : Option Addr) (n cap : Nat) (xs : List Value) (hs : a.eval s = .slice A n cap) (hown : Row w e size A n cap xs)
    (ad : Addr) (m c : Nat) (news : List Value) (hx : a.eval x = .slice (some ad) m c) (hl : news.length = m * size) (hnews : ∀ j u, news[j]? = some u → w.cell? (ad.add j) = some u) (h1 : ∀ u ∈ news, u.oneCell' = true)
    (h63 : n + m ≤ maxLen) (hbytes : (n + m) * bytes ≤ 140737488355328)
    (h : ∀ A' cap' w', Row w' e size A' (n + m) cap' (xs ++ news) → w.grownBy w' (blk A) → (blk A' = blk A ∨ ∀ k, blk A' = some k → w.heap.size ≤ k) → wpList P ops Q rest (a.put o.dst (.slice A' (n + m) cap')) w') : wpList P ops Q (o :: rest) a w :=
  wpList_plain hgd fun _ hK => wp_append_row w s x t ho e i z size bytes ht hi hz hsize hby hzs hsz A n cap xs hs hown ad m c news hx hl hnews h1 h63 hbytes fun A' cap' w' h2 h3 h4 => hK _ _ (h A' cap' w' h2 h3 h4)

theorem step_append_row {ops : Array Oper} {o : Oper} {a : Act} {K : Act → World → Prop} {Q : Exit → Act → World → Prop} {E : Prop} (hgd : o.guard = none) (s x : Operand) (t : TypeId)
    (ho : o.op = .call { callee := .builtin .append, args := #[s, x], argTypes := #[t, t] })
    (e : TypeId) (i : TypeInfo) (z : Value) (size bytes : Nat) (ht : P.underlying t = some (.slice e)) (hi : P.info? e = some i) (hz : i.zero = some z)
    (hsize : i.size = size) (hby : i.bytes = bytes) (hzs : z.cells.size = size) (hsz : 0 < size)
    (A : Option Addr) (n cap : Nat) (xs : List Value) (hs : a.eval s = .slice A n cap) (hown : Row w e size A n cap xs)
    (ad : Addr) (m c : Nat) (news : List Value) (hx : a.eval x = .slice (some ad) m c) (hl : news.length = m * size) (hnews : ∀ j u, news[j]? = some u → w.cell? (ad.add j) = some u) (h1 : ∀ u ∈ news, u.oneCell' = true)
    (h63 : n + m ≤ maxLen) (hbytes : (n + m) * bytes ≤ 140737488355328)
    (h : ∀ A' cap' w', Row w' e size A' (n + m) cap' (xs ++ news) → w.grownBy w' (blk A) → (blk A' = blk A ∨ ∀ k, blk A' = some k → w.heap.size ≤ k) → K (a.put o.dst (.slice A' (n + m) cap')) w') :
    if Region.wanted o (yielded ops a.tmps) = true then Oper.wp P o a w K Q else E := by
  have hw : Region.wanted o (yielded ops a.tmps) = true := by simp [Region.wanted, hgd]
  rw [if_pos hw]
  exact wp_append_row w s x t ho e i z size bytes ht hi hz hsize hby hzs hsz A n cap xs hs hown ad m c news hx hl hnews h1 h63 hbytes h
end

theorem Try.info36 : (Try.prog.info? 36).map (fun i => (i.zero, i.size, i.bytes)) = some (some (.agg #[.int .i64 0, .int .i64 0, .slice none 0 0]), 3, 40) := by kernel_rfl
theorem Try.info5 : (Try.prog.info? 5).map (fun i => (i.zero, i.size, i.bytes)) = some (some (.int .u8 0), 1, 1) := by kernel_rfl
theorem Try.size58 : (Try.prog.info? 58).map (fun i => i.size) = some 4 := by kernel_rfl
theorem Try.size61 : (Try.prog.info? 61).map (fun i => i.size) = some 2 := by kernel_rfl
theorem Try.size67 : (Try.prog.info? 67).map (fun i => i.size) = some 34 := by kernel_rfl
theorem Try.size40 : (Try.prog.info? 40).map (fun i => i.size) = some 32 := by kernel_rfl

/-- The two bytes of a note. -/
def Byt (w : World) (g : Nat) (m : Msg) : Prop := ∃ cs, w.heap[g]? = some (.cells cs 5 (0, 0)) ∧ cs[0]? = some (.int .u8 m.b.toNat) ∧ cs[1]? = some (.int .u8 m.k)

/-- Notes as cells. -/
def Msgs (w : World) (xs : List Value) (L : List Msg) : Prop := xs.length = L.length * 3 ∧ ∀ (k : Nat) (m : Msg), L[k]? = some m → ∃ g c, xs[k * 3]? = some (.int .i64 (m.frm : Int)) ∧ xs[k * 3 + 1]? = some (.int .i64 (m.to : Int)) ∧ xs[k * 3 + 2]? = some (.slice (some ⟨g, 0, none⟩) 2 c) ∧ Byt w g m

theorem Byt.later {w w' : World} {g : Nat} {m : Msg} (h : Byt w g m) (hb : w'.heap[g]? = w.heap[g]?) : Byt w' g m := by
  obtain ⟨cs, h1, h2⟩ := h
  exact ⟨cs, hb ▸ h1, h2⟩

/-- Blocks of bytes stay as they are. -/
def Same5 (w w' : World) : Prop := ∀ (g : Nat) (cs : Array Value), w.heap[g]? = some (Obj.cells cs 5 (0, 0)) → w'.heap[g]? = some (Obj.cells cs 5 (0, 0))

theorem Byt.same {w w' : World} {g : Nat} {m : Msg} (h : Byt w g m) (hb : Same5 w w') : Byt w' g m := by
  obtain ⟨cs, h1, h2⟩ := h
  exact ⟨cs, hb _ _ h1, h2⟩

theorem Msgs.same {w w' : World} {xs : List Value} {L : List Msg} (h : Msgs w xs L) (hb : Same5 w w') : Msgs w' xs L := by
  refine ⟨h.1, fun k m hk => ?_⟩
  obtain ⟨g, c, h1, h2, h3, h4⟩ := h.2 k m hk
  exact ⟨g, c, h1, h2, h3, h4.same hb⟩

theorem Byt.cells {w : World} {g : Nat} {m : Msg} (h : Byt w g m) : w.cell? ⟨g, 0, none⟩ = some (.int .u8 m.b.toNat) ∧ w.cell? ⟨g, 1, none⟩ = some (.int .u8 m.k) := by
  obtain ⟨cs, h1, h2, h3⟩ := h
  exact ⟨by rw [cell_of_row w g 0 cs 5 (0, 0) h1]; exact h2, by rw [cell_of_row w g 1 cs 5 (0, 0) h1]; exact h3⟩

theorem Byt.set {w : World} {g : Nat} {m : Msg} (h : Byt w g m) {a : Addr} (hne : g ≠ a.block) (v : Value) : Byt (w.setCell a v) g m :=
  h.later (heap_setCell_other w a g v hne)

theorem Byt.ne {w : World} {g k : Nat} {m : Msg} (h : Byt w g m) {cs : Array Value} (hk : w.heap[k]? = some (Obj.cells cs 36 (0, 0))) : g ≠ k := by
  rintro rfl
  obtain ⟨c, h1, _⟩ := h
  rw [h1] at hk
  simp at hk

/-- A row of notes. -/
def Has (w : World) (A : Option Addr) (cap : Nat) (L : List Msg) : Prop := ∃ xs, Row w 36 3 A L.length cap xs ∧ Msgs w xs L

theorem Has.later {w w' : World} {A : Option Addr} {cap : Nat} {L : List Msg} (h : Has w A cap L) (hb : ∀ k, blk A = some k → w'.heap[k]? = w.heap[k]?) (h5 : Same5 w w') : Has w' A cap L := by
  obtain ⟨xs, h1, h2⟩ := h
  exact ⟨xs, h1.later hb, h2.same h5⟩

/-- A bag in memory. -/
structure Bag (w : World) (g : Nat) (A : Option Addr) (cap : Nat) (L : List Msg) (s l : Nat) : Prop where
  is : ∃ cs, w.heap[g]? = some (.cells cs 58 (0, 0)) ∧ cs = #[.bool true, .slice A L.length cap, .int .i64 s, .int .i64 l]
  has : Has w A cap L

/-- Worlds behind a call that turns a bag alone. -/
structure Kept (g : Nat) (A : Option Addr) (w w' : World) : Prop where
  os : w'.os = w.os
  tape : w'.tape = w.tape
  output : w'.output = w.output
  size : w.heap.size ≤ w'.heap.size
  block : ∀ k, k < w.heap.size → k ≠ g → some k ≠ blk A → w'.heap[k]? = w.heap[k]?

theorem Kept.of_below {g : Nat} {A : Option Addr} {w w' : World} (h : Below w.heap.size w w') : Kept g A w w' := ⟨h.os, h.tape, h.output, h.size, fun k hk _ _ => h.block k hk⟩

theorem Bag.cells {w : World} {g : Nat} {A : Option Addr} {cap : Nat} {L : List Msg} {s l : Nat} (h : Bag w g A cap L s l) :
    w.cell? ⟨g, 0, none⟩ = some (.bool true) ∧ w.cell? ⟨g, 1, none⟩ = some (.slice A L.length cap) ∧ w.cell? ⟨g, 2, none⟩ = some (.int .i64 s) ∧ w.cell? ⟨g, 3, none⟩ = some (.int .i64 l) ∧
    (∀ j, w.frozen? ⟨g, j, none⟩ = false) := by
  obtain ⟨cs, h1, rfl⟩ := h.is
  refine ⟨?_, ?_, ?_, ?_, fun j => frozen_of_row w g j _ 58 h1⟩ <;> rw [cell_of_row w g _ _ 58 (0, 0) h1] <;> rfl

theorem Bag.lt {w : World} {g : Nat} {A : Option Addr} {cap : Nat} {L : List Msg} {s l : Nat} (h : Bag w g A cap L s l) : g < w.heap.size := by
  obtain ⟨cs, h1, _⟩ := h.is
  exact (Array.getElem?_eq_some_iff.1 h1).1

theorem Has.lt {w : World} {A : Option Addr} {cap : Nat} {L : List Msg} (h : Has w A cap L) : ∀ k, blk A = some k → k < w.heap.size := by
  obtain ⟨xs, h1, _⟩ := h
  exact h1.lt

theorem Has.is36 {w : World} {A : Option Addr} {cap : Nat} {L : List Msg} (h : Has w A cap L) : ∀ k, blk A = some k → ∃ cs, w.heap[k]? = some (.cells cs 36 (0, 0)) := by
  obtain ⟨xs, ⟨_, ⟨rfl, _⟩ | ⟨g, cur, rfl, h3, _⟩⟩, _⟩ := h
  · intro k hk; cases hk
  · intro k hk; cases hk
    exact ⟨_, h3⟩

theorem Kept.same5 {w w' : World} {g : Nat} {A : Option Addr} {cap : Nat} {L : List Msg} {s l : Nat} (h : Bag w g A cap L s l) (k : Kept g A w w') : Same5 w w' := by
  intro i cs hi
  obtain ⟨c, h1, _⟩ := h.is
  rw [k.block i (Array.getElem?_eq_some_iff.1 hi).1]
  · exact hi
  · rintro rfl
    rw [h1] at hi
    simp at hi
  · intro e
    obtain ⟨c', h2⟩ := h.has.is36 i e.symm
    rw [h2] at hi
    simp at hi

theorem Below.same5 {w w' : World} (h : Below w.heap.size w w') : Same5 w w' := fun i cs hi => by
  rw [h.block i (Array.getElem?_eq_some_iff.1 hi).1]; exact hi

theorem Bag.later {w w' : World} {g : Nat} {A : Option Addr} {cap : Nat} {L : List Msg} {s l : Nat} (h : Bag w g A cap L s l) (hb : Below w.heap.size w w') : Bag w' g A cap L s l := by
  obtain ⟨cs, h1, h2⟩ := h.is
  exact ⟨⟨cs, by rw [hb.block g h.lt]; exact h1, h2⟩, h.has.later (fun k hk => hb.block k (h.has.lt k hk)) (Below.same5 hb)⟩

theorem Bag.other {w w' : World} {g : Nat} {A : Option Addr} {cap : Nat} {L : List Msg} {s l : Nat} (h : Bag w g A cap L s l) (hb : ∀ k, k < w.heap.size → k = g ∨ some k = blk A → w'.heap[k]? = w.heap[k]?) (h5 : Same5 w w') : Bag w' g A cap L s l := by
  obtain ⟨cs, h1, h2⟩ := h.is
  exact ⟨⟨cs, by rw [hb g h.lt (.inl rfl)]; exact h1, h2⟩, h.has.later (fun k hk => hb k (h.has.lt k hk) (.inr hk.symm)) h5⟩

end Go.Proofs.Ytbegeijofpgliab
