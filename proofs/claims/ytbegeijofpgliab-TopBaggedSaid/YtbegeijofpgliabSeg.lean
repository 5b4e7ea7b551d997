/-
  Parts of a program's text, and frames of which some slots are known.
-/
import Derived.WalkKit
namespace Go.Proofs.Ytbegeijofpgliab
open Go.RowKit

/-- A part of a text: 0 what comes first, 1 what follows, 2 and 3 the branches, 4 what is inside. -/
noncomputable def part : List Nat → Code → Code
  | [], c => c
  | s :: p, .seq a b => part p (if s = 0 then a else b)
  | s :: p, .cond _ a b => part p (if s = 2 then a else b)
  | _ :: p, .block _ b => part p b
  | _ :: p, .loop b => part p b
  | _ :: p, .scope b => part p b
  | _, c => c

/-- A frame of n slots, of which some are known. -/
structure Fr (n : Nat) (a : Act) (f : List (Nat × Value)) : Prop where
  d : a.defers = []
  s : a.tmps.size = n
  at' : ∀ p ∈ f, a.tmps[p.1]? = some p.2

/-- The frame, written out: t where nothing is known. -/
def lay (n : Nat) (t : Nat → Value) (f : List (Nat × Value)) : List Value := (List.range n).map fun i => (f.lookup i).getD (t i)

theorem lookup_mem {α : Type} {f : List (Nat × α)} {i : Nat} {v : α} (h : f.lookup i = some v) : (i, v) ∈ f := by
  induction f with
  | nil => cases h
  | cons p r ih =>
    obtain ⟨j, u⟩ := p
    rw [List.lookup_cons] at h
    by_cases e : i = j
    · subst e; simp at h; subst h; simp
    · rw [show (i == j) = false from by simpa using e] at h
      exact List.mem_cons_of_mem _ (ih h)

theorem Fr.lit {n : Nat} {a : Act} {f : List (Nat × Value)} (h : Fr n a f) : ∃ t : Nat → Value, a = ⟨(lay n t f).toArray, []⟩ := by
  obtain ⟨tm, df⟩ := a
  obtain ⟨h1, h2, h3⟩ := h
  simp only at h1 h2 h3
  subst h1
  refine ⟨fun i => (tm[i]?).getD undef, ?_⟩
  have e : tm = (lay n (fun i => (tm[i]?).getD undef) f).toArray := by
    apply Array.ext_getElem?
    intro i
    conv => rhs; rw [List.getElem?_toArray]; unfold lay; rw [List.getElem?_map]
    by_cases hi : i < n
    · rw [List.getElem?_range hi]
      simp only [Option.map_some]
      cases hl : f.lookup i with
      | none =>
        simp only [Option.getD_none]
        rw [Array.getElem?_eq_getElem (by omega)]
        rfl
      | some v =>
        simp only [Option.getD_some]
        exact h3 _ (lookup_mem hl)
    · rw [Array.getElem?_eq_none (by omega), List.getElem?_eq_none (by simp; omega)]
      rfl
  rw [← e]

theorem Fr.sub {n : Nat} {a : Act} {f g : List (Nat × Value)} (h : Fr n a f) (hg : ∀ p ∈ g, p ∈ f) : Fr n a g := ⟨h.d, h.s, fun p hp => h.at' p (hg p hp)⟩
theorem fr_nil {n : Nat} {l : List Value} (h : l.length = n) : Fr n ⟨l.toArray, []⟩ [] := ⟨rfl, by simpa using h, fun p hp => by cases hp⟩
theorem fr_cons {n i : Nat} {l : List Value} {v : Value} {f : List (Nat × Value)} (h : l[i]? = some v) (hf : Fr n ⟨l.toArray, []⟩ f) : Fr n ⟨l.toArray, []⟩ ((i, v) :: f) :=
  ⟨rfl, hf.s, fun p hp => by
    rcases List.mem_cons.1 hp with rfl | hp
    · rw [List.getElem?_toArray]; exact h
    · exact hf.at' p hp⟩

/-- It comes through, with this. -/
def Only (I : Act → World → Prop) : Exit → Act → World → Prop
  | .normal, a, w => I a w
  | _, _, _ => False

theorem Only.to {I : Act → World → Prop} {Q : Exit → Act → World → Prop} (h : ∀ a w, I a w → Q .normal a w) : ∀ e a w, Only I e a w → Q e a w := fun e a w hi => by
  cases e with
  | normal => exact h a w hi
  | _ => exact hi.elim

theorem wp_then {P : Program} {x y : Code} {I : Act → World → Prop} {Q : Exit → Act → World → Prop} {a : Act} {w : World} (h : x.wp P (Only I) a w) (hy : ∀ a w, I a w → y.wp P Q a w) : (Code.seq x y).wp P Q a w :=
  wp_seq (wp_mono h fun e a w hi => by cases e <;> first | exact hy _ _ hi | exact hi.elim)

section
variable {P : Program} {w w' : World}
/-- An append whose run is known. -/
theorem wp_append_run {o : Oper} {a : Act} {K : Act → World → Prop} {Q : Exit → Act → World → Prop} (s x : Operand) (t : TypeId)
    (ho : o.op = .call { callee := .builtin .append, args := #[s, x], argTypes := #[t, t] }) {vs vx v : Value} (hs : a.eval s = vs) (hx : a.eval x = vx)
    (hr : (Builtin.append_ #[t, t] o.type #[vs, vx]).run P w = .ok v w') (h : K (a.put o.dst v) w') : o.wp P a w K Q := by
  unfold Oper.wp execOp
  simp only [ho, resolve, invoke, builtin, Sem.run_bind, Sem.run_pure, Result.andThen_ok, List.map_toArray, List.map_cons, List.map_nil, hs, hx, hr]
  exact h

theorem wpList_append_run {ops : Array Oper} {rest : List Oper} {o : Oper} {a : Act} {Q : Exit → Act → World → Prop} (hgd : o.guard = none) (s x : Operand) (t : TypeId)
    (ho : o.op = .call { callee := .builtin .append, args := #[s, x], argTypes := #[t, t] }) {vs vx v : Value} (hs : a.eval s = vs) (hx : a.eval x = vx)
    (hr : (Builtin.append_ #[t, t] o.type #[vs, vx]).run P w = .ok v w') (h : wpList P ops Q rest (a.put o.dst v) w') : wpList P ops Q (o :: rest) a w :=
  wpList_plain hgd fun _ hK => wp_append_run s x t ho hs hx hr (hK _ _ h)

theorem step_append_run {ops : Array Oper} {o : Oper} {a : Act} {K : Act → World → Prop} {Q : Exit → Act → World → Prop} {E : Prop} (hgd : o.guard = none) (s x : Operand) (t : TypeId)
    (ho : o.op = .call { callee := .builtin .append, args := #[s, x], argTypes := #[t, t] }) {vs vx v : Value} (hs : a.eval s = vs) (hx : a.eval x = vx)
    (hr : (Builtin.append_ #[t, t] o.type #[vs, vx]).run P w = .ok v w') (h : K (a.put o.dst v) w') :
    if Region.wanted o (yielded ops a.tmps) = true then Oper.wp P o a w K Q else E := by
  have hw : Region.wanted o (yielded ops a.tmps) = true := by simp [Region.wanted, hgd]
  rw [if_pos hw]
  exact wp_append_run s x t ho hs hx hr h

theorem step_append_at {ops : Array Oper} {o : Oper} {a : Act} {K : Act → World → Prop} {Q : Exit → Act → World → Prop} {E : Prop} {t ty : TypeId} {vs vx v : Value} (hr : (Builtin.append_ #[t, t] ty #[vs, vx]).run P w = .ok v w') (s x : Operand) (hs : a.eval s = vs) (hx : a.eval x = vx) (hgd : o.guard = none)
    (ho : o.op = .call { callee := .builtin .append, args := #[s, x], argTypes := #[t, t] }) (hty : o.type = ty) (h : K (a.put o.dst v) w') :
    if Region.wanted o (yielded ops a.tmps) = true then Oper.wp P o a w K Q else E :=
  step_append_run hgd s x t ho hs hx (hty ▸ hr) h
end

end Go.Proofs.Ytbegeijofpgliab
