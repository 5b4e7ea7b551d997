/-
  Notes on their way, and tags, as plain lists: no Go.
-/
namespace Go.Proofs.Ytbegeijofpgliab

/-- What is done. -/
structure Note5 where
  kind : UInt8
  frm : UInt8
  to : UInt8
  i : UInt8
  byte : UInt8

/-- A note on its way. -/
structure Msg where
  frm : Nat
  to : Nat
  b : UInt8
  k : Nat
deriving DecidableEq

/-- A tag. -/
structure Tg where
  frm : Nat
  to : Nat
  d : Nat
deriving DecidableEq

def ins (T : List Tg) (x : Tg) : List Tg := if x ∈ T then T else T ++ [x]

def named (n : Nat) : Bool := decide (1 ≤ n) && decide (n ≤ 34)

def Note5.f (x : Note5) : Nat := x.frm.toNat % 37
def Note5.t (x : Note5) : Nat := x.to.toNat % 37
def Note5.d (x : Note5) : Nat := x.byte.toNat % 3
def Note5.q (x : Note5) : Nat := x.i.toNat % 6
def Note5.r (x : Note5) : Nat := 1 + x.i.toNat % 40
def Note5.op (x : Note5) : Nat := x.kind.toNat % 8
def Note5.names (x : Note5) : Bool := named x.f && named x.t
def Note5.msg (x : Note5) (k : Nat) : Msg := ⟨x.f, x.t, x.byte, k⟩

structure St where
  L : List Msg
  T : List Tg
  s : Nat
  l : Nat

/-- Is there a note at the place that is named? -/
def St.there (S : St) (x : Note5) : Bool := decide (1 ≤ x.q) && decide (x.q ≤ S.L.length)

def St.put (S : St) (m : Msg) : St := { S with L := S.L ++ [m], s := S.s + 1 }
def St.off (S : St) (j : Nat) : St := { S with L := S.L.take j ++ S.L.drop (j + 1) }

def St.step (S : St) (k : Nat) (x : Note5) : St :=
  if x.op ≤ 1 then (if x.names then S.put (x.msg k) else S)
  else if x.op = 2 then (if S.there x then S.off (x.q - 1) else S)
  else if x.op = 3 then (if S.there x then { S.off (x.q - 1) with l := S.l + 1 } else S)
  else if x.op = 4 then (if S.there x then S.put (S.L.getD (x.q - 1) ⟨0, 0, 0, 0⟩) else S)
  else if x.op ≤ 6 then (if named x.f && decide (x.t ≤ 34) then { S with T := ins S.T ⟨x.f, x.t, x.d⟩ } else S)
  else (if x.names && decide (x.r ≤ 34) then { S with T := ins (ins S.T ⟨x.f, x.t, x.d⟩) ⟨x.f, x.r, x.d⟩ } else S)

def St.init : St := ⟨[], [], 0, 0⟩

def noteAt (l : List Note5) (k : Nat) : Note5 := l.getD k ⟨0, 0, 0, 0, 0⟩

/-- The state ahead of the k-th. -/
def after (l : List Note5) : Nat → St
  | 0 => St.init
  | k + 1 => (after l k).step k (noteAt l k)

def steps (l : List Note5) : Nat := min l.length 40

def known5 : List Note5 := [⟨0, 1, 2, 0, 5⟩, ⟨0, 2, 3, 0, 6⟩, ⟨0, 1, 3, 0, 7⟩, ⟨4, 0, 0, 1, 0⟩, ⟨2, 0, 0, 2, 0⟩, ⟨3, 0, 0, 1, 0⟩, ⟨5, 31, 0, 0, 1⟩, ⟨7, 1, 2, 2, 2⟩, ⟨5, 0, 1, 0, 0⟩]

theorem known5_says : (after known5 9).L.length = 2 ∧ (after known5 9).T.length = 3 := by decide

/-- What stays true of a state. -/
structure St.Ok (S : St) (k : Nat) : Prop where
  len : S.L.length ≤ k
  nm : ∀ m ∈ S.L, named m.frm = true ∧ named m.to = true ∧ m.k < 40
  tl : S.T.length ≤ 2 * k
  nd : S.T.Nodup
  tv : ∀ x ∈ S.T, x.frm ≤ 40 ∧ x.to ≤ 40 ∧ x.d < 3
  sl : S.s ≤ k
  ll : S.l ≤ k

theorem ins_nodup {T : List Tg} (h : T.Nodup) (x : Tg) : (ins T x).Nodup := by
  unfold ins
  split
  · exact h
  · rename_i hx
    rw [List.nodup_append]
    exact ⟨h, by simp, fun a ha b hb e => hx (by simp at hb; rw [← hb, ← e]; exact ha)⟩

theorem mem_ins {T : List Tg} {x y : Tg} : y ∈ ins T x ↔ y ∈ T ∨ y = x := by
  unfold ins
  split
  · rename_i hx
    exact ⟨.inl, fun h => h.elim id (fun e => e ▸ hx)⟩
  · simp

theorem len_ins (T : List Tg) (x : Tg) : (ins T x).length ≤ T.length + 1 := by
  unfold ins
  split <;> simp

theorem Note5.t_lt (x : Note5) : x.t < 37 := Nat.mod_lt _ (by omega)
theorem Note5.f_lt (x : Note5) : x.f < 37 := Nat.mod_lt _ (by omega)
theorem Note5.d_lt (x : Note5) : x.d < 3 := Nat.mod_lt _ (by omega)
theorem Note5.r_lt (x : Note5) : x.r ≤ 40 := by have := Nat.mod_lt x.i.toNat (show 40 > 0 by omega); unfold Note5.r; omega

theorem off_mem {L : List Msg} {j : Nat} {m : Msg} (h : m ∈ L.take j ++ L.drop (j + 1)) : m ∈ L := by
  rcases List.mem_append.1 h with h | h
  · exact List.mem_of_mem_take h
  · exact List.mem_of_mem_drop h

theorem step_ok {S : St} {k : Nat} (h : S.Ok k) (hk : k < 40) (x : Note5) : (S.step k x).Ok (k + 1) := by
  obtain ⟨h1, h2, h3, h4, h5, h6, h7⟩ := h
  have same : S.Ok (k + 1) := ⟨by omega, h2, by omega, h4, h5, by omega, by omega⟩
  have offs : ∀ j, (S.off j).Ok (k + 1) := fun j => ⟨by simp [St.off]; omega, fun m hm => h2 m (off_mem hm), by simp [St.off]; omega, h4, h5, by simp [St.off]; omega, by simp [St.off]; omega⟩
  unfold St.step
  split
  · split
    · rename_i hn
      refine ⟨by simp [St.put]; omega, ?_, by simp [St.put]; omega, h4, h5, by simp [St.put]; omega, by simp [St.put]; omega⟩
      intro m hm
      simp only [St.put, List.mem_append, List.mem_singleton] at hm
      rcases hm with hm | rfl
      · exact h2 m hm
      · simp only [Note5.names, Bool.and_eq_true] at hn
        exact ⟨hn.1, hn.2, hk⟩
    · exact same
  · split
    · split
      · exact offs _
      · exact same
    · split
      · split
        · have := offs (x.q - 1)
          exact ⟨this.len, this.nm, this.tl, this.nd, this.tv, this.sl, by show S.l + 1 ≤ k + 1; omega⟩
        · exact same
      · split
        · split
          · rename_i hth
            simp only [St.there, Bool.and_eq_true, decide_eq_true_eq] at hth
            refine ⟨by simp [St.put]; omega, ?_, by simp [St.put]; omega, h4, h5, by simp [St.put]; omega, by simp [St.put]; omega⟩
            intro m hm
            simp only [St.put, List.mem_append, List.mem_singleton] at hm
            rcases hm with hm | rfl
            · exact h2 m hm
            · refine h2 _ ?_
              rw [List.getD_eq_getElem?_getD, List.getElem?_eq_getElem (by omega)]
              simp
          · exact same
        · split
          · split
            · refine ⟨by show S.L.length ≤ _; omega, h2, ?_, ins_nodup h4 _, ?_, by show S.s ≤ _; omega, by show S.l ≤ _; omega⟩
              · have := len_ins S.T ⟨x.f, x.t, x.d⟩
                show (ins _ _).length ≤ _
                omega
              · intro y hy
                rcases mem_ins.1 hy with hy | rfl
                · exact h5 y hy
                · have := x.f_lt; have := x.t_lt
                  exact ⟨by show x.f ≤ 40; omega, by show x.t ≤ 40; omega, x.d_lt⟩
            · exact same
          · split
            · refine ⟨by show S.L.length ≤ _; omega, h2, ?_, ins_nodup (ins_nodup h4 _) _, ?_, by show S.s ≤ _; omega, by show S.l ≤ _; omega⟩
              · have := len_ins S.T ⟨x.f, x.t, x.d⟩
                have := len_ins (ins S.T ⟨x.f, x.t, x.d⟩) ⟨x.f, x.r, x.d⟩
                show (ins _ _).length ≤ _
                omega
              · intro y hy
                have := x.f_lt; have := x.t_lt; have := x.r_lt
                rcases mem_ins.1 hy with hy | rfl
                · rcases mem_ins.1 hy with hy | rfl
                  · exact h5 y hy
                  · exact ⟨by show x.f ≤ 40; omega, by show x.t ≤ 40; omega, x.d_lt⟩
                · exact ⟨by show x.f ≤ 40; omega, by show x.r ≤ 40; omega, x.d_lt⟩
            · exact same

theorem after_ok (l : List Note5) (k : Nat) (hk : k ≤ 40) : (after l k).Ok k := by
  induction k with
  | zero => exact ⟨by simp [after, St.init], by simp [after, St.init], by simp [after, St.init], by simp [after, St.init], by simp [after, St.init], by simp [after, St.init], by simp [after, St.init]⟩
  | succ k ih => exact step_ok (ih (by omega)) (by omega) _

end Go.Proofs.Ytbegeijofpgliab
