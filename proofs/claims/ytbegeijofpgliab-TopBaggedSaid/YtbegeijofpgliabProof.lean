/-
  TopBagged returns true for every input, and the input reads behind the call as it read before: no condition.
-/
import Derived.Test.YtbegeijofpgliabTop
import Derived.ProofKit
import Derived.OpenShut
import Derived.ChangeOld
import Derived.Below
import Derived.Deep.Slices
import Derived.Deep.Fields
import Derived.ChangeSame
namespace Go.Proofs.Ytbegeijofpgliab.topBagged
open Go.ChangeShapes Go.WideShapes Go.ChangeAt Go.RowKit Go.Deep
set_option linter.unusedVariables false

theorem own : ownKnob Try.prog.godebug = none := by kernel_rfl
theorem laidOut : laidOutB Try.prog = true := by kernel_rfl

section
variable {H : Type} {enc : TypeId × Value → H} {P : Program} {w : World} {base : Nat} {spare : Nat → Bool} {held : Bool}
theorem open_slice_fields {t e : TypeId} {fs : Array Field} {fuel : Nat} {cs : List Value} {x : DataW H × List MemPlace} (ht : P.underlying t = some (.slice e)) (he : P.underlying e = some (.struct fs))
    (hone : oneCellFields P fs = true) (hC : P.cellsOf e = fs.size) (h : DataW.trod enc P w base spare held fuel t cs = some x) :
    (cs = [.slice none 0 0] ∧ x = (.nil, [])) ∨
    ∃ (a : Addr) (len cap m : Nat) (D : Nat → DataW H) (Pl : Nat → List MemPlace), cs = [.slice (some a) len cap] ∧ base ≤ a.block ∧ len ≤ cap ∧ cap ≤ maxLen ∧ m = (if spare a.block then cap else len) ∧
      x = (.slice ((List.range len).map D) ((List.range (m - len)).map fun j => D (len + j)), MemPlace.row a (m * fs.size) ++ (List.range m).flatMap Pl) ∧
      ∀ i, i < m → ∃ (ys : List (DataW H × List MemPlace)) (n : Nat), D i = .agg (ys.map (·.1)) ∧ Pl i = ys.flatMap (·.2) ∧ ys.length = fs.size ∧
        ∀ (j : Nat) (f : Field), fs[j]? = some f → ∃ (v : Value) (y : DataW H × List MemPlace), w.cell? (a.add (i * fs.size + j)) = some v ∧ ys[j]? = some y ∧ DataW.trod enc P w base spare held n f.type [v] = some y := by
  rcases open_slice ht h with h0 | ⟨a, len, cap, m, n, D, Pl, hcs, hb, hl, hm, hmm, hx, hi⟩
  · exact .inl h0
  · refine .inr ⟨a, len, cap, m, D, Pl, hcs, hb, hl, hm, hmm, by rw [hC] at hx; exact hx, fun i him => ?_⟩
    obtain ⟨cs', hc, ht'⟩ := hi i him
    rw [hC] at hc
    obtain ⟨ys, n', hn', hy, hlen, hyl, hf⟩ := DataW.trod_struct he ht'
    obtain ⟨_, hcl, hat⟩ := World.cells?_some hc
    simp only [Prod.mk.injEq] at hy
    refine ⟨ys, n', hy.1, hy.2, hyl, fun j f hj => ?_⟩
    obtain ⟨ho, hk⟩ := hone_of hone j f hj
    have hjl : j < fs.size := (Array.getElem?_eq_some_iff.1 hj).1
    have hcell := hat j hjl
    have hv : cs'[j]? = some (cs'[j]'(by omega)) := List.getElem?_eq_getElem (by omega)
    have h1 := hf j f hj
    rw [ho, hk] at h1
    have hone' : (cs'.drop j).take 1 = [cs'[j]'(by omega)] := by
      rw [List.drop_eq_getElem_cons (by omega)]
      rfl
    rw [hone'] at h1
    have hys : ys[j]? = some (ys[j]'(by omega)) := List.getElem?_eq_getElem (by omega)
    refine ⟨_, _, ?_, hys, h1.trans hys⟩
    rw [← Go.Deep.add_add, hcell, hv]
end

theorem spot_none {w : World} {a : Addr} {v : Value} (h : w.cell? (a.add 0) = some v) : a.spot = none := by
  have e : a.add 0 = a := by simp [Addr.add]
  rw [e] at h
  unfold World.cell? at h
  split at h
  · split at h
    · cases h
    · rename_i hs; simpa using hs
  · cases h

theorem add_plain (b off j : Nat) : (⟨b, off, none⟩ : Addr).add j = ⟨b, off + j, none⟩ := by
  unfold Addr.add
  split
  · rename_i h; rw [h]; rfl
  · rfl

theorem cells24 : Try.prog.cellsOf 24 = 5 := by kernel_rfl

theorem u8_of {z : Int} (h : (Lit.int .u8 z).wf = true) : ∃ u : UInt8, z = (u.toNat : Int) := by
  have : 0 ≤ z ∧ z ≤ 255 := by simpa [Lit.wf, IntKind.min, IntKind.max, IntKind.signed, IntKind.bits] using h
  refine ⟨UInt8.ofNat z.toNat, ?_⟩
  rw [UInt8.toNat_ofNat', Nat.mod_eq_of_lt (by omega)]
  omega

set_option maxRecDepth 100000 in
theorem lifted (os : Os) (started : os.Started) (H : Type) (enc : TypeId × Value → H) :
    ReturnsInHanded {} Try.checked os 3 .any (Rows.topBaggedSpec.pre6 enc Try.prog Try.f3 Rows.topBaggedRow.domain false) (Rows.topBaggedSpec.post enc Try.prog Try.f3 false true false false) := by
  refine returnsInHanded_of_change (C := Try.checked) own started (by kernel_rfl) Try.func3
    (ChangeSpec.witness6 (enc := enc) (C := Try.checked) false ⟨#[], #[.slice none 0 0], []⟩ 8 (by kernel_rfl) (by kernel_rfl) (by kernel_rfl) (by kernel_rfl)) ?_
  intro W base args ds gs before hval0 hW hcnd _
  have hval : ∀ (j : Nat) t v, Try.f3.params[j]? = some t → args[j]? = some v → Value.okWide Try.prog W .any base t v := hval0
  have hW' := hW
  obtain ⟨p, q, hA0, hV, rfl, hfz, hnd⟩ := hW
  have hA : DataW.TrodAll enc Try.prog W 0 (fun _ => true) true Try.f3.params.toList args.toList ds p := hA0
  rw [Try.params3] at hA hval
  obtain ⟨v0, vs0, d0, ds0, p0, q0, hargs, rfl, rfl, h0, r0⟩ := trodAll_cons hA
  obtain ⟨rfl, rfl, rfl⟩ := trodAll_nil r0
  obtain rfl : args = #[v0] := by cases args; simp_all
  obtain ⟨rfl, rfl⟩ := trodVars_none hV
  obtain ⟨a0, len0, cap0, rfl⟩ := okWide_slice Try.underlying22 (hval 0 22 v0 rfl rfl)
  have k0 := h0
  have lt0 : ∀ x ∈ p0, x.block < W.heap.size := by obtain ⟨m, hm⟩ := k0; exact DataW.trod_lt m _ _ _ hm
  have w0 : ∃ l : List Note5, len0 = l.length ∧ Arg W a0 l := by
    obtain ⟨fuel, hf⟩ := h0
    rcases open_slice_fields Try.underlying22 Try.underlying24 (by kernel_rfl) cells24 hf with ⟨hcs, _⟩ | ⟨x, l, c, m, D, Pl, hcs, _, hl, hm, hmm, _, hi⟩
    · simp [Value.cells] at hcs
      obtain ⟨rfl, rfl, rfl⟩ := hcs
      exact ⟨[], rfl, fun k x hk => by simp at hk⟩
    · simp [Value.cells] at hcs
      obtain ⟨rfl, rfl, rfl⟩ := hcs
      simp only [if_true] at hmm
      have hall : ∀ k, k < len0 → ∃ (y : Note5) (b off : Nat), x = ⟨b, off, none⟩ ∧ W.cell? ⟨b, off + k * 5, none⟩ = some (.int .u8 y.kind.toNat) ∧ W.cell? ⟨b, off + k * 5 + 1, none⟩ = some (.int .u8 y.frm.toNat) ∧
          W.cell? ⟨b, off + k * 5 + 2, none⟩ = some (.int .u8 y.to.toNat) ∧ W.cell? ⟨b, off + k * 5 + 3, none⟩ = some (.int .u8 y.i.toNat) ∧ W.cell? ⟨b, off + k * 5 + 4, none⟩ = some (.int .u8 y.byte.toNat) := by
        intro k hk
        obtain ⟨ys, n, _, _, _, hj⟩ := hi k (by omega)
        obtain ⟨c0, y0, e0, _, t0⟩ := hj 0 _ rfl
        obtain ⟨c1, y1, e1, _, t1⟩ := hj 1 _ rfl
        obtain ⟨c2, y2, e2, _, t2⟩ := hj 2 _ rfl
        obtain ⟨c3, y3, e3, _, t3⟩ := hj 3 _ rfl
        obtain ⟨c4, y4, e4, _, t4⟩ := hj 4 _ rfl
        obtain ⟨ys', n', _, _, _, hj'⟩ := hi 0 (by omega)
        obtain ⟨c', y', e', _, _⟩ := hj' 0 _ rfl
        have hs : x.spot = none := spot_none e'
        obtain ⟨b, off, sp⟩ := x
        simp only at hs
        subst hs
        rw [add_plain] at e0 e1 e2 e3 e4
        obtain ⟨x0, r0, _, w0⟩ := DataW.trod_int Try.underlying5 t0
        obtain ⟨x1, r1, _, w1⟩ := DataW.trod_int Try.underlying5 t1
        obtain ⟨x2, r2, _, w2⟩ := DataW.trod_int Try.underlying5 t2
        obtain ⟨x3, r3, _, w3⟩ := DataW.trod_int Try.underlying5 t3
        obtain ⟨x4, r4, _, w4⟩ := DataW.trod_int Try.underlying5 t4
        simp only [List.cons.injEq, and_true] at r0 r1 r2 r3 r4
        subst r0; subst r1; subst r2; subst r3; subst r4
        obtain ⟨u0, rfl⟩ := u8_of w0
        obtain ⟨u1, rfl⟩ := u8_of w1
        obtain ⟨u2, rfl⟩ := u8_of w2
        obtain ⟨u3, rfl⟩ := u8_of w3
        obtain ⟨u4, rfl⟩ := u8_of w4
        exact ⟨⟨u0, u1, u2, u3, u4⟩, b, off, rfl, e0, e1, e2, e3, e4⟩
      refine ⟨(List.range len0).map fun k => if h : k < len0 then (hall k h).choose else ⟨0, 0, 0, 0, 0⟩, by simp, fun k y hy => ?_⟩
      rw [List.getElem?_map] at hy
      have hk : k < len0 := by
        rcases Nat.lt_or_ge k len0 with h | h
        · exact h
        · rw [List.getElem?_eq_none (by simpa using h)] at hy; cases hy
      rw [List.getElem?_range hk] at hy
      simp only [Option.map_some, Option.some.injEq, hk, dif_pos] at hy
      have hc := (hall k hk).choose_spec
      rw [hy] at hc
      obtain ⟨b, off, hx, h1⟩ := hc
      exact ⟨b, off, by rw [hx], h1⟩
  clear hA0 hval0
  obtain ⟨l, hl, harg⟩ := w0
  refine (top3 l a0 len0 cap0 W hl harg).mono fun e W' ⟨he, bel⟩ => ?_
  subst he
  exact ⟨_, rfl, _, _, _, [], _, [], hW', trodAll_mk1 (shut_bool Try.underlying4 _), (trodAll_cons_mk (Below.trod laidOut (by kernel_rfl) (of_decide_eq_true (by kernel_rfl)) k0 bel lt0) trodAll_mk0), rfl, bel.frame _, fun h => by cases h⟩

theorem over : Rows.topBaggedRow.holds Try.pinned (OpenSpec.ofChange Rows.topBaggedSpec) :=
  OpenClaim.holds_of_wide 3 Try.f3 rfl rfl rfl rfl rfl rfl rfl ⟨rfl, rfl, rfl, rfl, rfl⟩ rfl rfl rfl rfl rfl (by kernel_rfl) Try.func3 (by kernel_rfl)
    (of_decide_eq_true (by kernel_rfl)) (by unfold Func.isWrapper; first | (rw [if_pos (by decide +kernel)]; kernel_rfl) | (rw [if_neg (by decide +kernel)]; exact ⟨rfl, rfl⟩))
    (fun os started H enc _ => lifted os started H enc)

/-- The statement. -/
theorem proved : Rows.TopBaggedSaid := over
#print axioms proved
end Go.Proofs.Ytbegeijofpgliab.topBagged
