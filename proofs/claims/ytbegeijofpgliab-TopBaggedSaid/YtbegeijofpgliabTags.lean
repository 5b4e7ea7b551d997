/-
  The tags that the test keeps: a map of bools; how two entries are stored at once.
-/
import Derived.Test.YtbegeijofpgliabTagA
namespace Go.Proofs.Ytbegeijofpgliab
open Go.RowKit Go.Maps Go.ChangeMaps Go.MapKept
open Go.WideElems (Fit)

theorem findIdx_stamp {es : Array MapEntry} {clock : Nat} (hs : Stamped es clock) {j : Nat} {e : MapEntry} (hj : es[j]? = some e) : es.findIdx? (fun x => (x.born : Int) == (e.born : Int)) = some j := by
  obtain ⟨hjl, rfl⟩ := Array.getElem?_eq_some_iff.1 hj
  rw [Array.findIdx?_eq_some_iff_getElem]
  refine ⟨hjl, by simp, fun i hi => ?_⟩
  have hn := hs.2.1
  rw [List.nodup_iff_pairwise_ne, List.pairwise_iff_getElem] at hn
  have := hn i j (by simp; omega) (by simpa using hjl) hi
  simp at this
  simp
  omega

section
variable {H : Type} {P : Program} {k : TypeId} {R : Value → Option (DataW H × List MemPlace)} {w : World} {b n : Nat} {D : DataW H}
/-- An entry is opened, and written: as one store. -/
theorem _root_.Go.World.ownsMap.entry {t e : TypeId} (h : w.ownsMap P k R b n D) (K : Keyed P k) (ht : P.underlying t = some (.map k e)) (hn : n < maxLen) {z : Value} (hz : (zeroValue e).run P w = .ok z w) {key val : Value} {kl : Lit} {d : DataW H} {ps : List MemPlace}
    (hkey : keyOf P k key = some kl) (hv : R val = some (d, ps)) : ∃ v st w1 w', (Instr.mapEntry t (.map (some b)) key).run P w = .ok (.tuple #[v, .int .i64 st]) w1 ∧ (Instr.entryStore t (.map (some b)) (.int .i64 st) val).run P w1 = .ok () w' ∧
      w'.ownsMap P k R b (n + 1) (D.put kl d) ∧ w.grownBy w1 (some b) ∧ w.grownBy w' (some b) := by
  obtain ⟨w', hrun, hown, hgr⟩ := h.update K ht hn hkey hv
  obtain ⟨es, clock, hb, F, hs, rfl⟩ := h
  rcases K.find w hkey es.toList F.keys with ⟨h1, h2⟩ | ⟨j, e0, h1, h2, h3⟩
  · have hx : (Instr.mapUpdate t (.map (some b)) key val).run P w = .ok () (setBlock w b (.map (es.push ⟨key, val, clock⟩) (clock + 1))) := by
      simp [Instr.mapUpdate, run_underlying ht, MapKept.run_getObj_map hb, K.check w false hkey, h1, MapKept.run_setObj_map _ hb, Result.andThen, setBlock]
    rw [hx] at hrun
    cases hrun
    have hb1 := heap_setBlock_same hb (.map (es.push ⟨key, z, clock⟩) (clock + 1))
    have hf : (es.push ⟨key, z, clock⟩).findIdx? (fun x => (x.born : Int) == (clock : Int)) = some es.size := by
      have := findIdx_stamp (stamped_push (key := key) (val := z) F.stamped h2) (j := es.size) (e := ⟨key, z, clock⟩) (by simp)
      simpa using this
    refine ⟨z, clock, setBlock w b (.map (es.push ⟨key, z, clock⟩) (clock + 1)), _, ?_, ?_, hown, ⟨rfl, rfl, rfl, by simp [setBlock], fun i _ hi => heap_setBlock_other hb _ (fun e => hi (by rw [e]))⟩, hgr⟩
    · simp [Instr.mapEntry, run_underlying ht, MapKept.run_getObj_map hb, K.check w false hkey, h1, hz, MapKept.run_setObj_map _ hb, Result.andThen, setBlock, goInt]
    · have harr : (es.push ⟨key, z, clock⟩).modify es.size (fun e => { e with val := val }) = es.push ⟨key, val, clock⟩ := by
        apply Array.ext_getElem?
        intro i
        rw [Array.getElem?_modify]
        by_cases hi : i = es.size
        · subst hi; simp
        · rw [if_neg (Ne.symm hi), Array.getElem?_push, Array.getElem?_push, if_neg hi, if_neg hi]
      simp [Instr.entryStore, MapKept.run_getObj_map hb1, asInt, asIntOf, hf, MapKept.run_setObj_map _ hb1, Result.andThen]
      rw [harr]
      simp [setBlock]
  · have hj : es[j]? = some e0 := by simpa using h2
    have hx : (Instr.mapUpdate t (.map (some b)) key val).run P w = .ok () (setBlock w b (.map (es.modify j (fun e' => { e' with key := key, val := val })) clock)) := by
      simp [Instr.mapUpdate, run_underlying ht, MapKept.run_getObj_map hb, K.check w false hkey, h1, hj, h3, K.stays w hkey, MapKept.run_setObj_map _ hb, Result.andThen, setBlock]
    rw [hx] at hrun
    cases hrun
    have hb1 := heap_setBlock_same hb (.map (es.modify j (fun e' => { e' with key := key })) clock)
    have hkeyf : ∀ e', es[j]? = some e' → ({ e' with key := key } : MapEntry).key = e'.key := fun e' he' => by rw [hj] at he'; cases he'; exact h3.symm
    have hf : (es.modify j (fun e' => { e' with key := key })).findIdx? (fun x => (x.born : Int) == (e0.born : Int)) = some j :=
      findIdx_stamp (e := { e0 with key := key }) (stamped_modify F.stamped j (fun e' => { e' with key := key }) (fun _ _ => rfl) (fun e' _ he' => hkeyf e' he')) (by rw [Array.getElem?_modify, if_pos rfl, hj]; rfl)
    refine ⟨e0.val, e0.born, setBlock w b (.map (es.modify j (fun e' => { e' with key := key })) clock), _, ?_, ?_, hown, ⟨rfl, rfl, rfl, by simp [setBlock], fun i _ hi => heap_setBlock_other hb _ (fun e => hi (by rw [e]))⟩, hgr⟩
    · simp [Instr.mapEntry, run_underlying ht, MapKept.run_getObj_map hb, K.check w false hkey, h1, hj, h3, K.stays w hkey, MapKept.run_setObj_map _ hb, Result.andThen, setBlock, goInt]
    · have harr : (es.modify j (fun e' => { e' with key := key })).modify j (fun e => { e with val := val }) = es.modify j (fun e' => { e' with key := key, val := val }) := by
        apply Array.ext_getElem?
        intro i
        simp only [Array.getElem?_modify]
        by_cases hi : j = i
        · subst hi; simp [hj]
        · rw [if_neg hi, if_neg hi, if_neg hi]
      simp [Instr.entryStore, MapKept.run_getObj_map hb1, asInt, asIntOf, hf, MapKept.run_setObj_map _ hb1, Result.andThen]
      rw [harr]
      simp [setBlock]
end

/-- A map of bools that has just the keys of some tags, each with 'true'. -/
structure IsBools (key : Tg → Lit) (D : Dw) (T : List Tg) : Prop where
  set : IsSet key D T
  at' : ∀ x : Tg, x.Ok → D.atKey (key x) (.lit (.bool false)) = .lit (.bool (decide (x ∈ T)))

theorem IsBools.put {key : Tg → Lit} {D : Dw} {T : List Tg} (h : IsBools key D T) (ht : Tidy D) (hk : ∀ x, WideAt.IsKeyLit (key x)) (hinj : ∀ x y : Tg, x.Ok → y.Ok → key x = key y → x = y) {x : Tg} (hx : x.Ok) : IsBools key (D.put (key x) (.lit (.bool true))) (ins T x) := by
  refine ⟨h.set.put ht hk hinj hx _, fun y hy => ?_⟩
  by_cases e : y = x
  · subst e
    rw [atKey_put_same ht.isMap (hk y)]
    simp [mem_ins]
  · rw [atKey_put_other (fun e' => e (hinj y x hy hx e')), h.at' y hy]
    simp [mem_ins, e]

/-- The test's map of tags. -/
def Tgs (w : World) (M n : Nat) (T : List Tg) : Prop := ∃ D : Dw, w.ownsMap Try.prog 45 (plainElem Try.prog 4) M n D ∧ IsBools kT D T

theorem Tgs.other {w w' : World} {M n : Nat} {T : List Tg} (h : Tgs w M n T) (hb : w'.heap[M]? = w.heap[M]?) : Tgs w' M n T := by
  obtain ⟨D, ⟨es, c, h1, h2⟩, h3⟩ := h
  exact ⟨D, ⟨es, c, by rw [hb]; exact h1, h2⟩, h3⟩

theorem Tgs.lt {w : World} {M n : Nat} {T : List Tg} (h : Tgs w M n T) : M < w.heap.size := by
  obtain ⟨D, h1, _⟩ := h; exact h1.lt

theorem Tgs.map {w : World} {M n : Nat} {T : List Tg} (h : Tgs w M n T) : ∃ es c, w.heap[M]? = some (.map es c) := by
  obtain ⟨D, ⟨es, c, h1, _⟩, _⟩ := h; exact ⟨es, c, h1⟩

theorem Tgs.len {w : World} {M n : Nat} {T : List Tg} (h : Tgs w M n T) : (Builtin.len_ #[33] 3 #[.map (some M)]).run Try.prog w = .ok (.int .i64 T.length) w := by
  obtain ⟨D, h1, h2⟩ := h
  have := h1.len Try.underlying33 (ty := 3)
  rw [h2.set.1] at this
  exact this

theorem Tgs.size {w : World} {M n : Nat} {T : List Tg} (h : Tgs w M n T) : T.length ≤ n := by
  obtain ⟨D, h1, h2⟩ := h
  rw [← h2.set.1]; exact h1.size_le

theorem Tgs.look {w : World} {M n : Nat} {T : List Tg} (h : Tgs w M n T) {x : Tg} (hx : x.Ok) : (Instr.lookup 33 (.map (some M)) (.agg #[.int .i64 (x.frm : Int), .int .i64 (x.to : Int), .int .i64 (x.d : Int)]) false).run Try.prog w = .ok (.bool (decide (x ∈ T))) w := by
  obtain ⟨D, h1, h2⟩ := h
  obtain ⟨v, ps, h3, h4⟩ := h1.lookup (z := .bool false) Try.law45 Try.underlying33 (by kernel_rfl) (plainElem_bool Try.underlying4 false) (keyT hx)
  rw [h2.at' x hx] at h4
  unfold plainElem at h4
  rw [Try.underlying4] at h4
  cases v <;> simp at h4
  rw [h3, h4.1]

theorem Tgs.store {w : World} {M n : Nat} {T : List Tg} (h : Tgs w M n T) {x : Tg} (hx : x.Ok) (hn : n ≤ 1000) : ∃ v st w1 w',
    (Instr.mapEntry 33 (.map (some M)) (.agg #[.int .i64 (x.frm : Int), .int .i64 (x.to : Int), .int .i64 (x.d : Int)])).run Try.prog w = .ok (.tuple #[v, .int .i64 st]) w1 ∧ (Instr.entryStore 33 (.map (some M)) (.int .i64 st) (.bool true)).run Try.prog w1 = .ok () w' ∧
    Tgs w' M (n + 1) (ins T x) ∧ w.grownBy w1 (some M) ∧ w.grownBy w' (some M) := by
  obtain ⟨D, h1, h2⟩ := h
  obtain ⟨v, st, w1, w', a1, a2, a3, a4, a5⟩ := h1.entry (z := .bool false) Try.law45 Try.underlying33 (by unfold maxLen; omega) (by kernel_rfl) (keyT hx) (plainElem_bool Try.underlying4 true)
  exact ⟨v, st, w1, w', a1, a2, ⟨_, a3, h2.put (h1.tidy Try.law45) (fun _ => trivial) (fun _ _ => kT_inj) hx⟩, a4, a5⟩

theorem Tgs.upd {w : World} {M n : Nat} {T : List Tg} (h : Tgs w M n T) {x : Tg} (hx : x.Ok) (hn : n ≤ 1000) : ∃ w',
    (Instr.mapUpdate 33 (.map (some M)) (.agg #[.int .i64 (x.frm : Int), .int .i64 (x.to : Int), .int .i64 (x.d : Int)]) (.bool true)).run Try.prog w = .ok () w' ∧
    Tgs w' M (n + 1) (ins T x) ∧ w.grownBy w' (some M) := by
  obtain ⟨D, h1, h2⟩ := h
  obtain ⟨w', a1, a2, a3⟩ := h1.update Try.law45 Try.underlying33 (by unfold maxLen; omega) (keyT hx) (plainElem_bool Try.underlying4 true)
  exact ⟨w', a1, ⟨_, a2, h2.put (h1.tidy Try.law45) (fun _ => trivial) (fun _ _ => kT_inj) hx⟩, a3⟩

end Go.Proofs.Ytbegeijofpgliab
