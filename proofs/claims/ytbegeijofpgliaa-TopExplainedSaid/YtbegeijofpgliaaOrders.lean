/-
  The walk of orders59: all orders, number by number.
-/
import Derived.Test.YtbegeijofpgliaaExplains
namespace Go.Proofs.Ytbegeijofpgliaa
open Go.RowKit

/-- An order as a slice: nil, or a row of its own. -/
def OrdV (w : World) (v : Value) (o : List Nat) : Prop :=
  (o = [] ∧ v = .slice none 0 0) ∨ ∃ b c, v = .slice (some ⟨b, 0, none⟩) o.length c ∧ 0 < o.length ∧ o.length ≤ c ∧ ∀ (k x : Nat), o[k]? = some x → w.cell? ⟨b, k, none⟩ = some (.int .i64 (x : Int))

theorem OrdV.below {w w' : World} {v : Value} {o : List Nat} (h : OrdV w v o) (hb : Below w.heap.size w w') : OrdV w' v o := by
  rcases h with h | ⟨b, c, h1, h2, h3, h4⟩
  · exact .inl h
  · exact .inr ⟨b, c, h1, h2, h3, fun k x hx => cell_later hb (h4 k x hx)⟩

theorem cell_lt {w : World} {a : Addr} {v : Value} (h : w.cell? a = some v) : a.block < w.heap.size := by
  unfold World.cell? at h
  rcases Nat.lt_or_ge a.block w.heap.size with h1 | h1
  · exact h1
  · rw [Array.getElem?_eq_none h1] at h; simp at h

def nats (o : List Nat) : List Value := o.map fun (x : Nat) => .int .i64 (x : Int)

theorem OrdV.of_own {w : World} {base n : Nat} {v : Value} {o : List Nat} (h : w.ownsRow base 3 1 v n (nats o)) (hn : n = o.length) (h0 : 0 < o.length) : OrdV w v o := by
  subst hn
  obtain ⟨hl, h | ⟨g, cap, cur, rfl, h1, h2, h3, h4, h5, h6⟩⟩ := h
  · omega
  · refine .inr ⟨g, cap, rfl, h0, h3, ?_⟩
    intro k x hx
    have h7 : w.cell? ⟨g, k, none⟩ = cur[k]? := by simp [World.cell?, h2]
    rw [h7, ← Array.getElem?_toList]
    have h8 : (cur.toList.take (o.length * 1))[k]? = (nats o)[k]? := by rw [h6]
    have hk : k < o.length := (List.getElem?_eq_some_iff.1 hx).1
    rw [List.getElem?_take_of_lt (by omega)] at h8
    rw [h8]
    simp [nats, hx]

theorem nats_one {w : World} {g : Nat} {b x : Nat} (h : w.cell? ⟨b, 0, none⟩ = some (.int .i64 (x : Int))) (_hg : g = b) : ∀ j u, [Value.int .i64 (x : Int)][j]? = some u → w.cell? ((⟨b, 0, none⟩ : Addr).add j) = some u := by
  intro j u hj
  match j, hj with
  | 0, hj => simp at hj; subst hj; exact h

theorem nats_cells {w : World} {b : Nat} {o : List Nat} (h : ∀ (k x : Nat), o[k]? = some x → w.cell? ⟨b, k, none⟩ = some (.int .i64 (x : Int))) :
    ∀ a : Addr, some (⟨b, 0, none⟩ : Addr) = some a → ∀ j u, (nats o)[j]? = some u → w.cell? (a.add j) = some u := by
  rintro a e j u hj
  cases e
  simp only [nats, List.getElem?_map, Option.map_eq_some_iff] at hj
  obtain ⟨x, hx, rfl⟩ := hj
  have := h j x hx
  match j, this with
  | 0, t => exact t
  | j + 1, t => simpa [Addr.add] using t

theorem nats_oneCell (o : List Nat) : ∀ u ∈ nats o, u.oneCell' = true := by
  intro u hu
  simp only [nats, List.mem_map] at hu
  obtain ⟨x, _, rfl⟩ := hu
  rfl

/-- What orders59 answers. -/
def OrdPost (r : Option (List Nat)) (w : World) (e : Ending) (w' : World) : Prop :=
  Below w.heap.size w w' ∧ ((r = none ∧ e = .returned (.tuple #[.slice none 0 0, .bool false])) ∨ ∃ o v, r = some o ∧ e = .returned (.tuple #[v, .bool true]) ∧ OrdV w' v o)

theorem ord_hit {l : List LOp} {c : UInt8} {f : Nat} {o : List Nat} (h1 : tight l o) (h2 : Expl l c o) : ord l c (f + 1) o = some o := by
  unfold ord; rw [if_pos ⟨h1, h2⟩]

noncomputable def kid (l : List LOp) (c : UInt8) (f : Nat) (o : List Nat) (i : Nat) : Option (List Nat) := if i ∈ o then none else ord l c f (o ++ [i])

theorem ord_miss {l : List LOp} {c : UInt8} {f : Nat} {o : List Nat} (h : ¬ (tight l o ∧ Expl l c o)) : ord l c (f + 1) o = (List.range l.length).findSome? (kid l c f o) := by
  unfold ord; rw [if_neg h]; rfl

theorem find_hit {α : Type} {p : Nat → Option α} {r : α} {n i : Nat} (hi : i < n) (h : ∀ j, j < i → p j = none) (h2 : p i = some r) : (List.range n).findSome? p = some r := by
  have e : List.range n = List.range i ++ i :: (List.range n).drop (i + 1) := by
    have h1 := List.take_append_drop i (List.range n)
    rw [List.take_range, Nat.min_eq_left (by omega), List.drop_eq_getElem_cons (by simpa using hi), List.getElem_range] at h1
    exact h1.symm
  rw [List.findSome?_eq_some_iff]
  exact ⟨_, _, _, e, h2, fun x hx => h x (List.mem_range.1 hx)⟩

theorem kid_step {l : List LOp} {fst : UInt8} {f k : Nat} {o : List Nat} (h : ∀ j, j < k → kid l fst f o j = none) (h1 : kid l fst f o k = none) : ∀ j, j < k + 1 → kid l fst f o j = none := by
  intro i hi
  rcases Nat.lt_or_ge i k with h3 | h3
  · exact h i h3
  · obtain rfl : i = k := by omega
    exact h1

theorem find_none {α : Type} {p : Nat → Option α} {n : Nat} (h : ∀ j, j < n → p j = none) : (List.range n).findSome? p = none :=
  findSome_none _ _ (fun x hx => h x (List.mem_range.1 hx))

/-- The contract of orders59, for the walks. -/
def OrdersAt (l : List LOp) (A : Option Addr) (c : Nat) (fst : UInt8) (f : Nat) : Prop :=
  ∀ (o : List Nat) (v : Value) (w : World), o.length + f = l.length + 1 → Fine l o → Hist w A l → OrdV w v o →
    Calls Try.prog 7 #[.slice A l.length c, .string ⟨#[fst]⟩, v] w (OrdPost (ord l fst f o) w)

theorem expl_v {l : List LOp} {A : Option Addr} {c : Nat} {fst : UInt8} {o : List Nat} {v : Value} {w : World} (hn : l.length ≤ 14) (hf : Fine l o) (hh : Hist w A l) (ho : OrdV w v o) :
    Calls Try.prog 12 #[.slice A l.length c, .string ⟨#[fst]⟩, v] w fun r w' => r = .returned (.bool (decide (Expl l fst o))) ∧ Below w.heap.size w w' := by
  rcases ho with ⟨rfl, rfl⟩ | ⟨b, oc, rfl, h0, h1, h2⟩
  · exact expl_any l A none c 0 fst [] w hn hf hh (fun h => by simp at h)
  · exact expl_any l A _ c oc fst o w hn hf hh (fun _ => ⟨b, rfl, h2⟩)

theorem ordPost_hit {l : List LOp} {fst : UInt8} {f : Nat} {o : List Nat} {w w' : World} {v : Value} (h1 : tight l o) (h2 : Expl l fst o) (hb : Below w.heap.size w w') (hv : OrdV w' v o) :
    OrdPost (ord l fst (f + 1) o) w (.returned (.tuple #[v, .bool true])) w' :=
  ⟨hb, .inr ⟨o, v, ord_hit h1 h2, rfl, hv⟩⟩

theorem ordPost_kid {l : List LOp} {fst : UInt8} {f : Nat} {o r : List Nat} {w w' : World} {v : Value} {i : Nat} (h0 : ¬ (tight l o ∧ Expl l fst o)) (hi : i < l.length) (h : ∀ j, j < i → kid l fst f o j = none)
    (h2 : i ∉ o) (h3 : ord l fst f (o ++ [i]) = some r) (hb : Below w.heap.size w w') (hv : OrdV w' v r) :
    OrdPost (ord l fst (f + 1) o) w (.returned (.tuple #[v, .bool true])) w' :=
  ⟨hb, .inr ⟨r, v, by rw [ord_miss h0]; exact find_hit hi h (by unfold kid; rw [if_neg h2]; exact h3), rfl, hv⟩⟩

theorem ordPost_none {l : List LOp} {fst : UInt8} {f : Nat} {o : List Nat} {w w' : World} (h0 : ¬ (tight l o ∧ Expl l fst o)) (h : ∀ j, j < l.length → kid l fst f o j = none) (hb : Below w.heap.size w w') :
    OrdPost (ord l fst (f + 1) o) w (.returned (.tuple #[.slice none 0 0, .bool false])) w' :=
  ⟨hb, .inl ⟨by rw [ord_miss h0]; exact find_none h, rfl⟩⟩

theorem there_step {o : List Nat} {i j x : Nat} (hx : o[j]? = some x) : (decide (i ∈ o.take j) || (x : Int) == (i : Int)) = decide (i ∈ o.take (j + 1)) := by
  rw [take_snoc hx, Bool.eq_iff_iff]
  simp only [Bool.or_eq_true, decide_eq_true_eq, beq_iff_eq, List.mem_append, List.mem_singleton]
  constructor
  · rintro (h | h)
    · exact .inl h
    · exact .inr (by omega)
  · rintro (h | h)
    · exact .inl h
    · exact .inr (by omega)

set_option maxRecDepth 100000 in
set_option maxHeartbeats 4000000 in
/-- The loop over the next operations. -/
theorem orders_step (l : List LOp) (A : Option Addr) (c : Nat) (fst : UInt8) (f : Nat) (hn : l.length ≤ 14) (ih : Hid (OrdersAt l A c fst f)) (o : List Nat) (O : Option Addr) (oc : Nat) (w : World) (hlen : o.length + (f + 1) = l.length + 1) (hf : Fine l o) (hh : Hist w A l)
    (ho : OrdV w (.slice O o.length oc) o) :
    Calls Try.prog 7 #[.slice A l.length c, .string ⟨#[fst]⟩, .slice O o.length oc] w (OrdPost (ord l fst (f + 1) o) w) := by
  obtain ⟨i0, hi, hz0, hz1, hz2⟩ := info_parts Try.info3
  have Hf := Lib.hid hf
  have Hh := Lib.hid hh
  have Ho := Lib.hid ho
  have hcell : 0 < o.length → o.length ≤ oc ∧ ∃ ob, O = some ⟨ob, 0, none⟩ ∧ ∀ (k x : Nat), o[k]? = some x → w.cell? ⟨ob, k, none⟩ = some (.int .i64 (x : Int)) := by
    intro h0
    rcases ho with ⟨rfl, -⟩ | ⟨b, c, e, -, h3, h4⟩
    · simp at h0
    · cases e
      exact ⟨h3, b, rfl, h4⟩
  have Hcell := Lib.hid hcell
  clear hf hh ho hcell
  obtain ⟨n, hln⟩ : ∃ n, n = l.length := ⟨_, rfl⟩
  rw [← hln] at hn hlen ⊢
  have Hln := Lib.hid hln
  clear hln
  have key : ∃ (T : Bool), (T = true ↔ tight l o) ∧ ((((o.length : Int) == 0) = true ∧ T = true) ∨ (((o.length : Int) == 0) = false ∧ 0 < o.length ∧ ∃ x ob b : Nat, x < n ∧ O = some ⟨ob, 0, none⟩ ∧ A = some ⟨b, 0, none⟩ ∧
      w.cell? ⟨ob, o.length - 1, none⟩ = some (.int .i64 (x : Int)) ∧ w.cell? ⟨b, x * 4 + 3, none⟩ = some (.int .i64 (opAt l x).fin) ∧ T = decide (0 < (opAt l x).fin))) := by
    by_cases h0 : o.length = 0
    · have : o = [] := List.length_eq_zero_iff.1 h0
      subst this
      exact ⟨true, by simp [tight], .inl ⟨by simp, rfl⟩⟩
    · obtain ⟨x, hx⟩ : ∃ x, o[o.length - 1]? = some x := ⟨o[o.length - 1]'(by omega), by simp⟩
      have hxn : x < n := by rw [Hln.out]; exact Hf.out.2 x (List.mem_of_getElem? hx)
      have hn0 : 0 < n := by omega
      obtain ⟨b, hA, hop⟩ := Hh.out (by rw [← Hln.out]; exact hn0)
      obtain ⟨-, ob, hO, h2⟩ := Hcell.out (by omega)
      have Hop := Lib.hid hop
      obtain ⟨-, -, -, h3⟩ := Hop.out x (by rw [← Hln.out]; exact hxn)
      refine ⟨decide (0 < (opAt l x).fin), ?_, .inr ⟨by simpa using h0, by omega, x, ob, b, hxn, hO, hA, h2 _ x hx, h3, rfl⟩⟩
      have hl : o.getLastD 0 = x := by
        rw [List.getLastD_eq_getLast?, List.getLast?_eq_getElem?, hx]; rfl
      unfold tight
      rw [hl]
      simp only [decide_eq_true_eq]
      constructor
      · exact .inr
      · rintro (h | h)
        · subst h; simp at h0
        · exact h
  obtain ⟨T, hT, hcase⟩ := key
  have HT := Lib.hid hT
  clear hT
  have Hex : Hid (Calls Try.prog 12 #[.slice A n c, .string ⟨#[fst]⟩, .slice O o.length oc] w fun r w' => r = .returned (.bool (decide (Expl l fst o))) ∧ Below w.heap.size w w') := by
    have := expl_v (l := l) (c := c) (fst := fst) (by rw [← Hln.out]; exact hn) Hf.out Hh.out Ho.out
    rwa [← Hln.out] at this
  rcases hcase with ⟨hz, rfl⟩ | ⟨hz, h0, x, ob, b, hxn, rfl, rfl, hxc, h3, hTx⟩
  · have h0 : o.length = 0 := by simpa using hz
    have H0 := Lib.hid h0
    have h00 : o = [] := List.length_eq_zero_iff.1 h0
    have H00 := Lib.hid h00
    clear h00 hz
    have hv : O = none ∧ oc = 0 := by
      rcases Ho.out with ⟨-, h⟩ | ⟨_, _, _, h, _⟩
      · simp only [Value.slice.injEq] at h; exact ⟨h.1, h.2.2⟩
      · omega
    obtain ⟨rfl, rfl⟩ := hv
    have Ho' := Lib.hid Ho.out
    have Hex' := Lib.hid Hex.out
    clear Ho Hex
    rw [h0] at Ho' Hex' ⊢
    clear h0
    have Ho := Lib.hid Ho'.out
    have Hex := Lib.hid Hex'.out
    clear Ho' Hex'
    go_enter Try.func7, Try.ntmps7
    by_cases hE : Expl l fst o
    · go_wp2_with fail
      with_reducible refine Hex.out.mono ?_
      rintro e w1 ⟨rfl, hb1⟩
      rw [decide_eq_true hE]
      go_wp2
      go_ret2
      exact ordPost_hit (HT.out.1 (by trivial)) hE hb1 (Ho.out.below hb1)
    · go_wp2_with fail
      with_reducible refine Hex.out.mono ?_
      rintro e w1 ⟨rfl, hb1⟩
      rw [decide_eq_false hE]
      have Hno : Hid (¬ (tight l o ∧ Expl l fst o)) := fun h => hE h.2
      clear hE
      go_wp2
      go_loopw [37, 8, 9, 11, 12, 13] (fun i _ _ _ _ _ wr => ∃ k : Nat, k ≤ n ∧ i = .int .i64 k ∧ Hid (∀ j, j < k → kid l fst f o j = none) ∧ Below w.heap.size w wr) (fun i _ _ _ _ _ _ => n - (intOf i).toNat)
      case atStart => exact ⟨0, by omega, rfl, fun j hj => by omega, hb1⟩
      case round =>
        obtain ⟨k, hk, rfl, hkid, hb⟩ := hrel
        by_cases hlt : k < n
        · go_wp2_with fail
          obtain ⟨wo, rfl⟩ : ∃ wo : World, wo = wr := ⟨_, rfl⟩
          go_loopw [42, 9, 11] (fun j th _ wr => ∃ q : Nat, q ≤ 0 ∧ j = .int .i64 q ∧ th = .bool (decide (k ∈ o.take q)) ∧ Below w.heap.size w wr) (fun j _ _ _ => 0 - (intOf j).toNat)
          case atStart => exact ⟨0, by omega, rfl, by simp, hb⟩
          case round =>
            obtain ⟨q, hq, rfl, rfl, hb⟩ := hrel
            by_cases hlq : q < 0
            · exfalso; omega
            · obtain rfl : q = 0 := by omega
              rw [show o.take 0 = o from by rw [H00.out]; rfl]
              by_cases hm : k ∈ o
              · have Hm := Lib.hid hm
                clear hm
                rw [decide_eq_true Hm.out]
                go_wp2_with fail
                go_roundw
                case rel => exact ⟨k + 1, by omega, by go_num, kid_step hkid.out (by unfold kid; rw [if_pos Hm.out]), hb⟩
                case measure => simp [intOf]; omega
              · have Hm := Lib.hid hm
                clear hm
                rw [decide_eq_false Hm.out]
                have hn2 : Fine l (o ++ [k]) := Hf.out.snoc (by rw [← Hln.out]; exact hlt) Hm.out
                have Hn2 := Lib.hid hn2
                clear hn2
                have hol := Hf.out.length_le
                rw [← Hln.out] at hol
                go_wp2_with (first | (at_builtin; refine wpList_append_grows _ rfl (.tmp 62) (.tmp 64) 35 rfl 3 i0 (.int .i64 0) 1 8 Try.underlying35 hi hz0 hz1 hz2 rfl (by decide) none 0 0 (nats o) rfl (fun _ => ⟨rfl, rfl⟩) (by rw [H00.out]; rfl) (fun b hb => by cases hb) ⟨wr.heap.size, 0, none⟩ 1 1 [.int .i64 k] rfl rfl (cell_one_new _ _ _) (by intro u hu; simp at hu; subst hu; rfl) (by omega) (by unfold maxLen; omega) (by omega) ?_; intro v' w2 hown2 hgrow2))
                have hb2 : Below w.heap.size w w2 := (hb.alloc hb.size _).grown hgrow2 (by have := hb.size; simp; omega) (by intro k h; cases h)
                have hov : OrdV w2 v' (o ++ [k]) := OrdV.of_own (by simpa [nats] using hown2) (by simp; exact H00.out) (by simp)
                have Hcall : Hid (Calls Try.prog 7 #[.slice A n c, .string ⟨#[fst]⟩, v'] w2 (OrdPost (ord l fst f (o ++ [k])) w2)) := by
                  have := ih.out (o ++ [k]) v' w2 (by rw [← Hln.out]; simp; omega) Hn2.out (Hh.out.below hb2) hov
                  rwa [← Hln.out] at this
                have Hov := Lib.hid hov
                have Hb2 := Lib.hid hb2
                clear hown2 hgrow2 hov hb2
                with_reducible refine Hcall.out.mono ?_
                rintro e w3 ⟨hb3, ⟨hr, rfl⟩ | ⟨r, v3, hr, rfl, hv3⟩⟩
                · have hb4 : Below w.heap.size w w3 := Hb2.out.trans (hb3.mono Hb2.out.size)
                  have Hr := Lib.hid hr
                  clear hr
                  go_wp2_with fail
                  go_roundw
                  case rel => exact ⟨k + 1, by omega, by go_num, kid_step hkid.out (by unfold kid; rw [if_neg Hm.out]; exact Hr.out), hb4⟩
                  case measure => simp [intOf]; omega
                · have hb4 : Below w.heap.size w w3 := Hb2.out.trans (hb3.mono Hb2.out.size)
                  have Hr := Lib.hid hr
                  have Hv3 := Lib.hid hv3
                  clear hr hv3
                  go_wp2_with fail
                  go_ret2
                  exact ordPost_kid Hno.out (by rw [← Hln.out]; exact hlt) hkid.out Hm.out Hr.out hb4 Hv3.out
        · obtain rfl : k = n := by omega
          go_wp2_with fail
          go_ret2
          exact ordPost_none Hno.out (by rw [← Hln.out]; exact hkid.out) hb
  · have HTx := Lib.hid hTx
    clear hTx
    go_enter Try.func7, Try.ntmps7
    by_cases hfin : 0 < (opAt l x).fin
    · have hTt : T = true := by rw [HTx.out]; simpa using hfin
      have HTt := Lib.hid hTt
      clear hTt
      by_cases hE : Expl l fst o
      · go_wp2_with fail
        with_reducible refine Hex.out.mono ?_
        rintro e w1 ⟨rfl, hb1⟩
        rw [decide_eq_true hE]
        go_wp2
        go_ret2
        exact ordPost_hit (HT.out.1 HTt.out) hE hb1 (Ho.out.below hb1)
      · go_wp2_with fail
        with_reducible refine Hex.out.mono ?_
        rintro e w1 ⟨rfl, hb1⟩
        rw [decide_eq_false hE]
        have Hno : Hid (¬ (tight l o ∧ Expl l fst o)) := fun h => hE h.2
        clear hE
        go_wp2
        go_loopw [37, 8, 9, 11, 12, 13] (fun i _ _ _ _ _ wr => ∃ k : Nat, k ≤ n ∧ i = .int .i64 k ∧ Hid (∀ j, j < k → kid l fst f o j = none) ∧ Below w.heap.size w wr) (fun i _ _ _ _ _ _ => n - (intOf i).toNat)
        case atStart => exact ⟨0, by omega, rfl, fun j hj => by omega, hb1⟩
        case round =>
          obtain ⟨k, hk, rfl, hkid, hb⟩ := hrel
          by_cases hlt : k < n
          · go_wp2_with fail
            obtain ⟨wo, rfl⟩ : ∃ wo : World, wo = wr := ⟨_, rfl⟩
            go_loopw [42, 9, 11] (fun j th _ wr => ∃ q : Nat, q ≤ o.length ∧ j = .int .i64 q ∧ th = .bool (decide (k ∈ o.take q)) ∧ Below w.heap.size w wr) (fun j _ _ _ => o.length - (intOf j).toNat)
            case atStart => exact ⟨0, by omega, rfl, by simp, hb⟩
            case round =>
              obtain ⟨q, hq, rfl, rfl, hb⟩ := hrel
              by_cases hlq : q < o.length
              · obtain ⟨hoc, ob, hO, h2⟩ := Hcell.out (by omega)
                cases hO
                obtain ⟨x, hx⟩ : ∃ x, o[q]? = some x := ⟨o[q], by simp [hlq]⟩
                have hxc := cell_later hb (h2 q x hx)
                have hst := there_step (i := k) hx
                have Hst := Lib.hid hst
                clear hst h2 hx
                by_cases hm : k ∈ o.take q
                · rw [decide_eq_true hm] at Hst ⊢
                  go_wp2_with fail
                  go_roundw
                  case rel => exact ⟨q + 1, by omega, by go_num, by rw [← Hst.out]; simp, hb⟩
                  case measure => simp [intOf]; omega
                · rw [decide_eq_false hm] at Hst ⊢
                  go_wp2_with fail
                  go_roundw
                  case rel => exact ⟨q + 1, by omega, by go_num, by rw [← Hst.out]; simp, hb⟩
                  case measure => simp [intOf]; omega
              · obtain rfl : q = o.length := by omega
                simp only [List.take_length]
                by_cases hm : k ∈ o
                · have Hm := Lib.hid hm
                  clear hm
                  rw [decide_eq_true Hm.out]
                  go_wp2_with fail
                  go_roundw
                  case rel => exact ⟨k + 1, by omega, by go_num, kid_step hkid.out (by unfold kid; rw [if_pos Hm.out]), hb⟩
                  case measure => simp [intOf]; omega
                · have Hm := Lib.hid hm
                  clear hm
                  rw [decide_eq_false Hm.out]
                  have hn2 : Fine l (o ++ [k]) := Hf.out.snoc (by rw [← Hln.out]; exact hlt) Hm.out
                  have Hn2 := Lib.hid hn2
                  clear hn2
                  have hol := Hf.out.length_le
                  rw [← Hln.out] at hol
                  obtain ⟨hoc, ob', hO, h2⟩ := Hcell.out h0
                  cases hO
                  have H2 := Lib.hid h2
                  clear h2
                  go_wp2_with (first | (at_builtin; refine wpList_append_grows _ rfl (.tmp 62) (.tmp 64) 35 rfl 3 i0 (.int .i64 0) 1 8 Try.underlying35 hi hz0 hz1 hz2 rfl (by decide) (some ⟨ob, 0, none⟩) o.length o.length (nats o) rfl (fun h => by cases h) (by simp [nats]) (nats_cells (fun q x hx => by rw [World.cell?_alloc_past _ _ _ (cell_lt (cell_later hb (H2.out q x hx)))]; exact cell_later hb (H2.out q x hx))) ⟨wr.heap.size, 0, none⟩ 1 1 [.int .i64 k] rfl rfl (cell_one_new _ _ _) (by intro u hu; simp at hu; subst hu; rfl) (by omega) (by unfold maxLen; omega) (by omega) ?_; intro v' w2 hown2 hgrow2))
                  have hb2 : Below w.heap.size w w2 := (hb.alloc hb.size _).grown hgrow2 (by have := hb.size; simp; omega) (by intro k h; cases h)
                  have hov : OrdV w2 v' (o ++ [k]) := OrdV.of_own (by simpa [nats] using hown2) (by simp) (by simp)
                  have Hcall : Hid (Calls Try.prog 7 #[.slice (some ⟨b, 0, none⟩) n c, .string ⟨#[fst]⟩, v'] w2 (OrdPost (ord l fst f (o ++ [k])) w2)) := by
                    have := ih.out (o ++ [k]) v' w2 (by rw [← Hln.out]; simp; omega) Hn2.out (Hh.out.below hb2) hov
                    rwa [← Hln.out] at this
                  have Hov := Lib.hid hov
                  have Hb2 := Lib.hid hb2
                  clear hown2 hgrow2 hov hb2
                  with_reducible refine Hcall.out.mono ?_
                  rintro e w3 ⟨hb3, ⟨hr, rfl⟩ | ⟨r, v3, hr, rfl, hv3⟩⟩
                  · have hb4 : Below w.heap.size w w3 := Hb2.out.trans (hb3.mono Hb2.out.size)
                    have Hr := Lib.hid hr
                    clear hr
                    go_wp2_with fail
                    go_roundw
                    case rel => exact ⟨k + 1, by omega, by go_num, kid_step hkid.out (by unfold kid; rw [if_neg Hm.out]; exact Hr.out), hb4⟩
                    case measure => simp [intOf]; omega
                  · have hb4 : Below w.heap.size w w3 := Hb2.out.trans (hb3.mono Hb2.out.size)
                    have Hr := Lib.hid hr
                    have Hv3 := Lib.hid hv3
                    clear hr hv3
                    go_wp2_with fail
                    go_ret2
                    exact ordPost_kid Hno.out (by rw [← Hln.out]; exact hlt) hkid.out Hm.out Hr.out hb4 Hv3.out
          · obtain rfl : k = n := by omega
            go_wp2_with fail
            go_ret2
            exact ordPost_none Hno.out (by rw [← Hln.out]; exact hkid.out) hb
    · have Hno : Hid (¬ (tight l o ∧ Expl l fst o)) := fun h => hfin (by have := HT.out.2 h.1; rw [HTx.out] at this; simpa using this)
      have hb1 : Below w.heap.size w w := Below.refl _ _
      go_wp2_with fail
      go_loopw [37, 8, 9, 11, 12, 13] (fun i _ _ _ _ _ wr => ∃ k : Nat, k ≤ n ∧ i = .int .i64 k ∧ Hid (∀ j, j < k → kid l fst f o j = none) ∧ Below w.heap.size w wr) (fun i _ _ _ _ _ _ => n - (intOf i).toNat)
      case atStart => exact ⟨0, by omega, rfl, fun j hj => by omega, hb1⟩
      case round =>
        obtain ⟨k, hk, rfl, hkid, hb⟩ := hrel
        by_cases hlt : k < n
        · go_wp2_with fail
          obtain ⟨wo, rfl⟩ : ∃ wo : World, wo = wr := ⟨_, rfl⟩
          go_loopw [42, 9, 11] (fun j th _ wr => ∃ q : Nat, q ≤ o.length ∧ j = .int .i64 q ∧ th = .bool (decide (k ∈ o.take q)) ∧ Below w.heap.size w wr) (fun j _ _ _ => o.length - (intOf j).toNat)
          case atStart => exact ⟨0, by omega, rfl, by simp, hb⟩
          case round =>
            obtain ⟨q, hq, rfl, rfl, hb⟩ := hrel
            by_cases hlq : q < o.length
            · obtain ⟨hoc, ob, hO, h2⟩ := Hcell.out (by omega)
              cases hO
              obtain ⟨x, hx⟩ : ∃ x, o[q]? = some x := ⟨o[q], by simp [hlq]⟩
              have hxc := cell_later hb (h2 q x hx)
              have hst := there_step (i := k) hx
              have Hst := Lib.hid hst
              clear hst h2 hx
              by_cases hm : k ∈ o.take q
              · rw [decide_eq_true hm] at Hst ⊢
                go_wp2_with fail
                go_roundw
                case rel => exact ⟨q + 1, by omega, by go_num, by rw [← Hst.out]; simp, hb⟩
                case measure => simp [intOf]; omega
              · rw [decide_eq_false hm] at Hst ⊢
                go_wp2_with fail
                go_roundw
                case rel => exact ⟨q + 1, by omega, by go_num, by rw [← Hst.out]; simp, hb⟩
                case measure => simp [intOf]; omega
            · obtain rfl : q = o.length := by omega
              simp only [List.take_length]
              by_cases hm : k ∈ o
              · have Hm := Lib.hid hm
                clear hm
                rw [decide_eq_true Hm.out]
                go_wp2_with fail
                go_roundw
                case rel => exact ⟨k + 1, by omega, by go_num, kid_step hkid.out (by unfold kid; rw [if_pos Hm.out]), hb⟩
                case measure => simp [intOf]; omega
              · have Hm := Lib.hid hm
                clear hm
                rw [decide_eq_false Hm.out]
                have hn2 : Fine l (o ++ [k]) := Hf.out.snoc (by rw [← Hln.out]; exact hlt) Hm.out
                have Hn2 := Lib.hid hn2
                clear hn2
                have hol := Hf.out.length_le
                rw [← Hln.out] at hol
                obtain ⟨hoc, ob', hO, h2⟩ := Hcell.out h0
                cases hO
                have H2 := Lib.hid h2
                clear h2
                go_wp2_with (first | (at_builtin; refine wpList_append_grows _ rfl (.tmp 62) (.tmp 64) 35 rfl 3 i0 (.int .i64 0) 1 8 Try.underlying35 hi hz0 hz1 hz2 rfl (by decide) (some ⟨ob, 0, none⟩) o.length o.length (nats o) rfl (fun h => by cases h) (by simp [nats]) (nats_cells (fun q x hx => by rw [World.cell?_alloc_past _ _ _ (cell_lt (cell_later hb (H2.out q x hx)))]; exact cell_later hb (H2.out q x hx))) ⟨wr.heap.size, 0, none⟩ 1 1 [.int .i64 k] rfl rfl (cell_one_new _ _ _) (by intro u hu; simp at hu; subst hu; rfl) (by omega) (by unfold maxLen; omega) (by omega) ?_; intro v' w2 hown2 hgrow2))
                have hb2 : Below w.heap.size w w2 := (hb.alloc hb.size _).grown hgrow2 (by have := hb.size; simp; omega) (by intro k h; cases h)
                have hov : OrdV w2 v' (o ++ [k]) := OrdV.of_own (by simpa [nats] using hown2) (by simp) (by simp)
                have Hcall : Hid (Calls Try.prog 7 #[.slice (some ⟨b, 0, none⟩) n c, .string ⟨#[fst]⟩, v'] w2 (OrdPost (ord l fst f (o ++ [k])) w2)) := by
                  have := ih.out (o ++ [k]) v' w2 (by rw [← Hln.out]; simp; omega) Hn2.out (Hh.out.below hb2) hov
                  rwa [← Hln.out] at this
                have Hov := Lib.hid hov
                have Hb2 := Lib.hid hb2
                clear hown2 hgrow2 hov hb2
                with_reducible refine Hcall.out.mono ?_
                rintro e w3 ⟨hb3, ⟨hr, rfl⟩ | ⟨r, v3, hr, rfl, hv3⟩⟩
                · have hb4 : Below w.heap.size w w3 := Hb2.out.trans (hb3.mono Hb2.out.size)
                  have Hr := Lib.hid hr
                  clear hr
                  go_wp2_with fail
                  go_roundw
                  case rel => exact ⟨k + 1, by omega, by go_num, kid_step hkid.out (by unfold kid; rw [if_neg Hm.out]; exact Hr.out), hb4⟩
                  case measure => simp [intOf]; omega
                · have hb4 : Below w.heap.size w w3 := Hb2.out.trans (hb3.mono Hb2.out.size)
                  have Hr := Lib.hid hr
                  have Hv3 := Lib.hid hv3
                  clear hr hv3
                  go_wp2_with fail
                  go_ret2
                  exact ordPost_kid Hno.out (by rw [← Hln.out]; exact hlt) hkid.out Hm.out Hr.out hb4 Hv3.out
        · obtain rfl : k = n := by omega
          go_wp2_with fail
          go_ret2
          exact ordPost_none Hno.out (by rw [← Hln.out]; exact hkid.out) hb


theorem orders_any (l : List LOp) (A : Option Addr) (c : Nat) (fst : UInt8) (hn : l.length ≤ 14) : ∀ f, OrdersAt l A c fst f
  | 0 => by
    intro o v w h hf
    have := hf.length_le
    omega
  | f + 1 => by
    intro o v w h hf hh ho
    have ih : Hid (OrdersAt l A c fst f) := orders_any l A c fst hn f
    rcases ho with ⟨rfl, rfl⟩ | ⟨b, oc, rfl, h0, h1, h2⟩
    · exact orders_step l A c fst f hn ih [] none 0 w h hf hh (.inl ⟨rfl, rfl⟩)
    · exact orders_step l A c fst f hn ih o _ oc w h hf hh (.inr ⟨b, oc, rfl, h0, h1, h2⟩)
end Go.Proofs.Ytbegeijofpgliaa
