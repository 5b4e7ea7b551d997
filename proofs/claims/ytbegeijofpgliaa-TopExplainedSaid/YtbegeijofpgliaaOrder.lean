/-
  The walks of Order and of Linear.
-/
import Derived.Test.YtbegeijofpgliaaFindC
import Derived.Test.YtbegeijofpgliaaCheck
import Derived.Laws.EntriesVeiled
namespace Go.Proofs.Ytbegeijofpgliaa
open Go.RowKit Go.Maps

theorem find_any (p : Par) (hp : p.Ok) : ∀ f, FindAt p f
  | 0 => by
    intro o ov w N Q h hf
    have := hf.length_le
    omega
  | f + 1 => by
    intro o ov w N Q h hf hx ho ht hN hQ
    have ih : Hid (FindAt p f) := find_any p hp f
    exact find_step p hp f ih o ov w N Q h hf hx ho ht hN hQ

/-- A row of numbers, however it lies. -/
def RowV (w : World) (v : Value) (o : List Nat) : Prop := ∃ A c, v = .slice A o.length c ∧ ∀ (k x : Nat), o[k]? = some x → ∃ b, A = some ⟨b, 0, none⟩ ∧ w.cell? ⟨b, k, none⟩ = some (.int .i64 (x : Int))

theorem RowV.below {w w' : World} {v : Value} {o : List Nat} (h : RowV w v o) (hb : Below w.heap.size w w') : RowV w' v o := by
  obtain ⟨A, c, e, h⟩ := h
  exact ⟨A, c, e, fun k x hx => by obtain ⟨b, e, hc⟩ := h k x hx; exact ⟨b, e, cell_later hb hc⟩⟩

theorem RowV.of_own {w : World} {base : Nat} {v : Value} {o : List Nat} (h : w.ownsRow base 3 1 v o.length (nats o)) : RowV w v o := by
  by_cases h0 : 0 < o.length
  · rcases OrdV.of_own h rfl h0 with ⟨rfl, _⟩ | ⟨b, c, e, _, _, h4⟩
    · simp at h0
    · exact ⟨_, c, e, fun k x hx => ⟨b, rfl, h4 k x hx⟩⟩
  · obtain ⟨_, ⟨e, _⟩ | ⟨g, cap, cur, e, _⟩⟩ := h
    · exact ⟨none, 0, by rw [e, show o.length = 0 from by omega], fun k x hx => by
        have := (List.getElem?_eq_some_iff.1 hx).1
        omega⟩
    · exact ⟨_, cap, e, fun k x hx => by
        have := (List.getElem?_eq_some_iff.1 hx).1
        omega⟩

theorem RowV.of_ordV {w : World} {v : Value} {o : List Nat} (h : OrdV w v o) : RowV w v o := by
  rcases h with ⟨rfl, rfl⟩ | ⟨b, c, e, _, _, h4⟩
  · exact ⟨none, 0, rfl, fun k x hx => by simp at hx⟩
  · exact ⟨_, c, e, fun k x hx => ⟨b, rfl, h4 k x hx⟩⟩

/-- What Order answers of a history that may be. -/
def OrderPost (r : Option (List Nat)) (w : World) (e : Ending) (w' : World) : Prop :=
  Below w.heap.size w w' ∧ ((r = none ∧ e = .returned (.tuple #[.slice none 0 0, .bool false, .int .i64 0])) ∨ ∃ o v, r = some o ∧ e = .returned (.tuple #[v, .bool true, .int .i64 0]) ∧ RowV w' v o)

theorem checkE_zero {l : List LOp} (hn : l.length ≤ 14) (hb : ¬ anyBad l) : checkE l = 0 := by
  unfold checkE; rw [if_neg (by omega), if_neg hb]

theorem heap_at (w : World) (o : Obj) (n : Nat) (h : n = w.heap.size) : (w.alloc o).heap[n]? = some o := by subst h; exact heap_new w o
theorem heap_past (w : World) (o : Obj) (n : Nat) (h : n < w.heap.size) : (w.alloc o).heap[n]? = w.heap[n]? := Below.heap_alloc w o n h

def parOf (l : List LOp) (fst : UInt8) (w : World) (A : Option Addr) (c F fc B BB bc : Nat) : Par :=
  { l := l, fst := fst, W := w, A := A, c := c, F := F, fc := fc, be := B + 1, bt := B + 1 + 1 + 1, bf := w.heap.size + 1, bl := w.heap.size, bb := B, bo := B + 1 + 1 + 1 + 1, bd := B + 1 + 1 + 1 + 1 + 1, M := B + 1 + 1, BB := BB, bc := bc, ob := B + 1 + 1 + 1 + 1 + 1 + 1 }

/-- The world in which the search begins. -/
def begun (w2 : World) (Ba : Option Addr) (n bc en : Nat) (caps : Array Value) : World :=
  (((((w2.alloc (.cells #[.slice Ba n bc] 35)).alloc (.cells #[.int .i64 (en : Int)] 3)).alloc (.map #[] 0)).alloc (.cells #[.map (some (w2.heap.size + 1 + 1))] 47)).alloc (.cells #[.slice none 0 0] 35)).alloc (.cells #[.func (.func 14) #[] caps] 48)

theorem begun_size (w2 : World) (Ba : Option Addr) (n bc en : Nat) (caps : Array Value) : (begun w2 Ba n bc en caps).heap.size = w2.heap.size + 1 + 1 + 1 + 1 + 1 + 1 := by simp [begun]

theorem begun_old (w2 : World) (Ba : Option Addr) (n bc en : Nat) (caps : Array Value) (k : Nat) (h : k < w2.heap.size) : (begun w2 Ba n bc en caps).heap[k]? = w2.heap[k]? := by
  unfold begun
  iterate 6 rw [heap_past _ _ _ (by first | omega | (simp; omega))]

theorem begun_below (w2 : World) (Ba : Option Addr) (n bc en : Nat) (caps : Array Value) : Below w2.heap.size w2 (begun w2 Ba n bc en caps) :=
  ⟨rfl, rfl, rfl, by rw [begun_size]; omega, fun k h => begun_old w2 Ba n bc en caps k h⟩

theorem begun_at (w2 : World) (Ba : Option Addr) (n bc en : Nat) (caps : Array Value) :
    (begun w2 Ba n bc en caps).heap[w2.heap.size]? = some (.cells #[.slice Ba n bc] 35) ∧ (begun w2 Ba n bc en caps).heap[w2.heap.size + 1]? = some (.cells #[.int .i64 (en : Int)] 3) ∧ (begun w2 Ba n bc en caps).heap[w2.heap.size + 1 + 1]? = some (.map #[] 0) ∧
    (begun w2 Ba n bc en caps).heap[w2.heap.size + 1 + 1 + 1]? = some (.cells #[.map (some (w2.heap.size + 1 + 1))] 47) ∧ (begun w2 Ba n bc en caps).heap[w2.heap.size + 1 + 1 + 1 + 1]? = some (.cells #[.slice none 0 0] 35) ∧ (begun w2 Ba n bc en caps).heap[w2.heap.size + 1 + 1 + 1 + 1 + 1]? = some (.cells #[.func (.func 14) #[] caps] 48) := by
  unfold begun
  refine ⟨?_, ?_, ?_, ?_, ?_, ?_⟩
  · iterate 5 rw [heap_past _ _ _ (by simp; try omega)]
    rw [heap_at _ _ _ (by simp)]
  · iterate 4 rw [heap_past _ _ _ (by simp; try omega)]
    rw [heap_at _ _ _ (by simp)]
  · iterate 3 rw [heap_past _ _ _ (by simp; try omega)]
    rw [heap_at _ _ _ (by simp)]
  · iterate 2 rw [heap_past _ _ _ (by simp; try omega)]
    rw [heap_at _ _ _ (by simp)]
  · rw [heap_past _ _ _ (by simp; try omega)]
    rw [heap_at _ _ _ (by simp)]
  · rw [heap_at _ _ _ (by simp)]

theorem order_ready {l : List LOp} {fst : UInt8} {w w2 : World} {A Ba : Option Addr} {c F fc BB bc : Nat} (hn : l.length ≤ 14) (hh : Hist w A l) (hF : w.cell? ⟨F, 0, none⟩ = some (.int .u8 fst.toNat)) (hb : Below w.heap.size w w2) (hs : w.heap.size + 2 ≤ w2.heap.size)
    (hc0 : w2.cell? ⟨w.heap.size, 0, none⟩ = some (.slice A l.length c)) (hc1 : w2.cell? ⟨w.heap.size + 1, 0, none⟩ = some (.slice (some ⟨F, 0, none⟩) 1 fc)) (hBl : BB < w2.heap.size) (hBa : 0 < l.length → Ba = some ⟨BB, 0, none⟩)
    (hBc : ∀ k, k < l.length → w2.cell? ⟨BB, k, none⟩ = some (.int .i64 (aheadSet l k l.length : Nat))) :
    (parOf l fst w A c F fc w2.heap.size BB bc).Ok ∧ Fx (parOf l fst w A c F fc w2.heap.size BB bc) (begun w2 Ba l.length bc (endedSet l l.length) (parOf l fst w A c F fc w2.heap.size BB bc).caps) ∧
      Holds (parOf l fst w A c F fc w2.heap.size BB bc) (begun w2 Ba l.length bc (endedSet l l.length) (parOf l fst w A c F fc w2.heap.size BB bc).caps) (.slice none 0 0) [] ∧
      Tried (parOf l fst w A c F fc w2.heap.size BB bc) (begun w2 Ba l.length bc (endedSet l l.length) (parOf l fst w A c F fc w2.heap.size BB bc).caps) 0 (fun _ => False) := by
  obtain ⟨p, hp⟩ : ∃ p, p = parOf l fst w A c F fc w2.heap.size BB bc := ⟨_, rfl⟩
  rw [← hp]
  obtain ⟨a0, a1, a2, a3, a4, a5⟩ := begun_at w2 Ba l.length bc (endedSet l l.length) p.caps
  have hbl := begun_below w2 Ba l.length bc (endedSet l l.length) p.caps
  have hsz := begun_size w2 Ba l.length bc (endedSet l l.length) p.caps
  generalize begun w2 Ba l.length bc (endedSet l l.length) p.caps = W at *
  refine ⟨?_, ?_, ?_, ?_⟩
  · subst hp
    constructor
    case n14 => exact hn
    case hist => exact hh
    case first => exact hF
    all_goals (simp only [parOf]; omega)
  · subst hp
    refine ⟨?_, ?_, cell_of_one a1, cell_of_one a3, cell_later hbl hc1, cell_later hbl hc0, fun h0 => ?_, fun k hk => cell_later hbl (hBc k hk), cell_of_one a5⟩
    · simp only [parOf]; omega
    · exact hb.trans (hbl.mono hb.size)
    · have e : Ba = some ⟨BB, 0, none⟩ := hBa h0
      have := cell_of_one a0
      rw [e] at this
      exact this
  · subst hp
    exact ⟨a4, World.ownsRow_nil _ _ _ _⟩
  · subst hp
    refine ⟨.map [], ⟨#[], 0, a2, ?_, by simp, rfl⟩, ?_⟩
    · obtain ⟨es, cl, h1, h2, _⟩ := World.ownsMap_made w Try.prog 50 (plainElem (H := Unit) Try.prog 3)
      rw [heap_new] at h1
      cases h1
      exact h2
    · intro o _ cc h h0
      simp [tells, DataW.atKey] at h
      omega

set_option maxRecDepth 100000 in
set_option maxHeartbeats 4000000 in
theorem order_any (l : List LOp) (A : Option Addr) (c F fc : Nat) (fst : UInt8) (w : World) (hn : l.length ≤ 14) (hh : Hist w A l) (hF : w.cell? ⟨F, 0, none⟩ = some (.int .u8 fst.toNat)) (hb : ¬ anyBad l) :
    Calls Try.prog 9 #[.slice A l.length c, .slice (some ⟨F, 0, none⟩) 1 fc] w (OrderPost (dfs l fst (l.length + 1) []) w) := by
  have hmm := @run_makeMap Try.prog
  have Hh := Lib.hid hh
  have hB0 := below_alloc1 w (.cells #[.slice A l.length c] 29)
  have hB1 := hB0.trans ((below_alloc1 (w.alloc (.cells #[.slice A l.length c] 29)) (.cells #[.slice (some ⟨F, 0, none⟩) 1 fc] 23)).mono hB0.size)
  have hck := check_any l A c ((w.alloc (.cells #[.slice A l.length c] 29)).alloc (.cells #[.slice (some ⟨F, 0, none⟩) 1 fc] 23)) hn (hh.below hB1)
  rw [checkE_zero hn hb] at hck
  have Hck := Lib.hid hck
  have HB1 := Lib.hid hB1
  clear hh hB0 hB1 hck hb
  go_enter Try.func9, Try.ntmps9
  go_wp2_with fail
  with_reducible refine Hck.out.mono ?_
  rintro e w1 ⟨rfl, hb1⟩
  have hc0 := cell_later hb1 (show ((w.alloc (.cells #[.slice A l.length c] 29)).alloc (.cells #[.slice (some ⟨F, 0, none⟩) 1 fc] 23)).cell? ⟨w.heap.size, 0, none⟩ = some (.slice A l.length c) from by rw [World.cell?_alloc_past _ _ _ (by simp), World.cell?_alloc_at _ _ _ _ rfl]; rfl)
  have hc1 := cell_later hb1 (show ((w.alloc (.cells #[.slice A l.length c] 29)).alloc (.cells #[.slice (some ⟨F, 0, none⟩) 1 fc] 23)).cell? ⟨w.heap.size + 1, 0, none⟩ = some (.slice (some ⟨F, 0, none⟩) 1 fc) from by rw [World.cell?_alloc_at _ _ _ _ (by simp)]; rfl)
  have hsz1 : w.heap.size + 2 ≤ w1.heap.size := by have := hb1.size; simp at this; omega
  have hbw : Below w.heap.size w w1 := HB1.out.trans (hb1.mono HB1.out.size)
  have hah := ahead_any l A c w1 hn (Hh.out.below hbw)
  have Hah := Lib.hid hah
  have Hbw := Lib.hid hbw
  clear hb1 hah hbw
  go_wp2_with fail
  with_reducible refine Hah.out.mono ?_
  rintro e w2 ⟨v, rfl, hown, hb2⟩
  have hc0 := cell_later hb2 hc0
  have hc1 := cell_later hb2 hc1
  have hsz2 : w.heap.size + 2 ≤ w2.heap.size := by have := hb2.size; omega
  have hbw2 : Below w.heap.size w w2 := Hbw.out.trans (hb2.mono Hbw.out.size)
  have Hbw2 := Lib.hid hbw2
  have Hown := Lib.hid hown
  have hrow : ∃ (Ba : Option Addr) (bc BB : Nat), v = .slice Ba l.length bc ∧ BB < w2.heap.size ∧ (0 < l.length → Ba = some ⟨BB, 0, none⟩) ∧ ∀ k, k < l.length → w2.cell? ⟨BB, k, none⟩ = some (.int .i64 (aheadSet l k l.length : Nat)) := by
    obtain ⟨Ba, bc, e, hc⟩ := RowV.of_own (o := (List.range l.length).map fun i => aheadSet l i l.length) (by simpa using hown)
    simp only [List.length_map, List.length_range] at e
    by_cases h0 : 0 < l.length
    · obtain ⟨BB, e2, h2⟩ := hc 0 (aheadSet l 0 l.length) (by simp [h0])
      refine ⟨Ba, bc, BB, e, cell_lt h2, fun _ => e2, ?_⟩
      intro k hk
      obtain ⟨BB', e3, h3⟩ := hc k (aheadSet l k l.length) (by simp [hk])
      rw [e2] at e3
      cases e3
      exact h3
    · exact ⟨Ba, bc, 0, e, by omega, fun h => absurd h h0, fun k hk => by omega⟩
  obtain ⟨Ba, bc, BB, rfl, hBl, hBa, hBc⟩ := hrow
  have HBa := Lib.hid hBa
  have HBc := Lib.hid hBc
  clear hb2 hbw2 hown hBa hBc
  have hfull : 0 + 15 ^ (l.length + 1) ≤ maxLen := by
    have h1 : 15 ^ (l.length + 1) ≤ 15 ^ 15 := Nat.pow_le_pow_right (by omega) (by omega)
    have h2 : 15 ^ 15 ≤ maxLen := by decide
    omega
  obtain ⟨r1, r2, r3, r4⟩ := order_ready hn Hh.out hF Hbw2.out hsz2 hc0 hc1 hBl HBa.out HBc.out
  have Hfx := Lib.hid (find_any _ r1 (l.length + 1) [] (.slice none 0 0) _ 0 (fun _ => False) (by simp [parOf]) ⟨by simp, by simp⟩ r2 r3 r4 hfull (fun _ _ h => h.elim))
  have Hfind : Hid (Calls Try.prog 14 #[.agg #[.int .i64 0, .int .i64 (-1)], .pointer (some ⟨w2.heap.size + 1, 0, none⟩), .pointer (some ⟨w2.heap.size + 1 + 1 + 1, 0, none⟩), .pointer (some ⟨w.heap.size + 1, 0, none⟩), .pointer (some ⟨w.heap.size, 0, none⟩), .pointer (some ⟨w2.heap.size, 0, none⟩),
      .pointer (some ⟨w2.heap.size + 1 + 1 + 1 + 1, 0, none⟩), .pointer (some ⟨w2.heap.size + 1 + 1 + 1 + 1 + 1, 0, none⟩)]
      ((((((w2.alloc (.cells #[.slice Ba l.length bc] 35)).alloc (.cells #[.int .i64 (endedSet l l.length : Nat)] 3)).alloc (.map #[] 0)).alloc (.cells #[.map (some (w2.heap.size + 1 + 1))] 47)).alloc (.cells #[.slice none 0 0] 35)).alloc
        (.cells #[.func (.func 14) #[] #[.pointer (some ⟨w2.heap.size + 1, 0, none⟩), .pointer (some ⟨w2.heap.size + 1 + 1 + 1, 0, none⟩), .pointer (some ⟨w.heap.size + 1, 0, none⟩), .pointer (some ⟨w.heap.size, 0, none⟩), .pointer (some ⟨w2.heap.size, 0, none⟩), .pointer (some ⟨w2.heap.size + 1 + 1 + 1 + 1, 0, none⟩), .pointer (some ⟨w2.heap.size + 1 + 1 + 1 + 1 + 1, 0, none⟩)]] 48))
      (FindPost (parOf l fst w A c F fc w2.heap.size BB bc) (l.length + 1) [] (begun w2 Ba l.length bc (endedSet l l.length) (parOf l fst w A c F fc w2.heap.size BB bc).caps) 0 (fun _ => False))) := Hfx.out
  have Hr1 := Lib.hid r1
  clear hfull r1 r2 r3 r4 hF
  go_wp2_with fail
  with_reducible refine Hfind.out.mono ?_
  rintro e w3 ⟨hx3, hm3, ov3, ⟨r, hr, rfl, hh3⟩ | ⟨hr, rfl, hh3, ht3⟩⟩
  · have hbo := cell_of_one hh3.1
    have hov := RowV.of_own hh3.2
    obtain ⟨Ar, cr, rfl, hcr⟩ := hov
    have Hfin : Hid (OrderPost (dfs l fst (l.length + 1) []) w (.returned (.tuple #[.slice Ar r.length cr, .bool true, .int .i64 0])) w3) :=
      ⟨hx3.below, .inr ⟨r, _, hr, rfl, Ar, cr, rfl, hcr⟩⟩
    have hbo : w3.cell? ⟨w2.heap.size + 1 + 1 + 1 + 1, 0, none⟩ = some (.slice Ar r.length cr) := hbo
    clear hx3 hm3 hr hh3 hcr
    go_wp2_with fail
    go_ret3
    exact Hfin.out
  · have Hfin : Hid (OrderPost (dfs l fst (l.length + 1) []) w (.returned (.tuple #[.slice none 0 0, .bool false, .int .i64 0])) w3) :=
      ⟨hx3.below, .inl ⟨hr, rfl⟩⟩
    clear hx3 hm3 hr hh3 ht3
    go_wp2_with fail
    go_ret3
    exact Hfin.out

/-- What Linear answers. -/
def LinearPost (r : Option (List Nat)) (w : World) (e : Ending) (w' : World) : Prop := Below w.heap.size w w' ∧ e = .returned (.tuple #[.bool r.isSome, .int .i64 0])

set_option maxHeartbeats 800000 in
theorem linear_any (l : List LOp) (A : Option Addr) (c F fc : Nat) (fst : UInt8) (w : World) (hn : l.length ≤ 14) (hh : Hist w A l) (hF : w.cell? ⟨F, 0, none⟩ = some (.int .u8 fst.toNat)) (hb : ¬ anyBad l) :
    Calls Try.prog 8 #[.slice A l.length c, .slice (some ⟨F, 0, none⟩) 1 fc] w (LinearPost (dfs l fst (l.length + 1) []) w) := by
  have H := Lib.hid (order_any l A c F fc fst w hn hh hF hb)
  clear hh hF hb
  go_enter Try.func8, Try.ntmps8
  go_wp2_with fail
  with_reducible refine H.out.mono ?_
  rintro e w1 ⟨hb1, ⟨hr, rfl⟩ | ⟨o, v, hr, rfl, hv⟩⟩
  · have Hr := Lib.hid hr
    clear hr
    go_wp2_with fail
    go_ret2
    exact ⟨hb1, by rw [Hr.out]; rfl⟩
  · have Hr := Lib.hid hr
    clear hr hv
    go_wp2_with fail
    go_ret2
    exact ⟨hb1, by rw [Hr.out]; rfl⟩

end Go.Proofs.Ytbegeijofpgliaa
