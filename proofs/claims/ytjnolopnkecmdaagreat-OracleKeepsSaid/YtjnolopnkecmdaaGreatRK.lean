/-
  Several texts in one: RkA, RkB, RkC.
-/
import Derived.Test.YtjnolopnkecmdaaGreatIB
import Derived.Deep.QuietTactic
import Derived.BigQuiet
import Derived.Test.YtjnolopnkecmdaaGreatOA
import Derived.Test.YtjnolopnkecmdaaGreatGF

/-
  The document's own: Right of a tape (layer 7), Same of two ideals (layer 8).
-/
namespace Go.Proofs.YtjnolopnkecmdaaGreat
open Go.RowKit

set_option maxRecDepth 100000 in
theorem refTapeRight_any (tb : ByteArray) (p : Nat) (h1 : tb.size ≤ 65536) (h2 : p ≤ tb.size) (w : World) :
    Calls Tryz.prog 51 #[.agg #[.string tb, .int .i64 (p : Int)]] w fun e w' => e = .returned (.bool true) ∧ Below w.heap.size w w' := by
  have hb0 : Below w.heap.size w (w.alloc (.cells #[.string tb, .int .i64 (p : Int)] 23)) := (Below.refl _ w).alloc (Nat.le_refl _) _
  have i1 : ((tb.size : Int) ≤ 65536) := by omega
  have i2 : ((p : Int) ≤ tb.size) := by omega
  go_enter Tryz.func51, Tryz.ntmps51
  go_wp2
  go_ret
  exact ⟨rfl, hb0⟩

theorem Below.trans_drewN {B : Nat} {w w1 : World} (h : Below B w w1) (n : Nat) : Below B w (w1.drewN n) := ⟨h.os, h.tape, h.output, h.size, h.block⟩
/-- A list's cells, where a drawing round reads them. -/
theorem nm_at {W : World} {B : Nat} {v : Value} {l : List (ByteArray × ByteArray)} (h : NmAt W B v l) {i : Nat} {x : ByteArray × ByteArray} (hx : l[i]? = some x) :
    ∃ g cap, v = .slice (some ⟨g, 0, none⟩) l.length cap ∧ W.cell? ⟨g, i * 2, none⟩ = some (.string x.1) ∧ W.cell? ⟨g, i * 2 + 1, none⟩ = some (.string x.2) := by
  rcases ownsRow_cases h (by decide) with ⟨_, h1, _⟩ | ⟨g, cap, hv, _, hg, hm, hc⟩
  · have := (List.getElem?_eq_some_iff.1 hx).1
    omega
  · have hx0 : ∀ k u, k < 2 → (Idl.nmEnc x)[k]? = some u → W.cell? ⟨g, i * 2 + k, none⟩ = some u := fun k u hk2 hu =>
      hc _ _ ((flat_get (f := Idl.nmEnc) (k := 2) (fun _ => rfl) l i k x hx hk2).trans hu)
    exact ⟨g, cap, hv, hx0 0 _ (by decide) rfl, hx0 1 _ (by decide) rfl⟩
theorem cl_at {W : World} {B : Nat} {v : Value} {l : List (ByteArray × ByteArray × ByteArray)} (h : ClAt W B v l) {i : Nat} {x : ByteArray × ByteArray × ByteArray} (hx : l[i]? = some x) :
    ∃ g cap, v = .slice (some ⟨g, 0, none⟩) l.length cap ∧ W.cell? ⟨g, i * 3, none⟩ = some (.string x.1) ∧ W.cell? ⟨g, i * 3 + 1, none⟩ = some (.string x.2.1) ∧ W.cell? ⟨g, i * 3 + 2, none⟩ = some (.string x.2.2) := by
  rcases ownsRow_cases h (by decide) with ⟨_, h1, _⟩ | ⟨g, cap, hv, _, hg, hm, hc⟩
  · have := (List.getElem?_eq_some_iff.1 hx).1
    omega
  · have hx0 : ∀ k u, k < 3 → (Idl.clEnc x)[k]? = some u → W.cell? ⟨g, i * 3 + k, none⟩ = some u := fun k u hk2 hu =>
      hc _ _ ((flat_get (f := Idl.clEnc) (k := 3) (fun _ => rfl) l i k x hx hk2).trans hu)
    exact ⟨g, cap, hv, hx0 0 _ (by decide) rfl, hx0 1 _ (by decide) rfl, hx0 2 _ (by decide) rfl⟩

set_option maxRecDepth 100000 in
set_option maxHeartbeats 4000000 in
theorem refIdlSame_any (tb : ByteArray) (p : Nat) (b : Bool) (l : List (ByteArray × ByteArray)) (m : List (ByteArray × ByteArray × ByteArray)) (nv cv nv' cv' : Value) (w : World) (hn : NmAt w 0 nv l) (hc : ClAt w 0 cv m) (hn' : NmAt w 0 nv' l) (hc' : ClAt w 0 cv' m) :
    Calls Tryz.prog 32 #[.agg (Idl.vals tb p nv cv b), .agg (Idl.vals tb p nv' cv' b)] w fun e w' => e = .returned (.bool true) ∧ Below w.heap.size w w' := by
  obtain ⟨na, nk, rfl⟩ := slice_of hn
  obtain ⟨ca, ck, rfl⟩ := slice_of hc
  obtain ⟨na', nk', rfl⟩ := slice_of hn'
  obtain ⟨ca', ck', rfl⟩ := slice_of hc'
  unfold Idl.vals
  obtain ⟨p0, q0, hb0, hz0⟩ := box2 w #[.string tb, .int .i64 (p : Int), .slice na l.length nk, .slice ca m.length ck, .bool b] #[.string tb, .int .i64 (p : Int), .slice na' l.length nk', .slice ca' m.length ck', .bool b] 29 29
  have hN := fun (i : Nat) (x : ByteArray × ByteArray) (hx : l[i]? = some x) => And.intro (nm_at (owns_below hn hb0) hx) (nm_at (owns_below hn' hb0) hx)
  have hC := fun (i : Nat) (x : ByteArray × ByteArray × ByteArray) (hx : m[i]? = some x) => And.intro (cl_at (owns_below hc hb0) hx) (cl_at (owns_below hc' hb0) hx)
  have HN := Lib.hid hN
  have HC := Lib.hid hC
  have hl : (l.length : Int) ≤ 9223372036854775807 := by
    rcases ownsRow_cases hn (by decide) with ⟨_, h1, _⟩ | ⟨g, cap, _, _, _, hm, _⟩
    · omega
    · unfold maxLen at hm; omega
  have hm : (m.length : Int) ≤ 9223372036854775807 := by
    rcases ownsRow_cases hc (by decide) with ⟨_, h1, _⟩ | ⟨g, cap, _, _, _, hm, _⟩
    · omega
    · unfold maxLen at hm; omega
  clear hN hC hn hn' hc hc'
  obtain ⟨W1, hW1⟩ : ∃ W1, (w.alloc (.cells #[.string tb, .int .i64 (p : Int), .slice na l.length nk, .slice ca m.length ck, .bool b] 29)).alloc (.cells #[.string tb, .int .i64 (p : Int), .slice na' l.length nk', .slice ca' m.length ck', .bool b] 29) = W1 := ⟨_, rfl⟩
  rw [hW1] at p0 q0 hb0 hz0 HN HC
  have c0 : W1.cell? ⟨w.heap.size, 0, none⟩ = some (.string tb) := p0.cell 0
  have c1 : W1.cell? ⟨w.heap.size, 1, none⟩ = some (.int .i64 (p : Int)) := p0.cell 1
  have c2 : W1.cell? ⟨w.heap.size, 2, none⟩ = some (.slice na l.length nk) := p0.cell 2
  have c3 : W1.cell? ⟨w.heap.size, 3, none⟩ = some (.slice ca m.length ck) := p0.cell 3
  have c4 : W1.cell? ⟨w.heap.size, 4, none⟩ = some (.bool b) := p0.cell 4
  have e0 : W1.cell? ⟨w.heap.size + 1, 0, none⟩ = some (.string tb) := q0.cell 0
  have e1 : W1.cell? ⟨w.heap.size + 1, 1, none⟩ = some (.int .i64 (p : Int)) := q0.cell 1
  have e2 : W1.cell? ⟨w.heap.size + 1, 2, none⟩ = some (.slice na' l.length nk') := q0.cell 2
  have e3 : W1.cell? ⟨w.heap.size + 1, 3, none⟩ = some (.slice ca' m.length ck') := q0.cell 3
  have e4 : W1.cell? ⟨w.heap.size + 1, 4, none⟩ = some (.bool b) := q0.cell 4
  have HW1 := Lib.hid hW1
  have Hb0 := Lib.hid hb0
  clear p0 q0 hz0 hb0
  go_enter Tryz.func32, Tryz.ntmps32
  go_upto_region 1 with fail
  clear hW1
  go_wp2
  go_loopw [5] (fun vi wr => ∃ i m : Nat, i ≤ l.length ∧ vi = .int .i64 (i : Int) ∧ wr = W1.drewN m) (fun vi _ => l.length - (intOf vi).toNat)
  case atStart => exact ⟨0, 0, Nat.zero_le _, rfl, rfl⟩
  case round =>
    obtain ⟨i, k, hi, rfl, rfl⟩ := hrel
    by_cases hlt : i < l.length
    · obtain ⟨x, hx⟩ : ∃ x, l[i]? = some x := ⟨_, List.getElem?_eq_getElem hlt⟩
      obtain ⟨⟨g, cap, hv, x0, x1⟩, ⟨g', cap', hv', y0, y1⟩⟩ := HN.out i x hx
      injection hv with hva _ hvc
      injection hv' with hva' _ hvc'
      subst hva hvc hva' hvc'
      have hi64 : (i : Int) < 9223372036854775807 := by omega
      go_wp2
      go_quiet (fail)
      go_wp2
      go_roundw
      case rel => exact ⟨i + 1, _, by omega, rfl, rfl⟩
      case measure => simp [intOf]; omega
    · obtain rfl : i = l.length := by omega
      go_wp2
      go_loopw [4, 6] (fun _ vi wr => ∃ i m' : Nat, i ≤ m.length ∧ vi = .int .i64 (i : Int) ∧ wr = W1.drewN m') (fun _ vi _ => m.length - (intOf vi).toNat)
      case atStart => exact ⟨0, _, Nat.zero_le _, rfl, rfl⟩
      case round =>
        obtain ⟨j, k2, hj, rfl, rfl⟩ := hrel
        by_cases hlt2 : j < m.length
        · obtain ⟨x, hx⟩ : ∃ x, m[j]? = some x := ⟨_, List.getElem?_eq_getElem hlt2⟩
          obtain ⟨⟨g, cap, hv, x0, x1, x2⟩, ⟨g', cap', hv', y0, y1, y2⟩⟩ := HC.out j x hx
          injection hv with hva _ hvc
          injection hv' with hva' _ hvc'
          subst hva hvc hva' hvc'
          have hj64 : (j : Int) < 9223372036854775807 := by omega
          go_wp2
          go_quiet (fail)
          go_wp2
          go_roundw
          case rel => exact ⟨j + 1, _, by omega, rfl, rfl⟩
          case measure => simp [intOf]; omega
        · obtain rfl : j = m.length := by omega
          go_wp2
          go_ret
          exact ⟨rfl, Below.trans_drewN Hb0.out _⟩

end Go.Proofs.YtjnolopnkecmdaaGreat

/-
  The document's own: Same of two oracles (layer 9), clash (layer 8).
-/
namespace Go.Proofs.YtjnolopnkecmdaaGreat
open Go.RowKit

set_option maxRecDepth 100000 in
set_option maxHeartbeats 2000000 in
theorem refOrcSame_any (m : Int) (key tb : ByteArray) (p : Nat) (b : Bool) (l : List (ByteArray × ByteArray)) (c : List (ByteArray × ByteArray × ByteArray)) (nv cv nv' cv' : Value) (w : World) (hn : NmAt w 0 nv l) (hc : ClAt w 0 cv c) (hn' : NmAt w 0 nv' l) (hc' : ClAt w 0 cv' c) :
    Calls Tryz.prog 14 #[.agg (Orc.vals m key tb p nv cv b), .agg (Orc.vals m key tb p nv' cv' b)] w fun e w' => e = .returned (.bool true) ∧ Below w.heap.size w w' := by
  have hS := fun W (hb : Below w.heap.size w W) => refIdlSame_any tb p b l c nv cv nv' cv' W (owns_below hn hb) (owns_below hc hb) (owns_below hn' hb) (owns_below hc' hb)
  obtain ⟨na, nk, rfl⟩ := slice_of hn
  obtain ⟨ca, ck, rfl⟩ := slice_of hc
  obtain ⟨na', nk', rfl⟩ := slice_of hn'
  obtain ⟨ca', ck', rfl⟩ := slice_of hc'
  unfold Idl.vals Orc.vals at *
  obtain ⟨p0, q0, hb0, hz0⟩ := box2 w #[.int .i64 m, .string key, .string tb, .int .i64 (p : Int), .slice na l.length nk, .slice ca c.length ck, .bool b] #[.int .i64 m, .string key, .string tb, .int .i64 (p : Int), .slice na' l.length nk', .slice ca' c.length ck', .bool b] 31 31
  have HS := Lib.hid (hS _ hb0)
  have Hb0 := Lib.hid hb0
  clear hS p0 q0 hz0 hb0 hn hc hn' hc'
  go_enter Tryz.func14, Tryz.ntmps14
  go_wp2_with fail
  refine HS.out.mono ?_
  rintro e w1 ⟨rfl, hb1⟩
  have Hb1 := Lib.hid (Hb0.out.trans (hb1.mono Hb0.out.size))
  clear hb1 Hb0 HS
  go_wp2
  go_ret
  exact ⟨rfl, Hb1.out⟩

theorem take_nodup {α β : Type} {f : α → β} {l : List α} {i : Nat} {x : α} (hx : l[i]? = some x) (h : ((l.take i).map f).Nodup) (hn : ∀ j y, j < i → l[j]? = some y → f y ≠ f x) : ((l.take (i + 1)).map f).Nodup := by
  rw [take_one hx, List.map_append]
  refine Idl.nodup_snoc h fun hm => ?_
  obtain ⟨y, hy, he⟩ := List.mem_map.1 hm
  obtain ⟨j, hj⟩ := List.mem_iff_getElem?.1 hy
  have hji : j < i := by
    have := (List.getElem?_eq_some_iff.1 hj).1
    rw [List.length_take] at this
    omega
  rw [List.getElem?_take_of_lt hji] at hj
  exact hn j y hji hj he
theorem twice_at {α β : Type} [DecidableEq β] {f : α → β} {l : List α} {i k : Nat} {x y : α} (hx : l[i]? = some x) (hy : l[k]? = some y) (hk : k < i) (h : f y = f x) : twice (l.map f) = true := by
  rw [twice_true]
  intro hn
  have hp := List.pairwise_iff_getElem.1 hn
  obtain ⟨h1, e1⟩ := List.getElem?_eq_some_iff.1 hx
  obtain ⟨h2, e2⟩ := List.getElem?_eq_some_iff.1 hy
  have := hp k i (by simpa using h2) (by simpa using h1) hk
  simp [e1, e2, h] at this

set_option maxRecDepth 100000 in
set_option maxHeartbeats 4000000 in
theorem refClash_any (tb : ByteArray) (p : Nat) (b : Bool) (d : Idl) (nv cv : Value) (w : World) (hn : NmAt w 0 nv d.nm) (hc : ClAt w 0 cv d.cl) :
    Calls Tryz.prog 52 #[.agg (Idl.vals tb p nv cv b)] w fun e w' => e = .returned (.bool d.clash) ∧ Below w.heap.size w w' := by
  obtain ⟨na, nk, rfl⟩ := slice_of hn
  obtain ⟨ca, ck, rfl⟩ := slice_of hc
  unfold Idl.vals
  have p0 := Row.new w 29 #[.string tb, .int .i64 (p : Int), .slice na d.nm.length nk, .slice ca d.cl.length ck, .bool b]
  have hb0 : Below w.heap.size w (w.alloc (.cells #[.string tb, .int .i64 (p : Int), .slice na d.nm.length nk, .slice ca d.cl.length ck, .bool b] 29)) := (Below.refl _ w).alloc (Nat.le_refl _) _
  have hN := fun (i : Nat) (x : ByteArray × ByteArray) (hx : d.nm[i]? = some x) => nm_at (owns_below hn hb0) hx
  have hC := fun (i : Nat) (x : ByteArray × ByteArray × ByteArray) (hx : d.cl[i]? = some x) => cl_at (owns_below hc hb0) hx
  have HN := Lib.hid hN
  have HC := Lib.hid hC
  have hl : (d.nm.length : Int) ≤ 9223372036854775807 := by
    rcases ownsRow_cases hn (by decide) with ⟨_, h1, _⟩ | ⟨g, cap, _, _, _, hm, _⟩
    · omega
    · unfold maxLen at hm; omega
  have hm : (d.cl.length : Int) ≤ 9223372036854775807 := by
    rcases ownsRow_cases hc (by decide) with ⟨_, h1, _⟩ | ⟨g, cap, _, _, _, hm, _⟩
    · omega
    · unfold maxLen at hm; omega
  obtain ⟨r, hr⟩ : ∃ r, d.clash = r := ⟨_, rfl⟩
  have Hr := Lib.hid hr
  rw [hr]
  clear hN hC hn hc hr
  obtain ⟨W1, hW1⟩ : ∃ W1, (w.alloc (.cells #[.string tb, .int .i64 (p : Int), .slice na d.nm.length nk, .slice ca d.cl.length ck, .bool b] 29)) = W1 := ⟨_, rfl⟩
  rw [hW1] at p0 hb0 HN HC
  have c0 : W1.cell? ⟨w.heap.size, 0, none⟩ = some (.string tb) := p0.cell 0
  have c1 : W1.cell? ⟨w.heap.size, 1, none⟩ = some (.int .i64 (p : Int)) := p0.cell 1
  have c2 : W1.cell? ⟨w.heap.size, 2, none⟩ = some (.slice na d.nm.length nk) := p0.cell 2
  have c3 : W1.cell? ⟨w.heap.size, 3, none⟩ = some (.slice ca d.cl.length ck) := p0.cell 3
  have c4 : W1.cell? ⟨w.heap.size, 4, none⟩ = some (.bool b) := p0.cell 4
  have Hb0 := Lib.hid hb0
  clear p0 hb0
  obtain ⟨tb', pos', ln, lc⟩ := d
  dsimp only at *
  go_enter Tryz.func52, Tryz.ntmps52
  go_upto_region 1 with fail
  clear hW1
  go_wp2
  go_loopw [3, 4] (fun vi _ wr => ∃ i k : Nat, i ≤ ln.length ∧ ((ln.take i).map (·.2)).Nodup ∧ vi = .int .i64 (i : Int) ∧ wr = W1.drewN k) (fun vi _ _ => ln.length - (intOf vi).toNat)
  case atStart => exact ⟨0, 0, Nat.zero_le _, List.nodup_nil, rfl, rfl⟩
  case round =>
    obtain ⟨i, k, hi, hnd, rfl, rfl⟩ := hrel
    by_cases hlt : i < ln.length
    · obtain ⟨x, hx⟩ : ∃ x, ln[i]? = some x := ⟨_, List.getElem?_eq_getElem hlt⟩
      have Hx := Lib.hid hx
      have Hnd := Lib.hid hnd
      obtain ⟨g, cap, hv, x0, x1⟩ := HN.out i x hx
      injection hv with hva _ hvc
      subst hva hvc
      have hi64 : (i : Int) < 9223372036854775807 := by omega
      clear hx hnd
      go_wp2
      go_loopw [4] (fun vk wr => ∃ j m : Nat, j ≤ i ∧ (∀ q y, q < j → ln[q]? = some y → y.2 ≠ x.2) ∧ vk = .int .i64 (j : Int) ∧ wr = W1.drewN m) (fun vk _ => i - (intOf vk).toNat)
      case atStart => exact ⟨0, _, Nat.zero_le _, fun q y hq => absurd hq (Nat.not_lt_zero _), rfl, rfl⟩
      case round =>
        obtain ⟨j, k2, hj, hall, rfl, rfl⟩ := hrel
        have Hall := Lib.hid hall
        clear hall
        by_cases hlj : j < i
        · obtain ⟨y, hy⟩ : ∃ y, ln[j]? = some y := ⟨_, List.getElem?_eq_getElem (by omega)⟩
          obtain ⟨g', cap', hv', y0, y1⟩ := HN.out j y hy
          injection hv' with hva' _ hvc'
          injection hva' with hva'
          injection hva' with hva'
          subst hva' hvc'
          have Hy := Lib.hid hy
          clear hy
          have hj64 : (j : Int) < 9223372036854775807 := by omega
          have hjl : (j : Int) < ln.length := by omega
          by_cases hq : x.2 = y.2
          · have hqt : (x.2.toList == y.2.toList) = true := by rw [texts_beq]; exact decide_eq_true hq
            have hrt : r = true := by
              rw [← Hr.out]
              unfold Idl.clash Idl.outs
              rw [twice_at (f := fun n : ByteArray × ByteArray => n.2) Hx.out Hy.out hlj hq.symm, Bool.true_or]
            subst hrt
            clear hq
            go_wp2
            go_quiet (fail)
            go_wp2
            go_ret
            exact ⟨rfl, Below.trans_drewN (Below.trans_drewN Hb0.out _) _⟩
          · have hqt : (x.2.toList == y.2.toList) = false := by rw [texts_beq]; exact decide_eq_false hq
            have Hq := Lib.hid hq
            clear hq
            go_wp2
            go_quiet (fail)
            go_wp2
            go_roundw
            case rel =>
              refine ⟨j + 1, _, by omega, fun q z hqj hz => ?_, rfl, rfl⟩
              by_cases hqq : q = j
              · subst hqq
                rw [Hy.out] at hz
                rw [← Option.some.inj hz]
                exact fun e => Hq.out e.symm
              · exact Hall.out q z (by omega) hz
            case measure => simp [intOf]; omega
        · obtain rfl : j = i := by omega
          go_wp2
          go_roundw
          case rel => exact ⟨j + 1, _, by omega, take_nodup Hx.out Hnd.out Hall.out, rfl, rfl⟩
          case measure => simp [intOf]; omega
    · obtain rfl : i = ln.length := by omega
      rw [List.take_length] at hnd
      have Hnd := Lib.hid hnd
      clear hnd
      go_wp2
      go_loopw [5, 6] (fun vi _ wr => ∃ i k : Nat, i ≤ lc.length ∧ ((lc.take i).map (fun c => (c.1, c.2.2))).Nodup ∧ vi = .int .i64 (i : Int) ∧ wr = W1.drewN k) (fun vi _ _ => lc.length - (intOf vi).toNat)
      case atStart => exact ⟨0, _, Nat.zero_le _, List.nodup_nil, rfl, rfl⟩
      case round =>
        obtain ⟨i, k, hi, hnd, rfl, rfl⟩ := hrel
        by_cases hlt : i < lc.length
        · obtain ⟨x, hx⟩ : ∃ x, lc[i]? = some x := ⟨_, List.getElem?_eq_getElem hlt⟩
          have Hx := Lib.hid hx
          have Hnd2 := Lib.hid hnd
          obtain ⟨g, cap, hv, x0, x1, x2⟩ := HC.out i x hx
          injection hv with hva _ hvc
          subst hva hvc
          have hi64 : (i : Int) < 9223372036854775807 := by omega
          clear hx hnd
          go_wp2
          go_loopw [6] (fun vk wr => ∃ j m : Nat, j ≤ i ∧ (∀ q y, q < j → lc[q]? = some y → (y.1, y.2.2) ≠ (x.1, x.2.2)) ∧ vk = .int .i64 (j : Int) ∧ wr = W1.drewN m) (fun vk _ => i - (intOf vk).toNat)
          case atStart => exact ⟨0, _, Nat.zero_le _, fun q y hq => absurd hq (Nat.not_lt_zero _), rfl, rfl⟩
          case round =>
            obtain ⟨j, k2, hj, hall, rfl, rfl⟩ := hrel
            have Hall := Lib.hid hall
            clear hall
            by_cases hlj : j < i
            · obtain ⟨y, hy⟩ : ∃ y, lc[j]? = some y := ⟨_, List.getElem?_eq_getElem (by omega)⟩
              obtain ⟨g', cap', hv', y0, y1, y2⟩ := HC.out j y hy
              injection hv' with hva' _ hvc'
              injection hva' with hva'
              injection hva' with hva'
              subst hva' hvc'
              have Hy := Lib.hid hy
              clear hy
              have hj64 : (j : Int) < 9223372036854775807 := by omega
              have hjl : (j : Int) < lc.length := by omega
              by_cases hq1 : x.1 = y.1
              · have hqt : (x.1.toList == y.1.toList) = true := by rw [texts_beq]; exact decide_eq_true hq1
                by_cases hq2 : x.2.2 = y.2.2
                · have hqs : (x.2.2.toList == y.2.2.toList) = true := by rw [texts_beq]; exact decide_eq_true hq2
                  have hrt : r = true := by
                    rw [← Hr.out]
                    unfold Idl.clash Idl.told
                    rw [twice_at (f := fun c : ByteArray × ByteArray × ByteArray => (c.1, c.2.2)) Hx.out Hy.out hlj (by rw [hq1, hq2]), Bool.or_true]
                  subst hrt
                  clear hq1 hq2
                  go_wp2
                  go_quiet (fail)
                  go_wp2
                  go_ret
                  exact ⟨rfl, Below.trans_drewN (Below.trans_drewN Hb0.out _) _⟩
                · have hqs : (x.2.2.toList == y.2.2.toList) = false := by rw [texts_beq]; exact decide_eq_false hq2
                  have Hq := Lib.hid hq2
                  clear hq1 hq2
                  go_wp2
                  go_quiet (fail)
                  go_wp2
                  go_roundw
                  case rel =>
                    refine ⟨j + 1, _, by omega, fun q z hqj hz => ?_, rfl, rfl⟩
                    by_cases hqq : q = j
                    · subst hqq
                      rw [Hy.out] at hz
                      rw [← Option.some.inj hz]
                      exact fun e => Hq.out (Prod.mk.inj e).2.symm
                    · exact Hall.out q z (by omega) hz
                  case measure => simp [intOf]; omega
              · have hqt : (x.1.toList == y.1.toList) = false := by rw [texts_beq]; exact decide_eq_false hq1
                have Hq := Lib.hid hq1
                clear hq1
                go_wp2
                go_quiet (fail)
                go_wp2
                go_roundw
                case rel =>
                  refine ⟨j + 1, _, by omega, fun q z hqj hz => ?_, rfl, rfl⟩
                  by_cases hqq : q = j
                  · subst hqq
                    rw [Hy.out] at hz
                    rw [← Option.some.inj hz]
                    exact fun e => Hq.out (Prod.mk.inj e).1.symm
                  · exact Hall.out q z (by omega) hz
                case measure => simp [intOf]; omega
            · obtain rfl : j = i := by omega
              go_wp2
              go_roundw
              case rel => exact ⟨j + 1, _, by omega, take_nodup Hx.out Hnd2.out Hall.out, rfl, rfl⟩
              case measure => simp [intOf]; omega
        · obtain rfl : i = lc.length := by omega
          rw [List.take_length] at hnd
          have hrf : r = false := by
            rw [← Hr.out]
            unfold Idl.clash Idl.outs Idl.told
            rw [twice_false.2 Hnd.out, twice_false.2 hnd]
            rfl
          subst hrf
          clear hnd
          go_wp2
          go_ret
          exact ⟨rfl, Below.trans_drewN Hb0.out _⟩

end Go.Proofs.YtjnolopnkecmdaaGreat

/-
  The document's own: Right of an ideal (layer 8).
-/
namespace Go.Proofs.YtjnolopnkecmdaaGreat
open Go.RowKit

theorem ne_at {α β : Type} {f : α → β} {l : List α} (hn : (l.map f).Nodup) {i k : Nat} {x y : α} (hx : l[i]? = some x) (hy : l[k]? = some y) (hk : k < i) : f x ≠ f y := by
  intro h
  have hp := List.pairwise_iff_getElem.1 hn
  obtain ⟨h1, e1⟩ := List.getElem?_eq_some_iff.1 hx
  obtain ⟨h2, e2⟩ := List.getElem?_eq_some_iff.1 hy
  have := hp k i (by simpa using h2) (by simpa using h1) hk
  simp [e1, e2, h] at this

set_option maxRecDepth 100000 in
set_option maxHeartbeats 4000000 in
theorem refIdlRight_any (d : Idl) (hg : d.Good) (nv cv : Value) (w : World) (hn : NmAt w 0 nv d.nm) (hc : ClAt w 0 cv d.cl) :
    Calls Tryz.prog 28 #[.agg (Idl.vals d.tb d.pos nv cv d.clash)] w fun e w' => e = .returned (.bool true) ∧ Below w.heap.size w w' := by
  have hT := fun W => refTapeRight_any d.tb d.pos hg.tb hg.pos W
  have hK := fun W (hb : Below w.heap.size w W) => refClash_any d.tb d.pos d.clash d nv cv W (owns_below hn hb) (owns_below hc hb)
  obtain ⟨na, nk, rfl⟩ := slice_of hn
  obtain ⟨ca, ck, rfl⟩ := slice_of hc
  unfold Idl.vals at *
  have p0 := Row.new w 29 #[.string d.tb, .int .i64 (d.pos : Int), .slice na d.nm.length nk, .slice ca d.cl.length ck, .bool d.clash]
  have hb0 : Below w.heap.size w (w.alloc (.cells #[.string d.tb, .int .i64 (d.pos : Int), .slice na d.nm.length nk, .slice ca d.cl.length ck, .bool d.clash] 29)) := (Below.refl _ w).alloc (Nat.le_refl _) _
  have hN := fun (W : World) (hb : Below w.heap.size w W) (i : Nat) (x : ByteArray × ByteArray) (hx : d.nm[i]? = some x) => nm_at (owns_below hn hb) hx
  have hC := fun (W : World) (hb : Below w.heap.size w W) (i : Nat) (x : ByteArray × ByteArray × ByteArray) (hx : d.cl[i]? = some x) => cl_at (owns_below hc hb) hx
  have HN := Lib.hid hN
  have HC := Lib.hid hC
  have HT := Lib.hid hT
  have HK := Lib.hid hK
  have Hg := Lib.hid hg
  have hl : (d.nm.length : Int) ≤ 2000 := by have := hg.nms; omega
  have hm : (d.cl.length : Int) ≤ 2000 := by have := hg.cls; omega
  clear hN hC hn hc hT hK hg
  go_enter Tryz.func28, Tryz.ntmps28
  go_wp2_with fail
  refine (HT.out _).mono ?_
  rintro e w1 ⟨rfl, hb1⟩
  have p1 := p0.below hb1 p0.lt
  have hb01 := below_seq hb0 hb1
  clear p0 hb0 hb1 HT
  have c0 : w1.cell? ⟨w.heap.size, 0, none⟩ = some (.string d.tb) := p1.cell 0
  have c1 : w1.cell? ⟨w.heap.size, 1, none⟩ = some (.int .i64 (d.pos : Int)) := p1.cell 1
  have c2 : w1.cell? ⟨w.heap.size, 2, none⟩ = some (.slice na d.nm.length nk) := p1.cell 2
  have c3 : w1.cell? ⟨w.heap.size, 3, none⟩ = some (.slice ca d.cl.length ck) := p1.cell 3
  have c4 : w1.cell? ⟨w.heap.size, 4, none⟩ = some (.bool d.clash) := p1.cell 4
  have Hp1 := Lib.hid p1
  have Hb1 := Lib.hid hb01
  clear p1 hb01
  have hl' : ¬ (d.nm.length : Int) > 2000 := by omega
  have hm' : ¬ (d.cl.length : Int) > 2000 := by omega
  go_wp2
  go_loopw [3, 4] (fun vi _ wr => ∃ i k : Nat, i ≤ d.nm.length ∧ vi = .int .i64 (i : Int) ∧ wr = w1.drewN k) (fun vi _ _ => d.nm.length - (intOf vi).toNat)
  case atStart => exact ⟨0, 0, Nat.zero_le _, rfl, rfl⟩
  case round =>
    obtain ⟨i, k, hi, rfl, rfl⟩ := hrel
    by_cases hlt : i < d.nm.length
    · obtain ⟨x, hx⟩ : ∃ x, d.nm[i]? = some x := ⟨_, List.getElem?_eq_getElem hlt⟩
      obtain ⟨g, cap, hv, x0, x1⟩ := HN.out w1 Hb1.out i x hx
      injection hv with hva _ hvc
      subst hva hvc
      have hsz := Hg.out.nm x (List.mem_iff_getElem?.2 ⟨i, hx⟩)
      have s1 : ¬ (x.1.size : Int) > 100 := by omega
      have s2 : (x.2.size : Int) = 16 := by omega
      have hi64 : (i : Int) < 9223372036854775807 := by omega
      have Hx := Lib.hid hx
      clear hx hsz
      go_wp2
      go_loopw [4] (fun vk wr => ∃ j m : Nat, j ≤ i ∧ vk = .int .i64 (j : Int) ∧ wr = w1.drewN m) (fun vk _ => i - (intOf vk).toNat)
      case atStart => exact ⟨0, _, Nat.zero_le _, rfl, rfl⟩
      case round =>
        obtain ⟨j, k2, hj, rfl, rfl⟩ := hrel
        by_cases hlj : j < i
        · obtain ⟨y, hy⟩ : ∃ y, d.nm[j]? = some y := ⟨_, List.getElem?_eq_getElem (by omega)⟩
          obtain ⟨g', cap', hv', y0, y1⟩ := HN.out w1 Hb1.out j y hy
          injection hv' with hva' _ hvc'
          injection hva' with hva'
          injection hva' with hva'
          subst hva' hvc'
          have hq := ne_at (f := fun n : ByteArray × ByteArray => n.1) Hg.out.ins Hx.out hy hlj
          have hqt : (x.1.toList == y.1.toList) = false := by rw [texts_beq]; exact decide_eq_false hq
          have hj64 : (j : Int) < 9223372036854775807 := by omega
          have hjl : (j : Int) < d.nm.length := by omega
          clear hq hy
          go_wp2
          go_quiet (fail)
          go_wp2
          go_roundw
          case rel => exact ⟨j + 1, _, by omega, rfl, rfl⟩
          case measure => simp [intOf]; omega
        · obtain rfl : j = i := by omega
          go_wp2
          go_roundw
          case rel => exact ⟨j + 1, _, by omega, rfl, rfl⟩
          case measure => simp [intOf]; omega
    · obtain rfl : i = d.nm.length := by omega
      go_wp2
      clear c0 c1 c2 c3 c4
      go_loopw [5, 7] (fun vi _ wr => ∃ i : Nat, i ≤ d.cl.length ∧ vi = .int .i64 (i : Int) ∧ Below w1.heap.size w1 wr) (fun vi _ _ => d.cl.length - (intOf vi).toNat)
      case atStart => exact ⟨0, Nat.zero_le _, rfl, Below.trans_drewN (Below.refl _ _) _⟩
      case round =>
        obtain ⟨i, hi, rfl, hbw⟩ := hrel
        have pw := Hp1.out.below hbw Hp1.out.lt
        have hb0w := Hb1.out.trans (hbw.mono Hb1.out.size)
        have c0 : wr.cell? ⟨w.heap.size, 0, none⟩ = some (.string d.tb) := pw.cell 0
        have c1 : wr.cell? ⟨w.heap.size, 1, none⟩ = some (.int .i64 (d.pos : Int)) := pw.cell 1
        have c2 : wr.cell? ⟨w.heap.size, 2, none⟩ = some (.slice na d.nm.length nk) := pw.cell 2
        have c3 : wr.cell? ⟨w.heap.size, 3, none⟩ = some (.slice ca d.cl.length ck) := pw.cell 3
        have c4 : wr.cell? ⟨w.heap.size, 4, none⟩ = some (.bool d.clash) := pw.cell 4
        by_cases hlt : i < d.cl.length
        · obtain ⟨x, hx⟩ : ∃ x, d.cl[i]? = some x := ⟨_, List.getElem?_eq_getElem hlt⟩
          obtain ⟨g, cap, hv, x0, x1, x2⟩ := HC.out wr hb0w i x hx
          injection hv with hva _ hvc
          subst hva hvc
          have hsz := Hg.out.cl x (List.mem_iff_getElem?.2 ⟨i, hx⟩)
          have s1 : (x.1.size : Int) = 16 := by omega
          have s2 : (x.2.1.size : Int) = 24 := by omega
          have s3 : (x.2.2.size : Int) = 40 := by omega
          have hi64 : (i : Int) < 9223372036854775807 := by omega
          have Hx := Lib.hid hx
          have hbA := hbw.alloc hbw.size (.cells #[.string x.1, .string x.2.1, .string x.2.2] 90)
          have hb0A := hb0w.alloc hb0w.size (.cells #[.string x.1, .string x.2.1, .string x.2.2] 90)
          have pA := Row.new wr 90 #[.string x.1, .string x.2.1, .string x.2.2]
          have qA := pw.alloc (.cells #[.string x.1, .string x.2.1, .string x.2.2] 90)
          obtain ⟨WA, hWA⟩ : ∃ WA, wr.alloc (.cells #[.string x.1, .string x.2.1, .string x.2.2] 90) = WA := ⟨_, rfl⟩
          rw [hWA] at hbA hb0A pA qA
          have HbA := Lib.hid hbA
          have Hb0A := Lib.hid hb0A
          have HpA := Lib.hid pA
          have HqA := Lib.hid qA
          obtain ⟨gA, hgA⟩ : ∃ gA, wr.heap.size = gA := ⟨_, rfl⟩
          have HWA := Lib.hid hWA
          have hlt9 : w.heap.size < gA := by have := pw.lt; omega
          have hne9 : w.heap.size ≠ gA := by omega
          have a0 : WA.cell? ⟨gA, 0, none⟩ = some (.string x.1) := by rw [← hgA]; exact pA.cell 0
          have a1 : WA.cell? ⟨gA, 1, none⟩ = some (.string x.2.1) := by rw [← hgA]; exact pA.cell 1
          have a2 : WA.cell? ⟨gA, 2, none⟩ = some (.string x.2.2) := by rw [← hgA]; exact pA.cell 2
          have d0 : WA.cell? ⟨w.heap.size, 0, none⟩ = some (.string d.tb) := qA.cell 0
          have d3 : WA.cell? ⟨w.heap.size, 3, none⟩ = some (.slice (some ⟨g, 0, none⟩) d.cl.length ck) := qA.cell 3
          clear hx hsz hbA hb0A pA qA pw hb0w hbw
          go_wp2
          go_loopw [7] (fun vk wr => ∃ j m : Nat, j ≤ i ∧ vk = .int .i64 (j : Int) ∧ wr = WA.drewN m) (fun vk _ => i - (intOf vk).toNat)
          case atStart => exact ⟨0, 0, Nat.zero_le _, rfl, rfl⟩
          case round =>
            obtain ⟨j, k2, hj, rfl, rfl⟩ := hrel
            by_cases hlj : j < i
            · obtain ⟨y, hy⟩ : ∃ y, d.cl[j]? = some y := ⟨_, List.getElem?_eq_getElem (by omega)⟩
              obtain ⟨g', cap', hv', y0, y1, y2⟩ := HC.out WA Hb0A.out j y hy
              injection hv' with hva' _ hvc'
              injection hva' with hva'
              injection hva' with hva'
              subst hva' hvc'
              have hq := ne_at (f := fun c : ByteArray × ByteArray × ByteArray => (c.1, c.2.1)) Hg.out.made Hx.out hy hlj
              have hj64 : (j : Int) < 9223372036854775807 := by omega
              have hjl : (j : Int) < d.cl.length := by omega
              by_cases hq1 : x.1 = y.1
              · have hqt : (x.1.toList == y.1.toList) = true := by rw [texts_beq]; exact decide_eq_true hq1
                have hqs : (x.2.1.toList == y.2.1.toList) = false := by rw [texts_beq]; exact decide_eq_false (fun h => hq (by rw [hq1, h]))
                clear hq hq1 hy
                go_wp2
                go_quiet (fail)
                go_wp2
                go_roundw
                case rel => exact ⟨j + 1, _, by omega, rfl, rfl⟩
                case measure => simp [intOf]; omega
              · have hqt : (x.1.toList == y.1.toList) = false := by rw [texts_beq]; exact decide_eq_false hq1
                clear hq hq1 hy
                go_wp2
                go_quiet (fail)
                go_wp2
                go_roundw
                case rel => exact ⟨j + 1, _, by omega, rfl, rfl⟩
                case measure => simp [intOf]; omega
            · obtain rfl : j = i := by omega
              go_wp2
              go_roundw
              case rel => exact ⟨j + 1, by omega, rfl, Below.trans_drewN HbA.out _⟩
              case measure => simp [intOf]; omega
        · obtain rfl : i = d.cl.length := by omega
          have hK := HK.out (wr.drew) hb0w.drew
          have Hb0w := Lib.hid hb0w
          obtain ⟨r, hr⟩ : ∃ r, d.clash = r := ⟨_, rfl⟩
          rw [hr] at hK c4
          have HK2 := Lib.hid hK
          have Hpw := Lib.hid pw.drew
          rw [hr] at Hpw
          clear hK hb0w hbw pw
          cases r
          all_goals
            go_wp2_with fail
            go_region_with (go_at_call 52; refine HK2.out.mono ?_; rintro e w9 ⟨rfl, hb9⟩; have y4 := (Hpw.out.below hb9 Hpw.out.lt).cell 4; change World.cell? _ _ = some _ at y4)
            all_goals
              go_wp2
              go_ret
              exact ⟨rfl, Hb0w.out.drew.trans (hb9.mono Hb0w.out.drew.size)⟩

end Go.Proofs.YtjnolopnkecmdaaGreat
