/-
  Several texts in one: Bools, Args, Wds.
-/
import Derived.Test.YtjnolopnkecmdaaGreatGG
import Derived.Deep.Slices
import Derived.WideKeyPair
import Derived.Test.YtjnolopnkecmdaaGreatDigCK

/-
  A slice of bools that came in.
-/
namespace Go.Proofs.YtjnolopnkecmdaaGreat
open Go.ChangeShapes Go.WideShapes Go.ChangeAt Go.RowKit

def BoolsIn (v : Value) (w : World) : Prop :=
  v = .slice none 0 0 ∨ ∃ (a : Addr) (len cap : Nat) (B : Nat → Bool), v = .slice (some a) len cap ∧ len ≤ cap ∧ cap ≤ maxLen ∧ ∀ i, i < cap → w.cell? (a.add i) = some (.bool (B i))

theorem bools_open {H : Type} {enc : TypeId × Value → H} {P : Program} {w : World} {r : Reach} {b0 : Nat} {t e : TypeId} {v : Value} {d : DataW H} {ps : List MemPlace} (ht : P.underlying t = some (.slice e)) (he : P.underlying e = some .bool) (hc : P.cellsOf e = 1)
    (hval : Value.okWide P w r b0 t v) (hd : DataW.Trod enc P w 0 (fun _ => true) true t v d ps) : BoolsIn v w := by
  obtain ⟨a, len, cap, rfl⟩ := okWide_slice ht hval
  obtain ⟨fuel, hf⟩ := hd
  rcases Deep.open_bools ht he hc hf with ⟨h, _⟩ | ⟨a', len', cap', B, h, _, hl, hm, _, hb⟩
  · left
    simpa [Value.cells] using h
  · right
    refine ⟨a', len', cap', B, ?_, hl, hm, hb⟩
    simpa [Value.cells] using h

end Go.Proofs.YtjnolopnkecmdaaGreat

/-
  Arguments that came in: pairs of ints, slices of ints, slices of arrays of ints.
-/
namespace Go.Proofs.YtjnolopnkecmdaaGreat
open Go.ChangeShapes Go.WideShapes Go.ChangeAt Go.RowKit Go.WideMaps

theorem mapM_mem {α β : Type} {f : α → Option β} : ∀ (l : List α) (ys : List β), l.mapM f = some ys → ∀ x ∈ l, ∃ y, f x = some y
  | [], _, _, x, hx => by cases hx
  | a :: l, ys, h, x, hx => by
    rw [List.mapM_cons] at h
    simp only [bind, Option.bind_eq_some_iff, pure] at h
    obtain ⟨y, hy, zs, hz, _⟩ := h
    rcases List.mem_cons.1 hx with rfl | hx
    · exact ⟨y, hy⟩
    · exact mapM_mem l zs hz x hx

theorem trod_arr_ints {H : Type} {enc : TypeId × Value → H} {P : Program} {W : World} {base : Nat} {sp : Nat → Bool} {held : Bool} {k e : TypeId} {n : Nat} {q : IntKind} (hu : P.underlying k = some (.array n e)) (one : P.cellsOf e = 1) (size : P.cellsOf k = n)
    (he : P.underlying e = some (.int q)) {fuel : Nat} {cs : List Value} {x : DataW H × List MemPlace} (hcs : cs.length = n) (h : DataW.trod enc P W base sp held fuel k cs = some x) :
    ∀ j, j < n → ∃ z, cs[j]? = some (.int q z) ∧ (Lit.int q z).wf = true := by
  intro j hj
  cases fuel with
  | zero => simp [DataW.trod] at h
  | succ m =>
    rw [DataW.trod_step] at h
    unfold DataW.trodStep at h
    simp only [hu] at h
    rw [if_pos (by rw [size]; exact hcs)] at h
    simp only [Option.map_eq_some_iff] at h
    obtain ⟨xs, hx, _⟩ := h
    obtain ⟨y, hy⟩ := mapM_mem _ _ hx j (List.mem_range.2 hj)
    obtain ⟨z, hz, _, wz⟩ := DataW.trod_int he hy
    refine ⟨z, ?_, wz⟩
    rw [one, Nat.mul_one] at hz
    have h0 : ((cs.drop j).take 1)[0]? = some (.int q z) := by rw [hz]; rfl
    simpa using h0

/-- A slice of ints that came in. -/
def IntsIn (v : Value) (w : World) : Prop :=
  v = .slice none 0 0 ∨ ∃ (a : Addr) (len cap : Nat) (Z : Nat → Int), v = .slice (some a) len cap ∧ len ≤ cap ∧ cap ≤ maxLen ∧ ∀ i, i < len → w.cell? (a.add i) = some (.int .i64 (Z i)) ∧ -9223372036854775808 ≤ Z i ∧ Z i ≤ 9223372036854775807

theorem ints_open {H : Type} {enc : TypeId × Value → H} {P : Program} {w : World} {r : Reach} {b0 : Nat} {t e : TypeId} {v : Value} {d : DataW H} {ps : List MemPlace} (ht : P.underlying t = some (.slice e)) (he : P.underlying e = some (.int .i64)) (hc : P.cellsOf e = 1)
    (hval : Value.okWide P w r b0 t v) (hd : DataW.Trod enc P w 0 (fun _ => true) true t v d ps) : IntsIn v w := by
  obtain ⟨a, len, cap, rfl⟩ := okWide_slice ht hval
  obtain ⟨fuel, hf⟩ := hd
  rcases open_ints ht he hc hf with ⟨h, _⟩ | ⟨a', len', cap', zs, h, _, hl, hm, hz, _, hcell, hwf⟩
  · left
    simpa [Value.cells] using h
  · right
    simp only [if_true] at hz
    refine ⟨a', len', cap', fun i => zs.getD i 0, ?_, hl, hm, fun i hi => ?_⟩
    · simpa [Value.cells] using h
    · have hi2 : i < zs.length := by omega
      refine ⟨hcell i hi2, ?_⟩
      show -9223372036854775808 ≤ zs.getD i 0 ∧ zs.getD i 0 ≤ 9223372036854775807
      rw [List.getD_eq_getElem?_getD, List.getElem?_eq_getElem hi2]
      exact bounds_i64 (hwf _ (List.getElem_mem hi2))

/-- A slice of arrays of ints that came in. -/
def RowsIn (n : Nat) (v : Value) (w : World) : Prop :=
  v = .slice none 0 0 ∨ ∃ (a : Addr) (len cap : Nat) (Z : Nat → Nat → Int), v = .slice (some a) len cap ∧ len ≤ cap ∧ cap ≤ maxLen ∧ ∀ i, i < len → ∀ j, j < n → w.cell? ((a.add (i * n)).add j) = some (.int .i64 (Z i j)) ∧ -9223372036854775808 ≤ Z i j ∧ Z i j ≤ 9223372036854775807

theorem rows_open {H : Type} {enc : TypeId × Value → H} {P : Program} {w : World} {r : Reach} {b0 : Nat} {t k e : TypeId} {n : Nat} {v : Value} {d : DataW H} {ps : List MemPlace} (ht : P.underlying t = some (.slice k)) (hu : P.underlying k = some (.array n e)) (he : P.underlying e = some (.int .i64)) (one : P.cellsOf e = 1) (size : P.cellsOf k = n)
    (hval : Value.okWide P w r b0 t v) (hd : DataW.Trod enc P w 0 (fun _ => true) true t v d ps) : RowsIn n v w := by
  obtain ⟨a, len, cap, rfl⟩ := okWide_slice ht hval
  obtain ⟨fuel, hf⟩ := hd
  rcases Deep.open_slice ht hf with ⟨h, _⟩ | ⟨a', len', cap', m, q, D, Pl, h, _, hl, hm, hz, _, hx⟩
  · left
    simpa [Value.cells] using h
  · right
    simp only [if_true] at hz
    subst hz
    have each : ∀ i, i < m → ∃ f : Nat → Int, ∀ j, j < n → w.cell? ((a'.add (i * n)).add j) = some (.int .i64 (f j)) ∧ -9223372036854775808 ≤ f j ∧ f j ≤ 9223372036854775807 := by
      intro i hi
      obtain ⟨cs', h1, h2⟩ := hx i hi
      rw [size] at h1
      obtain ⟨_, hlen, hcell⟩ := World.cells?_some h1
      refine Deep.choose_lt (α := Int) (p := fun j z => w.cell? ((a'.add (i * n)).add j) = some (.int .i64 z) ∧ -9223372036854775808 ≤ z ∧ z ≤ 9223372036854775807) (fun j hj => ?_)
      obtain ⟨z, hz, wz⟩ := trod_arr_ints hu one size he hlen h2 j hj
      refine ⟨z, ?_, bounds_i64 wz⟩
      have := hcell j hj
      rw [this]
      first | exact hz | simpa using hz
    obtain ⟨Z, hZ⟩ := Deep.choose_lt (α := Nat → Int) each
    refine ⟨a', len', m, Z, ?_, hl, hm, fun i hi => hZ i (by omega)⟩
    simpa [Value.cells] using h

end Go.Proofs.YtjnolopnkecmdaaGreat

/-
  Whatever the package's variable digest.round holds: sixty-four words ('short' rows: the row lists no variable, and speaks of every world whose variables are well typed).
-/
namespace Go.Proofs.YtjnolopnkecmdaaGreat
open Go.RowKit

def Sha.num : Value → Int
  | .int _ n => n
  | _ => 0
theorem Sha.cell_word {P : Program} {w : World} {r : Reach} {b : Nat} {t : TypeId} {v : Value} (ht : P.underlying t = some (.int .u32)) (h : Cell.ok P w r b t v) : ∃ n, v = .int .u32 n := by
  unfold Cell.ok at h
  rw [ht] at h
  cases v <;> simp at h
  case int k n => exact ⟨n, by rw [h.1]⟩
set_option maxRecDepth 100000 in
theorem Sha.words_of {W : World} (h : W.ShapedOpen Tryz.prog) : ∃ l : List Int, ∀ i, i < 64 → W.cell? ⟨0, i, none⟩ = some (.int .u32 (l.getD i 0)) := by
  obtain ⟨cs, hh, hs, hr⟩ := h.1 0 (Array.replicate 64 (.int .u32 0)) 159 (of_decide_eq_true (by kernel_rfl)) (by kernel_rfl)
  obtain ⟨ts, hts, _, hall⟩ := hr (by kernel_rfl)
  have e : Tryz.prog.cellTypes Tryz.prog.depth 159 = some (List.replicate 64 136) := by kernel_rfl
  rw [e] at hts
  cases hts
  refine ⟨cs.toList.map Sha.num, fun i hi => ?_⟩
  have h1 : i < cs.size := by rw [hs, Array.size_replicate]; exact hi
  obtain ⟨u, hu, hok⟩ := hall i cs[i] (Array.getElem?_eq_getElem h1)
  obtain rfl : 136 = u := by
    rw [List.getElem?_replicate, List.length_replicate, Nat.mod_eq_of_lt hi, if_pos hi] at hu
    exact Option.some.inj hu
  have hcell : W.cell? ⟨0, i, none⟩ = some cs[i] := by simp [World.cell?, hh, h1]
  rw [hcell]
  obtain ⟨n, hn⟩ := Sha.cell_word Tryz.underlying136 hok
  have hg : (cs.toList.map Sha.num).getD i 0 = Sha.num cs[i] := by
    rw [List.getD_eq_getElem?_getD, List.getElem?_map, Array.getElem?_toList, Array.getElem?_eq_getElem h1]
    rfl
  rw [hg, hn]
  rfl

end Go.Proofs.YtjnolopnkecmdaaGreat
