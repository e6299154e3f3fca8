/-
  Words on whole blocks of memory ('Row'): cells, stores, loads. No program in sight.
-/
import Derived.Test.YtgcfaeipiiagdaaRf
import Derived.Laws.Rows
import Derived.ChangeKeysEq
import Derived.Deep.MidRow
import Derived.Deep.Draws
import Derived.Laws.CopyOwn
import Derived.Lib.ConvBytes
import Derived.Laws.AppendOwn
import Derived.Laws.OwnMore
import Derived.OwnWalk
namespace Go.Proofs.Ytgcfaeipiiagdaa
open Go.RowKit

/-- A byte. -/
abbrev U (n : Nat) : Value := .int .u8 (n : Int)

/-- Block g is cs, of element type t, and may be written. -/
def Row (W : World) (g : Nat) (t : TypeId) (cs : Array Value) : Prop := W.heap[g]? = some (.cells cs t (0, 0))

namespace Row
variable {W W' : World} {g : Nat} {t : TypeId} {cs : Array Value}
theorem lt (h : Row W g t cs) : g < W.heap.size := (Array.getElem?_eq_some_iff.1 h).1
theorem cell (h : Row W g t cs) (j : Nat) : W.cell? ⟨g, j, none⟩ = cs[j]? := cell_of_row W g j cs t _ h
theorem frozen (h : Row W g t cs) (j : Nat) : W.frozen? ⟨g, j, none⟩ = false := by
  simp only [World.frozen?, show W.heap[g]? = _ from h]; simp
theorem keep {S : Nat → Prop} (h : Row W g t cs) (hk : Keep S W W') (hg : S g) : Row W' g t cs := hk.heap hg h
theorem below {B : Nat} (h : Row W g t cs) (hk : Below B W W') (hg : g < B) : Row W' g t cs := (hk.block g hg).trans h
theorem drew (h : Row W g t cs) : Row W.drew g t cs := h
theorem undrew (h : Row W.drew g t cs) : Row W g t cs := h
theorem store (h : Row W g t cs) (j : Nat) (v : Value) : Row (W.setCell ⟨g, j, none⟩ v) g t (cs.setIfInBounds j v) := by
  show (W.heap.modify g _)[g]? = _
  rw [Array.getElem?_modify, if_pos rfl, show W.heap[g]? = _ from h]
  rfl
theorem other (h : Row W g t cs) {a : Addr} (hne : g ≠ a.block) (v : Value) : Row (W.setCell a v) g t cs := heap_setCell_other h a hne v
theorem alloc (h : Row W g t cs) (o : Obj) : Row (W.alloc o) g t cs := (Below.heap_alloc _ _ _ h.lt).trans h
theorem new (W : World) (t : TypeId) (cs : Array Value) : Row (W.alloc (.cells cs t)) W.heap.size t cs := World.alloc_heap_new _ _
end Row

/-! ### Blocks of bytes -/
namespace Bs
/-- Bytes as values. -/
abbrev vals (l : List Nat) : Array Value := (l.map U).toArray
theorem get (l : List Nat) {j : Nat} (h : j < l.length) : (vals l)[j]? = some (U (l.getD j 0)) := by simp [vals, List.getD_eq_getElem?_getD, h]
theorem set (l : List Nat) (j x : Nat) : (vals l).setIfInBounds j (U x) = vals (l.set j x) := by
  simp [vals]
theorem size (l : List Nat) : (vals l).size = l.length := by simp [vals]
theorem one (l : List Nat) : (vals l).all (·.oneCell') = true := by simp [vals, Value.oneCell']

/-- What is new up to i, and what was from there on. -/
def upTo (i : Nat) (new old : List Nat) : List Nat := new.take i ++ old.drop i
theorem upTo_zero (new old : List Nat) : upTo 0 new old = old := by simp [upTo]
theorem upTo_all {i : Nat} {new old : List Nat} (h : new.length ≤ i) (h2 : old.length ≤ i) : upTo i new old = new := by simp [upTo, List.take_of_length_le h, List.drop_eq_nil_of_le h2]
theorem upTo_length {i : Nat} {new old : List Nat} (h : new.length = old.length) : (upTo i new old).length = old.length := by simp [upTo]; omega
theorem upTo_get {i j : Nat} {new old : List Nat} (h : new.length = old.length) (hij : i ≤ j) : (upTo i new old).getD j 0 = old.getD j 0 := by
  simp only [upTo, List.getD_eq_getElem?_getD, List.getElem?_append, List.length_take]
  by_cases hi : j < min i new.length
  · omega
  · rw [if_neg hi, List.getElem?_drop]
    by_cases hn : i ≤ new.length
    · rw [show i + (j - min i new.length) = j from by omega]
    · rw [List.getElem?_eq_none (by omega), List.getElem?_eq_none (by omega)]
theorem upTo_set {i : Nat} {new old : List Nat} (h : new.length = old.length) (hi : i < old.length) : (upTo i new old).set i (new.getD i 0) = upTo (i + 1) new old := by
  have hn : i < new.length := by omega
  apply List.ext_getElem
  · simp [upTo]; omega
  · intro j h1 h2
    rw [List.getElem_set]
    simp only [upTo, List.getElem_append, List.length_take, List.getElem_take, List.getElem_drop, List.getD_eq_getElem?_getD, List.getElem?_eq_getElem hn, Option.getD_some]
    by_cases e : i = j
    · subst e; rw [if_pos rfl, dif_pos (by omega)]
    · rw [if_neg e]
      by_cases h3 : j < i
      · rw [dif_pos (by omega), dif_pos (by omega)]
      · rw [dif_neg (by omega), dif_neg (by omega)]
        congr 1; omega

/-- All are bytes. -/
def All (l : List Nat) : Prop := ∀ j, l.getD j 0 < 256
theorem All.of_mem {l : List Nat} (h : ∀ x ∈ l, x < 256) : All l := fun j => by
  rw [List.getD_eq_getElem?_getD]
  by_cases hj : j < l.length
  · rw [List.getElem?_eq_getElem hj]; exact h _ (List.getElem_mem hj)
  · rw [List.getElem?_eq_none (by omega)]; exact (by decide : 0 < 256)
theorem All.mem {l : List Nat} (h : All l) : ∀ x ∈ l, x < 256 := fun x hx => by
  obtain ⟨j, hj, rfl⟩ := List.mem_iff_getElem.1 hx
  have := h j
  rwa [List.getD_eq_getElem?_getD, List.getElem?_eq_getElem hj] at this
theorem All.map {l : List Nat} {f : Nat → Nat} (hf : ∀ x, x < 256 → f x < 256) (h : All l) : All (l.map f) := .of_mem fun x hx => by
  obtain ⟨y, hy, rfl⟩ := List.mem_map.1 hx
  exact hf y (h.mem y hy)
end Bs

/-- The element of an array of bytes that is a value. -/
theorem run_index_bytes {P : Program} {t e : TypeId} {n : Nat} {l : List Nat} {i : TypeInfo} (ht : P.underlying t = some (.array n e)) (he : P.underlying e = some (.int .u8)) (hi : P.info? e = some i) (hz : P.cellsOf e = 1) (hl : l.length = n) {j : Nat} (hj : j < n) (w : World) :
    (Instr.index t (.agg (Bs.vals l)) (.int .i64 (j : Int))).run P w = .ok (U (l.getD j 0)) w := by
  have hagg : (isAgg e).run P w = .ok false w := by
    unfold isAgg
    rw [Sem.run_bind, run_underlying he w]
    simp
  have hg := Bs.get l (j := j) (by omega)
  simp only [Instr.index, asIntOf, Sem.run_bind, Sem.run_pure, Result.andThen_ok, run_underlying ht]
  rw [if_pos (by omega)]
  simp only [Sem.run_bind, run_sizeOf w hi, Result.andThen_ok, hz, Nat.mul_one, Int.toNat_natCast, part, hagg, hg]
  simp

theorem Row.setCells_some {g : Nat} {t : TypeId} : ∀ (vs : List Value) (o : Nat) (W : World) (cs : Array Value), Row W g t cs → ∃ cs' : Array Value, Row (W.setCells g o vs) g t cs' ∧ cs'.size = cs.size
  | [], _, _, cs, h => ⟨cs, h, rfl⟩
  | v :: vs, o, W, cs, h => by
    obtain ⟨cs', h1, h2⟩ := Row.setCells_some vs (o + 1) _ _ (h.store o v)
    exact ⟨cs', h1, by rw [h2]; simp⟩
theorem Row.there {W : World} {g : Nat} {t : TypeId} {cs : Array Value} (h : Row W g t cs) {n : Nat} (hn : n ≤ cs.size) : W.there g 0 n := fun j hj => by
  refine ⟨?_, h.frozen _⟩
  rw [Nat.zero_add, h.cell j, Array.getElem?_eq_getElem (by omega)]; rfl
/-- A whole block stored anew. -/
theorem Row.setCells {W : World} {g : Nat} {t : TypeId} {cs : Array Value} (h : Row W g t cs) {vs : List Value} (hl : vs.length = cs.size) : Row (W.setCells g 0 vs) g t vs.toArray := by
  obtain ⟨cs', h1, h2⟩ := Row.setCells_some vs 0 W cs h
  have e : cs' = vs.toArray := by
    apply Array.ext
    · simp [h2, hl]
    · intro j hj _
      have hv : j < vs.length := by omega
      have := World.cell?_setCells_in g vs 0 W (fun i hi => (h.there (n := vs.length) (by omega) i hi).1) j hv
      rw [Nat.zero_add, h1.cell j, Array.getElem?_eq_getElem hj] at this
      simpa using this
  rw [e] at h1; exact h1
theorem Keep.setCells {S : Nat → Prop} {a : World} {g : Nat} (hp : S g → a.heap.size ≤ g) : ∀ (vs : List Value) (o : Nat) (W : World), Keep S a W → Keep S a (W.setCells g o vs)
  | [], _, _, h => h
  | v :: vs, o, _, h => Keep.setCells hp vs (o + 1) _ (h.setCell (p := ⟨g, o, none⟩) hp v)
theorem Row.other_setCells {g b : Nat} {t : TypeId} {cs : Array Value} (hne : g ≠ b) : ∀ (vs : List Value) (o : Nat) (W : World), Row W g t cs → Row (W.setCells b o vs) g t cs
  | [], _, _, h => h
  | v :: vs, o, _, h => Row.other_setCells hne vs (o + 1) _ (h.other (a := ⟨b, o, none⟩) hne v)

theorem Bs.splice_upTo {o : Nat} {new old : List Nat} (h : new.length = old.length) (ho : o + 4 ≤ old.length) :
    splice ((Bs.upTo o new old).map U) o [U (new.getD o 0), U (new.getD (o + 1) 0), U (new.getD (o + 2) 0), U (new.getD (o + 3) 0)] = (Bs.upTo (o + 4) new old).map U := by
  have e1 : (Bs.upTo o new old).take o = new.take o := by simp [Bs.upTo, List.take_append, List.take_take]; omega
  have e2 : (Bs.upTo o new old).drop (o + 4) = old.drop (o + 4) := by
    simp only [Bs.upTo, List.drop_append, List.length_take, List.drop_drop]
    rw [List.drop_eq_nil_of_le (by simp; omega), List.nil_append]
    congr 1; omega
  have e3 : new.take (o + 4) = new.take o ++ [new.getD o 0, new.getD (o + 1) 0, new.getD (o + 2) 0, new.getD (o + 3) 0] := by
    rw [List.take_succ_eq_append_getElem (by omega : o + 3 < new.length), List.take_succ_eq_append_getElem (by omega : o + 2 < new.length), List.take_succ_eq_append_getElem (by omega : o + 1 < new.length), List.take_succ_eq_append_getElem (by omega : o < new.length)]
    have g : ∀ j, (hj : j < new.length) → new.getD j 0 = new[j] := fun j hj => by rw [List.getD_eq_getElem?_getD, List.getElem?_eq_getElem hj]; rfl
    rw [g o (by omega), g (o + 1) (by omega), g (o + 2) (by omega), g (o + 3) (by omega)]
    simp only [List.append_assoc, List.cons_append, List.nil_append]
  unfold splice
  rw [← List.map_take, ← List.map_drop, e1, show o + [U (new.getD o 0), U (new.getD (o + 1) 0), U (new.getD (o + 2) 0), U (new.getD (o + 3) 0)].length = o + 4 from rfl, e2]
  rw [show Bs.upTo (o + 4) new old = new.take (o + 4) ++ old.drop (o + 4) from rfl, e3]
  simp

/-- copy(dst, src) into a block of bytes, as one step of a region: the block turns, all else lies as it lay. -/
theorem step_copy_keep {P : Program} {ops : Array Oper} {o : Oper} {a : Act} {w : World} {K : Act → World → Prop} {Q : Exit → Act → World → Prop} {E : Prop} (hgd : o.guard = none) (d s : Operand) (dT sT : TypeId)
    (ho : o.op = .call { callee := .builtin .copy, args := #[d, s], argTypes := #[dT, sT] }) (elem : TypeId) (hu : P.underlying dT = some (.slice elem)) (hsz : (P.info? elem).map (·.size) = some 1)
    (g off dLen dCap : Nat) (ad : Addr) (sLen sCap : Nat) (hd : a.eval d = .slice (some ⟨g, off, none⟩) dLen dCap) (hs : a.eval s = .slice (some ad) sLen sCap)
    (cur : List Value) (t : TypeId) (hg : Row w g t cur.toArray) (cs : List Value) (hn : cs.length = Nat.min sLen dLen)
    (hsrc : ∀ j v, cs[j]? = some v → w.cell? (ad.add j) = some v) (hfit : off + cs.length ≤ cur.length) (h1 : ∀ v ∈ cs, v.oneCell' = true)
    (h : ∀ w', Hid (Row w' g t (splice cur off cs).toArray) → Keep (fun k => k ≠ g) w w' → K (a.put o.dst (goInt cs.length)) w') :
    if Region.wanted o (yielded ops a.tmps) = true then Oper.wp P o a w K Q else E := by
  have hw : Region.wanted o (yielded ops a.tmps) = true := by simp [Region.wanted, hgd]
  rw [if_pos hw]
  have hrun := run_copy_row (P := P) w dT sT o.type elem g off dLen dCap ad sLen sCap cur.toArray t cs hu hsz hg hn hsrc (by simpa using hfit) h1
  unfold Oper.wp
  simp [execOp, ho, resolve, invoke, builtin, hd, hs, hrun, Result.andThen]
  refine h _ (show _ = _ by simpa [splice] using setRow_heap w g _ _ t _ hg) ⟨rfl, rfl, rfl, by simp [World.setRow], fun k hk _ => setRow_other w g k _ hk⟩

/-- A string's bytes as numbers. -/
def bytesOf (s : ByteArray) : List Nat := s.data.toList.map UInt8.toNat
theorem bytesOf_length (s : ByteArray) : (bytesOf s).length = s.size := by simp [bytesOf]
theorem bytesOf_all (s : ByteArray) : Bs.All (bytesOf s) := .of_mem fun x hx => by
  obtain ⟨c, _, rfl⟩ := List.mem_map.1 hx
  exact c.toNat_lt
theorem bytesOf_extract (s : ByteArray) (lo hi : Nat) (_ : hi ≤ s.size) : bytesOf (s.extract lo hi) = ((bytesOf s).drop lo).take (hi - lo) := by
  simp [bytesOf, ByteArray.data_extract, List.map_drop, List.map_take]
theorem bytesOf_getD (s : ByteArray) (j : Nat) : (bytesOf s).getD j 0 = (s.data.toList.getD j 0).toNat := by
  simp only [bytesOf, List.getD_eq_getElem?_getD, List.getElem?_map]
  cases s.data.toList[j]? <;> rfl

/-- []byte(s): a new block whose first cells are the bytes; all else lies as it lay. -/
theorem conv_bytes {P : Program} {src dst e : TypeId} {u : TypeDesc} (hs : P.underlying src = some u) (hd : P.underlying dst = some (.slice e)) (he : P.underlying e = some (.int .u8)) (s : ByteArray) (w : World) :
    ∃ (W1 : World) (cap : Nat), (convert src dst (.string s)).run P w = .ok (.slice (some ⟨w.heap.size, 0, none⟩) s.size cap) W1 ∧ Below w.heap.size w W1 ∧ W1.heap.size = w.heap.size + 1 ∧
      (∀ j, j < s.size → W1.cell? ⟨w.heap.size, j, none⟩ = some (U ((bytesOf s).getD j 0))) :=
  ⟨_, _, Lib.run_convert_string_bytes w src dst e s hs hd he, ⟨rfl, rfl, rfl, by rw [Lib.bytesWorld_size]; omega, fun k hk => Lib.bytesWorld_at_old w e s k hk⟩, Lib.bytesWorld_size w e s,
    fun j hj => by rw [bytesOf_getD]; exact Lib.bytesWorld_cell w e s j hj⟩

theorem keep_grown {W W' : World} {v : Value} (h : W.grownBy W' v.ownBlock) : Keep (fun k => v.ownBlock ≠ some k) W W' :=
  ⟨h.os, h.tape, h.output, h.size, fun k hk hl => h.block k hl (fun e => hk e.symm)⟩

/-- What the call owns stays owned where its block is kept. -/
theorem owns_keep {W W' : World} {base : Nat} {e : TypeId} {size n : Nat} {v : Value} {xs : List Value} {S : Nat → Prop} (h : W.ownsRow base e size v n xs) (hk : Keep S W W') (hs : ∀ k, v.ownBlock = some k → S k) : W'.ownsRow base e size v n xs := by
  refine ⟨h.1, ?_⟩
  rcases h.2 with hn | ⟨g, cap, cur, rfl, hb, hgg, rest⟩
  · exact .inl hn
  · exact .inr ⟨g, cap, cur, rfl, hb, hk.heap (hs g rfl) hgg, rest⟩
theorem owns_below {W W' : World} {base : Nat} {e : TypeId} {size n : Nat} {v : Value} {xs : List Value} (h : W.ownsRow base e size v n xs) (hk : Below W.heap.size W W') : W'.ownsRow base e size v n xs :=
  owns_keep h (Keep.below (S := fun _ => True) hk) (fun _ _ => trivial)
theorem Bs.take_four {l : List Nat} {i : Nat} (h : 4 * i + 4 ≤ l.length) : l.take (4 * (i + 1)) = l.take (4 * i) ++ [l.getD (4 * i + 0) 0, l.getD (4 * i + 1) 0, l.getD (4 * i + 2) 0, l.getD (4 * i + 3) 0] := by
  have g : ∀ j, (hj : j < l.length) → l.getD j 0 = l[j] := fun j hj => by rw [List.getD_eq_getElem?_getD, List.getElem?_eq_getElem hj]; rfl
  rw [show 4 * (i + 1) = 4 * i + 3 + 1 by omega, List.take_succ_eq_append_getElem (by omega : 4 * i + 3 < l.length), List.take_succ_eq_append_getElem (by omega : 4 * i + 2 < l.length), List.take_succ_eq_append_getElem (by omega : 4 * i + 1 < l.length), List.take_succ_eq_append_getElem (by omega : 4 * i < l.length)]
  rw [g (4 * i + 0) (by omega), g (4 * i + 1) (by omega), g (4 * i + 2) (by omega), g (4 * i + 3) (by omega)]
  simp only [List.append_assoc, List.cons_append, List.nil_append, Nat.add_zero]

theorem bcell {W w1 : World} (hb : Below W.heap.size W w1) : (∀ b o, b < W.heap.size → w1.cell? ⟨b, o, none⟩ = W.cell? ⟨b, o, none⟩) ∧ (∀ b o, b < W.heap.size → w1.frozen? ⟨b, o, none⟩ = W.frozen? ⟨b, o, none⟩) :=
  ⟨fun b o h => hb.cell (p := ⟨b, o, none⟩) h, fun b o h => hb.frozen (p := ⟨b, o, none⟩) h⟩

theorem below_drewN {W w1 : World} {n : Nat} (hb : Below (W.drewN n).heap.size (W.drewN n) w1) : Below W.heap.size W w1 := ⟨hb.os, hb.tape, hb.output, hb.size, hb.block⟩
theorem below_drew {W w1 : World} (hb : Below W.drew.heap.size W.drew w1) : Below W.heap.size W w1 := ⟨hb.os, hb.tape, hb.output, hb.size, hb.block⟩
theorem frozen_below {W w1 : World} {p : Addr} {v : Value} (hb : Below W.heap.size W w1) (hc : W.cell? p = some v) : w1.frozen? p = W.frozen? p := by
  obtain ⟨o, ho, _⟩ := cells_of_cell hc
  exact hb.frozen (Array.getElem?_eq_some_iff.1 ho).1
theorem cell_below {W w1 : World} {p : Addr} {v : Value} (hb : Below W.heap.size W w1) (hc : W.cell? p = some v) : w1.cell? p = some v := by
  obtain ⟨o, ho, _⟩ := cells_of_cell hc
  exact (hb.cell (Array.getElem?_eq_some_iff.1 ho).1).trans hc

end Go.Proofs.Ytgcfaeipiiagdaa
