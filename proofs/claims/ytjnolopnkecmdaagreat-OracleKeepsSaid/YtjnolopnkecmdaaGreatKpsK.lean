/-
  Several texts in one: Kps.
-/
import Derived.Test.YtjnolopnkecmdaaGreatOrcRK
import Derived.Test.YtjnolopnkecmdaaGreatDrwBK
import Derived.Test.YtjnolopnkecmdaaGreatRK

/-
  What the row OracleKeeps holds from round to round.
-/
namespace Go.Proofs.YtjnolopnkecmdaaGreat
open Go.RowKit

theorem ints_below {v : Value} {w W : World} (h : IntsIn v w) (hb : Below w.heap.size w W) : IntsIn v W := by
  rcases h with h | ⟨a, len, cap, Z, h0, h1, h2, h3⟩
  · exact .inl h
  · exact .inr ⟨a, len, cap, Z, h0, h1, h2, fun i hi => ⟨cell_below hb (h3 i hi).1, (h3 i hi).2⟩⟩
/-- A slice of questions that came in, as one. -/
theorem rows_one {v : Value} {w : World} (h : RowsIn 4 v w) : ∃ ao len cap, v = .slice ao len cap ∧ len ≤ maxLen ∧ ∀ i, i < len → ∃ a z0 z1 z2 z3, ao = some a ∧ (w.cell? ((a.add (i * 4)).add 0) = some (.int .i64 z0) ∧ w.cell? ((a.add (i * 4)).add 1) = some (.int .i64 z1) ∧ w.cell? ((a.add (i * 4)).add 2) = some (.int .i64 z2) ∧ w.cell? ((a.add (i * 4)).add 3) = some (.int .i64 z3)) ∧
    (-9223372036854775808 ≤ z0 ∧ z0 ≤ 9223372036854775807) ∧ (-9223372036854775808 ≤ z1 ∧ z1 ≤ 9223372036854775807) ∧ (-9223372036854775808 ≤ z2 ∧ z2 ≤ 9223372036854775807) ∧ (-9223372036854775808 ≤ z3 ∧ z3 ≤ 9223372036854775807) := by
  rcases h with rfl | ⟨a, len, cap, Z, rfl, h1, h2, h3⟩
  · exact ⟨_, _, _, rfl, Nat.zero_le _, fun i hi => by omega⟩
  · exact ⟨_, _, _, rfl, by omega, fun i hi => ⟨a, Z i 0, Z i 1, Z i 2, Z i 3, rfl, ⟨(h3 i hi 0 (by decide)).1, (h3 i hi 1 (by decide)).1, (h3 i hi 2 (by decide)).1, (h3 i hi 3 (by decide)).1⟩, (h3 i hi 0 (by decide)).2, (h3 i hi 1 (by decide)).2, (h3 i hi 2 (by decide)).2, (h3 i hi 3 (by decide)).2⟩⟩
theorem wordOf_size (c : Int) : (wordOf c).size ≤ 20 ∧ (wordOf c).size ≠ 7 := by
  unfold wordOf
  obtain ⟨k, hk, hk6⟩ := pick_nat c 6 (by decide)
  change pickOf c 6 = (k : Int) at hk
  rw [hk, Int.toNat_natCast]
  rcases k with _ | _ | _ | _ | _ | _ | k <;> first | decide | omega

/-- A list of texts in a block of its own. -/
def StrAt (W : World) (B : Nat) (v : Value) (l : List ByteArray) : Prop := W.ownsRow B 9 1 v l.length (l.map .string)

/-- Two lists that begin unlike lie in unlike blocks. -/
theorem str_apart {W : World} {B : Nat} {v u : Value} {a b : ByteArray} {l k : List ByteArray} (h1 : StrAt W B v (a :: l)) (h2 : StrAt W B u (b :: k)) (hne : a.size ≠ b.size) : ∀ g, v.ownBlock = some g → u.ownBlock ≠ some g := by
  rcases ownsRow_cases h1 (by decide) with ⟨_, h, _⟩ | ⟨g1, cap1, rfl, _, _, _, hc1⟩
  · cases h
  rcases ownsRow_cases h2 (by decide) with ⟨_, h, _⟩ | ⟨g2, cap2, rfl, _, _, _, hc2⟩
  · cases h
  intro g e1 e2
  injection e1 with e1
  injection e2 with e2
  dsimp only at e1 e2
  have x := hc1 0 (.string a) rfl
  have y := hc2 0 (.string b) rfl
  rw [e1] at x
  rw [e2, x] at y
  injection y with y
  injection y with y
  exact hne (by rw [y])

theorem str_apart2 {W : World} {B : Nat} {v u : Value} {l k : List ByteArray} (h1 : StrAt W B v l) (h2 : StrAt W B u k) (hl : ∀ a ∈ l, a.size ≠ 16) (hk : ∀ a ∈ k, a.size = 16) (h0 : l = [] → v = .slice none 0 0) (h0' : k = [] → u = .slice none 0 0) :
    ∀ g, v.ownBlock = some g → u.ownBlock ≠ some g := by
  rcases l with _ | ⟨a, l⟩
  · intro g e
    rw [h0 rfl] at e
    cases e
  rcases k with _ | ⟨b, k⟩
  · intro g _ e
    rw [h0' rfl] at e
    cases e
  · refine str_apart h1 h2 fun e => hl a List.mem_cons_self ?_
    rw [e]
    exact hk b List.mem_cons_self
theorem Held.grown {W W' : World} {g : Nat} {o : Orc} {v : Value} {l : List ByteArray} (h : Held W g o) (hv : StrAt W (g + 2) v l) (hk : Keep (fun k => v.ownBlock ≠ some k) W W') : Held W' g o := by
  obtain ⟨n1, m1, c1, k1, h1, h2, h3⟩ := h
  exact ⟨n1, m1, c1, k1, h1.keep hk (fun e => by have := (hv.lt g e).1; omega), owns_keep h2 hk (fun k hk2 e => two_rows hv h2 (by decide) e hk2), owns_keep h3 hk (fun k hk2 e => two_rows hv h3 (by decide) e hk2)⟩
theorem map_inj {α β : Type} [DecidableEq β] {l : List α} {f : α → β} (hn : (l.map f).Nodup) {x y : α} (hx : x ∈ l) (hy : y ∈ l) (h : f x = f y) : x = y := by
  have h1 := Idl.find_first (f := f) hn hx (p := fun z => decide (f z = f x)) (fun z => by simp)
  have h2 := Idl.find_first (f := f) hn hy (p := fun z => decide (f z = f x)) (fun z => by simp [h])
  rw [h1] at h2
  exact Option.some.inj h2
theorem infoStr : (Tryz.prog.info? 9).map (fun i => (i.zero, i.size, i.bytes)) = some (some (.string ⟨#[]⟩), 1, 16) := by kernel_rfl
theorem str_snoc {W : World} {B n : Nat} {v : Value} {l : List ByteArray} {q : ByteArray} (h : W.ownsRow B 9 1 v n (l.map .string ++ [.string q])) (hn : n = l.length + 1) : StrAt W B v (l ++ [q]) := by
  unfold StrAt
  rw [List.length_append, List.map_append]
  subst hn
  exact h
/-- A cell of such a list. -/
theorem str_at {W : World} {B : Nat} {v : Value} {l : List ByteArray} (h : StrAt W B v l) {k : Nat} {x : ByteArray} (hx : l[k]? = some x) : ∃ g cap, v = .slice (some ⟨g, 0, none⟩) l.length cap ∧ W.cell? ⟨g, k, none⟩ = some (.string x) := by
  rcases ownsRow_cases h (by decide) with ⟨_, h1, _⟩ | ⟨g, cap, hv, _, _, _, hc⟩
  · have := (List.getElem?_eq_some_iff.1 hx).1
    omega
  · exact ⟨g, cap, hv, hc k _ (by rw [List.getElem?_map, hx]; rfl)⟩
theorem str_put7 {W : World} {g : Nat} {v : Value} {l : List ByteArray} (h : StrAt W (g + 2) v l) (f : Nat → Value) : StrAt (put7 W g f) (g + 2) v l := by
  have hk : Keep (fun k => k ≠ g) W (put7 W g f) := by
    unfold put7
    have hx : ∀ o, ((⟨g, o, none⟩ : Addr).block ≠ g → W.heap.size ≤ (⟨g, o, none⟩ : Addr).block) := fun o h => absurd rfl h
    exact (((((((Keep.refl _ W).setCell (hx 0) _).setCell (hx 1) _).setCell (hx 2) _).setCell (hx 3) _).setCell (hx 4) _).setCell (hx 5) _).setCell (hx 6) _
  exact owns_keep h hk (fun k hk2 e => by have := (h.lt k hk2).1; omega)
theorem row_put7_other {W : World} {g g' : Nat} {T : TypeId} {cs : Array Value} (h : Row W g' T cs) (hne : g' ≠ g) (f : Nat → Value) : Row (put7 W g f) g' T cs := by
  unfold put7
  exact ((((((h.other (a := ⟨g, 0, none⟩) hne _).other (a := ⟨g, 1, none⟩) hne _).other (a := ⟨g, 2, none⟩) hne _).other (a := ⟨g, 3, none⟩) hne _).other (a := ⟨g, 4, none⟩) hne _).other (a := ⟨g, 5, none⟩) hne _).other (a := ⟨g, 6, none⟩) hne _

namespace Kp
/-- Where the row stands at the head of a round: g, g + 1: its oracle, its first tape. -/
def At [Sha.Words] (w : World) (m : Int) (K s : ByteArray) (g i : Nat) (v14 v15 : Value) (wr : World) : Prop :=
  ∃ (o : Orc) (A L : List ByteArray), Held wr g o ∧ o.Good ∧ o.m = m ∧ o.key = K ∧ o.d.tb.size = 2000 ∧ o.d.nm.length ≤ i ∧ o.d.cl.length ≤ i ∧ o.d.pos ≤ 56 * i ∧ (m = 1 → o.d.tb = s ∧ o.d.pos = 0) ∧ (m = 1 → ∀ c ∈ o.d.cl, c.2.2 = Orc.box K c.1 c.2.1) ∧
    A.length = i ∧ L.length = i ∧ (∀ (k : Nat) (a l : ByteArray), A[k]? = some a → L[k]? = some l → (a, l) ∈ o.d.nm) ∧ (∀ a ∈ A, a.size ≠ 16) ∧ (∀ l ∈ L, l.size = 16) ∧ (A = [] → v14 = .slice none 0 0 ∧ v15 = .slice none 0 0) ∧
    StrAt wr (g + 2) v14 A ∧ StrAt wr (g + 2) v15 L ∧ Row wr (g + 1) 23 #[.string s, .int .i64 0] ∧ Below w.heap.size w wr

theorem start [Sha.Words] (w : World) (m : Int) (K s : ByteArray) (w3 : World) (hb : Below w.heap.size w w3) (hg : (⟨m, K, Idl.fresh s 0⟩ : Orc).Good) (hs : s.size = 2000) :
    At w m K s w3.heap.size 0 (.slice none 0 0) (.slice none 0 0) ((w3.alloc (.cells #[.int .i64 m, .string K, .string s, .int .i64 0, .slice none 0 0, .slice none 0 0, .bool false] 31)).alloc (.cells #[.string s, .int .i64 0] 23)) := by
  obtain ⟨p0, q0, hb0, hz⟩ := box2 w3 #[.int .i64 m, .string K, .string s, .int .i64 0, .slice none 0 0, .slice none 0 0, .bool false] #[.string s, .int .i64 0] 31 23
  refine ⟨⟨m, K, Idl.fresh s 0⟩, [], [], ⟨none, 0, none, 0, ?_, nm_nil _ _, cl_nil _ _⟩, hg, rfl, rfl, hs, Nat.zero_le _, Nat.zero_le _, Nat.zero_le _, fun _ => ⟨rfl, rfl⟩, (fun _ => by show ∀ c ∈ ([] : List (ByteArray × ByteArray × ByteArray)), _; simp), rfl, rfl, (fun k a l h => by simp at h), (fun a ha => by simp at ha), (fun l hl => by simp at hl), fun _ => ⟨rfl, rfl⟩, World.ownsRow_nil _ _ _ 1, World.ownsRow_nil _ _ _ 1, q0, hb.trans (hb0.mono hb.size)⟩
  show Row _ _ _ (Orc.vals m K s 0 (.slice none 0 0) (.slice none 0 0) (Idl.fresh s 0).clash)
  rw [Idl.fresh_clash]
  exact p0
end Kp

end Go.Proofs.YtjnolopnkecmdaaGreat
