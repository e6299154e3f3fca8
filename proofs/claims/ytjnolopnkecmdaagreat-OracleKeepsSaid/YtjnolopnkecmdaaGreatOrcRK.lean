/-
  Several texts in one: OrcR.
-/
import Derived.Test.YtjnolopnkecmdaaGreatRegBK
import Derived.Test.YtjnolopnkecmdaaGreatOD
import Derived.Test.YtjnolopnkecmdaaGreatIC

/-
  What a row of layer 9 holds: oracles in memory; what regions that call Label and Cell are said to hold; plain steps.
-/
namespace Go.Proofs.YtjnolopnkecmdaaGreat
open Go.RowKit

/-- An oracle in memory. -/
def Held (W : World) (g : Nat) (o : Orc) : Prop :=
  ∃ n1 m1 c1 k1, Row W g 31 (Orc.vals o.m o.key o.d.tb o.d.pos (.slice n1 o.d.nm.length m1) (.slice c1 o.d.cl.length k1) o.d.clash) ∧ NmAt W 0 (.slice n1 o.d.nm.length m1) o.d.nm ∧ ClAt W 0 (.slice c1 o.d.cl.length k1) o.d.cl
theorem Held.below {W W' : World} {g : Nat} {o : Orc} (h : Held W g o) (hb : Below W.heap.size W W') : Held W' g o := by
  obtain ⟨n1, m1, c1, k1, h1, h2, h3⟩ := h
  exact ⟨n1, m1, c1, k1, h1.below hb h1.lt, owns_below h2 hb, owns_below h3 hb⟩
theorem Held.lt {W : World} {g : Nat} {o : Orc} (h : Held W g o) : g < W.heap.size := by
  obtain ⟨_, _, _, _, h1, _, _⟩ := h
  exact h1.lt

def orcZ : Array Value := #[.int .i64 0, .string ⟨#[]⟩, .string ⟨#[]⟩, .int .i64 0, .slice none 0 0, .slice none 0 0, .bool false]

/-- What a call that tells a text and an oracle yields; b: it is stored already. -/
def TupIs (b : Bool) (S : ByteArray) (P : Orc) (v : Value) (W : World) : Prop :=
  ∃ n1 m1 c1 k1, v = .tuple #[.string S, .agg (Orc.vals P.m P.key P.d.tb P.d.pos (.slice n1 P.d.nm.length m1) (.slice c1 P.d.cl.length k1) P.d.clash), .int .i64 0] ∧ (b = false → NmAt W 0 (.slice n1 P.d.nm.length m1) P.d.nm ∧ ClAt W 0 (.slice c1 P.d.cl.length k1) P.d.cl)
def AggIs (b : Bool) (P : Orc) (v : Value) (W : World) : Prop :=
  ∃ n1 m1 c1 k1, v = .agg (Orc.vals P.m P.key P.d.tb P.d.pos (.slice n1 P.d.nm.length m1) (.slice c1 P.d.cl.length k1) P.d.clash) ∧ (b = false → NmAt W 0 (.slice n1 P.d.nm.length m1) P.d.nm ∧ ClAt W 0 (.slice c1 P.d.cl.length k1) P.d.cl)
def CellIs (b : Bool) (base : Nat) (P : Orc) (v : Value) (W : World) : Prop :=
  ∃ g, v = .pointer (some ⟨g, 0, none⟩) ∧ base ≤ g ∧ (if b = true then Held W g P else Row W g 31 orcZ)
theorem TupIs.mono {b : Bool} {S : ByteArray} {P : Orc} {v : Value} {W W' : World} (h : TupIs b S P v W) (hb : Below W.heap.size W W') : TupIs b S P v W' := by
  obtain ⟨n1, m1, c1, k1, h1, h2⟩ := h
  exact ⟨n1, m1, c1, k1, h1, fun e => ⟨owns_below (h2 e).1 hb, owns_below (h2 e).2 hb⟩⟩
theorem AggIs.mono {b : Bool} {P : Orc} {v : Value} {W W' : World} (h : AggIs b P v W) (hb : Below W.heap.size W W') : AggIs b P v W' := by
  obtain ⟨n1, m1, c1, k1, h1, h2⟩ := h
  exact ⟨n1, m1, c1, k1, h1, fun e => ⟨owns_below (h2 e).1 hb, owns_below (h2 e).2 hb⟩⟩
theorem CellIs.mono {b : Bool} {base : Nat} {P : Orc} {v : Value} {W W' : World} (h : CellIs b base P v W) (hb : Below W.heap.size W W') : CellIs b base P v W' := by
  obtain ⟨g, h1, h2, h3⟩ := h
  refine ⟨g, h1, h2, ?_⟩
  cases b with
  | true => exact Held.below h3 hb
  | false => exact Row.below h3 hb (Row.lt h3)
theorem TupIs.late {S : ByteArray} {P : Orc} {v : Value} {W : World} (W' : World) (h : TupIs false S P v W) : TupIs true S P v W' := by
  obtain ⟨n1, m1, c1, k1, h1, _⟩ := h
  exact ⟨n1, m1, c1, k1, h1, fun e => by cases e⟩
theorem AggIs.late {P : Orc} {v : Value} {W : World} (W' : World) (h : AggIs false P v W) : AggIs true P v W' := by
  obtain ⟨n1, m1, c1, k1, h1, _⟩ := h
  exact ⟨n1, m1, c1, k1, h1, fun e => by cases e⟩

theorem owns_other {W : World} {B g : Nat} {e T : TypeId} {s n : Nat} {v : Value} {xs : List Value} {cs : Array Value} (h : W.ownsRow B e s v n xs) (hr : Row W g T cs) (hT : T ≠ e) : ∀ k, v.ownBlock = some k → k ≠ g := by
  rintro k hk rfl
  rcases h.2 with ⟨rfl, _⟩ | ⟨b, cap, cur, rfl, _, hg, _⟩
  · cases hk
  · injection hk with hk
    subst hk
    rw [hr] at hg
    injection hg with hg
    injection hg with _ hg
    exact hT hg

/-- Seven cells are stored. -/
def put7 (W : World) (g : Nat) (v : Nat → Value) : World :=
  ((((((W.setCell ⟨g, 0, none⟩ (v 0)).setCell ⟨g, 1, none⟩ (v 1)).setCell ⟨g, 2, none⟩ (v 2)).setCell ⟨g, 3, none⟩ (v 3)).setCell ⟨g, 4, none⟩ (v 4)).setCell ⟨g, 5, none⟩ (v 5)).setCell ⟨g, 6, none⟩ (v 6)
theorem below_put7 {B g : Nat} {w W : World} {v : Nat → Value} (h : Below B w W) (hg : B ≤ g) : Below B w (put7 W g v) := by
  unfold put7
  exact ((((((h.setCell (p := ⟨g, 0, none⟩) hg _).setCell (p := ⟨g, 1, none⟩) hg _).setCell (p := ⟨g, 2, none⟩) hg _).setCell (p := ⟨g, 3, none⟩) hg _).setCell (p := ⟨g, 4, none⟩) hg _).setCell (p := ⟨g, 5, none⟩) hg _).setCell (p := ⟨g, 6, none⟩) hg _
theorem row_put7 {W : World} {g : Nat} {T : TypeId} {cs : Array Value} {v : Nat → Value} (hr : Row W g T cs) (h7 : cs.size = 7) : Row (put7 W g v) g T #[v 0, v 1, v 2, v 3, v 4, v 5, v 6] := by
  unfold put7
  generalize v 0 = v0
  generalize v 1 = v1
  generalize v 2 = v2
  generalize v 3 = v3
  generalize v 4 = v4
  generalize v 5 = v5
  generalize v 6 = v6
  obtain ⟨l⟩ := cs
  match l, h7 with
  | [a0, a1, a2, a3, a4, a5, a6], _ =>
    have r0 : Row _ g T #[a0, a1, a2, a3, a4, a5, a6] := hr
    have r1 : Row _ g T #[v0, a1, a2, a3, a4, a5, a6] := r0.store 0 v0
    have r2 : Row _ g T #[v0, v1, a2, a3, a4, a5, a6] := r1.store 1 v1
    have r3 : Row _ g T #[v0, v1, v2, a3, a4, a5, a6] := r2.store 2 v2
    have r4 : Row _ g T #[v0, v1, v2, v3, a4, a5, a6] := r3.store 3 v3
    have r5 : Row _ g T #[v0, v1, v2, v3, v4, a5, a6] := r4.store 4 v4
    have r6 : Row _ g T #[v0, v1, v2, v3, v4, v5, a6] := r5.store 5 v5
    exact r6.store 6 v6
theorem held_put7 {W : World} {g : Nat} {P : Orc} {cs : Array Value} {n1 c1 : Option Addr} {m1 k1 : Nat} (hr : Row W g 31 cs) (h7 : cs.size = 7)
    (hn : NmAt W 0 (.slice n1 P.d.nm.length m1) P.d.nm) (hc : ClAt W 0 (.slice c1 P.d.cl.length k1) P.d.cl) :
    Held (put7 W g fun i => (Orc.vals P.m P.key P.d.tb P.d.pos (.slice n1 P.d.nm.length m1) (.slice c1 P.d.cl.length k1) P.d.clash).getD i undef) g P := by
  have hno := owns_other hn hr (by decide)
  have hco := owns_other hc hr (by decide)
  have hk : Keep (fun k => k ≠ g) W (put7 W g fun i => (Orc.vals P.m P.key P.d.tb P.d.pos (.slice n1 P.d.nm.length m1) (.slice c1 P.d.cl.length k1) P.d.clash).getD i undef) := by
    unfold put7
    have hx : ∀ o, ((⟨g, o, none⟩ : Addr).block ≠ g → W.heap.size ≤ (⟨g, o, none⟩ : Addr).block) := fun o h => absurd rfl h
    exact (((((((Keep.refl _ W).setCell (hx 0) _).setCell (hx 1) _).setCell (hx 2) _).setCell (hx 3) _).setCell (hx 4) _).setCell (hx 5) _).setCell (hx 6) _
  exact ⟨n1, m1, c1, k1, row_put7 hr h7, owns_keep hn hk hno, owns_keep hc hk hco⟩

/-- Plain: a question costs sixteen bytes or nothing. -/
theorem Orc.ask_step [Sha.Words] {o : Orc} (hg : o.Good) (q : ByteArray) (hq : q.size ≤ 100) (hl : o.d.nm.length ≠ 2000) (hp : o.m = 2 → o.d.pos + 16 ≤ o.d.tb.size) :
    (o.ask q).Good ∧ (o.wayL q).1.size = 16 ∧ (q, (o.wayL q).1) ∈ (o.ask q).d.nm ∧ (o.ask q).d.tb = o.d.tb ∧ (o.ask q).d.cl = o.d.cl ∧
      (((o.ask q).d.nm = o.d.nm ∧ (o.ask q).d.pos = o.d.pos) ∨ ((o.ask q).d.nm = o.d.nm ++ [(q, (o.wayL q).1)] ∧ (o.ask q).d.pos = o.d.pos + o.cost 16)) := by
  refine ⟨ask_good hg hq hl, ?_⟩
  rcases wayL_cases hg q hl hp with ⟨s, hs, h⟩ | ⟨_, s, hs, _, h⟩
  · unfold ask
    rw [h]
    exact ⟨(hg.d.nm _ hs).2, hs, rfl, rfl, .inl ⟨rfl, rfl⟩⟩
  · unfold ask
    rw [h]
    exact ⟨hs, List.mem_append_right _ (List.mem_singleton.2 rfl), rfl, rfl, .inr ⟨rfl, rfl⟩⟩
theorem Orc.put_step [Sha.Words] {o : Orc} (hg : o.Good) (l t : ByteArray) (hlb : l.size = 16) (ht : t.size = 24) (hl : o.d.cl.length ≠ 2000) (hp : o.m = 2 → o.d.pos + 40 ≤ o.d.tb.size) :
    (o.put l t).Good ∧ (o.wayC l t).1.size = 40 ∧ (l, t, (o.wayC l t).1) ∈ (o.put l t).d.cl ∧ (o.put l t).d.tb = o.d.tb ∧ (o.put l t).d.nm = o.d.nm ∧
      (((o.put l t).d.cl = o.d.cl ∧ (o.put l t).d.pos = o.d.pos) ∨ ((o.put l t).d.cl = o.d.cl ++ [(l, t, (o.wayC l t).1)] ∧ (o.put l t).d.pos = o.d.pos + o.cost 40 ∧ (o.m = 1 → (o.wayC l t).1 = box o.key l t))) := by
  refine ⟨put_good hg hlb ht hl hp, ?_⟩
  rcases wayC_cases hg l t ht hl hp with ⟨c, hc, h⟩ | ⟨_, c, hc, hb, h⟩
  · unfold put
    rw [h]
    exact ⟨(hg.d.cl _ hc).2.2, hc, rfl, rfl, .inl ⟨rfl, rfl⟩⟩
  · unfold put
    rw [h]
    exact ⟨hc, List.mem_append_right _ (List.mem_singleton.2 rfl), rfl, rfl, .inr ⟨rfl, rfl, hb⟩⟩

end Go.Proofs.YtjnolopnkecmdaaGreat
