/-
  strings.Builder's WriteString and Len over this program (the shelf's Lays.n166 does not lay here); the builder's row lies behind a bound of its own.
-/
import Derived.Shelf.Strings.BuilderK
import Derived.Test.YtgcfaeipiiagdaaTxt
namespace Go.Proofs.Ytgcfaeipiiagdaa
open Go.RowKit

/-- The builder in block b holds l; its row lies at B or behind. -/
def Bd.At (b B : Nat) (l : List UInt8) (W : World) : Prop :=
  b < B ∧ ∃ p v, (p = .pointer none ∨ p = .pointer (some ⟨b, 0, none⟩)) ∧ Row W b 56 #[p, v] ∧ W.ownsRowF B 5 1 v l.length (Lib.byteCells l)

theorem ownsF_keep {W W' : World} {base : Nat} {e : TypeId} {size n : Nat} {v : Value} {xs : List Value} {S : Nat → Prop} (h : W.ownsRowF base e size v n xs) (hk : Keep S W W') (hs : ∀ k, base ≤ k → S k) : W'.ownsRowF base e size v n xs := by
  refine ⟨h.1, ?_⟩
  rcases h.2 with hn | ⟨g, cap, cur, fz, rfl, hb, hgg, rest⟩
  · exact .inl hn
  · exact .inr ⟨g, cap, cur, fz, rfl, hb, hk.heap (hs g hb) hgg, rest⟩
theorem Bd.At.keep {b B : Nat} {l : List UInt8} {W W' : World} {S : Nat → Prop} (h : Bd.At b B l W) (hk : Keep S W W') (hb : S b) (hs : ∀ k, B ≤ k → S k) : Bd.At b B l W' := by
  obtain ⟨h0, p, v, hp, hr, ho⟩ := h
  exact ⟨h0, p, v, hp, hr.keep hk hb, ownsF_keep ho hk hs⟩
theorem Bd.At.builder {b B : Nat} {l : List UInt8} {W : World} (h : Bd.At b B l W) : Lib.IsBuilderF 56 5 b b (Lib.byteCells l) W := by
  obtain ⟨h0, p, v, hp, hr, ho⟩ := h
  have hA : Lib.BuilderAtF 56 5 b b p (Lib.byteCells l) W := by
    refine ⟨Nat.le_refl _, v, hr, ?_, ?_⟩
    · rw [Lib.byteCells_length]
      refine ⟨ho.1, ?_⟩
      rcases ho.2 with hn | ⟨g, cap, cur, fz, rfl, hb, hgg, rest⟩
      · exact .inl hn
      · exact .inr ⟨g, cap, cur, fz, rfl, by omega, hgg, rest⟩
    · rcases ho.2 with ⟨rfl, _⟩ | ⟨g, cap, cur, fz, rfl, hb, hgg, rest⟩
      · simp [Value.ownBlock]
      · simp [Value.ownBlock]; omega
  rcases hp with rfl | rfl
  · exact .inl hA
  · exact .inr hA

set_option maxRecDepth 100000 in
set_option maxHeartbeats 2000000 in
theorem copyCheck_own (b : Nat) (p v : Value) (w : World) (hp : p = .pointer none ∨ p = .pointer (some ⟨b, 0, none⟩)) (hr : Row w b 56 #[p, v]) :
    Calls Try.prog 30 #[.pointer (some ⟨b, 0, none⟩)] w fun e w' => e = .returned (.tuple #[]) ∧ Row w' b 56 #[.pointer (some ⟨b, 0, none⟩), v] ∧ Keep (fun k => k ≠ b) w w' := by
  have hx : (Try.prog.info? 56).map (·.size) = some 2 := by kernel_rfl
  obtain ⟨j, hj, hjs⟩ := Option.map_eq_some_iff.1 hx
  have c0 : w.cell? ⟨b, 0, none⟩ = some p := hr.cell 0
  have f0 := hr.frozen 0
  rcases hp with rfl | rfl
  · have hsh : w.shape? b = some (56, 2) := by
      have h' : w.heap[b]? = some (.cells #[.pointer none, v] 56 (0, 0)) := hr
      simp [World.shape?, h']
    have H := Lib.hid hr
    clear hr
    go_enter Try.func30, Try.ntmps30
    go_wp2
    rw [Lib.run_to_unsafe w ⟨b, 0, none⟩ Try.underlying54 Try.underlying86 hj (by rw [hjs]; decide) hsh (Nat.zero_lt_succ 1)]
    simp only [Result.andThen]
    rw [Oper.upon_value]
    go_wp2
    rw [run_callFunc_extern Try.func42 (by kernel_rfl) (by kernel_rfl) (by kernel_rfl) (e := Extern.AbiNoEscape.same) (by kernel_rfl)]
    rw [Lib.run_noEscape]
    simp only [Result.andThen]
    rw [Oper.upon_value]
    go_wp2
    rw [Lib.run_from_unsafe w ⟨b, 0, none⟩ Try.underlying86 Try.underlying54 hj hsh (by kernel_rfl)]
    simp only [Result.andThen]
    rw [Oper.upon_value]
    go_wp2
    go_end0
    exact ⟨rfl, H.out.store 0 _, (Keep.refl _ w).setCell (p := ⟨b, 0, none⟩) (fun h => absurd rfl h) _⟩
  · have H := Lib.hid hr
    clear hr
    go_enter Try.func30, Try.ntmps30
    go_wp2
    rw [Lib.run_neq_ptr_same w _ Try.underlying54 hj]
    go_wp2
    go_end0
    exact ⟨rfl, H.out, Keep.refl _ _⟩

set_option maxRecDepth 100000 in
set_option maxHeartbeats 2000000 in
theorem WriteString_own (b B : Nat) (l : List UInt8) (s : ByteArray) (w : World) (h : Bd.At b B l w) (hlen : l.length + s.size ≤ 140737488355328) (hBw : B ≤ w.heap.size) :
    Calls Try.prog 18 #[.pointer (some ⟨b, 0, none⟩), .string s] w fun e w' => e = .returned (.tuple #[.int .i64 s.size, .nilIface]) ∧ Bd.At b B (l ++ s.data.toList) w' ∧ Keep (fun k => k < B ∧ k ≠ b) w w' := by
  have hx : (Try.prog.info? 5).map (fun i => (i.zero, i.size, i.bytes)) = some (some (.int .u8 0), 1, 1) := by kernel_rfl
  obtain ⟨i0, hi, hz⟩ := Option.map_eq_some_iff.1 hx
  obtain ⟨hz0, hz1, hz2⟩ : i0.zero = some (.int .u8 0) ∧ i0.size = 1 ∧ i0.bytes = 1 := by simpa using hz
  obtain ⟨hb, p, v, hp, hr, ho⟩ := h
  have HR := Lib.hid hr
  have HO := Lib.hid ho
  clear hr ho hx hz
  go_enter Try.func18, Try.ntmps18
  go_wp2_with fail
  refine (copyCheck_own b p v _ hp HR.out).mono ?_
  rintro e w1 ⟨rfl, hr1, hk1⟩
  have hown := ownsF_keep HO.out hk1 (fun k hk => by omega)
  have c0 : w1.cell? ⟨b, 0, none⟩ = some (.pointer (some ⟨b, 0, none⟩)) := hr1.cell 0
  have c1 : w1.cell? ⟨b, 1, none⟩ = some v := hr1.cell 1
  go_wp2_with (at_builtin; refine Lib.wpList_append_own_stringF _ rfl _ _ 35 9 rfl B 5 i0 Try.underlying35 Try.underlying9 hi hz0 hz1 hz2 _ _ _ rfl hown s rfl ?c3 ?c4 ?c5 ?_)
  case c3 => unfold maxLen; omega
  case c4 => omega
  case c5 => have := hk1.size; omega
  intro v' w2 hown' hgrow _
  have hk2 := keep_grown hgrow
  have hnb : v.ownBlock ≠ some b := fun e => by have := (hown.lt b e).1; omega
  have hr2 := hr1.keep hk2 hnb
  have d0 : w2.cell? ⟨b, 0, none⟩ = some (.pointer (some ⟨b, 0, none⟩)) := hr2.cell 0
  have d1 : w2.cell? ⟨b, 1, none⟩ = some v := hr2.cell 1
  have f1 : w2.frozen? ⟨b, 1, none⟩ = false := hr2.frozen 1
  have hk3 : Keep (fun k => k < B ∧ k ≠ b) w w2 := (hk1.mono fun k h _ => h.2).trans (hk2.mono fun k h _ e => by have := (hown.lt k e).1; omega)
  have HK := Lib.hid (hk3.setCell (p := ⟨b, 1, none⟩) (fun h => absurd rfl h.2) v')
  have HO2 := Lib.hid (ownsF_keep hown' ((Keep.refl (fun k => k ≠ b) w2).setCell (p := ⟨b, 1, none⟩) (fun h => absurd rfl h) v') (fun k hk => by omega))
  have HR2 := Lib.hid (hr2.store 1 v')
  obtain ⟨ao, n', cap, rfl⟩ : ∃ ao n' cap, v' = .slice ao n' cap := by
    rcases hown'.2 with ⟨hv, _⟩ | ⟨g, cap, cur, fz, hv, _⟩
    · exact ⟨_, _, _, hv⟩
    · exact ⟨_, _, _, hv⟩
  clear hr2 hk3 hk2 hk1 hr1 hown hown' hgrow HO HR
  go_wp2
  go_ret2
  refine ⟨rfl, ⟨hb, _, _, .inr rfl, HR2.out, ?_⟩, HK.out⟩
  have h := HO2.out
  rw [List.length_append]
  have e : Lib.byteCells (l ++ s.data.toList) = Lib.byteCells l ++ Lib.strCells s := by rw [Lib.strCells_eq]; simp [Lib.byteCells]
  rw [e]
  exact h

theorem Len_own (b B : Nat) (l : List UInt8) (w : World) (h : Bd.At b B l w) :
    Calls Try.prog 19 #[.pointer (some ⟨b, 0, none⟩)] w fun e w' => e = .returned (.int .i64 l.length) ∧ w' = w := by
  obtain ⟨hb, p, v, hp, hr, hown⟩ := h
  obtain ⟨ao, cap, rfl⟩ : ∃ ao cap, v = .slice ao l.length cap := by
    rcases hown.2 with ⟨hv, h0⟩ | ⟨g, cap, cur, fz, hv, _⟩
    · exact ⟨none, 0, by rw [hv, h0]⟩
    · exact ⟨_, _, hv⟩
  have c1 : w.cell? ⟨b, 1, none⟩ = some (.slice ao l.length cap) := hr.cell 1
  clear hr hown hp
  go_enter Try.func19, Try.ntmps19
  go_wp2
  go_ret
  exact ⟨rfl, rfl⟩

end Go.Proofs.Ytgcfaeipiiagdaa
