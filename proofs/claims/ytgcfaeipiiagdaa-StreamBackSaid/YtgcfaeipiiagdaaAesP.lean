/-
  Plain laws of layer 4: decrypting undoes encrypting, and the other way round. About numbers alone.
-/
import Derived.Test.YtgcfaeipiiagdaaAesI
import Derived.Test.YtgcfaeipiiagdaaFldM
import Derived.Test.YtgcfaeipiiagdaaFldL
namespace Go.Proofs.Ytgcfaeipiiagdaa
namespace Aes

theorem range_ext {f g : Nat → Nat} (h : ∀ i, i < 16 → f i = g i) : (List.range 16).map f = (List.range 16).map g :=
  List.map_congr_left fun i hi => h i (by simpa using hi)
theorem range_self {s : List Nat} (hs : s.length = 16) : (List.range 16).map (fun i => s.getD i 0) = s := by
  apply List.ext_getElem
  · simp [hs]
  · intro i h1 h2; simp [List.getD_eq_getElem?_getD, h2]
theorem each_get {f : Nat → Nat} {s : List Nat} {i : Nat} (hi : i < 16) : (each f s).getD i 0 = f (s.getD i 0) := by simp only [each]; rw [range_get hi]
theorem move_get {b : Nat} {s : List Nat} {i : Nat} (hi : i < 16) : (move b s).getD i 0 = s.getD ((i + 4 * b * (i % 4)) % 16) 0 := by simp only [move]; rw [range_get hi]
theorem add_get {s k : List Nat} {i : Nat} (hi : i < 16) : (add s k).getD i 0 = s.getD i 0 ^^^ k.getD i 0 := by simp only [add]; rw [range_get hi]
theorem columns_get {f : List Nat → Nat → Nat} {s : List Nat} {i : Nat} (hi : i < 16) :
    (columns f s).getD i 0 = f [s.getD (4 * (i / 4)) 0, s.getD (4 * (i / 4) + 1) 0, s.getD (4 * (i / 4) + 2) 0, s.getD (4 * (i / 4) + 3) 0] (i % 4) := by simp only [columns]; rw [range_get hi]

theorem add_add {s k : List Nat} (hs : s.length = 16) : add (add s k) k = s := by
  conv => rhs; rw [← range_self hs]
  rw [add]
  exact range_ext fun i hi => by rw [add_get hi, Nat.xor_assoc, Nat.xor_self, Nat.xor_zero]
theorem each_each {f g : Nat → Nat} {s : List Nat} (hs : s.length = 16) (h : ∀ x, x < 256 → f (g x) = x) (ha : Bs.All s) : each f (each g s) = s := by
  conv => rhs; rw [← range_self hs]
  rw [each]
  exact range_ext fun i hi => by rw [each_get hi, h _ (ha i)]
theorem move_moved : (∀ i, i < 16 → ((i + 4 * 3 * (i % 4)) % 16 + 4 * 1 * ((i + 4 * 3 * (i % 4)) % 16 % 4)) % 16 = i) ∧
    (∀ i, i < 16 → ((i + 4 * 1 * (i % 4)) % 16 + 4 * 3 * ((i + 4 * 1 * (i % 4)) % 16 % 4)) % 16 = i) := by decide
theorem move31 {s : List Nat} (hs : s.length = 16) : move 3 (move 1 s) = s := by
  conv => rhs; rw [← range_self hs]
  rw [move]
  exact range_ext fun i hi => by rw [move_get (Nat.mod_lt _ (by decide)), move_moved.1 i hi]
theorem move13 {s : List Nat} (hs : s.length = 16) : move 1 (move 3 s) = s := by
  conv => rhs; rw [← range_self hs]
  rw [move]
  exact range_ext fun i hi => by rw [move_get (Nat.mod_lt _ (by decide)), move_moved.2 i hi]

theorem columns_columns {f g : List Nat → Nat → Nat} {s : List Nat} (hs : s.length = 16) (ha : Bs.All s)
    (h : ∀ c0 c1 c2 c3, c0 < 256 → c1 < 256 → c2 < 256 → c3 < 256 → ∀ j, j < 4 → f [g [c0, c1, c2, c3] 0, g [c0, c1, c2, c3] 1, g [c0, c1, c2, c3] 2, g [c0, c1, c2, c3] 3] j = [c0, c1, c2, c3].getD j 0) :
    columns f (columns g s) = s := by
  conv => rhs; rw [← range_self hs]
  rw [columns]
  refine range_ext fun i hi => ?_
  have e0 : 4 * (i / 4) < 16 := by omega
  have e1 : 4 * (i / 4) + 1 < 16 := by omega
  have e2 : 4 * (i / 4) + 2 < 16 := by omega
  have e3 : 4 * (i / 4) + 3 < 16 := by omega
  rw [columns_get e0, columns_get e1, columns_get e2, columns_get e3]
  rw [show 4 * (i / 4) / 4 = i / 4 by omega, show (4 * (i / 4) + 1) / 4 = i / 4 by omega, show (4 * (i / 4) + 2) / 4 = i / 4 by omega, show (4 * (i / 4) + 3) / 4 = i / 4 by omega,
    show 4 * (i / 4) % 4 = 0 by omega, show (4 * (i / 4) + 1) % 4 = 1 by omega, show (4 * (i / 4) + 2) % 4 = 2 by omega, show (4 * (i / 4) + 3) % 4 = 3 by omega]
  rw [h _ _ _ _ (ha _) (ha _) (ha _) (ha _) (i % 4) (Nat.mod_lt _ (by decide))]
  rcases (show i % 4 = 0 ∨ i % 4 = 1 ∨ i % 4 = 2 ∨ i % 4 = 3 by omega) with h | h | h | h <;> rw [h] <;> simp only [List.getD_cons_zero, List.getD_cons_succ] <;> congr 1 <;> omega

theorem ux_mx {s : List Nat} (hs : s.length = 16) (ha : Bs.All s) : columns Fld.ux (columns Fld.mx s) = s :=
  columns_columns hs ha fun c0 c1 c2 c3 h0 h1 h2 h3 j hj => by
    obtain ⟨a, b, c, d⟩ := Fld.unmix_mix h0 h1 h2 h3
    rcases (show j = 0 ∨ j = 1 ∨ j = 2 ∨ j = 3 by omega) with rfl | rfl | rfl | rfl
    · exact a
    · exact b
    · exact c
    · exact d
theorem mx_ux {s : List Nat} (hs : s.length = 16) (ha : Bs.All s) : columns Fld.mx (columns Fld.ux s) = s :=
  columns_columns hs ha fun c0 c1 c2 c3 h0 h1 h2 h3 j hj => by
    obtain ⟨a, b, c, d⟩ := Fld.mix_unmix h0 h1 h2 h3
    rcases (show j = 0 ∨ j = 1 ∨ j = 2 ∨ j = 3 by omega) with rfl | rfl | rfl | rfl
    · exact a
    · exact b
    · exact c
    · exact d

theorem encStep_all {s : List Nat} {x : List Nat × Bool} (ha : Bs.All s) (hx : Bs.All x.1) : Bs.All (encStep s x) := by
  have h := move_all 1 (each_all Fld.sub_lt ha)
  unfold encStep
  split
  · exact add_all h hx
  · exact add_all (columns_all Fld.mx_lt) hx
theorem decStep_all {s : List Nat} {x : List Nat × Bool} (ha : Bs.All s) (hx : Bs.All x.1) : Bs.All (decStep s x) := by
  unfold decStep
  refine each_all Fld.back_lt (move_all 3 ?_)
  split
  · exact add_all ha hx
  · exact columns_all Fld.ux_lt

theorem dec_encStep {s : List Nat} {x : List Nat × Bool} (hs : s.length = 16) (ha : Bs.All s) : decStep (encStep s x) x = s := by
  have h1 := each_all Fld.sub_lt ha
  have h2 := move_all 1 h1
  obtain ⟨k, l⟩ := x
  cases l
  · simp only [decStep, encStep, if_neg Bool.false_ne_true]
    rw [add_add (columns_length _ _), ux_mx (move_length _ _) h2, move31 (each_length _ _), each_each hs Fld.back_sub ha]
  · simp only [decStep, encStep, if_pos]
    rw [add_add (move_length _ _), move31 (each_length _ _), each_each hs Fld.back_sub ha]
theorem enc_decStep {s : List Nat} {x : List Nat × Bool} (hs : s.length = 16) (ha : Bs.All s) (hx : Bs.All x.1) : encStep (decStep s x) x = s := by
  obtain ⟨k, l⟩ := x
  have h1 := add_all ha hx
  cases l
  · have h2 : Bs.All (columns Fld.ux (add s k)) := columns_all Fld.ux_lt
    simp only [decStep, encStep, if_neg Bool.false_ne_true]
    rw [each_each (move_length _ _) Fld.sub_back (move_all 3 h2), move13 (columns_length _ _), mx_ux (add_length _ _) h1, add_add hs]
  · simp only [decStep, encStep, if_pos]
    rw [each_each (move_length _ _) Fld.sub_back (move_all 3 h1), move13 (add_length _ _), add_add hs]

theorem encs_all : ∀ (R : List (List Nat × Bool)) (s : List Nat), s.length = 16 → Bs.All s → (∀ x ∈ R, Bs.All x.1) → (R.foldl encStep s).length = 16 ∧ Bs.All (R.foldl encStep s)
  | [], _, hs, ha, _ => ⟨hs, ha⟩
  | x :: R, s, _, ha, hx => encs_all R _ (encStep_length s x) (encStep_all ha (hx x (by simp))) fun y hy => hx y (by simp [hy])
theorem decs_all : ∀ (R : List (List Nat × Bool)) (s : List Nat), s.length = 16 → Bs.All s → (∀ x ∈ R, Bs.All x.1) → (R.foldl decStep s).length = 16 ∧ Bs.All (R.foldl decStep s)
  | [], _, hs, ha, _ => ⟨hs, ha⟩
  | x :: R, s, _, ha, hx => decs_all R _ (decStep_length s x) (decStep_all ha (hx x (by simp))) fun y hy => hx y (by simp [hy])
theorem dec_encs : ∀ (R : List (List Nat × Bool)) (s : List Nat), s.length = 16 → Bs.All s → (∀ x ∈ R, Bs.All x.1) → R.reverse.foldl decStep (R.foldl encStep s) = s
  | [], _, _, _, _ => rfl
  | x :: R, s, hs, ha, hx => by
    simp only [List.reverse_cons, List.foldl_append, List.foldl_cons, List.foldl_nil]
    rw [dec_encs R _ (encStep_length s x) (encStep_all ha (hx x (by simp))) (fun y hy => hx y (by simp [hy]))]
    exact dec_encStep hs ha
theorem enc_decs : ∀ (R : List (List Nat × Bool)) (s : List Nat), s.length = 16 → Bs.All s → (∀ x ∈ R, Bs.All x.1) → R.reverse.foldl encStep (R.foldl decStep s) = s
  | [], _, _, _, _ => rfl
  | x :: R, s, hs, ha, hx => by
    simp only [List.reverse_cons, List.foldl_append, List.foldl_cons, List.foldl_nil]
    rw [enc_decs R _ (decStep_length s x) (decStep_all ha (hx x (by simp))) (fun y hy => hx y (by simp [hy]))]
    exact enc_decStep hs ha (hx x (by simp))

theorem rounds_turned (n : Nat) (l : List Nat) : rounds n l true = (rounds n l false).reverse := by
  apply List.ext_getElem
  · simp [rounds]
  · intro i h1 h2
    rw [List.getElem_reverse]
    have h3 : i < n + 6 := by simpa [rounds_length] using h1
    simp only [rounds, List.getElem_map, List.getElem_range, List.length_map, List.length_range, if_true, Bool.false_eq_true, if_false]
    rw [show n + 6 - 1 - i + 1 = n + 6 - i by omega]
    congr 1
    exact decide_eq_decide.2 (by omega)

theorem rounds_alls {n : Nat} {l : List Nat} {b : Bool} (hl : l.length = 16 * (n + 7)) (ha : Bs.All l) : ∀ x ∈ rounds n l b, Bs.All x.1 := fun _ hx => (rounds_mem hl ha hx).2

/-- A key that may be: its round keys. -/
theorem key_length {n : Nat} {k : List Nat} (hk : k.length = 4 * n) : (expanded k).length = 16 * (n + 7) := by rw [expanded_length, hk]; omega

theorem enc_length {n : Nat} {k b : List Nat} (hk : k.length = 4 * n) (hka : Bs.All k) (hb : Bs.All b) : (enc k b).length = 16 ∧ Bs.All (enc k b) := by
  have hl := key_length hk
  rw [enc, show k.length / 4 = n by omega]
  exact encs_all _ _ (add_length _ _) (add_all hb (keyAt_all (expanded_all hka) 0)) (rounds_alls hl (expanded_all hka))
theorem dec_length {n : Nat} {k b : List Nat} (hk : k.length = 4 * n) (hka : Bs.All k) (hbl : b.length = 16) (hb : Bs.All b) : (dec k b).length = 16 ∧ Bs.All (dec k b) := by
  have hl := key_length hk
  rw [dec, show k.length / 4 = n by omega]
  exact ⟨add_length _ _, add_all (decs_all _ _ hbl hb (rounds_alls hl (expanded_all hka))).2 (keyAt_all (expanded_all hka) 0)⟩

theorem dec_enc {n : Nat} {k b : List Nat} (hk : k.length = 4 * n) (hka : Bs.All k) (hbl : b.length = 16) (hb : Bs.All b) : dec k (enc k b) = b := by
  have hl := key_length hk
  rw [dec, enc, show k.length / 4 = n by omega, rounds_turned, dec_encs _ _ (add_length _ _) (add_all hb (keyAt_all (expanded_all hka) 0)) (rounds_alls hl (expanded_all hka)), add_add hbl]
theorem enc_dec {n : Nat} {k b : List Nat} (hk : k.length = 4 * n) (hka : Bs.All k) (hbl : b.length = 16) (hb : Bs.All b) : enc k (dec k b) = b := by
  have hl := key_length hk
  have hd := decs_all (rounds n (expanded k) true) b hbl hb (rounds_alls hl (expanded_all hka))
  rw [dec, enc, show k.length / 4 = n by omega, add_add hd.1]
  have h := enc_decs (rounds n (expanded k) true) b hbl hb (rounds_alls hl (expanded_all hka))
  rw [rounds_turned, List.reverse_reverse] at h
  rw [rounds_turned]
  exact h

/-- Chapter 4's example. -/
theorem awake_enc : enc [0, 1, 2, 3, 4, 5, 6, 7, 8, 9, 10, 11, 12, 13, 14, 15] [0, 17, 34, 51, 68, 85, 102, 119, 136, 153, 170, 187, 204, 221, 238, 255] =
    [105, 196, 224, 216, 106, 123, 4, 48, 216, 205, 183, 128, 112, 180, 197, 90] := by decide +kernel

end Aes
end Go.Proofs.Ytgcfaeipiiagdaa
