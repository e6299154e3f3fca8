/-
  Several texts in one: RefH.
-/
import Derived.Test.YtgcfaeipiiagdaaPkB
import Derived.BigQuiet

/-
  The document's answer of layer 4: expanded.
-/
namespace Go.Proofs.Ytgcfaeipiiagdaa
open Go.RowKit

theorem step_load_row {P : Program} {ops : Array Oper} {o : Oper} {a : Act} {w : World} {K : Act → World → Prop} {Q : Exit → Act → World → Prop} {E : Prop} (hgd : o.guard = none) (ty : TypeId) (x : Operand) (ho : o.op = .load ty x)
    (g : Nat) (hx : a.eval x = .pointer (some ⟨g, 0, none⟩)) (t : TypeId) (cs : Array Value) (d : TypeDesc) (hg : Row w g t cs) (hu : P.underlying ty = some d) (hd : (match d with | .struct _ | .array _ _ => true | _ => false) = true)
    (hi : (P.info? ty).map (·.size) = some cs.size) (h : K (a.put o.dst (.agg cs)) w) : if Region.wanted o (yielded ops a.tmps) = true then Oper.wp P o a w K Q else E := by
  have hw : Region.wanted o (yielded ops a.tmps) = true := by simp [Region.wanted, hgd]
  rw [if_pos hw]
  exact wp_load_row ty x ho g hx t cs (0, 0) d hg hu hd hi h

namespace Aes
theorem list4 {X : List Nat} (h : X.length = 4) : X = [X.getD 0 0, X.getD 1 0, X.getD 2 0, X.getD 3 0] := by
  match X, h with
  | [_, _, _, _], _ => rfl
theorem four_at {l : List Nat} {p m : Nat} (hm : m = 4) (h : p + 4 ≤ l.length) : (l.drop p).take m = [l.getD p 0, l.getD (p + 1) 0, l.getD (p + 2) 0, l.getD (p + 3) 0] := by
  subst hm
  rw [list4 (X := (l.drop p).take 4) (by simp; omega)]
  simp [List.getD_eq_getElem?_getD]
theorem wordAt_drop {l : List Nat} {i : Nat} (hl : l.length = 4 * i) (hi : 1 ≤ i) : (l.drop (4 * i - 4)).take (4 * i - (4 * i - 4)) = wordAt l (i - 1) := by
  rw [four_at (by omega) (by omega), wordAt, show 4 * (i - 1) = 4 * i - 4 by omega]
theorem wordAt_mid {l : List Nat} {i q : Nat} (hl : l.length = 4 * i) (hq : q < i) : (l.drop (4 * q)).take (4 * q + 4 - 4 * q) = wordAt l q := by
  rw [four_at (by omega) (by omega), wordAt]
theorem turnT_same {n i mark : Nat} {l : List Nat} {j : Nat} (h0 : ¬ i % n = 0) (h1 : ¬ (n = 8 ∧ i % n = 4)) : turnT n i mark (wordAt l j) = wordAt l j := by
  rw [turnT, if_neg h0, if_neg h1]; rfl
theorem newWord_xor (n i mark : Nat) (l : List Nat) : xorL (wordAt l (i - n)) (turnT n i mark (wordAt l (i - 1))) = newWord n i mark l := by
  have h : ∀ t, t < 4 → (xorL (wordAt l (i - n)) (turnT n i mark (wordAt l (i - 1)))).getD t 0 = (turnT n i mark (wordAt l (i - 1))).getD t 0 ^^^ l.getD (4 * (i - n) + t) 0 := fun t ht => by
    rw [xorL_get _ _ (by simpa [wordAt] using ht), Nat.xor_comm]
    congr 1
    rcases (show t = 0 ∨ t = 1 ∨ t = 2 ∨ t = 3 by omega) with rfl | rfl | rfl | rfl <;> rfl
  have hl : (xorL (wordAt l (i - n)) (turnT n i mark (wordAt l (i - 1)))).length = 4 := by rw [xorL_length]; rfl
  generalize xorL (wordAt l (i - n)) (turnT n i mark (wordAt l (i - 1))) = X at h hl
  have h0 := h 0 (by decide)
  have h1 := h 1 (by decide)
  have h2 := h 2 (by decide)
  have h3 := h 3 (by decide)
  match X, hl with
  | [a, b, c, d], _ =>
    simp only [List.getD_cons_zero, List.getD_cons_succ] at h0 h1 h2 h3
    rw [newWord, h0, h1, h2, h3]
    rfl
end Aes

theorem xor4 (P t : List Nat) (hP : Bs.All P) (ht : Bs.All t) (hPl : P.length = 4) (htl : t.length = 4) (w : World) :
    Calls Try.prog 33 #[.string (strOf P), .string (strOf t)] w fun e w' => e = .returned (.string (strOf (Aes.xorL P t))) ∧ Below w.heap.size w w' := by
  have h := refXor_any (strOf P) (strOf t) (by rw [strOf_size, strOf_size, hPl, htl]; exact Nat.le_refl _) (by rw [strOf_size, hPl]; decide) w
  rw [bytesOf_strOf hP, bytesOf_strOf ht] at h
  exact h
theorem subbed4 (T : List Nat) (hT : T.length = 256) (hTg : ∀ x, x < 256 → T.getD x 0 = Fld.sub x) (a b c d : Nat) (ha : Bs.All [a, b, c, d]) (w : World) :
    Calls Try.prog 35 #[.string (strOf [a, b, c, d]), .agg (Bs.vals T)] w fun e w' => e = .returned (.string (strOf [Fld.sub a, Fld.sub b, Fld.sub c, Fld.sub d])) ∧ Below w.heap.size w w' := by
  have h := refSubbed_any (strOf [a, b, c, d]) T hT (by rw [strOf_size]; simp) w
  have e : Aes.byT T [a, b, c, d] = [Fld.sub a, Fld.sub b, Fld.sub c, Fld.sub d] := by
    rw [← hTg a (ha 0), ← hTg b (ha 1), ← hTg c (ha 2), ← hTg d (ha 3)]; rfl
  rw [bytesOf_strOf ha, e] at h
  exact h
theorem sl_tail (a b c d : Nat) (h : Bs.All [a, b, c, d]) (W : World) :
    (Instr.slice 9 (.string (strOf [a, b, c, d])) (some (.int .i64 1)) none none).run Try.prog W = .ok (.string (strOf [b, c, d])) W := by
  have h4 : (strOf [a, b, c, d]).size = 4 := by rw [strOf_size]; rfl
  rw [sl_lo (strOf [a, b, c, d]) 1 1 rfl (by omega) W, Aes.extract_strOf h (by rw [h4]; exact Nat.le_refl _), h4]
  rfl
theorem sl_head (a b c d : Nat) (h : Bs.All [a, b, c, d]) (W : World) :
    (Instr.slice 9 (.string (strOf [a, b, c, d])) none (some (.int .i64 1)) none).run Try.prog W = .ok (.string (strOf [a])) W := by
  have h4 : (strOf [a, b, c, d]).size = 4 := by rw [strOf_size]; rfl
  rw [sl_hi (strOf [a, b, c, d]) 1 1 rfl (by omega) W, Aes.extract_strOf h (by simp)]
  rfl
theorem add_texts (l m : List Nat) (h : l.length + m.length ≤ 1000000) (W : World) : (Op.stringOp .add (strOf l) (strOf m)).run Try.prog W = .ok (.string (strOf (l ++ m))) W := by
  rw [run_string_add_sum W _ _ (by rw [strOf_size, strOf_size]; omega), Aes.append_strOf]
theorem byte_text (g y : Nat) (W : World) (h : Row W g 5 #[U y]) : (convert 35 9 (.slice (some ⟨g, 0, none⟩) 1 1)).run Try.prog W = .ok (.string (strOf [y])) W :=
  conv_string (P := Try.prog) (src := 35) (dst := 9) Try.underlying35 Try.underlying5 Try.underlying9 g 0 1 [y] W
    (fun j hj => by
      rw [Nat.zero_add, h.cell j]
      obtain rfl : j = 0 := by simpa using hj
      rfl) 1 rfl

/-- Where the reference's expanded stands. -/
def RExpAt (n : Nat) (E : List Nat) (w0 : World) (vo vc vi : Value) (wr : World) : Prop :=
  ∃ k i mark : Nat, ∃ l : List Nat, Aes.expGo n k i mark l = E ∧ l.length = 4 * i ∧ Bs.All l ∧ mark < 256 ∧ n ≤ i ∧ i + k = 4 * n + 28 ∧ vo = .string (strOf l) ∧ vc = .int .u8 mark ∧ vi = .int .i64 i ∧ Below w0.heap.size w0 wr

set_option maxRecDepth 100000 in
set_option maxHeartbeats 4000000 in
theorem refExpanded4 (key : ByteArray) (hk : key.size = 16) (w : World) :
    Calls Try.prog 24 #[.string key, .agg (Bs.vals Fld.subsT)] w fun e w' => e = .returned (.string (strOf (Aes.expanded (bytesOf key)))) ∧ Below w.heap.size w w' := by
  have hkl : (bytesOf key).length = 4 * 4 := by rw [bytesOf_length, hk]
  have hE : Aes.expanded (bytesOf key) = Aes.expGo 4 40 4 1 (bytesOf key) := by rw [Aes.expanded, hkl]
  have hbox := Row.new w 67 (Bs.vals Fld.subsT)
  have hB0 : Below w.heap.size w (w.alloc (.cells (Bs.vals Fld.subsT) 67)) := (Below.refl _ w).alloc (Nat.le_refl _) _
  obtain ⟨w0, hw0⟩ : ∃ w0, w.alloc (.cells (Bs.vals Fld.subsT) 67) = w0 := ⟨_, rfl⟩
  rw [hw0] at hbox hB0
  have hgl := hbox.lt
  obtain ⟨E, hEE⟩ : ∃ E, Aes.expanded (bytesOf key) = E := ⟨_, rfl⟩
  rw [hEE] at hE ⊢
  have hst : RExpAt 4 E w0 (.string key) (.int .u8 1) (.int .i64 4) w0 :=
    ⟨40, 4, 1, bytesOf key, hE.symm, hkl, bytesOf_all key, by decide, Nat.le_refl _, rfl, by rw [strOf_bytesOf], rfl, rfl, Below.refl _ _⟩
  have hT : Fld.subsT.length = 256 := Fld.subsT_length
  have hTg : ∀ x, x < 256 → Fld.subsT.getD x 0 = Fld.sub x := fun x hx => Fld.subsT_get hx
  have Hst := Lib.hid hst
  have Hbox := Lib.hid hbox
  have HB0 := Lib.hid hB0
  have Hw0 := Lib.hid hw0
  have HTg := Lib.hid hTg
  have hks : (key.size : Int) = 16 := by omega
  clear hst hbox hB0 hw0 hEE hE hkl hTg
  generalize Fld.subsT = T at *
  go_enter Try.func24, Try.ntmps24
  go_wp2
  rw [show w.alloc (.cells (Bs.vals T) 67) = w0 from Hw0.out]
  clear Hw0
  go_loopw [6, 7, 8] (fun vo vc vi wr => RExpAt 4 E w0 vo vc vi wr) (fun _ _ vi _ => 44 - (intOf vi).toNat)
  case atStart => exact Hst.out
  case round =>
    clear Hst hks
    obtain ⟨k, i, mark, l, hgo, hll, hla, hmk, hni, hik, rfl, rfl, rfl, hB⟩ := hrel
    have HB := Lib.hid hB
    have Hgo := Lib.hid hgo
    have Hla := Lib.hid hla
    have Hik := Lib.hid hik
    clear hB hgo hla hik
    by_cases hlt : i < 44
    · have hlt' : (i : Int) < 44 := by omega
      obtain ⟨k, rfl⟩ : ∃ j, k = j + 1 := ⟨k - 1, by have := Hik.out; omega⟩
      have hsz : (strOf l).size = 4 * i := by rw [strOf_size, hll]
      have hs1 := fun W => sl_lo (strOf l) (4 * (i : Int) - 4) (4 * i - 4) (by omega) (by omega) W
      rw [hsz, Aes.extract_strOf Hla.out (by omega), Aes.wordAt_drop hll (by omega)] at hs1
      have hs2 := fun W => sl_mid (strOf l) (4 * ((i : Int) - 4)) (4 * ((i : Int) - 4) + 4) (4 * (i - 4)) (4 * (i - 4) + 4) (by omega) (by omega) (by omega) (by omega) W
      rw [Aes.extract_strOf Hla.out (by omega), Aes.wordAt_mid hll (by omega)] at hs2
      have hnw := Aes.newWord_xor 4 i mark l
      have Hnext : Hid (∀ wr', Below w0.heap.size w0 wr' → RExpAt 4 E w0 (.string (strOf (l ++ Aes.newWord 4 i mark l))) (.int .u8 ((if i % 4 = 0 then Fld.mul 2 mark else mark : Nat) : Int)) (.int .i64 ((i : Int) + 1)) wr') := Lib.hid (fun wr' h => by
        refine ⟨k, i + 1, (if i % 4 = 0 then Fld.mul 2 mark else mark), l ++ Aes.newWord 4 i mark l, by rw [← Hgo.out, Aes.expGo], ?_, Aes.all_append Hla.out (Aes.newWord_all hmk Hla.out), ?_, by omega, by have := Hik.out; omega, rfl, rfl, by go_num, h⟩
        · rw [List.length_append, hll]; show 4 * i + 4 = _; omega
        · split
          · exact Fld.mul_lt _ _ (by decide)
          · exact hmk)
      have hrow := Hbox.out.below HB.out hgl
      have hw4 : (Aes.wordAt l (i - 1)).length = 4 := rfl
      have hwa := Aes.wordAt_all Hla.out (i - 1)
      have hP := Aes.wordAt_all Hla.out (i - 4)
      have hPl : (strOf (Aes.wordAt l (i - 4))).size = 4 := by rw [strOf_size]; rfl
      have hadd := fun m => fun (hm : m.length = 4) W => add_texts l m (by omega) W
      by_cases h0 : i % 4 = 0
      · have t1 : ((i : Int) % 4 == 0) = true := by rw [beq_iff_eq]; omega
        rw [if_pos h0] at Hnext
        have HW : Hid (Aes.wordAt l (i - 1) = [l.getD (4 * (i - 1)) 0, l.getD (4 * (i - 1) + 1) 0, l.getD (4 * (i - 1) + 2) 0, l.getD (4 * (i - 1) + 3) 0]) := Lib.hid rfl
        rw [HW.out] at hs1 hwa
        have ha0 := hwa 0
        have ha1 := hwa 1
        have ha2 := hwa 2
        have ha3 := hwa 3
        simp only [List.getD_cons_zero, List.getD_cons_succ] at ha0 ha1 ha2 ha3
        generalize l.getD (4 * (i - 1)) 0 = a0 at *
        generalize l.getD (4 * (i - 1) + 1) 0 = a1 at *
        generalize l.getD (4 * (i - 1) + 2) 0 = a2 at *
        generalize l.getD (4 * (i - 1) + 3) 0 = a3 at *
        have hturn : Aes.turnT 4 i mark [a0, a1, a2, a3] = [Fld.sub a1 ^^^ mark, Fld.sub a2, Fld.sub a3, Fld.sub a0] := by rw [Aes.turnT, if_pos h0]; rfl
        rw [HW.out, hturn] at hnw
        have b0 := Fld.sub_lt a1 ha1
        have b1 := Fld.sub_lt a2 ha2
        have b2 := Fld.sub_lt a3 ha3
        have b3 := Fld.sub_lt a0 ha0
        have hy := Nat.xor_lt_two_pow (n := 8) b0 hmk
        have hxor := u8_xor_nat _ _ b0 hmk
        have Hsub := Lib.hid (subbed4 T hT HTg.out a1 a2 a3 a0 (Fld.bytes4 ha1 ha2 ha3 ha0))
        have HN := Lib.hid hnw
        have HT := Lib.hid (Fld.bytes4 hy b1 b2 b3)
        have HTl : Hid (([Fld.sub a1 ^^^ mark, Fld.sub a2, Fld.sub a3, Fld.sub a0] : List Nat).length = 4) := Lib.hid rfl
        have s1 := sl_tail a0 a1 a2 a3 hwa
        have s2 := sl_head a0 a1 a2 a3 hwa
        have s3 := add_texts [a1, a2, a3] [a0] (by simp)
        have hB4 := Fld.bytes4 b0 b1 b2 b3
        generalize Fld.sub a1 = c0 at *
        generalize Fld.sub a2 = c1 at *
        generalize Fld.sub a3 = c2 at *
        generalize Fld.sub a0 = c3 at *
        have s4 := sl_tail c0 c1 c2 c3 hB4
        have s5 := fun W => idx_string (strOf [c0, c1, c2, c3]) 0 0 rfl (by rw [strOf_size]; simp) W
        rw [bytesOf_strOf hB4] at s5
        simp only [List.getD_cons_zero] at s5
        have Hrow := Lib.hid hrow
        have Hmul := Lib.hid (mulNat 2 mark (by decide) hmk)
        have s6 := add_texts [c0 ^^^ mark] [c1, c2, c3] (by simp)
        generalize c0 ^^^ mark = y at *
        simp only [List.cons_append, List.nil_append] at s3 s6
        clear hw4 hturn ha0 ha1 ha2 ha3 b0 b1 b2 b3 hy hB4 HTg
        go_wp2_with fail
        refine wp_region_any (by kernel_rfl) ?_
        change wpAny _ _ _ _ _ _ _ (World.drew wr)
        refine wpAny_take (i := 0) (v := ?_) rfl (by kernel_rfl) (by kernel_rfl) (by kernel_rfl) (fun _ _ _ h => h) (Or.inl ⟨by rfl, fun _ => by go_simp; rfl⟩) ?_
        refine wpAny_take (i := 1) (v := ?_) rfl (by kernel_rfl) (by kernel_rfl) (by kernel_rfl) (fun _ _ _ h => h) (Or.inl ⟨by rfl, fun _ => by go_simp; rfl⟩) ?_
        refine wpAny_take (i := 2) (v := ?_) rfl (by kernel_rfl) (by kernel_rfl) (by kernel_rfl) (fun _ _ _ h => h) (Or.inl ⟨by rfl, fun _ => by go_simp; rfl⟩) ?_
        refine wpAny_take (i := 3) (v := ?_) rfl (by kernel_rfl) (by kernel_rfl) (by kernel_rfl) (fun _ _ _ h => h) (Or.inl ⟨by rfl, fun _ => by go_simp; rfl⟩) ?_
        refine wpAny_take (i := 4) (v := ?_) rfl (by kernel_rfl) (by kernel_rfl) (by kernel_rfl) (fun _ _ _ h => h) (Or.inl ⟨by rfl, fun _ => by go_simp; rfl⟩) ?_
        refine wpAny_ready (rs := [5]) (by kernel_rfl) (by simp) ?_
        refine AllReady.cons rfl (fun K hK => ?_) AllReady.nil
        refine step_load_row rfl 67 _ rfl w.heap.size rfl 67 _ _ Hrow.out.drew Try.underlying67 rfl (by rw [Bs.size, hT]; exact Tab.info256) ?_
        refine hK _ _ ?_
        clear hK K
        refine wpAny_ready (rs := [6]) (by kernel_rfl) (by simp) ?_
        refine AllReady.cons rfl (fun K hK => ?_) AllReady.nil
        go_simp
        refine (Hsub.out _).mono ?_
        rintro e w4 ⟨rfl, hb4⟩
        refine hK _ _ ?_
        clear hK K
        have HB4 := Lib.hid (below_seq HB.out (below_drew hb4))
        clear hb4
        refine wpAny_ready (rs := [7]) (by kernel_rfl) (by simp) ?_
        refine AllReady.cons rfl (fun K hK => ?_) AllReady.nil
        go_simp
        refine hK _ _ ?_
        clear hK K
        refine wpAny_done (by kernel_rfl) ?_ _
        have s7 := byte_text w4.heap.size y (w4.alloc (.cells #[U y] 5)).drew (Row.new w4 5 #[U y]).drew
        have HB5 := Lib.hid ((HB4.out.alloc HB4.out.size (.cells #[U y] 5)).drew)
        clear s1 s2 s3 Hsub Hrow HB4
        go_wp2_with fail
        go_region
        go_wp2_with fail
        refine (Hmul.out _).mono ?_
        rintro e w6 ⟨rfl, rfl⟩
        have hcall := xor4 _ _ hP HT.out rfl HTl.out
        rw [HN.out] at hcall
        have Hcall := Lib.hid hcall
        have hap := hadd (Aes.newWord 4 i mark l) rfl
        have HNx := Lib.hid (Hnext.out)
        clear hcall Hnext hadd hnw hrow hwa
        go_wp2_with fail
        refine (Hcall.out _).mono ?_
        rintro e w9 ⟨rfl, hb9⟩
        have HB9 := Lib.hid (below_seq HB5.out hb9)
        clear hb9
        have HNz := Lib.hid (HNx.out _ HB9.out)
        go_wp2
        go_roundw
        case rel => exact HNz.out
        case measure => simp [intOf]; omega
      · have t1 : ((i : Int) % 4 == 0) = false := by rw [beq_eq_false_iff_ne]; omega
        rw [if_neg h0] at Hnext
        rw [Aes.turnT_same h0 (by omega)] at hnw
        have HN := Lib.hid hnw
        have HT := Lib.hid hwa
        have HTl := Lib.hid hw4
        clear hw4 HTg
        have hcall := xor4 _ _ hP HT.out rfl HTl.out
        rw [HN.out] at hcall
        have Hcall := Lib.hid hcall
        have hap := hadd (Aes.newWord 4 i mark l) rfl
        have HNx := Lib.hid (Hnext.out)
        clear hcall Hnext hadd hnw hrow hwa
        go_wp2_with fail
        refine (Hcall.out _).mono ?_
        rintro e w9 ⟨rfl, hb9⟩
        have HB9 := Lib.hid (below_seq HB.out hb9)
        clear hb9
        have HNz := Lib.hid (HNx.out _ HB9.out)
        go_wp2
        go_roundw
        case rel => exact HNz.out
        case measure => simp [intOf]; omega
    · obtain rfl : i = 44 := by have := Hik.out; omega
      have hlt' : ¬ ((44 : Nat) : Int) < 44 := by decide
      have hz : Hid (l = E) := by
        have h1 := Hik.out; have h2 := Hgo.out
        obtain rfl : k = 0 := by omega
        exact h2
      have HBf := Lib.hid (below_seq HB0.out HB.out)
      go_wp2
      go_ret
      exact ⟨by rw [← hz.out]; rfl, HBf.out⟩

set_option maxRecDepth 100000 in
set_option maxHeartbeats 4000000 in
theorem refExpanded8 (key : ByteArray) (hk : key.size = 32) (w : World) :
    Calls Try.prog 24 #[.string key, .agg (Bs.vals Fld.subsT)] w fun e w' => e = .returned (.string (strOf (Aes.expanded (bytesOf key)))) ∧ Below w.heap.size w w' := by
  have hkl : (bytesOf key).length = 4 * 8 := by rw [bytesOf_length, hk]
  have hE : Aes.expanded (bytesOf key) = Aes.expGo 8 52 8 1 (bytesOf key) := by rw [Aes.expanded, hkl]
  have hbox := Row.new w 67 (Bs.vals Fld.subsT)
  have hB0 : Below w.heap.size w (w.alloc (.cells (Bs.vals Fld.subsT) 67)) := (Below.refl _ w).alloc (Nat.le_refl _) _
  obtain ⟨w0, hw0⟩ : ∃ w0, w.alloc (.cells (Bs.vals Fld.subsT) 67) = w0 := ⟨_, rfl⟩
  rw [hw0] at hbox hB0
  have hgl := hbox.lt
  obtain ⟨E, hEE⟩ : ∃ E, Aes.expanded (bytesOf key) = E := ⟨_, rfl⟩
  rw [hEE] at hE ⊢
  have hst : RExpAt 8 E w0 (.string key) (.int .u8 1) (.int .i64 8) w0 :=
    ⟨52, 8, 1, bytesOf key, hE.symm, hkl, bytesOf_all key, by decide, Nat.le_refl _, rfl, by rw [strOf_bytesOf], rfl, rfl, Below.refl _ _⟩
  have hT : Fld.subsT.length = 256 := Fld.subsT_length
  have hTg : ∀ x, x < 256 → Fld.subsT.getD x 0 = Fld.sub x := fun x hx => Fld.subsT_get hx
  have Hst := Lib.hid hst
  have Hbox := Lib.hid hbox
  have HB0 := Lib.hid hB0
  have Hw0 := Lib.hid hw0
  have HTg := Lib.hid hTg
  have hks : (key.size : Int) = 32 := by omega
  clear hst hbox hB0 hw0 hEE hE hkl hTg
  generalize Fld.subsT = T at *
  go_enter Try.func24, Try.ntmps24
  go_wp2
  rw [show w.alloc (.cells (Bs.vals T) 67) = w0 from Hw0.out]
  clear Hw0
  go_loopw [6, 7, 8] (fun vo vc vi wr => RExpAt 8 E w0 vo vc vi wr) (fun _ _ vi _ => 60 - (intOf vi).toNat)
  case atStart => exact Hst.out
  case round =>
    clear Hst hks
    obtain ⟨k, i, mark, l, hgo, hll, hla, hmk, hni, hik, rfl, rfl, rfl, hB⟩ := hrel
    have HB := Lib.hid hB
    have Hgo := Lib.hid hgo
    have Hla := Lib.hid hla
    have Hik := Lib.hid hik
    clear hB hgo hla hik
    by_cases hlt : i < 60
    · have hlt' : (i : Int) < 60 := by omega
      obtain ⟨k, rfl⟩ : ∃ j, k = j + 1 := ⟨k - 1, by have := Hik.out; omega⟩
      have hsz : (strOf l).size = 4 * i := by rw [strOf_size, hll]
      have hs1 := fun W => sl_lo (strOf l) (4 * (i : Int) - 4) (4 * i - 4) (by omega) (by omega) W
      rw [hsz, Aes.extract_strOf Hla.out (by omega), Aes.wordAt_drop hll (by omega)] at hs1
      have hs2 := fun W => sl_mid (strOf l) (4 * ((i : Int) - 8)) (4 * ((i : Int) - 8) + 4) (4 * (i - 8)) (4 * (i - 8) + 4) (by omega) (by omega) (by omega) (by omega) W
      rw [Aes.extract_strOf Hla.out (by omega), Aes.wordAt_mid hll (by omega)] at hs2
      have hnw := Aes.newWord_xor 8 i mark l
      have Hnext : Hid (∀ wr', Below w0.heap.size w0 wr' → RExpAt 8 E w0 (.string (strOf (l ++ Aes.newWord 8 i mark l))) (.int .u8 ((if i % 8 = 0 then Fld.mul 2 mark else mark : Nat) : Int)) (.int .i64 ((i : Int) + 1)) wr') := Lib.hid (fun wr' h => by
        refine ⟨k, i + 1, (if i % 8 = 0 then Fld.mul 2 mark else mark), l ++ Aes.newWord 8 i mark l, by rw [← Hgo.out, Aes.expGo], ?_, Aes.all_append Hla.out (Aes.newWord_all hmk Hla.out), ?_, by omega, by have := Hik.out; omega, rfl, rfl, by go_num, h⟩
        · rw [List.length_append, hll]; show 4 * i + 4 = _; omega
        · split
          · exact Fld.mul_lt _ _ (by decide)
          · exact hmk)
      have hrow := Hbox.out.below HB.out hgl
      have hw4 : (Aes.wordAt l (i - 1)).length = 4 := rfl
      have hwa := Aes.wordAt_all Hla.out (i - 1)
      have hP := Aes.wordAt_all Hla.out (i - 8)
      have hPl : (strOf (Aes.wordAt l (i - 8))).size = 4 := by rw [strOf_size]; rfl
      have hadd := fun m => fun (hm : m.length = 4) W => add_texts l m (by omega) W
      by_cases h0 : i % 8 = 0
      · have t1 : ((i : Int) % 8 == 0) = true := by rw [beq_iff_eq]; omega
        have t2 : ((i : Int) % 8 == 4) = false := by rw [beq_eq_false_iff_ne]; omega
        rw [if_pos h0] at Hnext
        have HW : Hid (Aes.wordAt l (i - 1) = [l.getD (4 * (i - 1)) 0, l.getD (4 * (i - 1) + 1) 0, l.getD (4 * (i - 1) + 2) 0, l.getD (4 * (i - 1) + 3) 0]) := Lib.hid rfl
        rw [HW.out] at hs1 hwa
        have ha0 := hwa 0
        have ha1 := hwa 1
        have ha2 := hwa 2
        have ha3 := hwa 3
        simp only [List.getD_cons_zero, List.getD_cons_succ] at ha0 ha1 ha2 ha3
        generalize l.getD (4 * (i - 1)) 0 = a0 at *
        generalize l.getD (4 * (i - 1) + 1) 0 = a1 at *
        generalize l.getD (4 * (i - 1) + 2) 0 = a2 at *
        generalize l.getD (4 * (i - 1) + 3) 0 = a3 at *
        have hturn : Aes.turnT 8 i mark [a0, a1, a2, a3] = [Fld.sub a1 ^^^ mark, Fld.sub a2, Fld.sub a3, Fld.sub a0] := by rw [Aes.turnT, if_pos h0]; rfl
        rw [HW.out, hturn] at hnw
        have b0 := Fld.sub_lt a1 ha1
        have b1 := Fld.sub_lt a2 ha2
        have b2 := Fld.sub_lt a3 ha3
        have b3 := Fld.sub_lt a0 ha0
        have hy := Nat.xor_lt_two_pow (n := 8) b0 hmk
        have hxor := u8_xor_nat _ _ b0 hmk
        have Hsub := Lib.hid (subbed4 T hT HTg.out a1 a2 a3 a0 (Fld.bytes4 ha1 ha2 ha3 ha0))
        have HN := Lib.hid hnw
        have HT := Lib.hid (Fld.bytes4 hy b1 b2 b3)
        have HTl : Hid (([Fld.sub a1 ^^^ mark, Fld.sub a2, Fld.sub a3, Fld.sub a0] : List Nat).length = 4) := Lib.hid rfl
        have s1 := sl_tail a0 a1 a2 a3 hwa
        have s2 := sl_head a0 a1 a2 a3 hwa
        have s3 := add_texts [a1, a2, a3] [a0] (by simp)
        have hB4 := Fld.bytes4 b0 b1 b2 b3
        generalize Fld.sub a1 = c0 at *
        generalize Fld.sub a2 = c1 at *
        generalize Fld.sub a3 = c2 at *
        generalize Fld.sub a0 = c3 at *
        have s4 := sl_tail c0 c1 c2 c3 hB4
        have s5 := fun W => idx_string (strOf [c0, c1, c2, c3]) 0 0 rfl (by rw [strOf_size]; simp) W
        rw [bytesOf_strOf hB4] at s5
        simp only [List.getD_cons_zero] at s5
        have Hrow := Lib.hid hrow
        have Hmul := Lib.hid (mulNat 2 mark (by decide) hmk)
        have s6 := add_texts [c0 ^^^ mark] [c1, c2, c3] (by simp)
        generalize c0 ^^^ mark = y at *
        simp only [List.cons_append, List.nil_append] at s3 s6
        clear hw4 hturn ha0 ha1 ha2 ha3 b0 b1 b2 b3 hy hB4 HTg
        go_wp2_with fail
        refine wp_region_any (by kernel_rfl) ?_
        change wpAny _ _ _ _ _ _ _ (World.drew wr)
        refine wpAny_take (i := 0) (v := ?_) rfl (by kernel_rfl) (by kernel_rfl) (by kernel_rfl) (fun _ _ _ h => h) (Or.inl ⟨by rfl, fun _ => by go_simp; rfl⟩) ?_
        refine wpAny_take (i := 1) (v := ?_) rfl (by kernel_rfl) (by kernel_rfl) (by kernel_rfl) (fun _ _ _ h => h) (Or.inl ⟨by rfl, fun _ => by go_simp; rfl⟩) ?_
        refine wpAny_take (i := 2) (v := ?_) rfl (by kernel_rfl) (by kernel_rfl) (by kernel_rfl) (fun _ _ _ h => h) (Or.inl ⟨by rfl, fun _ => by go_simp; rfl⟩) ?_
        refine wpAny_take (i := 3) (v := ?_) rfl (by kernel_rfl) (by kernel_rfl) (by kernel_rfl) (fun _ _ _ h => h) (Or.inl ⟨by rfl, fun _ => by go_simp; rfl⟩) ?_
        refine wpAny_take (i := 4) (v := ?_) rfl (by kernel_rfl) (by kernel_rfl) (by kernel_rfl) (fun _ _ _ h => h) (Or.inl ⟨by rfl, fun _ => by go_simp; rfl⟩) ?_
        refine wpAny_ready (rs := [5]) (by kernel_rfl) (by simp) ?_
        refine AllReady.cons rfl (fun K hK => ?_) AllReady.nil
        refine step_load_row rfl 67 _ rfl w.heap.size rfl 67 _ _ Hrow.out.drew Try.underlying67 rfl (by rw [Bs.size, hT]; exact Tab.info256) ?_
        refine hK _ _ ?_
        clear hK K
        refine wpAny_ready (rs := [6]) (by kernel_rfl) (by simp) ?_
        refine AllReady.cons rfl (fun K hK => ?_) AllReady.nil
        go_simp
        refine (Hsub.out _).mono ?_
        rintro e w4 ⟨rfl, hb4⟩
        refine hK _ _ ?_
        clear hK K
        have HB4 := Lib.hid (below_seq HB.out (below_drew hb4))
        clear hb4
        refine wpAny_ready (rs := [7]) (by kernel_rfl) (by simp) ?_
        refine AllReady.cons rfl (fun K hK => ?_) AllReady.nil
        go_simp
        refine hK _ _ ?_
        clear hK K
        refine wpAny_done (by kernel_rfl) ?_ _
        have s7 := byte_text w4.heap.size y (w4.alloc (.cells #[U y] 5)).drew (Row.new w4 5 #[U y]).drew
        have HB5 := Lib.hid ((HB4.out.alloc HB4.out.size (.cells #[U y] 5)).drew)
        clear s1 s2 s3 Hsub Hrow HB4
        go_wp2_with fail
        go_region
        go_wp2_with fail
        refine (Hmul.out _).mono ?_
        rintro e w6 ⟨rfl, rfl⟩
        have hcall := xor4 _ _ hP HT.out rfl HTl.out
        rw [HN.out] at hcall
        have Hcall := Lib.hid hcall
        have hap := hadd (Aes.newWord 8 i mark l) rfl
        have HNx := Lib.hid (Hnext.out)
        clear hcall Hnext hadd hnw hrow hwa
        go_wp2_with fail
        refine (Hcall.out _).mono ?_
        rintro e w9 ⟨rfl, hb9⟩
        have HB9 := Lib.hid (below_seq HB5.out hb9)
        clear hb9
        have HNz := Lib.hid (HNx.out _ HB9.out)
        go_wp2
        go_roundw
        case rel => exact HNz.out
        case measure => simp [intOf]; omega
      · have t1 : ((i : Int) % 8 == 0) = false := by rw [beq_eq_false_iff_ne]; omega
        rw [if_neg h0] at Hnext
        by_cases h4 : i % 8 = 4
        · have t2 : ((i : Int) % 8 == 4) = true := by rw [beq_iff_eq]; omega
          have HW : Hid (Aes.wordAt l (i - 1) = [l.getD (4 * (i - 1)) 0, l.getD (4 * (i - 1) + 1) 0, l.getD (4 * (i - 1) + 2) 0, l.getD (4 * (i - 1) + 3) 0]) := Lib.hid rfl
          rw [HW.out] at hs1 hwa
          have ha0 := hwa 0
          have ha1 := hwa 1
          have ha2 := hwa 2
          have ha3 := hwa 3
          simp only [List.getD_cons_zero, List.getD_cons_succ] at ha0 ha1 ha2 ha3
          generalize l.getD (4 * (i - 1)) 0 = a0 at *
          generalize l.getD (4 * (i - 1) + 1) 0 = a1 at *
          generalize l.getD (4 * (i - 1) + 2) 0 = a2 at *
          generalize l.getD (4 * (i - 1) + 3) 0 = a3 at *
          have hturn : Aes.turnT 8 i mark [a0, a1, a2, a3] = [Fld.sub a0, Fld.sub a1, Fld.sub a2, Fld.sub a3] := by rw [Aes.turnT, if_neg h0, if_pos ⟨rfl, h4⟩]; rfl
          rw [HW.out, hturn] at hnw
          have HN := Lib.hid hnw
          have HT := Lib.hid (Fld.bytes4 (Fld.sub_lt a0 ha0) (Fld.sub_lt a1 ha1) (Fld.sub_lt a2 ha2) (Fld.sub_lt a3 ha3))
          have HTl : Hid (([Fld.sub a0, Fld.sub a1, Fld.sub a2, Fld.sub a3] : List Nat).length = 4) := Lib.hid rfl
          have Hsub := Lib.hid (subbed4 T hT HTg.out a0 a1 a2 a3 hwa)
          have Hrow := Lib.hid hrow
          clear hw4 hturn ha0 ha1 ha2 ha3 HTg
          go_wp2_with (first | (refine wpList_load_row rfl 67 _ rfl w.heap.size rfl 67 _ _ _ Hrow.out Try.underlying67 rfl (by rw [Bs.size, hT]; exact Tab.info256) ?_) | fail)
          refine (Hsub.out _).mono ?_
          rintro e w4 ⟨rfl, hb4⟩
          have HB4 := Lib.hid (below_seq HB.out hb4)
          clear hb4 Hsub Hrow
          have hcall := xor4 _ _ hP HT.out rfl HTl.out
          rw [HN.out] at hcall
          have Hcall := Lib.hid hcall
          have hap := hadd (Aes.newWord 8 i mark l) rfl
          have HNx := Lib.hid (Hnext.out)
          clear hcall Hnext hadd hnw hrow hwa
          go_wp2_with fail
          refine (Hcall.out _).mono ?_
          rintro e w9 ⟨rfl, hb9⟩
          have HB9 := Lib.hid (below_seq HB4.out hb9)
          clear hb9
          have HNz := Lib.hid (HNx.out _ HB9.out)
          go_wp2
          go_roundw
          case rel => exact HNz.out
          case measure => simp [intOf]; omega
        · have t2 : ((i : Int) % 8 == 4) = false := by rw [beq_eq_false_iff_ne]; omega
          rw [Aes.turnT_same h0 (fun h => h4 h.2)] at hnw
          have HN := Lib.hid hnw
          have HT := Lib.hid hwa
          have HTl := Lib.hid hw4
          clear hw4 HTg
          have hcall := xor4 _ _ hP HT.out rfl HTl.out
          rw [HN.out] at hcall
          have Hcall := Lib.hid hcall
          have hap := hadd (Aes.newWord 8 i mark l) rfl
          have HNx := Lib.hid (Hnext.out)
          clear hcall Hnext hadd hnw hrow hwa
          go_wp2_with fail
          refine (Hcall.out _).mono ?_
          rintro e w9 ⟨rfl, hb9⟩
          have HB9 := Lib.hid (below_seq HB.out hb9)
          clear hb9
          have HNz := Lib.hid (HNx.out _ HB9.out)
          go_wp2
          go_roundw
          case rel => exact HNz.out
          case measure => simp [intOf]; omega
    · obtain rfl : i = 60 := by have := Hik.out; omega
      have hlt' : ¬ ((60 : Nat) : Int) < 60 := by decide
      have hz : Hid (l = E) := by
        have h1 := Hik.out; have h2 := Hgo.out
        obtain rfl : k = 0 := by omega
        exact h2
      have HBf := Lib.hid (below_seq HB0.out HB.out)
      go_wp2
      go_ret
      exact ⟨by rw [← hz.out]; rfl, HBf.out⟩

end Go.Proofs.Ytgcfaeipiiagdaa
