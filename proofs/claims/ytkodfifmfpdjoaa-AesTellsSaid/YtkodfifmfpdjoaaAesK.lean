/-
  The contract of aes.cipher's method decrypt.
-/
import Derived.Test.YtkodfifmfpdjoaaAesJ
namespace Go.Proofs.Ytkodfifmfpdjoaa
open Go.RowKit

set_option maxRecDepth 100000 in
set_option maxHeartbeats 4000000 in
theorem decrypt_any (b n : Nat) (hn : n = 4 ∨ n = 8) (s block : ByteArray) (hs : s.size = 4 * n) (hbl : block.size = 16) (w : World) (hr : Row w b 65 #[.string s, .int .u32 0, .int .i32 0, .int .u32 0, .slice none 0 0]) :
    Calls Try.prog 26 #[.pointer (some ⟨b, 0, none⟩), .string block] w fun e w' =>
      e = .returned (.string (strOf (Aes.dec (bytesOf s) (bytesOf block)))) ∧ Keep (fun k => k ≠ b) w w' := by
  have hbw := hr.lt
  obtain ⟨W1, cap, hcv, hb1, hz1, hc1⟩ := conv_bytes (P := Try.prog) (src := 9) Try.underlying9 Try.underlying33 Try.underlying5 block w
  rw [hbl] at hcv hc1
  have hblen : (bytesOf block).length = 16 := by rw [bytesOf_length, hbl]
  have hball := bytesOf_all block
  have har := Aes.array_at_state ⟨w.heap.size, 0, none⟩ cap W1
  have q0 := hc1 0 (by decide)
  have q1 := hc1 1 (by decide)
  have q2 := hc1 2 (by decide)
  have q3 := hc1 3 (by decide)
  have q4 := hc1 4 (by decide)
  have q5 := hc1 5 (by decide)
  have q6 := hc1 6 (by decide)
  have q7 := hc1 7 (by decide)
  have q8 := hc1 8 (by decide)
  have q9 := hc1 9 (by decide)
  have q10 := hc1 10 (by decide)
  have q11 := hc1 11 (by decide)
  have q12 := hc1 12 (by decide)
  have q13 := hc1 13 (by decide)
  have q14 := hc1 14 (by decide)
  have q15 := hc1 15 (by decide)
  have hb16 := list16 hblen
  obtain ⟨Y, hY⟩ : ∃ Y, bytesOf block = Y := ⟨_, rfl⟩
  rw [hY] at hb16 hblen hball q0 q1 q2 q3 q4 q5 q6 q7 q8 q9 q10 q11 q12 q13 q14 q15
  generalize Y.getD 0 0 = y0 at *
  generalize Y.getD 1 0 = y1 at *
  generalize Y.getD 2 0 = y2 at *
  generalize Y.getD 3 0 = y3 at *
  generalize Y.getD 4 0 = y4 at *
  generalize Y.getD 5 0 = y5 at *
  generalize Y.getD 6 0 = y6 at *
  generalize Y.getD 7 0 = y7 at *
  generalize Y.getD 8 0 = y8 at *
  generalize Y.getD 9 0 = y9 at *
  generalize Y.getD 10 0 = y10 at *
  generalize Y.getD 11 0 = y11 at *
  generalize Y.getD 12 0 = y12 at *
  generalize Y.getD 13 0 = y13 at *
  generalize Y.getD 14 0 = y14 at *
  generalize Y.getD 15 0 = y15 at *
  have HY : Hid (bytesOf block = [y0, y1, y2, y3, y4, y5, y6, y7, y8, y9, y10, y11, y12, y13, y14, y15]) := Lib.hid (hY.trans hb16)
  subst hb16
  have hrs := Row.new W1 44 #[U y0, U y1, U y2, U y3, U y4, U y5, U y6, U y7, U y8, U y9, U y10, U y11, U y12, U y13, U y14, U y15]
  obtain ⟨w2, hw2⟩ : ∃ w2, W1.alloc (.cells #[U y0, U y1, U y2, U y3, U y4, U y5, U y6, U y7, U y8, U y9, U y10, U y11, U y12, U y13, U y14, U y15] 44) = w2 := ⟨_, rfl⟩
  rw [hw2] at hrs
  have hrb2 : Row w2 b 65 #[.string s, .int .u32 0, .int .i32 0, .int .u32 0, .slice none 0 0] := by rw [← hw2]; exact (hr.below hb1 hbw).alloc _
  have hk2 : Keep (fun k => k ≠ b) w w2 := by rw [← hw2]; exact (Keep.below hb1).alloc _
  have hlb : (bytesOf s).length = 4 * n := by rw [bytesOf_length, hs]
  have hll : (Aes.expanded (bytesOf s)).length = 16 * (n + 7) := by rw [Aes.expanded_length, hlb]; omega
  have hall := Aes.expanded_all (bytesOf_all s)
  have hdiv : (bytesOf s).length / 4 = n := by omega
  obtain ⟨L, hL⟩ : ∃ L, Aes.expanded (bytesOf s) = L := ⟨_, rfl⟩
  obtain ⟨gs, hgs⟩ : ∃ gs, W1.heap.size = gs := ⟨_, rfl⟩
  rw [hgs] at hrs
  have hgw : w.heap.size ≤ gs := by rw [← hgs]; exact hb1.size
  have Hrs := Lib.hid hrs
  have Hrb2 := Lib.hid hrb2
  have Hk2 := Lib.hid hk2
  have Hw2 := Lib.hid hw2
  have Hball := Lib.hid hball
  have HL := Lib.hid hL
  rw [hL] at hll hall
  have Hall := Lib.hid hall
  clear hrs hrb2 hk2 hr hw2 hb1 hz1 hc1 hball hL hall hY
  refine (callsIn_wide (n := 9)).1 ?_
  refine callsIn_of_wp_marks Try.func26 rfl trivial ?_ rfl
  simp only [Try.ntmps26, List.size_toArray, List.length_cons, List.length_nil, Nat.reduceAdd, Nat.reduceSub, Array.replicate_succ, Array.replicate_zero, List.push_toArray, List.append_toArray, List.nil_append, List.cons_append]
  gi_wp2_with (refine ⟨trivial, ?_⟩; gi_at_call 20; fail)
  rw [show W1.alloc (.cells #[U y0, U y1, U y2, U y3, U y4, U y5, U y6, U y7, U y8, U y9, U y10, U y11, U y12, U y13, U y14, U y15] 44) = w2 from Hw2.out]
  refine ⟨trivial, ?_⟩
  refine (callsIn_wide.2 (rounds_any b true w2)).mono ?_
  rintro e w5 ⟨rfl, hw5⟩
  have hz5 : w5.heap.size = w2.heap.size + 2 := by rw [hw5]; simp
  have hk25 : Keep (fun _ => True) w2 w5 := by rw [hw5]; exact ((Keep.refl _ _).alloc _).alloc _
  have hc5 : w5.cell? ⟨w2.heap.size, 0, none⟩ = some (.pointer (some ⟨b, 0, none⟩)) := by rw [hw5]; go_simp
  have hd5 : w5.cell? ⟨w2.heap.size + 1, 0, none⟩ = some (.bool true) := by rw [hw5]; go_simp
  have hgs2 : gs < w2.heap.size := Hrs.out.lt
  have hgsb : gs ≠ b := by omega
  clear hw5
  obtain ⟨bc, hbc⟩ : ∃ bc, w2.heap.size = bc := ⟨_, rfl⟩
  rw [hbc] at hc5 hd5 hz5 hgs2
  have Hrb5 := Lib.hid (Hrb2.out.keep hk25 trivial)
  have Hway : Hid (WayAt b gs Aes.decStep [y0, y1, y2, y3, y4, y5, y6, y7, y8, y9, y10, y11, y12, y13, y14, y15] w [] w5) := Lib.hid ⟨Hrs.out.keep hk25 trivial, rfl, Hball.out, Hk2.out.on hk25 (fun _ _ _ => trivial)⟩
  clear q0 q1 q2 q3 q4 q5 q6 q7 q8 q9 q10 q11 q12 q13 q14 q15 hk25 Hrs Hrb2 Hk2 Hw2 hcv har hblen hgs
  gi_wp2
  clear hbc
  refine wp_rangeF (n := 9) (gf := 50) (lb := #[.pointer (some ⟨bc, 0, none⟩), .pointer (some ⟨bc + 1, 0, none⟩)]) rfl
    (enters_of Try.func50 (by kernel_rfl) rfl)
    (rounds1_back b bc (bc + 1) n hn s L (.int .u32 0) (fun k => k = b ∨ k = bc ∨ k = bc + 1 ∨ w5.heap.size + 2 ≤ k) (.inl rfl) (.inr (.inl rfl)) (.inr (.inr (.inl rfl))) (by omega) (by omega) w5 hc5 hd5
      (fun W hW hz => (keys_first b n s hn hs (.int .u32 0) W (Hrb5.out.keep hW (.inl rfl))).mono (fun e w' h => by
        obtain ⟨v, rfl, hr3, ho3, hk3⟩ := h
        obtain ⟨g, cap3, rfl, hgb, hgl⟩ := owns_row ho3 (by omega)
        rw [HL.out] at ho3
        refine ⟨_, g, rfl, .inr (.inr (.inr (by omega))), ⟨hr3, ⟨cap3, rfl⟩, hll, fun m hm => ?_⟩, hk3⟩
        rw [ho3.cellAt m (by omega)]
        simp [List.getD_eq_getElem?_getD, show m < L.length by omega])))
    (by omega) (by omega) ?fin (fun _ => rfl) (fun k => k = gs) (by omega) (WayAt b gs Aes.decStep [y0, y1, y2, y3, y4, y5, y6, y7, y8, y9, y10, y11, y12, y13, y14, y15] w) (fun _ _ _ => False)
    (WayAt_stable b gs _ [y0, y1, y2, y3, y4, y5, y6, y7, y8, y9, y10, y11, y12, y13, y14, y15] w _ (by omega) (by omega)) (fun _ _ _ _ hs _ => hs) Hway.out ?body ?done ?stop
  case fin =>
    rintro A B ⟨v, g2, hn2, h⟩ hk
    exact ⟨v, g2, hn2, h.keep hk (by omega) (by omega)⟩
  case stop => intro c pre suf W _ h; exact h.elim
  case done =>
    as_aux_lemma =>
    rintro W ⟨hrw, hrl, hra, hkw⟩ ⟨v2, g2, hn2, hki2⟩ hz hK
    obtain ⟨R, hR⟩ : ∃ R, Aes.dec (bytesOf s) (bytesOf block) = R := ⟨_, rfl⟩
    obtain ⟨T, hT⟩ : ∃ T, (Aes.rounds n L true).foldl Aes.decStep [y0, y1, y2, y3, y4, y5, y6, y7, y8, y9, y10, y11, y12, y13, y14, y15] = T := ⟨_, rfl⟩
    rw [hT] at hrw hrl hra
    have hfin : Aes.add T (Aes.keyAt L 0) = R := by rw [← hR, ← hT, Aes.dec, HL.out, hdiv, HY.out]
    have HR := Lib.hid hR
    have HRw := Lib.hid hrw
    have Hra := Lib.hid hra
    have Hkw := Lib.hid hkw
    have hrow := hki2.1
    obtain ⟨cap, hv2⟩ := hki2.2.1
    have hget : ∀ t, t < 16 → W.cell? ⟨g2, t, none⟩ = some (U ((Aes.keyAt L 0).getD t 0)) := fun t ht => by
      rw [hki2.2.2.2 t (by omega), ← Aes.keyAt_get ht, Nat.zero_mul, Nat.zero_add]
    have hkl : (Aes.keyAt L 0).length = 16 := Aes.keyAt_length hll (by omega)
    have hKa : Bs.All (Aes.keyAt L 0) := Aes.keyAt_all Hall.out 0
    have hgsw : gs < W.heap.size := hrw.lt
    have q0 := hget 0 (by decide)
    have q1 := hget 1 (by decide)
    have q2 := hget 2 (by decide)
    have q3 := hget 3 (by decide)
    have q4 := hget 4 (by decide)
    have q5 := hget 5 (by decide)
    have q6 := hget 6 (by decide)
    have q7 := hget 7 (by decide)
    have q8 := hget 8 (by decide)
    have q9 := hget 9 (by decide)
    have q10 := hget 10 (by decide)
    have q11 := hget 11 (by decide)
    have q12 := hget 12 (by decide)
    have q13 := hget 13 (by decide)
    have q14 := hget 14 (by decide)
    have q15 := hget 15 (by decide)
    have hk16 := list16 hkl
    obtain ⟨K0, hK0⟩ : ∃ K0, Aes.keyAt L 0 = K0 := ⟨_, rfl⟩
    rw [hK0] at hk16 hkl hKa hfin q0 q1 q2 q3 q4 q5 q6 q7 q8 q9 q10 q11 q12 q13 q14 q15
    generalize K0.getD 0 0 = k0 at *
    generalize K0.getD 1 0 = k1 at *
    generalize K0.getD 2 0 = k2 at *
    generalize K0.getD 3 0 = k3 at *
    generalize K0.getD 4 0 = k4 at *
    generalize K0.getD 5 0 = k5 at *
    generalize K0.getD 6 0 = k6 at *
    generalize K0.getD 7 0 = k7 at *
    generalize K0.getD 8 0 = k8 at *
    generalize K0.getD 9 0 = k9 at *
    generalize K0.getD 10 0 = k10 at *
    generalize K0.getD 11 0 = k11 at *
    generalize K0.getD 12 0 = k12 at *
    generalize K0.getD 13 0 = k13 at *
    generalize K0.getD 14 0 = k14 at *
    generalize K0.getD 15 0 = k15 at *
    have HK : Hid (W.heap[w5.heap.size]? = some (.deferred (some []))) := Lib.hid hK
    subst hk16
    have Hfin := Lib.hid hfin
    have Hka := Lib.hid hKa
    have Hrow := Lib.hid hrow
    clear hK hR hT hrw hra hkw hrow hfin hKa hget hK0 hki2 Hway HY HL hc5 hd5 Hrb5 Hall
    subst hv2
    gi_wp2
    refine ⟨trivial, ?_⟩
    refine (callsIn_wide.2 (keys_again b _ _ _ _ W Hrow.out)).mono ?_
    rintro e w6 ⟨rfl, rfl⟩
    gi_wp2
    refine ⟨trivial, ?_⟩
    refine (callsIn_wide.2 (state_add gs T [k0, k1, k2, k3, k4, k5, k6, k7, k8, k9, k10, k11, k12, k13, k14, k15] hrl rfl Hra.out Hka.out _ HRw.out)).mono ?_
    rintro e w7 ⟨rfl, hr7, hk7⟩
    rw [Hfin.out] at hr7
    have hrl7 : R.length = 16 := by rw [← Hfin.out]; exact Aes.add_length _ _
    have hK7 : w7.heap[w5.heap.size]? = some (.deferred (some [])) := by rw [hk7.block _ (by omega) (by omega)]; exact HK.out
    rw [hz5] at hK7
    have Hk7 := Lib.hid (Hkw.out.on hk7 (by intro k _ hl; omega))
    have hcv := conv_string (P := Try.prog) (src := 33) (dst := 9) Try.underlying33 Try.underlying5 Try.underlying9 gs 0 16 R w7 (fun j hj => by rw [Nat.zero_add, hr7.cell j, Bs.get R hj]) 16 hrl7
    clear hr7 hk7 q0 q1 q2 q3 q4 q5 q6 q7 q8 q9 q10 q11 q12 q13 q14 q15
    gi_wp2
    refine ⟨by simp, .inl ⟨_, _, rfl, run_takeDeferred hK7, ?_⟩⟩
    refine ⟨.string (strOf R), by simp [results, Try.f26, go_sem], by rw [HR.out], ?_⟩
    exact Hk7.out.putObj (fun _ => by omega) _
  case body =>
    as_aux_lemma =>
    intro lp pre x rest W hxs hz hi
    obtain ⟨xk, xl⟩ := x
    have hx := Aes.rounds_mem hll Hall.out (x := (xk, xl)) (by rw [hxs]; simp)
    dsimp only at hx
    have hx1 := list16 hx.1
    have hxa := hx.2
    rw [hx1] at hxa
    generalize xk.getD 0 0 = x0 at *
    generalize xk.getD 1 0 = x1 at *
    generalize xk.getD 2 0 = x2 at *
    generalize xk.getD 3 0 = x3 at *
    generalize xk.getD 4 0 = x4 at *
    generalize xk.getD 5 0 = x5 at *
    generalize xk.getD 6 0 = x6 at *
    generalize xk.getD 7 0 = x7 at *
    generalize xk.getD 8 0 = x8 at *
    generalize xk.getD 9 0 = x9 at *
    generalize xk.getD 10 0 = x10 at *
    generalize xk.getD 11 0 = x11 at *
    generalize xk.getD 12 0 = x12 at *
    generalize xk.getD 13 0 = x13 at *
    generalize xk.getD 14 0 = x14 at *
    generalize xk.getD 15 0 = x15 at *
    subst hx1
    have hfold : (pre ++ [([x0, x1, x2, x3, x4, x5, x6, x7, x8, x9, x10, x11, x12, x13, x14, x15], xl)]).foldl Aes.decStep [y0, y1, y2, y3, y4, y5, y6, y7, y8, y9, y10, y11, y12, y13, y14, y15] = Aes.decStep (pre.foldl Aes.decStep [y0, y1, y2, y3, y4, y5, y6, y7, y8, y9, y10, y11, y12, y13, y14, y15]) ([x0, x1, x2, x3, x4, x5, x6, x7, x8, x9, x10, x11, x12, x13, x14, x15], xl) := by rw [List.foldl_append]; rfl
    have hbx := Row.new W 44 #[U x0, U x1, U x2, U x3, U x4, U x5, U x6, U x7, U x8, U x9, U x10, U x11, U x12, U x13, U x14, U x15]
    have Hfold := Lib.hid hfold
    have Hi := Lib.hid hi
    have Hbx := Lib.hid hbx
    have Hxa := Lib.hid hxa
    clear hfold hi hbx hxa hx hxs hc5 hd5 Hrb5 Hway
    dsimp only [Aes.encs, Bs.vals, List.map_cons, List.map_nil]
    gi_wp2
    repeat ((rw [Oper.semAt_eq _ _ _ (fun c h => by cases h)]; go_simp); gi_wp2)
    refine ⟨(Keep.refl _ _).alloc _, fun W3 hk hzz => ?_⟩
    have hr3 := (Hi.out.1.alloc (.cells #[U x0, U x1, U x2, U x3, U x4, U x5, U x6, U x7, U x8, U x9, U x10, U x11, U x12, U x13, U x14, U x15] 44)).keep hk (by omega)
    have hx3 := Hbx.out.keep hk (by omega)
    have hkw3 : Keep (fun k => k ≠ b) w W3 := (Hi.out.2.2.2.alloc (.cells #[U x0, U x1, U x2, U x3, U x4, U x5, U x6, U x7, U x8, U x9, U x10, U x11, U x12, U x13, U x14, U x15] 44)).on hk (by intro k _ hl; omega)
    have hSl := Hi.out.2.1
    have hSa := Hi.out.2.2.1
    generalize pre.foldl Aes.decStep [y0, y1, y2, y3, y4, y5, y6, y7, y8, y9, y10, y11, y12, y13, y14, y15] = S at *
    obtain ⟨kb, hkb⟩ : ∃ kb, W.heap.size = kb := ⟨_, rfl⟩
    rw [hkb] at hx3
    have HSa := Lib.hid hSa
    have Hr3 := Lib.hid hr3
    have Hkw3 := Lib.hid hkw3
    have p0 := hx3.cell 0
    have p1 := hx3.cell 1
    have p2 := hx3.cell 2
    have p3 := hx3.cell 3
    have p4 := hx3.cell 4
    have p5 := hx3.cell 5
    have p6 := hx3.cell 6
    have p7 := hx3.cell 7
    have p8 := hx3.cell 8
    have p9 := hx3.cell 9
    have p10 := hx3.cell 10
    have p11 := hx3.cell 11
    have p12 := hx3.cell 12
    have p13 := hx3.cell 13
    have p14 := hx3.cell 14
    have p15 := hx3.cell 15
    clear hr3 hx3 hkw3 hk hzz Hbx hSa Hi
    gi_wp2
    (rw [Oper.semAt_eq _ _ _ (fun c h => by cases h)]; go_simp)
    gi_wp2
    refine ⟨trivial, ?_⟩
    (rw [Oper.semAt_eq _ _ _ (fun c h => by cases h)]; go_simp)
    refine CallsIn.inRound lp ((callsIn_wide.2 (state_add gs S [x0, x1, x2, x3, x4, x5, x6, x7, x8, x9, x10, x11, x12, x13, x14, x15] hSl rfl HSa.out Hxa.out W3 Hr3.out)).mono ?_)
    rintro e w6 ⟨rfl, hr6, hk6⟩
    have Ha6 := Lib.hid (Aes.add_all HSa.out Hxa.out)
    have hl6 := Aes.add_length S [x0, x1, x2, x3, x4, x5, x6, x7, x8, x9, x10, x11, x12, x13, x14, x15]
    have Hr6 := Lib.hid hr6
    have Hk6 := Lib.hid hk6
    clear hr6 hk6 p0 p1 p2 p3 p4 p5 p6 p7 p8 p9 p10 p11 p12 p13 p14 p15
    obtain ⟨T, hT⟩ : ∃ T, Aes.add S [x0, x1, x2, x3, x4, x5, x6, x7, x8, x9, x10, x11, x12, x13, x14, x15] = T := ⟨_, rfl⟩
    rw [hT] at Ha6 hl6 Hr6
    have HT := Lib.hid hT
    clear hT
    cases xl
    · skip
      gi_wp2
      (rw [Oper.semAt_eq _ _ _ (fun c h => by cases h)]; go_simp)
      gi_wp2
      refine ⟨trivial, ?_⟩
      (rw [Oper.semAt_eq _ _ _ (fun c h => by cases h)]; go_simp)
      refine CallsIn.inRound lp ((callsIn_wide.2 (columns_unmix gs T hl6 Ha6.out w6 Hr6.out)).mono ?_)
      rintro e w7 ⟨rfl, hr7, hk7⟩
      have Hr7 := Lib.hid hr7
      have Hk7 := Lib.hid (Hk6.out.trans hk7)
      clear hr7 hk7
      gi_wp2
      refine ⟨trivial, ?_⟩
      (rw [Oper.semAt_eq _ _ _ (fun c h => by cases h)]; go_simp)
      refine CallsIn.inRound lp ((callsIn_wide.2 (state_move gs 3 (by decide) (Aes.columns Fld.ux T) (Aes.columns_length _ _) w7 Hr7.out)).mono ?_)
      rintro e w8 ⟨rfl, hr8, hk8⟩
      have Hr8 := Lib.hid hr8
      have Hk8 := Lib.hid (Hk7.out.trans hk8)
      have Ha8 := Lib.hid (Aes.move_all 3 (Aes.columns_all (s := T) Fld.ux_lt))
      clear hr8 hk8
      gi_wp2
      refine ⟨trivial, ?_⟩
      (rw [Oper.semAt_eq _ _ _ (fun c h => by cases h)]; go_simp)
      refine CallsIn.inRound lp ((callsIn_wide.2 (each_back gs (Aes.move 3 (Aes.columns Fld.ux T)) (Aes.move_length _ _) Ha8.out w8 Hr8.out)).mono ?_)
      rintro e w9 ⟨rfl, hr9, hk9⟩
      have Hr9 := Lib.hid hr9
      have Hk9 := Lib.hid (Hk8.out.trans hk9)
      clear hr9 hk9
      gi_wp2
      refine ⟨Hk9.out, ?_, ?_, ?_, Hkw3.out.on Hk9.out (by intro k _ hl; omega)⟩
      · rw [Hfold.out, Aes.decStep, if_neg Bool.false_ne_true, HT.out]; exact Hr9.out
      · rw [Hfold.out]; exact Aes.decStep_length _ _
      · rw [Hfold.out, Aes.decStep, if_neg Bool.false_ne_true, HT.out]; exact Aes.each_all (fun x hx => Fld.back_lt x hx) Ha8.out
    · skip
      gi_wp2
      (rw [Oper.semAt_eq _ _ _ (fun c h => by cases h)]; go_simp)
      gi_wp2
      refine ⟨trivial, ?_⟩
      (rw [Oper.semAt_eq _ _ _ (fun c h => by cases h)]; go_simp)
      refine CallsIn.inRound lp ((callsIn_wide.2 (state_move gs 3 (by decide) T hl6 w6 Hr6.out)).mono ?_)
      rintro e w8 ⟨rfl, hr8, hk8⟩
      have Hr8 := Lib.hid hr8
      have Hk8 := Lib.hid (Hk6.out.trans hk8)
      have Ha8 := Lib.hid (Aes.move_all 3 Ha6.out)
      clear hr8 hk8
      gi_wp2
      refine ⟨trivial, ?_⟩
      (rw [Oper.semAt_eq _ _ _ (fun c h => by cases h)]; go_simp)
      refine CallsIn.inRound lp ((callsIn_wide.2 (each_back gs (Aes.move 3 T) (Aes.move_length _ _) Ha8.out w8 Hr8.out)).mono ?_)
      rintro e w9 ⟨rfl, hr9, hk9⟩
      have Hr9 := Lib.hid hr9
      have Hk9 := Lib.hid (Hk8.out.trans hk9)
      clear hr9 hk9
      gi_wp2
      refine ⟨Hk9.out, ?_, ?_, ?_, Hkw3.out.on Hk9.out (by intro k _ hl; omega)⟩
      · rw [Hfold.out, Aes.decStep, if_pos rfl, HT.out]; exact Hr9.out
      · rw [Hfold.out]; exact Aes.decStep_length _ _
      · rw [Hfold.out, Aes.decStep, if_pos rfl, HT.out]; exact Aes.each_all (fun x hx => Fld.back_lt x hx) Ha8.out

end Go.Proofs.Ytkodfifmfpdjoaa
