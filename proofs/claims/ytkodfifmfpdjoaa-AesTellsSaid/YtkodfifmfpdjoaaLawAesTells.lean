/- For every key, block and length the law AesTells of layer 4 answers true and leaves its arguments as they were. No condition. -/
import Derived.Test.YtkodfifmfpdjoaaLawB
import Derived.Test.YtkodfifmfpdjoaaLawO
import Derived.Test.YtkodfifmfpdjoaaRefK
import Derived.Test.YtkodfifmfpdjoaaFrm
import Derived.Deep.CutRange
namespace Go.Proofs.Ytkodfifmfpdjoaa.aesTells
open Go.ChangeShapes Go.WideShapes Go.ChangeAt Go.RowKit

/-- The program and the document tell the same of a key and a block. -/
theorem same (k b : ByteArray) :
    (∃ (P : ByteArray) (e : Int), (∀ w, Calls Try.prog 11 #[.string k] w fun r w' => r = .returned (.tuple #[.string P, .int .i64 e]) ∧ Below w.heap.size w w') ∧
      (∀ w, Calls Try.prog 12 #[.string k] w fun r w' => r = .returned (.tuple #[.string P, .int .i64 e]) ∧ Below w.heap.size w w')) ∧
    (∃ (P : ByteArray) (e : Int), (∀ w, Calls Try.prog 13 #[.string k, .string b] w fun r w' => r = .returned (.tuple #[.string P, .int .i64 e]) ∧ Below w.heap.size w w') ∧
      (∀ w, Calls Try.prog 14 #[.string k, .string b] w fun r w' => r = .returned (.tuple #[.string P, .int .i64 e]) ∧ Below w.heap.size w w')) ∧
    (∃ (P : ByteArray) (e : Int), (∀ w, Calls Try.prog 15 #[.string k, .string b] w fun r w' => r = .returned (.tuple #[.string P, .int .i64 e]) ∧ Below w.heap.size w w') ∧
      (∀ w, Calls Try.prog 16 #[.string k, .string b] w fun r w' => r = .returned (.tuple #[.string P, .int .i64 e]) ∧ Below w.heap.size w w')) := by
  rcases aesKey_cases k with hk | ⟨n, hn, hk⟩
  · refine ⟨⟨_, _, fun w => Expand_none k hk w, fun w => refExpand_none k hk.1 hk.2 w⟩, ⟨_, _, fun w => Encrypt_none k b (.inl hk) w, fun w => refEncrypt_none k b (.inl hk) w⟩, ⟨_, _, fun w => Decrypt_none k b (.inl hk) w, fun w => refDecrypt_none k b (.inl hk) w⟩⟩
  · refine ⟨⟨_, _, fun w => Expand_any n hn k hk w, fun w => refExpand_any n hn k hk w⟩, ?_⟩
    by_cases hb : b.size = 16
    · exact ⟨⟨_, _, fun w => Encrypt_any n hn k b hk hb w, fun w => refEncrypt_any n hn k b hk hb w⟩, ⟨_, _, fun w => Decrypt_any n hn k b hk hb w, fun w => refDecrypt_any n hn k b hk hb w⟩⟩
    · exact ⟨⟨_, _, fun w => Encrypt_none k b (.inr hb) w, fun w => refEncrypt_none k b (.inr hb) w⟩, ⟨_, _, fun w => Decrypt_none k b (.inr hb) w, fun w => refDecrypt_none k b (.inr hb) w⟩⟩

/-- Where the loop stands. -/
def TellAt (cs : Array Value) (g : Nat) (w : World) (vi : Value) (wr : World) : Prop :=
  ∃ i : Nat, i ≤ 3 ∧ vi = .int .i64 (i : Int) ∧ Row wr g 25 cs ∧ Below w.heap.size w wr

set_option maxRecDepth 100000 in
set_option maxHeartbeats 4000000 in
theorem walk (key : ByteArray) (hkey : key.size ≤ 140737488351232) (block : ByteArray) (hblock : block.size ≤ 140737488351232) (long : Bool) (w : World) :
    Calls Try.prog 3 #[.string key, .string block, .bool long] w fun e w' => e = .returned (.bool true) ∧ Below w.heap.size w w' := by
  have HK := Lib.hid (Key_any key long hkey)
  have HC := Lib.hid (Chunk_any block hblock)
  obtain ⟨k, hk⟩ : ∃ k, keyOf key long = k := ⟨_, rfl⟩
  obtain ⟨c, hc⟩ : ∃ c, chunkOf block = c := ⟨_, rfl⟩
  rw [hk] at HK
  rw [hc] at HC
  clear hk hc
  go_enter Try.func3, Try.ntmps3
  go_wp2_with fail
  refine (awake4_any _).mono ?_
  rintro e w1 ⟨rfl, hb1⟩
  have Hb1 := Lib.hid hb1
  clear hb1
  go_wp2_with fail
  refine (HK.out _).mono ?_
  rintro e w2 ⟨rfl, hb2⟩
  have Hb2 := Lib.hid (below_seq Hb1.out hb2)
  clear hb2 Hb1
  go_wp2_with fail
  refine (HC.out _).mono ?_
  rintro e w3 ⟨rfl, hb3⟩
  have Hb3 := Lib.hid (below_seq Hb2.out hb3)
  clear hb3 Hb2 HK HC
  -- the shorter texts
  obtain ⟨m, hm1, hm2⟩ : ∃ m : Nat, (if (40 : Int) < (key.size : Int) then (40 : Int) else (key.size : Int)) = (m : Int) ∧ m ≤ key.size := ⟨min key.size 40, by split <;> omega, by omega⟩
  obtain ⟨p, hp1, hp2⟩ : ∃ p : Nat, (if (40 : Int) < (block.size : Int) then (40 : Int) else (block.size : Int)) = (p : Int) ∧ p ≤ block.size := ⟨min block.size 40, by split <;> omega, by omega⟩
  have s1 := fun W => sl_hi key (m : Int) m rfl hm2 W
  have s2 := fun W => sl_hi block (p : Int) p rfl hp2 W
  generalize key.extract 0 m = ks at *
  generalize block.extract 0 p = bs at *
  go_wp2_with fail
  refine wp_region_any (by kernel_rfl) ?_
  change wpAny _ _ _ _ _ _ _ (World.drew w3)
  refine wpAny_take (i := 0) (v := ?_) rfl (by kernel_rfl) (by kernel_rfl) (by kernel_rfl) (fun _ _ _ h => h) (Or.inl ⟨by rfl, fun _ => by go_simp; rfl⟩) ?_
  refine wpAny_take (i := 1) (v := ?_) rfl (by kernel_rfl) (by kernel_rfl) (by kernel_rfl) (fun _ _ _ h => h) (Or.inl ⟨by rfl, fun _ => by go_simp; rfl⟩) ?_
  refine wpAny_take (i := 2) (v := ?_) rfl (by kernel_rfl) (by kernel_rfl) (by kernel_rfl) (fun _ _ _ h => h) (Or.inl ⟨by rfl, fun _ => by go_simp; rfl⟩) ?_
  refine wpAny_take (i := 3) (v := ?_) rfl (by kernel_rfl) (by kernel_rfl) (by kernel_rfl) (fun _ _ _ h => h) (Or.inl ⟨by rfl, fun _ => by go_simp; rfl⟩) ?_
  refine wpAny_take (i := 4) (v := ?_) rfl (by kernel_rfl) (by kernel_rfl) (by kernel_rfl) (fun _ _ _ h => h) (Or.inl ⟨by rfl, fun _ => by go_simp; rfl⟩) ?_
  refine wpAny_take (i := 5) (v := ?_) rfl (by kernel_rfl) (by kernel_rfl) (by kernel_rfl) (fun _ _ _ h => h) (Or.inl ⟨by rfl, fun _ => by go_simp; rfl⟩) ?_
  refine wpAny_take (i := 6) (v := ?_) rfl (by kernel_rfl) (by kernel_rfl) (by kernel_rfl) (fun _ _ _ h => h) (Or.inl ⟨by rfl, fun _ => by go_simp; rfl⟩) ?_
  refine wpAny_take (i := 7) (v := ?_) rfl (by kernel_rfl) (by kernel_rfl) (by kernel_rfl) (fun _ _ _ h => h) (Or.inl ⟨by rfl, fun _ => by go_simp; rfl⟩) ?_
  refine wpAny_take (i := 8) (v := ?_) rfl (by kernel_rfl) (by kernel_rfl) (by kernel_rfl) (fun _ _ _ h => h) (Or.inl ⟨by rfl, fun _ => by go_simp; rfl⟩) ?_
  refine wpAny_take (i := 9) (v := ?_) rfl (by kernel_rfl) (by kernel_rfl) (by kernel_rfl) (fun _ _ _ h => h) (Or.inl ⟨by rfl, fun _ => by go_simp; rfl⟩) ?_
  refine wpAny_take (i := 10) (v := ?_) rfl (by kernel_rfl) (by kernel_rfl) (by kernel_rfl) (fun _ _ _ h => h) (Or.inl ⟨by rfl, fun _ => by go_simp; rfl⟩) ?_
  refine wpAny_take (i := 11) (v := ?_) rfl (by kernel_rfl) (by kernel_rfl) (by kernel_rfl) (fun _ _ _ h => h) (Or.inl ⟨by rfl, fun _ => by go_simp; rfl⟩) ?_
  refine wpAny_take (i := 12) (v := ?_) rfl (by kernel_rfl) (by kernel_rfl) (by kernel_rfl) (fun _ _ _ h => h) (Or.inl ⟨by rfl, fun _ => by go_simp; rfl⟩) ?_
  refine wpAny_take (i := 13) (v := ?_) rfl (by kernel_rfl) (by kernel_rfl) (by kernel_rfl) (fun _ _ _ h => h) (Or.inl ⟨by rfl, fun _ => by go_simp; rfl⟩) ?_
  refine wpAny_take (i := 14) (v := ?_) rfl (by kernel_rfl) (by kernel_rfl) (by kernel_rfl) (fun _ _ _ h => h) (Or.inl ⟨by rfl, fun _ => by go_simp; rfl⟩) ?_
  refine wpAny_take (i := 15) (v := ?_) rfl (by kernel_rfl) (by kernel_rfl) (by kernel_rfl) (fun _ _ _ h => h) (Or.inl ⟨by rfl, fun _ => by go_simp; rfl⟩) ?_
  refine wpAny_take (i := 16) (v := ?_) rfl (by kernel_rfl) (by kernel_rfl) (by kernel_rfl) (fun _ _ _ h => h) (Or.inl ⟨by rfl, fun _ => by go_simp; rfl⟩) ?_
  refine wpAny_take (i := 19) (v := ?_) rfl (by kernel_rfl) (by kernel_rfl) (by kernel_rfl) (fun _ _ _ h => h) (Or.inl ⟨by rfl, fun _ => by go_simp; rfl⟩) ?_
  refine wpAny_ready (rs := [17]) (by kernel_rfl) (by simp) ?_
  refine AllReady.cons rfl (fun K hK => ?_) AllReady.nil
  go_simp
  refine hK _ _ ?_
  clear hK K
  refine wpAny_ready (rs := [18]) (by kernel_rfl) (by simp) ?_
  refine AllReady.cons rfl (fun K hK => ?_) AllReady.nil
  go_simp
  refine hK _ _ ?_
  clear hK K
  refine wpAny_done (by kernel_rfl) ?_ _
  have hrow := (Row.new w3 25 #[.string k, .string c, .string ks, .string c, .string k, .string bs]).drew
  have hBl := (Hb3.out.alloc Hb3.out.size (.cells #[.string k, .string c, .string ks, .string c, .string k, .string bs] 25)).drew
  have hst : TellAt #[.string k, .string c, .string ks, .string c, .string k, .string bs] w3.heap.size w (.int .i64 0) ((w3.alloc (.cells #[.string k, .string c, .string ks, .string c, .string k, .string bs] 25)).drew) := ⟨0, by decide, rfl, hrow, hBl⟩
  have Hst := Lib.hid hst
  clear hrow hBl hst Hb3 s1 s2 hm1 hm2 hp1 hp2
  go_wp2
  go_loopw [49] (fun vi wr => TellAt #[.string k, .string c, .string ks, .string c, .string k, .string bs] w3.heap.size w vi wr) (fun vi _ => 3 - (intOf vi).toNat)
  case atStart => exact Hst.out
  case round =>
    clear Hst
    obtain ⟨i, hi, rfl, hrow, hB⟩ := hrel
    have HB := Lib.hid hB
    have Hrow := Lib.hid hrow
    clear hB
    have p0 := hrow.cell 0
    have p1 := hrow.cell 1
    have p2 := hrow.cell 2
    have p3 := hrow.cell 3
    have p4 := hrow.cell 4
    have p5 := hrow.cell 5
    clear hrow
    rcases (show i = 0 ∨ i = 1 ∨ i = 2 ∨ i = 3 by omega) with rfl | rfl | rfl | rfl
    · obtain ⟨⟨P, e1, hE, hRE⟩, ⟨Q, e2, hC, hRC⟩, ⟨D, e3, hD, hRD⟩⟩ := same k c
      have HE := Lib.hid hE
      have HRE := Lib.hid hRE
      have HC := Lib.hid hC
      have HRC := Lib.hid hRC
      have HD := Lib.hid hD
      have HRD := Lib.hid hRD
      clear hE hRE hC hRC hD hRD
      have HX := Lib.hid (Row.new wr 25 #[.string k, .string c])
      have HA := Lib.hid ((Below.refl _ wr).alloc (Nat.le_refl _) (.cells #[.string k, .string c] 25))
      obtain ⟨gx, hgx⟩ : ∃ gx, wr.heap.size = gx := ⟨_, rfl⟩
      have hgl : gx < (wr.alloc (.cells #[.string k, .string c] 25)).heap.size := by rw [← hgx]; simp
      have HX2 : Hid (Row (wr.alloc (.cells #[.string k, .string c] 25)) gx 25 #[.string k, .string c]) := Lib.hid (by rw [← hgx]; exact HX.out)
      go_wp2_with fail
      refine (HE.out _).mono ?_
      rintro e w4 ⟨rfl, hb4⟩
      have HW4 := Lib.hid (below_seq HA.out hb4)
      have HR4 := Lib.hid (HX2.out.below hb4 hgl)
      clear HX HX2 hgl
      have q0 := HR4.out.cell 0
      have q1 := HR4.out.cell 1
      clear hb4 HE
      go_wp2_with fail
      refine (HRE.out _).mono ?_
      rintro e w5 ⟨rfl, hb5⟩
      have HW5 := Lib.hid (below_seq HW4.out hb5)
      have HR5 := Lib.hid (HR4.out.below hb5 HR4.out.lt)
      clear q0 q1 HR4
      have q0 := HR5.out.cell 0
      have q1 := HR5.out.cell 1
      clear hb5 HRE
      go_wp2_with fail
      refine (HC.out _).mono ?_
      rintro e w6 ⟨rfl, hb6⟩
      have HW6 := Lib.hid (below_seq HW5.out hb6)
      have HR6 := Lib.hid (HR5.out.below hb6 HR5.out.lt)
      clear q0 q1 HR5
      have q0 := HR6.out.cell 0
      have q1 := HR6.out.cell 1
      clear hb6 HC
      go_wp2_with fail
      refine (HRC.out _).mono ?_
      rintro e w7 ⟨rfl, hb7⟩
      have HW7 := Lib.hid (below_seq HW6.out hb7)
      have HR7 := Lib.hid (HR6.out.below hb7 HR6.out.lt)
      clear q0 q1 HR6
      have q0 := HR7.out.cell 0
      have q1 := HR7.out.cell 1
      clear hb7 HRC
      go_wp2_with fail
      refine (HD.out _).mono ?_
      rintro e w8 ⟨rfl, hb8⟩
      have HW8 := Lib.hid (below_seq HW7.out hb8)
      have HR8 := Lib.hid (HR7.out.below hb8 HR7.out.lt)
      clear q0 q1 HR7
      have q0 := HR8.out.cell 0
      have q1 := HR8.out.cell 1
      clear hb8 HD
      go_wp2_with fail
      refine (HRD.out _).mono ?_
      rintro e w9 ⟨rfl, hb9⟩
      have HW9 := Lib.hid (below_seq HW8.out hb9)
      have HR9 := Lib.hid (HR8.out.below hb9 HR8.out.lt)
      clear q0 q1 HR8
      have q0 := HR9.out.cell 0
      have q1 := HR9.out.cell 1
      clear hb9 HRD
      have Hrel : Hid (TellAt #[.string k, .string c, .string ks, .string c, .string k, .string bs] w3.heap.size w (.int .i64 1) w9) := Lib.hid ⟨1, by decide, rfl, Hrow.out.below HW9.out Hrow.out.lt, below_seq HB.out HW9.out⟩
      go_wp2
      go_roundw
      case rel => exact Hrel.out
      case measure => simp [intOf]
    · obtain ⟨⟨P, e1, hE, hRE⟩, ⟨Q, e2, hC, hRC⟩, ⟨D, e3, hD, hRD⟩⟩ := same ks c
      have HE := Lib.hid hE
      have HRE := Lib.hid hRE
      have HC := Lib.hid hC
      have HRC := Lib.hid hRC
      have HD := Lib.hid hD
      have HRD := Lib.hid hRD
      clear hE hRE hC hRC hD hRD
      have HX := Lib.hid (Row.new wr 25 #[.string ks, .string c])
      have HA := Lib.hid ((Below.refl _ wr).alloc (Nat.le_refl _) (.cells #[.string ks, .string c] 25))
      obtain ⟨gx, hgx⟩ : ∃ gx, wr.heap.size = gx := ⟨_, rfl⟩
      have hgl : gx < (wr.alloc (.cells #[.string ks, .string c] 25)).heap.size := by rw [← hgx]; simp
      have HX2 : Hid (Row (wr.alloc (.cells #[.string ks, .string c] 25)) gx 25 #[.string ks, .string c]) := Lib.hid (by rw [← hgx]; exact HX.out)
      go_wp2_with fail
      refine (HE.out _).mono ?_
      rintro e w4 ⟨rfl, hb4⟩
      have HW4 := Lib.hid (below_seq HA.out hb4)
      have HR4 := Lib.hid (HX2.out.below hb4 hgl)
      clear HX HX2 hgl
      have q0 := HR4.out.cell 0
      have q1 := HR4.out.cell 1
      clear hb4 HE
      go_wp2_with fail
      refine (HRE.out _).mono ?_
      rintro e w5 ⟨rfl, hb5⟩
      have HW5 := Lib.hid (below_seq HW4.out hb5)
      have HR5 := Lib.hid (HR4.out.below hb5 HR4.out.lt)
      clear q0 q1 HR4
      have q0 := HR5.out.cell 0
      have q1 := HR5.out.cell 1
      clear hb5 HRE
      go_wp2_with fail
      refine (HC.out _).mono ?_
      rintro e w6 ⟨rfl, hb6⟩
      have HW6 := Lib.hid (below_seq HW5.out hb6)
      have HR6 := Lib.hid (HR5.out.below hb6 HR5.out.lt)
      clear q0 q1 HR5
      have q0 := HR6.out.cell 0
      have q1 := HR6.out.cell 1
      clear hb6 HC
      go_wp2_with fail
      refine (HRC.out _).mono ?_
      rintro e w7 ⟨rfl, hb7⟩
      have HW7 := Lib.hid (below_seq HW6.out hb7)
      have HR7 := Lib.hid (HR6.out.below hb7 HR6.out.lt)
      clear q0 q1 HR6
      have q0 := HR7.out.cell 0
      have q1 := HR7.out.cell 1
      clear hb7 HRC
      go_wp2_with fail
      refine (HD.out _).mono ?_
      rintro e w8 ⟨rfl, hb8⟩
      have HW8 := Lib.hid (below_seq HW7.out hb8)
      have HR8 := Lib.hid (HR7.out.below hb8 HR7.out.lt)
      clear q0 q1 HR7
      have q0 := HR8.out.cell 0
      have q1 := HR8.out.cell 1
      clear hb8 HD
      go_wp2_with fail
      refine (HRD.out _).mono ?_
      rintro e w9 ⟨rfl, hb9⟩
      have HW9 := Lib.hid (below_seq HW8.out hb9)
      have HR9 := Lib.hid (HR8.out.below hb9 HR8.out.lt)
      clear q0 q1 HR8
      have q0 := HR9.out.cell 0
      have q1 := HR9.out.cell 1
      clear hb9 HRD
      have Hrel : Hid (TellAt #[.string k, .string c, .string ks, .string c, .string k, .string bs] w3.heap.size w (.int .i64 2) w9) := Lib.hid ⟨2, by decide, rfl, Hrow.out.below HW9.out Hrow.out.lt, below_seq HB.out HW9.out⟩
      go_wp2
      go_roundw
      case rel => exact Hrel.out
      case measure => simp [intOf]
    · obtain ⟨⟨P, e1, hE, hRE⟩, ⟨Q, e2, hC, hRC⟩, ⟨D, e3, hD, hRD⟩⟩ := same k bs
      have HE := Lib.hid hE
      have HRE := Lib.hid hRE
      have HC := Lib.hid hC
      have HRC := Lib.hid hRC
      have HD := Lib.hid hD
      have HRD := Lib.hid hRD
      clear hE hRE hC hRC hD hRD
      have HX := Lib.hid (Row.new wr 25 #[.string k, .string bs])
      have HA := Lib.hid ((Below.refl _ wr).alloc (Nat.le_refl _) (.cells #[.string k, .string bs] 25))
      obtain ⟨gx, hgx⟩ : ∃ gx, wr.heap.size = gx := ⟨_, rfl⟩
      have hgl : gx < (wr.alloc (.cells #[.string k, .string bs] 25)).heap.size := by rw [← hgx]; simp
      have HX2 : Hid (Row (wr.alloc (.cells #[.string k, .string bs] 25)) gx 25 #[.string k, .string bs]) := Lib.hid (by rw [← hgx]; exact HX.out)
      go_wp2_with fail
      refine (HE.out _).mono ?_
      rintro e w4 ⟨rfl, hb4⟩
      have HW4 := Lib.hid (below_seq HA.out hb4)
      have HR4 := Lib.hid (HX2.out.below hb4 hgl)
      clear HX HX2 hgl
      have q0 := HR4.out.cell 0
      have q1 := HR4.out.cell 1
      clear hb4 HE
      go_wp2_with fail
      refine (HRE.out _).mono ?_
      rintro e w5 ⟨rfl, hb5⟩
      have HW5 := Lib.hid (below_seq HW4.out hb5)
      have HR5 := Lib.hid (HR4.out.below hb5 HR4.out.lt)
      clear q0 q1 HR4
      have q0 := HR5.out.cell 0
      have q1 := HR5.out.cell 1
      clear hb5 HRE
      go_wp2_with fail
      refine (HC.out _).mono ?_
      rintro e w6 ⟨rfl, hb6⟩
      have HW6 := Lib.hid (below_seq HW5.out hb6)
      have HR6 := Lib.hid (HR5.out.below hb6 HR5.out.lt)
      clear q0 q1 HR5
      have q0 := HR6.out.cell 0
      have q1 := HR6.out.cell 1
      clear hb6 HC
      go_wp2_with fail
      refine (HRC.out _).mono ?_
      rintro e w7 ⟨rfl, hb7⟩
      have HW7 := Lib.hid (below_seq HW6.out hb7)
      have HR7 := Lib.hid (HR6.out.below hb7 HR6.out.lt)
      clear q0 q1 HR6
      have q0 := HR7.out.cell 0
      have q1 := HR7.out.cell 1
      clear hb7 HRC
      go_wp2_with fail
      refine (HD.out _).mono ?_
      rintro e w8 ⟨rfl, hb8⟩
      have HW8 := Lib.hid (below_seq HW7.out hb8)
      have HR8 := Lib.hid (HR7.out.below hb8 HR7.out.lt)
      clear q0 q1 HR7
      have q0 := HR8.out.cell 0
      have q1 := HR8.out.cell 1
      clear hb8 HD
      go_wp2_with fail
      refine (HRD.out _).mono ?_
      rintro e w9 ⟨rfl, hb9⟩
      have HW9 := Lib.hid (below_seq HW8.out hb9)
      have HR9 := Lib.hid (HR8.out.below hb9 HR8.out.lt)
      clear q0 q1 HR8
      have q0 := HR9.out.cell 0
      have q1 := HR9.out.cell 1
      clear hb9 HRD
      have Hrel : Hid (TellAt #[.string k, .string c, .string ks, .string c, .string k, .string bs] w3.heap.size w (.int .i64 3) w9) := Lib.hid ⟨3, by decide, rfl, Hrow.out.below HW9.out Hrow.out.lt, below_seq HB.out HW9.out⟩
      go_wp2
      go_roundw
      case rel => exact Hrel.out
      case measure => simp [intOf]
    · have hlt : ¬ (((3 : Nat) : Int) < 3) := by decide
      go_wp2
      go_ret
      exact ⟨rfl, HB.out⟩

theorem own : ownKnob Try.prog.godebug = none := by kernel_rfl
theorem lay : laidOutB Try.prog = true := by kernel_rfl

set_option maxRecDepth 100000 in
theorem lifted (os : Os) (started : os.Started) (H : Type) (enc : TypeId × Value → H) :
    ReturnsInHanded {} Try.checked os 3 .any (Rows.aesTellsSpec.pre6 enc Try.prog Try.f3 Rows.aesTellsRow.domain false) (Rows.aesTellsSpec.post enc Try.prog Try.f3 false true false false) := by
  refine returnsInHanded_of_change_sized (C := Try.checked) own started (by kernel_rfl) Try.func3
    (ChangeSpec.witness6 (enc := enc) (C := Try.checked) false ⟨#[], #[.string ⟨#[]⟩, .string ⟨#[]⟩, .bool false], []⟩ 8 (by kernel_rfl) (by kernel_rfl) (by kernel_rfl) (by kernel_rfl)) ?_
  intro W base args ds gs before hval0 hW hcnd hsz0 _
  have hval : ∀ (j : Nat) t v, Try.f3.params[j]? = some t → args[j]? = some v → Value.okWide Try.prog W .any base t v := hval0
  have hsz : (DataW.weightsEach Try.prog (Try.f3.params.toList ++ Rows.aesTellsSpec.plain.varTypes Try.prog) (ds ++ gs)).all (· ≤ reachBytes) = true := hsz0
  have hW' := hW
  obtain ⟨p, q, hA0, hV, rfl, hfz, hnd⟩ := hW
  have hA : DataW.TrodAll enc Try.prog W 0 (fun _ => true) true Try.f3.params.toList args.toList ds p := hA0
  rw [Try.params3] at hA hval hsz
  obtain ⟨v0, vs0, d0, ds0, p0, q0, hargs, rfl, rfl, h0, r0⟩ := trodAll_cons hA
  obtain ⟨v1, vs1, d1, ds1, p1, q1, rfl, rfl, rfl, h1, r1⟩ := trodAll_cons r0
  obtain ⟨v2, vs2, d2, ds2, p2, q2, rfl, rfl, rfl, h2, r2⟩ := trodAll_cons r1
  obtain ⟨rfl, rfl, rfl⟩ := trodAll_nil r2
  obtain rfl : args = #[v0, v1, v2] := by cases args; simp_all
  obtain ⟨rfl, rfl⟩ := trodVars_none hV
  obtain ⟨a0, rfl, rfl, rfl, w0⟩ := ChangeMaps.open_string Try.underlying9 (hval 0 9 v0 rfl rfl) h0
  have z0 : a0.size ≤ 140737488351232 := sized_string hsz (j := 0) rfl rfl
  obtain ⟨a1, rfl, rfl, rfl, w1⟩ := ChangeMaps.open_string Try.underlying9 (hval 1 9 v1 rfl rfl) h1
  have z1 : a1.size ≤ 140737488351232 := sized_string hsz (j := 1) rfl rfl
  obtain ⟨a2, rfl, rfl, rfl⟩ := open_bool Try.underlying4 (hval 2 4 v2 rfl rfl) h2
  refine (walk a0 z0 a1 z1 a2 W).mono fun e W' ⟨he, hg⟩ => ?_
  subst he
  have hts : ∀ t ∈ Try.f3.params.toList, Try.prog.readableRec t = true ∧ t < Try.prog.types.size := by
    rw [Try.params3]
    intro t ht
    simp only [List.mem_cons, List.not_mem_nil, or_false] at ht
    rcases ht with rfl | rfl | rfl <;> exact ⟨by kernel_rfl, of_decide_eq_true (by kernel_rfl)⟩
  exact ⟨_, rfl, post_true lay hts (by kernel_rfl) Try.underlying4 rfl rfl hW' hg⟩

theorem proved : Rows.AesTellsSaid :=
  OpenClaim.holds_of_wide 3 Try.f3 rfl rfl rfl rfl rfl rfl rfl ⟨rfl, rfl, rfl, rfl, rfl⟩ rfl rfl rfl rfl rfl (by kernel_rfl) Try.func3 (by kernel_rfl)
    (of_decide_eq_true (by kernel_rfl)) (by unfold Func.isWrapper; first | (rw [if_pos (by decide +kernel)]; kernel_rfl) | (rw [if_neg (by decide +kernel)]; exact ⟨rfl, rfl⟩))
    (fun os started H enc _ => lifted os started H enc)
#print axioms proved

end Go.Proofs.Ytkodfifmfpdjoaa.aesTells
