/-
  Strings out of lists of bytes; the plain functions of a block's way through the rounds; newCipher and rounds.
-/
import Derived.Test.YtkodfifmfpdjoaaAesH
import Derived.Laws.BytesString
namespace Go.Proofs.Ytkodfifmfpdjoaa
open Go.RowKit

/-- A string of such bytes. -/
def strOf (l : List Nat) : ByteArray := ⟨(l.map UInt8.ofNat).toArray⟩
theorem strOf_size (l : List Nat) : (strOf l).size = l.length := by simp [strOf, ByteArray.size]
theorem bytesOf_strOf {l : List Nat} (h : Bs.All l) : bytesOf (strOf l) = l := by
  unfold bytesOf strOf
  simp only [List.map_map]
  refine (List.map_congr_left (fun x hx => ?_)).trans (List.map_id l)
  have := h.mem x hx
  simp [Nat.mod_eq_of_lt this]
theorem strOf_bytesOf (s : ByteArray) : strOf (bytesOf s) = s := by
  unfold bytesOf strOf
  rw [List.map_map]
  have : (UInt8.ofNat ∘ UInt8.toNat) = id := by funext x; simp
  rw [this, List.map_id]
theorem strOf_push (l : List Nat) (r : ByteArray) : l.foldl (fun r n => r.push (UInt8.ofNat n)) r = ⟨r.data ++ (l.map UInt8.ofNat).toArray⟩ := by
  induction l generalizing r with
  | nil => simp
  | cons x l ih => rw [List.foldl_cons, ih]; simp [ByteArray.push]
theorem conv_string {P : Program} {src dst e : TypeId} (hs : P.underlying src = some (.slice e)) (he : P.underlying e = some (.int .u8)) (hd : P.underlying dst = some .string) (g o cap : Nat) (l : List Nat) (w : World)
    (hc : ∀ j, j < l.length → w.cell? ⟨g, o + j, none⟩ = some (U (l.getD j 0))) (n : Nat) (hn : l.length = n) :
    (convert src dst (.slice (some ⟨g, o, none⟩) n cap)).run P w = .ok (.string (strOf l)) w := by
  subst hn
  rw [run_convert_bytes_string w src dst e _ _ _ hs he hd, run_bytesToString w ⟨g, o, none⟩ l.length cap (l.map fun (x : Nat) => (x : Int)) ?_]
  · rw [List.foldl_map]
    have := strOf_push l ByteArray.empty
    simp only [Int.toNat_natCast]
    rw [this]
    simp [strOf, ByteArray.empty, ByteArray.emptyWithCapacity]
    rfl
  · have := run_loadCells_list (P := P) w ⟨g, o, none⟩ (l.map U) (fun j v hv => by
      rw [Addr.add_mid]
      have hj : j < l.length := by have := (List.getElem?_eq_some_iff.1 hv).1; simpa using this
      rw [hc j hj, ← hv]
      simp [List.getD_eq_getElem?_getD, hj])
    rw [List.length_map] at this
    rw [this, List.map_map]
    rfl

namespace Aes
/-- One round of encryption. -/
def encStep (s : List Nat) (x : List Nat × Bool) : List Nat := add (if x.2 then move 1 (each Fld.sub s) else columns Fld.mx (move 1 (each Fld.sub s))) x.1
/-- One round of decryption. -/
def decStep (s : List Nat) (x : List Nat × Bool) : List Nat := each Fld.back (move 3 (if x.2 then add s x.1 else columns Fld.ux (add s x.1)))
def enc (key block : List Nat) : List Nat := (rounds (key.length / 4) (expanded key) false).foldl encStep (add block (keyAt (expanded key) 0))
def dec (key block : List Nat) : List Nat := add ((rounds (key.length / 4) (expanded key) true).foldl decStep block) (keyAt (expanded key) 0)

theorem expanded_length (key : List Nat) : (expanded key).length = key.length + 4 * (3 * (key.length / 4) + 28) := expGo_length _ _ _ _ _
theorem expanded_all {key : List Nat} (h : Bs.All key) : Bs.All (expanded key) := expGo_all _ _ _ _ _ (by decide) h
theorem keyAt_all {l : List Nat} (h : Bs.All l) (k : Nat) : Bs.All (keyAt l k) := .of_mem fun x hx => h.mem x (List.mem_of_mem_drop (List.mem_of_mem_take hx))
theorem encStep_length (s : List Nat) (x : List Nat × Bool) : (encStep s x).length = 16 := add_length _ _
theorem decStep_length (s : List Nat) (x : List Nat × Bool) : (decStep s x).length = 16 := each_length _ _
end Aes

theorem newCipher_none (s : ByteArray) (h1 : s.size ≠ 16) (h2 : s.size ≠ 32) (w : World) :
    Calls Try.prog 19 #[.string s] w fun e w' => e = .returned (.pointer none) ∧ w' = w := by
  have t1 : ((s.size : Int) != 16) = true := by rw [bne_iff_ne]; omega
  have t2 : ((s.size : Int) != 32) = true := by rw [bne_iff_ne]; omega
  go_enter Try.func19, Try.ntmps19
  go_wp2
  go_ret
  exact ⟨rfl, rfl⟩
theorem newCipher_some (s : ByteArray) (n : Nat) (hn : n = 4 ∨ n = 8) (hs : s.size = 4 * n) (w : World) :
    Calls Try.prog 19 #[.string s] w fun e w' => e = .returned (.pointer (some ⟨w.heap.size, 0, none⟩)) ∧
      w' = w.alloc (.cells #[.string s, .int .u32 0, .int .i32 0, .int .u32 0, .slice none 0 0] 65) := by
  rcases hn with rfl | rfl
  · have t1 : ((s.size : Int) != 16) = false := by rw [bne_eq_false_iff_eq]; omega
    go_enter Try.func19, Try.ntmps19
    go_wp2
    go_ret
    exact ⟨rfl, rfl⟩
  · have t1 : ((s.size : Int) != 16) = true := by rw [bne_iff_ne]; omega
    have t2 : ((s.size : Int) != 32) = false := by rw [bne_eq_false_iff_eq]; omega
    go_enter Try.func19, Try.ntmps19
    go_wp2
    go_ret
    exact ⟨rfl, rfl⟩
theorem rounds_any (b : Nat) (back : Bool) (w : World) :
    Calls Try.prog 38 #[.pointer (some ⟨b, 0, none⟩), .bool back] w fun e w' =>
      e = .returned (.func (.func 50) #[] #[.pointer (some ⟨w.heap.size, 0, none⟩), .pointer (some ⟨w.heap.size + 1, 0, none⟩)]) ∧
      w' = (w.alloc (.cells #[.pointer (some ⟨b, 0, none⟩)] 39)).alloc (.cells #[.bool back] 4) := by
  have hmf : ∀ (fn : Fn) (first cap : Array Value) (w : World), (Instr.makeFunc fn first cap).run Try.prog w = .ok (.func fn first cap) w := fun _ _ _ _ => rfl
  go_enter Try.func38, Try.ntmps38
  go_wp2
  go_ret
  exact ⟨rfl, rfl⟩

theorem each_sub (g : Nat) (s : List Nat) (hs : s.length = 16) (hsa : Bs.All s) (w : World) (hr : Row w g 44 (Bs.vals s)) :
    Calls Try.prog 39 #[.pointer (some ⟨g, 0, none⟩), .func (.func 40) #[] #[]] w fun e w' =>
      e = .returned (.tuple #[]) ∧ Row w' g 44 (Bs.vals (Aes.each Fld.sub s)) ∧ Keep (fun j => j ≠ g) w w' :=
  state_each g 40 Fld.sub (fun x hx => Fld.sub_lt x hx) (enters_of Try.func40 (by kernel_rfl) rfl)
    (fun x hx W => by have := sub_any (x : Int) (by omega) (by omega) W; rw [Int.toNat_natCast] at this; exact this) s hs hsa w hr
theorem each_back (g : Nat) (s : List Nat) (hs : s.length = 16) (hsa : Bs.All s) (w : World) (hr : Row w g 44 (Bs.vals s)) :
    Calls Try.prog 39 #[.pointer (some ⟨g, 0, none⟩), .func (.func 45) #[] #[]] w fun e w' =>
      e = .returned (.tuple #[]) ∧ Row w' g 44 (Bs.vals (Aes.each Fld.back s)) ∧ Keep (fun j => j ≠ g) w w' :=
  state_each g 45 Fld.back (fun x hx => Fld.back_lt x hx) (enters_of Try.func45 (by kernel_rfl) rfl)
    (fun x hx W => by have := back_any (x : Int) (by omega) (by omega) W; rw [Int.toNat_natCast] at this; exact this) s hs hsa w hr
theorem columns_mix (g : Nat) (s : List Nat) (hs : s.length = 16) (hsa : Bs.All s) (w : World) (hr : Row w g 44 (Bs.vals s)) :
    Calls Try.prog 42 #[.pointer (some ⟨g, 0, none⟩), .func (.func 43) #[] #[]] w fun e w' =>
      e = .returned (.tuple #[]) ∧ Row w' g 44 (Bs.vals (Aes.columns Fld.mx s)) ∧ Keep (fun j => j ≠ g) w w' :=
  state_columns g 43 Fld.mx Fld.mx_lt (enters_of Try.func43 (by kernel_rfl) rfl)
    (fun x0 x1 x2 x3 h0 h1 h2 h3 W => Mix_any x0 x1 x2 x3 (Fld.bytes4 h0 h1 h2 h3) W) s hs hsa w hr
theorem columns_unmix (g : Nat) (s : List Nat) (hs : s.length = 16) (hsa : Bs.All s) (w : World) (hr : Row w g 44 (Bs.vals s)) :
    Calls Try.prog 42 #[.pointer (some ⟨g, 0, none⟩), .func (.func 44) #[] #[]] w fun e w' =>
      e = .returned (.tuple #[]) ∧ Row w' g 44 (Bs.vals (Aes.columns Fld.ux s)) ∧ Keep (fun j => j ≠ g) w w' :=
  state_columns g 44 Fld.ux Fld.ux_lt (enters_of Try.func44 (by kernel_rfl) rfl)
    (fun x0 x1 x2 x3 h0 h1 h2 h3 W => Unmix_any x0 x1 x2 x3 (Fld.bytes4 h0 h1 h2 h3) W) s hs hsa w hr

theorem Aes.rounds_mem {n : Nat} {l : List Nat} {back : Bool} (hl : l.length = 16 * (n + 7)) (hla : Bs.All l) {x : List Nat × Bool} (hx : x ∈ Aes.rounds n l back) : x.1.length = 16 ∧ Bs.All x.1 := by
  obtain ⟨i, hi, rfl⟩ := List.mem_map.1 hx
  have hi' := List.mem_range.1 hi
  split
  · exact ⟨Aes.keyAt_length hl (by omega), Aes.keyAt_all hla _⟩
  · exact ⟨Aes.keyAt_length hl (by omega), Aes.keyAt_all hla _⟩

/-- What holds of the block on its way, between two rounds. -/
def WayAt (b gs : Nat) (step : List Nat → List Nat × Bool → List Nat) (S1 : List Nat) (w : World) (pre : List (List Nat × Bool)) (W : World) : Prop :=
  Row W gs 44 (Bs.vals (pre.foldl step S1)) ∧ (pre.foldl step S1).length = 16 ∧ Bs.All (pre.foldl step S1) ∧ Keep (fun k => k ≠ b) w W

theorem WayAt_stable (b gs : Nat) (step : List Nat → List Nat × Bool → List Nat) (S1 : List Nat) (w : World) (S : Nat → Prop) (hg : S gs) (hs : ∀ k, k ≠ b → k < w.heap.size → S k) : Stable S (WayAt b gs step S1 w) :=
  fun _ _ _ hi hk => ⟨hi.1.keep hk hg, hi.2.1, hi.2.2.1, hi.2.2.2.on hk hs⟩

end Go.Proofs.Ytkodfifmfpdjoaa
