/-
  aes.cipher's keys: the first time, and again.
-/
import Derived.Test.YtgcfaeipiiagdaaAesF
namespace Go.Proofs.Ytgcfaeipiiagdaa
open Go.RowKit

set_option maxRecDepth 100000 in
set_option maxHeartbeats 1600000 in
theorem once_slow (b n : Nat) (s : ByteArray) (hn : n = 4 ∨ n = 8) (hs : s.size = 4 * n) (c3 : Value) (w : World) (hr : Row w b 95 #[.string s, .int .u32 0, .int .i32 0, c3, .slice none 0 0]) :
    Calls Try.prog 38 #[.pointer (some ⟨b, 1, none⟩), .func (.func 48) #[.pointer (some ⟨b, 0, none⟩)] #[]] w fun e w' => e = .returned (.tuple #[]) ∧ ∃ v, Row w' b 95 #[.string s, .int .u32 1, .int .i32 0, c3, v] ∧
      w'.ownsRow w.heap.size 85 16 v (n + 7) ((Aes.expanded (bytesOf s)).map U) ∧ Keep (fun k => k ≠ b) w w' := by
  have c2 := hr.cell 2
  have f2 := hr.frozen 2
  have hr1 : Row (w.setCell ⟨b, 2, none⟩ (.int .i32 1)) b 95 #[.string s, .int .u32 0, .int .i32 1, c3, .slice none 0 0] := hr.store 2 _
  have hk1 : Keep (fun k => k ≠ b) w (w.setCell ⟨b, 2, none⟩ (.int .i32 1)) := (Keep.refl _ w).setCell (fun h => absurd rfl h) _
  have hl := run_call_load (P := Try.prog) Try.func44 (by kernel_rfl) (by kernel_rfl) (by kernel_rfl) .u32 (by kernel_rfl) (w := w.setCell ⟨b, 2, none⟩ (.int .i32 1)) (a := ⟨b, 1, none⟩) (x := 0) (hr1.cell 1)
  have hnot : ∀ (x : Bool) (w : World), (Op.unary .not (.bool x)).run Try.prog w = .ok (.bool (!x)) w := fun _ _ => rfl
  have hsz : (w.setCell ⟨b, 2, none⟩ (.int .i32 1)).heap.size = w.heap.size := by simp
  have Hr1 := Lib.hid hr1
  have Hb := Lib.hid hr.lt
  have Hk1 := Lib.hid hk1
  clear hr1 hk1 hr
  go_enter_defers Try.func38, Try.ntmps38
  go_wp2_with (first | (go_at_call 45; refine (Once.lock_free ⟨b, 2, none⟩ _ (by go_simp) (by go_simp)).mono ?_; rintro e w' ⟨rfl, rfl⟩) | (go_at_call 37; go_in) | (go_at_call 48; refine (expand_any b n s hn hs (.int .u32 0) (.int .i32 1) c3 _ Hr1.out).mono ?_; rintro e w2 ⟨rfl, v, hr2, ho2, hk2⟩))
  rw [hsz] at ho2
  have hr3 := (hr2.drew.store 1 (.int .u32 1)).store 2 (.int .i32 0)
  have hset : Keep (fun k => k ≠ b) w2 ((w2.drew.setCell ⟨b, 1, none⟩ (.int .u32 1)).setCell ⟨b, 2, none⟩ (.int .i32 0)) :=
    ((Keep.refl _ w2).drew.setCell (p := ⟨b, 1, none⟩) (fun h => absurd rfl h) _).setCell (p := ⟨b, 2, none⟩) (fun h => absurd rfl h) _
  have ho3 := owns_keep ho2 hset (fun k h (e : k = b) => by have := (ho2.lt k h).1; have := Hb.out; omega)
  have hk3 := (Hk1.out.trans hk2).trans hset
  have d2 := (hr2.drew.store 1 (.int .u32 1)).cell 2
  have g2 := (hr2.drew.store 1 (.int .u32 1)).frozen 2
  go_wp2
  refine leaves_cons (f := 47) (args := #[.pointer (some ⟨b, 1, none⟩), .bool true]) (by simp) (by simp [go_sem]) ?_
  refine (Once.store_deferred ⟨b, 1, none⟩ (.int .u32 0) .returning _ (hr2.cell 1) (hr2.frozen 1)).mono ?_
  rintro e u' w'' ⟨rfl, rfl, rfl⟩
  refine leaves_cons (f := 46) (args := #[.pointer (some ⟨b, 2, none⟩)]) (by simp [settle]) (by simp [go_sem]) ?_
  refine (Once.unlock_deferred ⟨b, 2, none⟩ _ _ d2 g2).mono ?_
  rintro e u' w'' ⟨rfl, rfl, rfl⟩
  simp [Leaves, settle, results, Try.results38]
  exact ⟨v, hr3, ho3, hk3⟩

set_option maxRecDepth 100000 in
set_option maxHeartbeats 1600000 in
theorem once_first (b n : Nat) (s : ByteArray) (hn : n = 4 ∨ n = 8) (hs : s.size = 4 * n) (c3 : Value) (w : World) (hr : Row w b 95 #[.string s, .int .u32 0, .int .i32 0, c3, .slice none 0 0]) :
    Calls Try.prog 25 #[.pointer (some ⟨b, 1, none⟩), .func (.func 48) #[.pointer (some ⟨b, 0, none⟩)] #[]] w fun e w' => e = .returned (.tuple #[]) ∧ ∃ v, Row w' b 95 #[.string s, .int .u32 1, .int .i32 0, c3, v] ∧
      w'.ownsRow w.heap.size 85 16 v (n + 7) ((Aes.expanded (bytesOf s)).map U) ∧ Keep (fun k => k ≠ b) w w' := by
  have hl := run_call_load (P := Try.prog) Try.func44 (by kernel_rfl) (by kernel_rfl) (by kernel_rfl) .u32 (by kernel_rfl) (w := w) (a := ⟨b, 1, none⟩) (x := 0) (hr.cell 1)
  have hnot : ∀ (x : Bool) (w : World), (Op.unary .not (.bool x)).run Try.prog w = .ok (.bool (!x)) w := fun _ _ => rfl
  have Hr := Lib.hid hr
  clear hr
  go_enter Try.func25, Try.ntmps25
  go_wp2_with (first | (go_at_call 38; refine (once_slow b n s hn hs c3 _ Hr.out).mono ?_; rintro e w' ⟨rfl, h⟩) | (go_at_call 37; go_in))
  go_end0
  exact ⟨rfl, h⟩

theorem once_again (b : Nat) (c0 c2 c3 c4 fv : Value) (w : World) (hr : Row w b 95 #[c0, .int .u32 1, c2, c3, c4]) :
    Calls Try.prog 25 #[.pointer (some ⟨b, 1, none⟩), fv] w fun e w' => e = .returned (.tuple #[]) ∧ w' = w := by
  have hl := run_call_load (P := Try.prog) Try.func44 (by kernel_rfl) (by kernel_rfl) (by kernel_rfl) .u32 (by kernel_rfl) (w := w) (a := ⟨b, 1, none⟩) (x := 1) (hr.cell 1)
  have hnot : ∀ (x : Bool) (w : World), (Op.unary .not (.bool x)).run Try.prog w = .ok (.bool (!x)) w := fun _ _ => rfl
  clear hr
  go_enter Try.func25, Try.ntmps25
  go_wp2
  go_end0
  exact ⟨rfl, rfl⟩

set_option maxRecDepth 100000 in
set_option maxHeartbeats 1600000 in
theorem keys_first (b n : Nat) (s : ByteArray) (hn : n = 4 ∨ n = 8) (hs : s.size = 4 * n) (c3 : Value) (w : World) (hr : Row w b 95 #[.string s, .int .u32 0, .int .i32 0, c3, .slice none 0 0]) :
    Calls Try.prog 40 #[.pointer (some ⟨b, 0, none⟩)] w fun e w' => ∃ v, e = .returned v ∧ Row w' b 95 #[.string s, .int .u32 1, .int .i32 0, c3, v] ∧
      w'.ownsRow w.heap.size 85 16 v (n + 7) ((Aes.expanded (bytesOf s)).map U) ∧ Keep (fun k => k ≠ b) w w' := by
  have hmf : ∀ (fn : Fn) (first cap : Array Value) (w : World), (Instr.makeFunc fn first cap).run Try.prog w = .ok (.func fn first cap) w := fun _ _ _ _ => rfl
  have Hr := Lib.hid hr
  clear hr
  go_enter Try.func40, Try.ntmps40
  go_wp2_with (go_at_call 25; refine (once_first b n s hn hs c3 _ Hr.out).mono ?_; rintro e w' ⟨rfl, v, hr2, ho2, hk2⟩; have q4 := hr2.cell 4)
  go_ret
  exact ⟨v, rfl, hr2, ho2, hk2⟩

theorem keys_again (b : Nat) (c0 c2 c3 c4 : Value) (w : World) (hr : Row w b 95 #[c0, .int .u32 1, c2, c3, c4]) :
    Calls Try.prog 40 #[.pointer (some ⟨b, 0, none⟩)] w fun e w' => e = .returned c4 ∧ w' = w := by
  have hmf : ∀ (fn : Fn) (first cap : Array Value) (w : World), (Instr.makeFunc fn first cap).run Try.prog w = .ok (.func fn first cap) w := fun _ _ _ _ => rfl
  have Hr := Lib.hid hr
  have q4 := hr.cell 4
  clear hr
  go_enter Try.func40, Try.ntmps40
  go_wp2_with (go_at_call 25; refine (once_again b _ _ _ _ _ _ Hr.out).mono ?_; rintro e w' ⟨rfl, rfl⟩)
  go_ret
  exact ⟨rfl, rfl⟩

end Go.Proofs.Ytgcfaeipiiagdaa
