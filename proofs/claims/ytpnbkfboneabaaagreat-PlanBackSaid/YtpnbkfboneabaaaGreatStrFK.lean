import Derived.Test.YtpnbkfboneabaaaGreatStrEK
namespace Go.Proofs.YtpnbkfboneabaaaGreat
open Go.RowKit
theorem blocks_any (b:Nat) (c:ByteArray) (w:World):
 Calls Tryz.prog 247 #[.pointer (some ⟨b,0,none⟩),.string c] w fun e w'=>
  e= .returned (.func (.func 258) #[] #[.pointer (some ⟨w.heap.size,0,none⟩),.pointer (some ⟨w.heap.size+1,0,none⟩)])∧
  w'=(w.alloc (.cells #[.pointer (some ⟨b,0,none⟩)] 305)).alloc (.cells #[.string c] 9):=by
 have hmf:∀(fn:Fn) (first cap:Array Value) (w:World),(Instr.makeFunc fn first cap).run Tryz.prog w= .ok (.func fn first cap) w:=fun _ _ _ _=>rfl
 go_enter Tryz.func247,Tryz.ntmps247
 go_wp2
 go_ret
 exact⟨rfl,rfl⟩
end Go.Proofs.YtpnbkfboneabaaaGreat
