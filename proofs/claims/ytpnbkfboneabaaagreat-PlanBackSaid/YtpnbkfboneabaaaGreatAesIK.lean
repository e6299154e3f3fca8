import Derived.Test.YtpnbkfboneabaaaGreatAesHK
import Derived.Test.YtpnbkfboneabaaaGreatGA
import Derived.Laws.BytesString
namespace Go.Proofs.YtpnbkfboneabaaaGreat
open Go.RowKit
namespace Aes
def encStep (s:List Nat) (x:List Nat × Bool):List Nat:=add (if x.2 then move 1 (each Fld.sub s) else columns Fld.mx (move 1 (each Fld.sub s))) x.1
def enc (key block:List Nat):List Nat:=(rounds (key.length / 4) (expanded key) false).foldl encStep (add block (keyAt (expanded key) 0))
theorem expanded_length (key:List Nat):(expanded key).length=key.length+4*(3*(key.length / 4)+28):=expGo_length _ _ _ _ _
theorem expanded_all {key:List Nat} (h:Bs.All key):Bs.All (expanded key):=expGo_all _ _ _ _ _ (by decide) h
theorem keyAt_all {l:List Nat} (h:Bs.All l) (k:Nat):Bs.All (keyAt l k):= .of_mem fun x hx=>h.mem x (List.mem_of_mem_drop (List.mem_of_mem_take hx))
theorem encStep_length (s:List Nat) (x:List Nat × Bool):(encStep s x).length=16:=add_length _ _
end Aes
theorem newCipher_none (s:ByteArray) (h1:s.size≠16) (h2:s.size≠32) (w:World):
 Calls Tryz.prog 267 #[.string s] w fun e w'=>e= .returned (.pointer none)∧w'=w:=by
 have t1:((s.size:Int) != 16)=true:=by rw [bne_iff_ne];omega
 have t2:((s.size:Int) != 32)=true:=by rw [bne_iff_ne];omega
 go_enter Tryz.func267,Tryz.ntmps267
 go_wp2
 go_ret
 exact⟨rfl,rfl⟩
theorem newCipher_some (s:ByteArray) (n:Nat) (hn:n=4∨n=8) (hs:s.size=4*n) (w:World):
 Calls Tryz.prog 267 #[.string s] w fun e w'=>e= .returned (.pointer (some ⟨w.heap.size,0,none⟩))∧
  w'=w.alloc (.cells #[.string s,.int .u32 0,.int .i32 0,.int .u32 0,.slice none 0 0] 341):=by
 rcases hn with rfl | rfl
 · have t1:((s.size:Int) != 16)=false:=by rw [bne_eq_false_iff_eq];omega
   go_enter Tryz.func267,Tryz.ntmps267
   go_wp2
   go_ret
   exact⟨rfl,rfl⟩
 · have t1:((s.size:Int) != 16)=true:=by rw [bne_iff_ne];omega
   have t2:((s.size:Int) != 32)=false:=by rw [bne_eq_false_iff_eq];omega
   go_enter Tryz.func267,Tryz.ntmps267
   go_wp2
   go_ret
   exact⟨rfl,rfl⟩
theorem rounds_any (b:Nat) (back:Bool) (w:World):
 Calls Tryz.prog 276 #[.pointer (some ⟨b,0,none⟩),.bool back] w fun e w'=>
  e= .returned (.func (.func 287) #[] #[.pointer (some ⟨w.heap.size,0,none⟩),.pointer (some ⟨w.heap.size+1,0,none⟩)])∧
  w'=(w.alloc (.cells #[.pointer (some ⟨b,0,none⟩)] 331)).alloc (.cells #[.bool back] 4):=by
 have hmf:∀(fn:Fn) (first cap:Array Value) (w:World),(Instr.makeFunc fn first cap).run Tryz.prog w= .ok (.func fn first cap) w:=fun _ _ _ _=>rfl
 go_enter Tryz.func276,Tryz.ntmps276
 go_wp2
 go_ret
 exact⟨rfl,rfl⟩
theorem each_sub (g:Nat) (s:List Nat) (hs:s.length=16) (hsa:Bs.All s) (w:World) (hr:Row w g 335 (Bs.vals s)):
 Calls Tryz.prog 277 #[.pointer (some ⟨g,0,none⟩),.func (.func 278) #[] #[]] w fun e w'=>
  e= .returned (.tuple #[])∧Row w' g 335 (Bs.vals (Aes.each Fld.sub s))∧Keep (fun j=>j≠g) w w':=
 state_each g 278 Fld.sub (fun x hx=>Fld.sub_lt x hx) (enters_of Tryz.func278 (by kernel_rfl) rfl)
  (fun x hx W=>by have:=sub_any (x:Int) (by omega) (by omega) W;rw [Int.toNat_natCast] at this;exact this) s hs hsa w hr
theorem columns_mix (g:Nat) (s:List Nat) (hs:s.length=16) (hsa:Bs.All s) (w:World) (hr:Row w g 335 (Bs.vals s)):
 Calls Tryz.prog 280 #[.pointer (some ⟨g,0,none⟩),.func (.func 281) #[] #[]] w fun e w'=>
  e= .returned (.tuple #[])∧Row w' g 335 (Bs.vals (Aes.columns Fld.mx s))∧Keep (fun j=>j≠g) w w':=
 state_columns g 281 Fld.mx Fld.mx_lt (enters_of Tryz.func281 (by kernel_rfl) rfl)
  (fun x0 x1 x2 x3 h0 h1 h2 h3 W=>Mix_any x0 x1 x2 x3 (Fld.bytes4 h0 h1 h2 h3) W) s hs hsa w hr
theorem Aes.rounds_mem {n:Nat} {l:List Nat} {back:Bool} (hl:l.length=16*(n+7)) (hla:Bs.All l) {x:List Nat × Bool} (hx:x∈Aes.rounds n l back):x.1.length=16∧Bs.All x.1:=by
 obtain⟨i,hi,rfl⟩:=List.mem_map.1 hx
 have hi':=List.mem_range.1 hi
 split
 · exact⟨Aes.keyAt_length hl (by omega),Aes.keyAt_all hla _⟩
 · exact⟨Aes.keyAt_length hl (by omega),Aes.keyAt_all hla _⟩
def WayAt (b gs:Nat) (step:List Nat→List Nat × Bool→List Nat) (S1:List Nat) (w:World) (pre:List (List Nat × Bool)) (W:World):Prop:=
 Row W gs 335 (Bs.vals (pre.foldl step S1))∧(pre.foldl step S1).length=16∧Bs.All (pre.foldl step S1)∧Keep (fun k=>k≠b) w W
theorem WayAt_stable (b gs:Nat) (step:List Nat→List Nat × Bool→List Nat) (S1:List Nat) (w:World) (S:Nat→Prop) (hg:S gs) (hs:∀ k,k≠b→k<w.heap.size→S k):Stable S (WayAt b gs step S1 w):=
 fun _ _ _ hi hk=>⟨hi.1.keep hk hg,hi.2.1,hi.2.2.1,hi.2.2.2.on hk hs⟩
end Go.Proofs.YtpnbkfboneabaaaGreat
