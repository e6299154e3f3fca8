import Derived.Test.YtpnbkfboneabaaaGreatGB
import Derived.Test.YtpnbkfboneabaaaGreatAesIK
set_option maxRecDepth 100000
namespace Go.Proofs.YtpnbkfboneabaaaGreat
namespace Fld
section
variable {c0 c1 c2 c3:Nat} (h0:c0<256) (h1:c1<256) (h2:c2<256) (h3:c3<256)
include h0 h1 h2 h3
end
end Fld
end Go.Proofs.YtpnbkfboneabaaaGreat
namespace Go.Proofs.YtpnbkfboneabaaaGreat
namespace Fld
end Fld
namespace Aes
theorem encStep_all {s:List Nat} {x:List Nat × Bool} (ha:Bs.All s) (hx:Bs.All x.1):Bs.All (encStep s x):=by
 have h:=move_all 1 (each_all Fld.sub_lt ha)
 unfold encStep
 split
 · exact add_all h hx
 · exact add_all (columns_all Fld.mx_lt) hx
theorem encs_all:∀(R:List (List Nat × Bool)) (s:List Nat),s.length=16→Bs.All s→(∀ x∈R,Bs.All x.1)→(R.foldl encStep s).length=16∧Bs.All (R.foldl encStep s)
 | [],_,hs,ha,_=>⟨hs,ha⟩
 | x::R,s,_,ha,hx=>encs_all R _ (encStep_length s x) (encStep_all ha (hx x (by simp))) fun y hy=>hx y (by simp [hy])
theorem rounds_alls {n:Nat} {l:List Nat} {b:Bool} (hl:l.length=16*(n+7)) (ha:Bs.All l):∀ x∈rounds n l b,Bs.All x.1:=fun _ hx=>(rounds_mem hl ha hx).2
theorem key_length {n:Nat} {k:List Nat} (hk:k.length=4*n):(expanded k).length=16*(n+7):=by rw [expanded_length,hk];omega
theorem enc_length {n:Nat} {k b:List Nat} (hk:k.length=4*n) (hka:Bs.All k) (hb:Bs.All b):(enc k b).length=16∧Bs.All (enc k b):=by
 have hl:=key_length hk
 rw [enc,show k.length / 4=n by omega]
 exact encs_all _ _ (add_length _ _) (add_all hb (keyAt_all (expanded_all hka) 0)) (rounds_alls hl (expanded_all hka))
end Aes
namespace Aes
section
variable {n:Nat} (hn:n=4∨n=8) {k:List Nat} (hk:k.length=4*n)
include hn hk
end
end Aes
end Go.Proofs.YtpnbkfboneabaaaGreat
namespace Go.Proofs.YtpnbkfboneabaaaGreat
open Go.RowKit
def pickOf (c n:Int):Int:=(if c<0 then -(c+1) else c).tmod n
theorem pickOf_range {c n:Int} (hn:0<n):0≤pickOf c n∧pickOf c n<n:=by
 unfold pickOf
 split
 · rw [Int.tmod_eq_emod_of_nonneg (by omega)];exact⟨Int.emod_nonneg _ (by omega),Int.emod_lt_of_pos _ hn⟩
 · rw [Int.tmod_eq_emod_of_nonneg (by omega)];exact⟨Int.emod_nonneg _ (by omega),Int.emod_lt_of_pos _ hn⟩
def zeros (n:Nat):ByteArray:=strOf (List.replicate n 0)
theorem LawA.infoByte:(Tryz.prog.info? 5).map (fun i=>(i.zero,i.size,i.bytes))=some (some (.int .u8 0),1,1):=by kernel_rfl
def zeroCells (n:Nat):Array Value:=madeCells (Value.int .u8 0).cells n
theorem zeroCells_size (n:Nat):(zeroCells n).size=n:=by rw [zeroCells,size_madeCells]
theorem zeroCells_get (n:Nat) {j:Nat} (hj:j<n):(zeroCells n)[j]? =some (U 0):=by
 simp [zeroCells,madeCells,hj,Value.cells,U,Nat.mod_one]
theorem make_zero (n:Nat) (hn:n≤1000000) (w:World):
 (Instr.makeSlice 42 (.int .i64 (n:Int)) (.int .i64 (n:Int))).run Tryz.prog w= .ok (.slice (some ⟨w.heap.size,0,none⟩) n n) (w.alloc (.cells (zeroCells n) 5)):=by
 obtain⟨i0,hi0,hz0,hz1,hz2⟩:=info_parts LawA.infoByte
 have h:=run_make (P:=Tryz.prog) w 42 5 i0 _ Tryz.underlying42 hi0 hz0 .i64 .i64 (n:Int) (n:Int) (by omega) (by omega) (by rw [hz2];omega) (by omega)
 rw [h,hz1,Int.toNat_natCast,Nat.mul_one]
 rfl
theorem conv_zero (g n:Nat) (W:World) (h:Row W g 5 (zeroCells n)):
 (convert 42 9 (.slice (some ⟨g,0,none⟩) n n)).run Tryz.prog W= .ok (.string (zeros n)) W:=
 conv_string (P:=Tryz.prog) (src:=42) (dst:=9) Tryz.underlying42 Tryz.underlying5 Tryz.underlying9 g 0 n (List.replicate n 0) W
  (fun j hj=>by
   have hj':j<n:=by simpa using hj
   rw [Nat.zero_add,h.cell j,zeroCells_get n hj']
   simp [hj',List.getD_eq_getElem?_getD]) n (by simp)
theorem texts_beq (a b:ByteArray):(a.toList == b.toList)=decide (a=b):=by
 rw [ByteArray.toList_eq,ByteArray.toList_eq]
 by_cases h:a=b
 · subst h;simp
 · rw [decide_eq_false h,beq_eq_false_iff_ne]
   intro he
   apply h
   cases a;cases b
   simp only [ByteArray.mk.injEq]
   exact Array.toList_inj.1 he
theorem strOf_inj {a b:List Nat} (ha:Bs.All a) (hb:Bs.All b) (h:strOf a=strOf b):a=b:=by rw [← bytesOf_strOf ha,← bytesOf_strOf hb,h]
end Go.Proofs.YtpnbkfboneabaaaGreat
