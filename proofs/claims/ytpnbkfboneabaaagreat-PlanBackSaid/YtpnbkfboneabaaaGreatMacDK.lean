import Derived.Test.YtpnbkfboneabaaaGreatGD
import Derived.Test.YtpnbkfboneabaaaGreatGF
import Derived.Test.YtpnbkfboneabaaaGreatGE
import Derived.Laws.BitsAllLaws
set_option maxRecDepth 100000
set_option maxHeartbeats 2000000
namespace Go.Proofs.YtpnbkfboneabaaaGreat
open Go.RowKit
theorem atomicAdd_any (a:Addr) (x:Nat) (hx:x≤1000000000) (w:World) (hc:w.cell? a=some (.int .i64 (x:Int))) (hz:w.frozen? a=false):
 Calls Tryz.prog 232 #[.pointer (some a),.int .i64 1] w fun e w'=>e= .returned (.int .i64 ((x:Int)+1))∧w'=w.setCell a (.int .i64 ((x:Int)+1)):=by
 have hadd:=run_call_add (P:=Tryz.prog) Tryz.func244 (by kernel_rfl) (by kernel_rfl) (by kernel_rfl) .i64 (by kernel_rfl) (y:=1) (s:=(x:Int)+1) hc hz (by
  have e:IntKind.i64.wrap ((x:Int)+1)=(x:Int)+1:=by rw [IntKind.wrap_i64];omega
  simp [go_sem,e])
 go_enter Tryz.func232,Tryz.ntmps232
 go_wp2
 go_ret
 exact⟨rfl,rfl⟩
theorem atomicLoad_any (a:Addr) (x:Int) (w:World) (hc:w.cell? a=some (.int .i64 x)):
 Calls Tryz.prog 233 #[.pointer (some a)] w fun e w'=>e= .returned (.int .i64 x)∧w'=w:=by
 have hl:=run_call_load (P:=Tryz.prog) Tryz.func245 (by kernel_rfl) (by kernel_rfl) (by kernel_rfl) .i64 (by kernel_rfl) hc
 go_enter Tryz.func233,Tryz.ntmps233
 go_wp2
 go_ret
 exact⟨rfl,rfl⟩
def SameAt (g h0:Nat) (A B:List Nat) (w0:World) (vi vu:Value) (wr:World):Prop:=
 ∃ i u:Nat,i≤A.length∧vi= .int .i64 (i:Int)∧vu= .int .u8 (u:Int)∧u<256∧(u=0 ↔ A.take i=B.take i)∧Row wr g 290 #[.int .i64 (i:Int)]∧Keep (fun k=>k<h0) w0 wr
theorem or_eq_zero {a b:Nat}:a ||| b=0 ↔ a=0∧b=0:=by
 constructor
 · intro h
   have h1:a≤a ||| b:=Nat.left_le_or
   have h2:b≤a ||| b:=Nat.right_le_or
   omega
 · rintro ⟨rfl,rfl⟩
   rfl
theorem xor_eq_zero {a b:Nat}:a ^^^ b=0 ↔ a=b:=by
 constructor
 · intro h
   have h2:a ^^^ b ^^^ b=a:=by rw [Nat.xor_assoc,Nat.xor_self,Nat.xor_zero]
   rw [h,Nat.zero_xor] at h2
   exact h2.symm
 · rintro rfl
   exact Nat.xor_self a
theorem take_next_iff {A B:List Nat} {i:Nat} (ha:i<A.length) (hb:i<B.length):A.take (i+1)=B.take (i+1) ↔ A.take i=B.take i∧A.getD i 0=B.getD i 0:=by
 rw [List.take_succ_eq_append_getElem ha,List.take_succ_eq_append_getElem hb]
 constructor
 · intro h
   have h2:=List.append_inj h (by simp;omega)
   refine⟨h2.1,?_⟩
   simpa [List.getD_eq_getElem?_getD,ha,hb] using h2.2
 · rintro ⟨h1,h2⟩
   rw [h1]
   have:A[i]=B[i]:=by simpa [List.getD_eq_getElem?_getD,ha,hb] using h2
   rw [this]
theorem SameAt.next {g h0 i u:Nat} {A B:List Nat} {w0 wr:World} (hl:A.length=B.length) (ha:Bs.All A) (hb:Bs.All B) (hi:i<A.length) (hu:u<256) (hz:u=0 ↔ A.take i=B.take i)
 (hr:Row wr g 290 #[.int .i64 (i:Int)]) (hk:Keep (fun k=>k<h0) w0 wr) (hg:h0≤g):
 SameAt g h0 A B w0 (.int .i64 ((i:Int)+1)) (.int .u8 ((u ||| (A.getD i 0 ^^^ B.getD i 0):Nat):Int)) (wr.setCell ⟨g,0,none⟩ (.int .i64 ((i:Int)+1))):=by
 refine⟨i+1,u ||| (A.getD i 0 ^^^ B.getD i 0),hi,by rw [Int.natCast_add];rfl,rfl,Nat.or_lt_two_pow (n:=8) hu (Nat.xor_lt_two_pow (n:=8) (ha i) (hb i)),?_,?_,?_⟩
 · rw [or_eq_zero,xor_eq_zero,take_next_iff hi (by omega),hz]
 · exact hr.store 0 _
 · exact hk.setCell (p:=⟨g,0,none⟩) (fun h=>absurd h (by dsimp only;omega)) _
theorem Same_any (a b:ByteArray) (hl:a.size=b.size) (hs:a.size≤1000000) (w:World):
 Calls Tryz.prog 221 #[.string a,.string b] w fun e w'=>e= .returned (.tuple #[.bool (decide (a=b)),.int .i64 (a.size:Int)])∧Keep (fun k=>k<w.heap.size) w w':=by
 have t1:((a.size:Int) != (b.size:Int))=false:=by rw [bne_eq_false_iff_eq];omega
 have hAl:=bytesOf_length a
 have hBl:=bytesOf_length b
 have hAa:=bytesOf_all a
 have hBa:=bytesOf_all b
 have hdec:decide (a=b)=decide (bytesOf a=bytesOf b):=by
  rw [decide_eq_decide]
  constructor
  · rintro rfl;rfl
  · intro h;rw [← strOf_bytesOf a,h,strOf_bytesOf]
 have hsz:(bytesOf a).length=(bytesOf b).length:=by omega
 rw [hdec]
 have HAa:=Lib.hid hAa
 have HBa:=Lib.hid hBa
 clear hAa hBa hdec
 go_enter Tryz.func221,Tryz.ntmps221
 go_wp2_with fail
 have hst:SameAt w.heap.size w.heap.size (bytesOf a) (bytesOf b) w (.int .i64 0) (.int .u8 0) (w.alloc (.cells #[.int .i64 0] 290)):=
  ⟨0,0,Nat.zero_le _,rfl,rfl,by decide,by simp,Row.new _ _ _,(Keep.refl _ _).alloc _⟩
 have Hst:=Lib.hid hst
 clear hst
 go_loopw [7,16] (fun vu vi wr=>SameAt w.heap.size w.heap.size (bytesOf a) (bytesOf b) w vi vu wr) (fun _ vi _=>b.size-(intOf vi).toNat)
 case atStart=>exact Hst.out
 case round=>
  clear Hst
  obtain⟨i,u,hi,rfl,rfl,hu,hz,hr,hk⟩:=hrel
  by_cases hlt:i<b.size
  · have hia:i<a.size:=by omega
    have hia2:=fun W=>idx_string a (i:Int) i rfl hia W
    have hib2:=fun W=>idx_string b (i:Int) i rfl hlt W
    have Hnx:=Lib.hid (SameAt.next hsz HAa.out HBa.out (by omega) hu hz hr hk (Nat.le_refl _))
    have Hnx2:=Lib.hid (SameAt.next hsz HAa.out HBa.out (by omega) hu hz hr.drew hk.drew (Nat.le_refl _))
    have hxa:=HAa.out i
    have hxb:=HBa.out i
    generalize (bytesOf a).getD i 0=x at*
    generalize (bytesOf b).getD i 0=y at*
    have hx:=u8_xor_nat x y hxa hxb
    have hxl:x ^^^ y<256:=Nat.xor_lt_two_pow (n:=8) hxa hxb
    generalize x ^^^ y=xy at*
    have ho:=u8_or_nat u xy hu hxl
    generalize u ||| xy=uu at*
    have hlt2:(i:Int)<(b.size:Int):=by omega
    have hc0:=hr.cell 0
    have hf0:=hr.frozen 0
    have HAD:=Lib.hid (fun W=>atomicAdd_any ⟨w.heap.size,0,none⟩ i (by omega) W)
    clear hz hxa hxb hxl
    have hc0d:=hr.drew.cell 0
    have hf0d:=hr.drew.frozen 0
    go_wp2
    go_region
    all_goals
     go_wp2_with fail
     refine(HAD.out _ (by first | exact hc0 | exact hc0d) (by first | exact hf0 | exact hf0d)).mono ?_
     rintro e w2 ⟨rfl,rfl⟩
     go_wp2
     refine⟨by first | exact Hnx.out | exact Hnx2.out,?_⟩
     simp [intOf]
     omega
  · have hlt2:¬ (i:Int)<(b.size:Int):=by omega
    have hc0:=hr.cell 0
    obtain rfl:i=a.size:=by omega
    rw [List.take_of_length_le (by omega),List.take_of_length_le (by omega)] at hz
    have hd:decide (bytesOf a=bytesOf b)=((u:Int) == 0):=by
     rw [Bool.eq_iff_iff,decide_eq_true_iff,beq_iff_eq,← hz]
     omega
    have Hd:=Lib.hid hd
    clear hd
    go_wp2_with fail
    refine(atomicLoad_any _ _ _ hc0).mono ?_
    rintro e w2 ⟨rfl,rfl⟩
    go_wp2
    go_ret2
    exact⟨by rw [Hd.out,hl];rfl,hk⟩
end Go.Proofs.YtpnbkfboneabaaaGreat
