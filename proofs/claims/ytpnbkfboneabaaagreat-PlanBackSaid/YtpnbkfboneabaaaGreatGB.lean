import Derived.Laws.BitsAllLaws
import Derived.Test.YtpnbkfboneabaaaGreatChecked
import Derived.WalkKit
import Derived.ProofKit
import Derived.BigQuiet
import Derived.Lib.Hide
import Derived.Laws.Bits64b
import Derived.Test.YtpnbkfboneabaaaGreatGA
import Derived.Shelf.Abstract
import Derived.Shelf.RegionOpen
import Derived.OwnWalkIn
import Derived.TacticsInMore
import Derived.LoopNIn
import Derived.LoopIn
import Derived.Deep.RegionWith
import Derived.StillTailTactics
import Derived.Deep.RegionHeld3
import Derived.Deep.DeepCutAuto
set_option maxRecDepth 100000
set_option maxHeartbeats 4000000
namespace Go.Proofs.YtpnbkfboneabaaaGreat
namespace Fld
def dbl (a:Nat):Nat:=if 128≤a then (a*2%256) ^^^ 27 else a*2
def mulGo:Nat→Nat→Nat→Nat→Nat
 | 0,_,_,out=>out
 | k+1,a,b,out=>if b=0 then out else mulGo k (dbl a) (b / 2) (if b%2=1 then out ^^^ a else out)
def mul (a b:Nat):Nat:=mulGo 8 a b 0
def invGo:Nat→Nat→Nat→Nat→Nat
 | 0,_,_,out=>out
 | k+1,a,n,out=>if n=0 then out else invGo k (mul a a) (n / 2) (if n%2=1 then mul out a else out)
def inv (a:Nat):Nat:=invGo 8 a 254 1
def rot (a n:Nat):Nat:=(a*2 ^ (n%8)%256) ||| (a / 2 ^ (8-n%8))
def turned (a:Nat) (ns:List Nat):Nat:=ns.foldl (fun out n=>out ^^^ rot a n) 0
def sub (a:Nat):Nat:=turned (inv a) [0,1,2,3,4] ^^^ 99
theorem dbl_lt (a:Nat) (h:a<256):dbl a<256:=by
 unfold dbl
 split
 · exact Nat.xor_lt_two_pow (n:=8) (Nat.mod_lt _ (by decide)) (by decide)
 · omega
theorem mulGo_lt:∀(k a b out:Nat),a<256→out<256→mulGo k a b out<256
 | 0,_,_,_,_,h=>h
 | k+1,a,b,out,ha,h=>by
   unfold mulGo
   split
   · exact h
   · refine mulGo_lt k _ _ _ (dbl_lt a ha) ?_
     split
     · exact Nat.xor_lt_two_pow (n:=8) h ha
     · exact h
theorem mul_lt (a b:Nat) (ha:a<256):mul a b<256:=mulGo_lt 8 a b 0 ha (by decide)
theorem invGo_lt:∀(k a n out:Nat),a<256→out<256→invGo k a n out<256
 | 0,_,_,_,_,h=>h
 | k+1,a,n,out,ha,h=>by
   unfold invGo
   split
   · exact h
   · refine invGo_lt k _ _ _ (mul_lt a a ha) ?_
     split
     · exact mul_lt out a h
     · exact h
theorem inv_lt (a:Nat) (ha:a<256):inv a<256:=invGo_lt 8 a 254 1 ha (by decide)
theorem rot_lt (a n:Nat) (ha:a<256):rot a n<256:=by
 unfold rot
 exact Nat.or_lt_two_pow (n:=8) (Nat.mod_lt _ (by decide)) (Nat.lt_of_le_of_lt (Nat.div_le_self _ _) ha)
theorem turned_lt (a:Nat) (ha:a<256) (ns:List Nat):turned a ns<256:=by
 unfold turned
 suffices h:∀(ns:List Nat) (o:Nat),o<256→ns.foldl (fun out n=>out ^^^ rot a n) o<256 from h ns 0 (by decide)
 intro ns
 induction ns with
 | nil=>exact fun o h=>h
 | cons n ns ih=>exact fun o h=>ih _ (Nat.xor_lt_two_pow (n:=8) h (rot_lt a n ha))
theorem sub_lt (a:Nat) (ha:a<256):sub a<256:=Nat.xor_lt_two_pow (n:=8) (turned_lt _ (inv_lt a ha) _) (by decide)
end Fld
end Go.Proofs.YtpnbkfboneabaaaGreat
namespace Go.Proofs.YtpnbkfboneabaaaGreat
open Go.RowKit
theorem ret_int {k:IntKind} {a b:Int} (h:a=b):Ending.returned (.int k a)= .returned (.int k b):=by rw [h]
theorem double_any (a:Int) (h0:0≤a) (h1:a≤255) (w:World):
 Calls Tryz.prog 311 #[.int .u8 a] w fun e w'=>e= .returned (.int .u8 ((Fld.dbl a.toNat:Nat):Int))∧w=w':=by
 have hx:bits BinOp.xor IntKind.u8 (a*2%256) 27=(((a.toNat*2%256) ^^^ 27:Nat):Int):=by
  have:=u8_xor_nat (a.toNat*2%256) 27 (by omega) (by decide)
  rw [← this,show((a.toNat*2%256:Nat):Int)=a*2%256 from by omega]
  rfl
 have Hx:=Lib.hid hx
 clear hx
 go_enter Tryz.func311,Tryz.ntmps311
 go_wp2
 · go_ret
   refine⟨?_,rfl⟩
   rw [Hx.out]
   unfold Fld.dbl
   rw [if_pos (by omega)]
   rfl
 · go_ret
   refine⟨ret_int ?_,rfl⟩
   unfold Fld.dbl
   rw [if_neg (by omega)]
   omega
theorem rotateLeft8_any (x k:Int) (h0:0≤x) (h1:x≤255) (h2:0≤k) (h3:k≤1000) (w:World):
 Calls Tryz.prog 301 #[.int .u8 x,.int .i64 k] w fun e w'=>e= .returned (.int .u8 ((Fld.rot x.toNat k.toNat:Nat):Int))∧w=w':=by
 obtain⟨s,hs,hs7,hk⟩:∃ s:Nat,bits BinOp.and IntKind.u64 k 7=(s:Int)∧s≤7∧Hid (s=k.toNat%8):=
  ⟨k.toNat%8,by
   have:=bits_and_u64_nat k.toNat 7 (by omega) (by omega)
   rw [show ((k.toNat:Nat):Int)=k from by omega,show((7:Nat):Int)=7 from rfl] at this
   rw [this,show k.toNat &&& 7=k.toNat%2 ^ 3 from Nat.and_two_pow_sub_one_eq_mod _ 3],by omega,Lib.hid rfl⟩
 go_enter Tryz.func301,Tryz.ntmps301
 go_wp2
 go_ret
 refine⟨ret_int ?_,rfl⟩
 obtain⟨n,rfl⟩:=Int.eq_ofNat_of_zero_le h0
 unfold Fld.rot
 rw [← hk.out,Int.toNat_natCast,← u8_or_nat _ _ (Nat.mod_lt _ (by decide)) (Nat.lt_of_le_of_lt (Nat.div_le_self _ _) (by omega:n<256))]
 congr 1
end Go.Proofs.YtpnbkfboneabaaaGreat
namespace Go.Proofs.YtpnbkfboneabaaaGreat
open Go.RowKit Go.Shelf
attribute [local go_sem] Oper.semAt_some
def Fld.steps:Nat→Nat→Nat→List (Nat × Bool)
 | 0,_,_=>[]
 | k+1,a,b=>if b=0 then [] else (a,decide (b%2=1))::Fld.steps k (Fld.dbl a) (b / 2)
theorem steps_any (a b:Int) (w:World):
 Calls Tryz.prog 309 #[.int .u8 a,.int .u8 b] w fun e w'=>
  e= .returned (.func (.func 310) #[] #[.pointer (some ⟨w.heap.size+1,0,none⟩),.pointer (some ⟨w.heap.size,0,none⟩)])∧
  w'=(w.alloc (.cells #[.int .u8 a] 5)).alloc (.cells #[.int .u8 b] 5):=by
 go_enter Tryz.func309,Tryz.ntmps309
 go_wp2
 go_ret
 exact⟨rfl,rfl⟩
theorem Fld.steps_cons (k a b:Nat) (hb:b≠0):Fld.steps (k+1) a b=(a,decide (b%2=1))::Fld.steps k (Fld.dbl a) (b / 2):=by
 rw [Fld.steps,if_neg hb]
theorem Fld.steps_nil (k a:Nat):Fld.steps k a 0=[]:=by cases k <;> simp [Fld.steps]
abbrev Fld.encs (x:Nat × Bool):Array Value:=#[.int .u8 (x.1:Int),.bool x.2]
def StepsAt (J:List (Nat × Bool)→World→Prop) (xs:List (Nat × Bool)) (Ba Bb:Nat) (wr:World):Prop:=
 ∃(pre:List (Nat × Bool)) (k a b:Nat),xs=pre++Fld.steps k a b∧a<256∧b<2 ^ k∧k≤8∧J pre wr∧
  wr.cell? ⟨Ba,0,none⟩=some (.int .u8 a)∧wr.frozen? ⟨Ba,0,none⟩=false∧wr.cell? ⟨Bb,0,none⟩=some (.int .u8 b)∧wr.frozen? ⟨Bb,0,none⟩=false
def StepsLeft (Bb:Nat) (wr:World):Nat:=(intOf ((wr.cell? ⟨Bb,0,none⟩).getD undef)).toNat
theorem StepsLeft_eq {Bb:Nat} {wr:World} {b:Nat} (h:wr.cell? ⟨Bb,0,none⟩=some (.int .u8 b)):StepsLeft Bb wr=b:=by
 unfold StepsLeft;rw [h];rfl
theorem StepsAt_next {J:List (Nat × Bool)→World→Prop} {xs pre:List (Nat × Bool)} {Ba Bb k a b:Nat} {c:Bool} {W:World} (hne:Ba≠Bb)
 (hJ:Stable (fun k=>¬ (k=Ba∨k=Bb)) J) (hxs:xs=pre++(a,c)::Fld.steps k (Fld.dbl a) (b / 2)) (ha:a<256) (hb:b / 2<2 ^ k) (hk:k+1≤8) (hj:J (pre++[(a,c)]) W)
 (hca:W.cell? ⟨Ba,0,none⟩=some (.int .u8 a)) (hfa:W.frozen? ⟨Ba,0,none⟩=false) (hcb:W.cell? ⟨Bb,0,none⟩=some (.int .u8 b)) (hfb:W.frozen? ⟨Bb,0,none⟩=false):
 StepsAt J xs Ba Bb ((W.setCell ⟨Ba,0,none⟩ (.int .u8 (Fld.dbl a:Nat))).setCell ⟨Bb,0,none⟩ (.int .u8 ((b:Int) / 2))).drew:=by
 refine⟨pre++[(a,c)],k,Fld.dbl a,b / 2,by rw [hxs];simp,Fld.dbl_lt a ha,hb,by omega,?_,?_,?_,?_,?_⟩
 · exact hJ _ _ _ hj ((((Keep.refl _ _).setCell (fun h=>absurd (.inl rfl) h) _).setCell (fun h=>absurd (.inr rfl) h) _).drew)
 · have:=World.cell?_setCell_same' W ⟨Ba,0,none⟩ (.int .u8 (Fld.dbl a:Nat)) (by rw [hca];rfl)
   exact(World.cell?_of_block (Below.heap_setCell _ _ _ _ hne)).trans this
 · exact(World.frozen?_setCell _ _ _ _).trans ((World.frozen?_setCell _ _ _ _).trans hfa)
 · refine World.cell?_setCell_same' _ ⟨Bb,0,none⟩ (.int .u8 ((b:Int) / 2)) ?_
   rw [show (W.setCell ⟨Ba,0,none⟩ (.int .u8 (Fld.dbl a:Nat))).cell? ⟨Bb,0,none⟩=W.cell? ⟨Bb,0,none⟩ from World.cell?_of_block (Below.heap_setCell _ _ _ _ (Ne.symm hne)),hcb]
   rfl
 · exact(World.frozen?_setCell _ _ _ _).trans ((World.frozen?_setCell _ _ _ _).trans hfb)
theorem StepsLeft_next {Ba Bb a b:Nat} {W wr:World} (hne:Ba≠Bb) (hl:StepsLeft Bb wr=b) (h0:0<b) (hcb:W.cell? ⟨Bb,0,none⟩=some (.int .u8 b)):
 StepsLeft Bb ((W.setCell ⟨Ba,0,none⟩ (.int .u8 (Fld.dbl a:Nat))).setCell ⟨Bb,0,none⟩ (.int .u8 ((b:Int) / 2))).drew<StepsLeft Bb wr:=by
 rw [hl,StepsLeft_eq (b:=b / 2)]
 · omega
 · refine World.cell?_setCell_same' _ ⟨Bb,0,none⟩ (.int .u8 ((b:Int) / 2)) ?_
   rw [show (W.setCell ⟨Ba,0,none⟩ (.int .u8 (Fld.dbl a:Nat))).cell? ⟨Bb,0,none⟩=W.cell? ⟨Bb,0,none⟩ from World.cell?_of_block (Below.heap_setCell _ _ _ _ (Ne.symm hne)),hcb]
   rfl
theorem steps1_seq (a b:Nat) (ha:a<256) (hb:b<256) (Ba Bb:Nat) (hne:Ba≠Bb) (w:World)
 (hca:w.cell? ⟨Ba,0,none⟩=some (.int .u8 a)) (hfa:w.frozen? ⟨Ba,0,none⟩=false)
 (hcb:w.cell? ⟨Bb,0,none⟩=some (.int .u8 b)) (hfb:w.frozen? ⟨Bb,0,none⟩=false):
 SeqK Tryz.prog 310 #[.pointer (some ⟨Bb,0,none⟩),.pointer (some ⟨Ba,0,none⟩)] Fld.encs (Fld.steps 8 a b)
  (fun k=>k=Ba∨k=Bb) (fun k=>k=Ba∨k=Bb) w:=by
 intro l J Jx W hW hJ hJx hY h0
 have hca1:=hW.cell (p:=⟨Ba,0,none⟩) (.inl rfl) hca
 have hfa1:=(hW.frozen (p:=⟨Ba,0,none⟩) (.inl rfl) hca).trans hfa
 have hcb1:=hW.cell (p:=⟨Bb,0,none⟩) (.inr rfl) hcb
 have hfb1:=(hW.frozen (p:=⟨Bb,0,none⟩) (.inr rfl) hcb).trans hfb
 refine(callsIn_wide (n:=9)).1 ?_
 refine callsIn_of_wp Tryz.func310 rfl trivial ?_ rfl
 simp only [Tryz.ntmps310,List.size_toArray,List.length_cons,List.length_nil,Nat.reduceAdd,Nat.reduceSub,Array.replicate_succ,Array.replicate_zero,List.push_toArray,List.append_toArray,List.nil_append,List.cons_append]
 have hst:StepsAt J (Fld.steps 8 a b) Ba Bb W:=⟨[],8,a,b,rfl,ha,hb,Nat.le_refl _,h0,hca1,hfa1,hcb1,hfb1⟩
 generalize Fld.steps 8 a b=xs at*
 clear hca hfa hcb hfb hca1 hfa1 hcb1 hfb1 h0 hW
 gi_wp2
 gi_loopw [4] (fun _ wr=>StepsAt J xs Ba Bb wr) (fun _ wr=>StepsLeft Bb wr)
 case atStart=>exact hst
 case round=>
  clear hst
  obtain⟨pre,k,a',b',hxs,ha',hb',hk8,hj,hca',hfa',hcb',hfb'⟩:=hrel
  have hm:=Lib.hid (StepsLeft_eq hcb')
  by_cases hb0:b'=0
  · subst hb0
    have hxs':Hid (xs=pre):=by rw [Fld.steps_nil,List.append_nil] at hxs;exact hxs
    clear hxs
    gi_wp2
    go_end0
    refine⟨⟨_,rfl⟩,.inl ?_⟩
    rw [hxs'.out];exact hj
  · obtain⟨k,rfl⟩:∃ j,k=j+1:=⟨k-1,by cases k with | zero=>simp at hb';omega | succ k=>rfl⟩
    rw [Fld.steps_cons _ _ _ hb0] at hxs
    have hY1:=hY pre _ _ hxs wr hj
    have hxs':=Lib.hid hxs
    clear hxs
    have hb256:b'<256:=Nat.lt_of_lt_of_le hb' (Nat.pow_le_pow_right (by decide) hk8:2 ^ (k+1)≤2 ^ 8)
    have hb2:Hid (b' / 2<2 ^ k):=by have:b'<2 ^ k*2:=by rw [← Nat.pow_succ];exact hb'
                                    exact Nat.div_lt_of_lt_mul (by omega)
    have hpos:0<b':=Nat.pos_of_ne_zero hb0
    clear hb' hb0
    have hbit:bits BinOp.and IntKind.u8 (b':Int) 1=((b'%2:Nat):Int):=by
     have:=u8_and_nat b' 1 hb256 (by decide)
     rw [show b' &&& 1=b'%2 from Nat.and_one_is_mod _] at this
     exact this
    rcases Nat.mod_two_eq_zero_or_one b' with h2 | h2
    all_goals
     rw [h2] at hbit
     have hd:decide (b'%2=1)=decide ((b'%2)=1):=rfl
     rw [h2] at hY1 hxs'
     simp only [Nat.zero_ne_one,decide_false,decide_true] at hY1 hxs' hbit
     obtain⟨fn,tmps,assign,body,hy,hR⟩:=hY1
     dsimp only [Fld.encs] at hy
     clear hd h2
     gi_wp2
     refine(hR 8).mono ?_
     rintro e W3 (⟨rfl,hj3,hk3⟩ | ⟨rfl,hx3⟩)
     · have hca3:=hk3.cell (p:=⟨Ba,0,none⟩) (.inl rfl) hca'
       have hfa3:=(hk3.frozen (p:=⟨Ba,0,none⟩) (.inl rfl) hca').trans hfa'
       have hcb3:=hk3.cell (p:=⟨Bb,0,none⟩) (.inr rfl) hcb'
       have hfb3:=(hk3.frozen (p:=⟨Bb,0,none⟩) (.inr rfl) hcb').trans hfb'
       have hne':Bb≠Ba:=Ne.symm hne
       gi_wp2
       have hmix:Tryz.prog.follows .mixedOrders=true:=by kernel_rfl
       gi_region_with_o (refine⟨trivial,?_⟩;gi_at_call 311;refine(callsIn_wide.2 (double_any a' (by omega) (by omega) _)).mono ?_;rintro e w' ⟨rfl,rfl⟩)
       all_goals
        go_roundw
        case rel=>(repeat apply Exists.intro);exact⟨StepsAt_next hne hJ hxs'.out ha' hb2.out hk8 hj3 hca3 hfa3 hcb3 hfb3,rfl⟩
        case measure=>exact StepsLeft_next hne hm.out hpos hcb3
     · gi_wp2
       refine bodyPost_ret (results_none rfl _ _ _) rfl ?_
       exact⟨⟨_,rfl⟩,.inr ⟨_,Fld.steps k (Fld.dbl a') (b' / 2),(by rw [hxs'.out];simp),hx3⟩⟩
end Go.Proofs.YtpnbkfboneabaaaGreat
namespace Go.Proofs.YtpnbkfboneabaaaGreat
open Go.RowKit Go.Shelf
attribute [local go_sem] Oper.semAt_some
namespace Fld
def acc (xs:List (Nat × Bool)) (o:Nat):Nat:=xs.foldl (fun o x=>if x.2 then o ^^^ x.1 else o) o
theorem acc_snoc (xs:List (Nat × Bool)) (x:Nat × Bool) (o:Nat):acc (xs++[x]) o=if x.2 then acc xs o ^^^ x.1 else acc xs o:=by simp [acc]
theorem acc_steps:∀(k a b o:Nat),acc (steps k a b) o=mulGo k a b o
 | 0,_,_,_=>rfl
 | k+1,a,b,o=>by
   by_cases h:b=0
   · subst h;rw [steps_nil];simp [acc,mulGo]
   · rw [steps_cons _ _ _ h,mulGo,if_neg h,← acc_steps k]
     simp [acc]
theorem steps_lt:∀(k a b:Nat),a<256→∀ x∈steps k a b,x.1<256
 | 0,_,_,_,x,h=>by simp [steps] at h
 | k+1,a,b,ha,x,h=>by
   by_cases h0:b=0
   · subst h0;rw [steps_nil] at h;simp at h
   · rw [steps_cons _ _ _ h0] at h
     rcases List.mem_cons.1 h with rfl | h
     · exact ha
     · exact steps_lt k _ _ (dbl_lt a ha) x h
theorem acc_lt (xs:List (Nat × Bool)) (h:∀ x∈xs,x.1<256) (o:Nat) (ho:o<256):acc xs o<256:=by
 induction xs generalizing o with
 | nil=>exact ho
 | cons x xs ih=>
   refine ih (fun y hy=>h y (List.mem_cons_of_mem _ hy)) _ ?_
   have:=h x (List.mem_cons_self ..)
   dsimp only
   split
   · exact Nat.xor_lt_two_pow (n:=8) ho this
   · exact ho
end Fld
def MulAt (w:World) (pre:List (Nat × Bool)) (W:World):Prop:=
 W.cell? ⟨w.heap.size,0,none⟩=some (.int .u8 (Fld.acc pre 0:Nat))∧W.frozen? ⟨w.heap.size,0,none⟩=false∧Below w.heap.size w W
theorem MulAt_stable (w:World) (S:Nat→Prop) (hS:S w.heap.size) (hs:∀ k,k<w.heap.size→S k):Stable S (MulAt w):=fun _ _ _ hi hk=>
 ⟨hk.cell (p:=⟨w.heap.size,0,none⟩) hS hi.1,(hk.frozen (p:=⟨w.heap.size,0,none⟩) hS hi.1).trans hi.2.1,
  ⟨hk.os.trans hi.2.2.os,hk.tape.trans hi.2.2.tape,hk.output.trans hi.2.2.output,Nat.le_trans hi.2.2.size hk.size,fun k hkk=>(hk.block k (hs k hkk) (Nat.lt_of_lt_of_le hkk hi.2.2.size)).trans (hi.2.2.block k hkk)⟩⟩
theorem MulAt_store {w W:World} {pre:List (Nat × Bool)} {x:Nat × Bool} (h:MulAt w pre W) (v:Int) (hv:v=((Fld.acc (pre++[x]) 0:Nat):Int)):
 Keep (fun k=>¬ k=w.heap.size) W (W.setCell ⟨w.heap.size,0,none⟩ (.int .u8 v))∧MulAt w (pre++[x]) (W.setCell ⟨w.heap.size,0,none⟩ (.int .u8 v)):=by
 obtain⟨h1,h2,h3⟩:=h
 subst hv
 exact⟨(Keep.refl _ _).setCell (fun hn=>absurd rfl hn) _,World.cell?_setCell_same' _ _ _ (by rw [h1];rfl),(World.frozen?_setCell _ _ _ _).trans h2,h3.setCell (p:=⟨w.heap.size,0,none⟩) (Nat.le_refl _) _⟩
theorem three_boxes (w:World) (t:TypeId) (x y z:Int):
 ∃ w3,((w.alloc (.cells #[.int .u8 x] t)).alloc (.cells #[.int .u8 y] t)).alloc (.cells #[.int .u8 z] t)=w3∧w3.heap.size=w.heap.size+3∧Below w.heap.size w w3∧
   (w3.cell? ⟨w.heap.size,0,none⟩=some (.int .u8 x)∧w3.frozen? ⟨w.heap.size,0,none⟩=false)∧
   (w3.cell? ⟨w.heap.size+1,0,none⟩=some (.int .u8 y)∧w3.frozen? ⟨w.heap.size+1,0,none⟩=false)∧
   (w3.cell? ⟨w.heap.size+1+1,0,none⟩=some (.int .u8 z)∧w3.frozen? ⟨w.heap.size+1+1,0,none⟩=false):=by
 refine⟨_,rfl,by simp,(((Below.refl _ _).alloc (Nat.le_refl _) _).alloc (by simp) _).alloc (by simp;omega) _,⟨?_,?_⟩,⟨?_,?_⟩,⟨?_,?_⟩⟩ <;> go_simp
theorem mul_any (a b:Int) (ha0:0≤a) (ha:a≤255) (hb0:0≤b) (hb:b≤255) (w:World):
 Calls Tryz.prog 300 #[.int .u8 a,.int .u8 b] w fun e w'=>e= .returned (.int .u8 ((Fld.mul a.toNat b.toNat:Nat):Int))∧Below w.heap.size w w':=by
 obtain⟨a,rfl⟩:=Int.eq_ofNat_of_zero_le ha0
 obtain⟨b,rfl⟩:=Int.eq_ofNat_of_zero_le hb0
 rw [Int.toNat_natCast,Int.toNat_natCast]
 refine(callsIn_wide (n:=9)).1 ?_
 refine callsIn_of_wp_marks Tryz.func300 rfl trivial ?_ rfl
 simp only [Tryz.ntmps300,List.size_toArray,List.length_cons,List.length_nil,Nat.reduceAdd,Nat.reduceSub,Array.replicate_succ,Array.replicate_zero,List.push_toArray,List.append_toArray,List.nil_append,List.cons_append]
 gi_wp2_with (refine⟨trivial,?_⟩;gi_at_call 309;refine(callsIn_wide.2 (steps_any _ _ _)).mono ?_;rintro e w' ⟨rfl,rfl⟩)
 -- the boxes of the iterator's two variables
 obtain⟨w3,hw3,hz3,hB3,⟨hco,hfo⟩,⟨hca,hfa⟩,⟨hcb,hfb⟩⟩:=three_boxes w 5 0 a b
 rw [hw3]
 clear hw3
 refine wp_range (n:=9) (gf:=310) (lb:=#[.pointer (some ⟨w.heap.size+1+1,0,none⟩),.pointer (some ⟨w.heap.size+1,0,none⟩)]) rfl
  (enters_of Tryz.func310 (by kernel_rfl) rfl)
  (steps1_seq a b (by omega) (by omega) (w.heap.size+1) (w.heap.size+1+1) (by omega) w3 hca hfa hcb hfb)
  (by omega) (by omega) (fun _=>rfl) (fun k=>k=w.heap.size) (by omega) (MulAt w) (fun _ _ _=>False)
  (MulAt_stable w _ (by omega) (by intro k hk;omega))
  (fun _ _ _ _ hs _=>hs) ⟨hco,hfo,hB3⟩ ?body ?done ?stop
 case body=>
  intro l pre x rest W hxs hz hi
  obtain⟨x1,x2⟩:=x
  have hx1:x1<256:=Fld.steps_lt 8 a b (by omega) (x1,x2) (by rw [hxs];simp)
  have hacc:Fld.acc pre 0<256:=Fld.acc_lt pre (fun y hy=>Fld.steps_lt 8 a b (by omega) y (by rw [hxs];simp [hy])) 0 (by decide)
  gi_wp2
  refine⟨Keep.refl _ _,fun W3 hk hzz=> ?_⟩
  have hi3:MulAt w pre W3:=MulAt_stable w _ (by omega) (by intro k hk;omega) _ _ _ hi hk
  have hx:bits BinOp.xor IntKind.u8 (Fld.acc pre 0:Nat) (x1:Int)=((Fld.acc pre 0 ^^^ x1:Nat):Int):=u8_xor_nat _ _ hacc hx1
  have hc:=hi3.1
  have hf:=hi3.2.1
  have hs:=MulAt_store (x:=(x1,true)) hi3 ((Fld.acc pre 0 ^^^ x1:Nat):Int) (by rw [Fld.acc_snoc];rfl)
  have hs0:MulAt w (pre++[(x1,false)]) W3:=by
   refine⟨?_,hi3.2⟩
   rw [Fld.acc_snoc];exact hi3.1
  have Hs:=Lib.hid hs
  have Hs0:=Lib.hid hs0
  clear hs hs0
  cases x2
  · gi_wp2
    exact⟨Keep.refl _ _,Hs0.out⟩
  · gi_wp2
    exact Hs.out
 case done=>
  rintro W ⟨hc,hf,hB⟩ hz hK
  gi_wp2
  refine⟨by simp,.inl ⟨_,_,rfl,run_takeDeferred (heap_setCell_other hK _ (by dsimp only;omega) _),?_⟩⟩
  have hc5:=cell_putObj (World.cell?_setCell_same' W ⟨w.heap.size,0,none⟩ (.int .u8 ((Fld.acc (Fld.steps 8 a b) 0:Nat):Int)) (by rw [hc];rfl)) (l:=w3.heap.size) (by dsimp only;omega) (.deferred none)
  refine⟨.int .u8 ((Fld.acc (Fld.steps 8 a b) 0:Nat):Int),?_,?_,?_⟩
  · simp [results,Tryz.f300,go_sem,hc5]
  · rw [Fld.acc_steps];rfl
  · exact below_putObj (hB.setCell (p:=⟨w.heap.size,0,none⟩) (Nat.le_refl _) _) (by omega) _
 case stop=>
  intro c pre suf W _ h
  exact h.elim
end Go.Proofs.YtpnbkfboneabaaaGreat
namespace Go.Proofs.YtpnbkfboneabaaaGreat
open Go.RowKit
def InvAt (r:Nat) (w:World) (va vo vn:Value) (wr:World):Prop:=
 ∃ k a n o:Nat,Fld.invGo k a n o=r∧n<2 ^ k∧k≤8∧a<256∧o<256∧va= .int .u8 a∧vo= .int .u8 o∧vn= .int .i64 n∧Below w.heap.size w wr
theorem InvAt_next {r k a n o o':Nat} {w wr:World} (h:Fld.invGo (k+1) a n o=r) (hn0:n≠0) (hn:n / 2<2 ^ k) (hk:k+1≤8) (ha:a<256) (ho:o'<256)
 (hov:o'=if n%2=1 then Fld.mul o a else o) (hb:Below w.heap.size w wr):InvAt r w (.int .u8 (Fld.mul a a:Nat)) (.int .u8 o') (.int .i64 ((n:Int) / 2)) wr:=by
 refine⟨k,Fld.mul a a,n / 2,o',?_,hn,by omega,Fld.mul_lt a a ha,ho,rfl,rfl,rfl,hb⟩
 rw [← h,Fld.invGo,if_neg hn0,hov]
theorem mul_nat (a b:Nat) (ha:a<256) (hb:b<256) (w:World):
 Calls Tryz.prog 300 #[.int .u8 a,.int .u8 b] w fun e w'=>e= .returned (.int .u8 ((Fld.mul a b:Nat):Int))∧Below w.heap.size w w':=
 mul_any a b (by omega) (by omega) (by omega) (by omega) w
theorem inv_any (a:Int) (ha0:0≤a) (ha:a≤255) (w:World):
 Calls Tryz.prog 289 #[.int .u8 a] w fun e w'=>e= .returned (.int .u8 ((Fld.inv a.toNat:Nat):Int))∧Below w.heap.size w w':=by
 obtain⟨a,rfl⟩:=Int.eq_ofNat_of_zero_le ha0
 rw [Int.toNat_natCast]
 have hst:InvAt (Fld.inv a) w (.int .u8 a) (.int .u8 1) (.int .i64 254) w:=⟨8,a,254,1,rfl,by decide,Nat.le_refl _,by omega,by decide,rfl,rfl,rfl,Below.refl _ _⟩
 generalize Fld.inv a=r at*
 go_enter Tryz.func289,Tryz.ntmps289
 go_wp2
 go_loopw [0,3,4] (fun va vo vn wr=>InvAt r w va vo vn wr) (fun _ _ vn _=>(intOf vn).toNat)
 case atStart=>exact hst
 case round=>
  clear hst
  obtain⟨k,a',n,o,hr,hn,hk8,ha',ho',rfl,rfl,rfl,hB⟩:=hrel
  by_cases hn0:n=0
  · subst hn0
    have hro:Hid (o=r):=by
     rw [← hr];cases k <;> simp [Fld.invGo,Hid]
    clear hr
    go_wp2
    go_ret
    exact⟨ret_int (by rw [hro.out]),hB⟩
  · obtain⟨k,rfl⟩:∃ j,k=j+1:=⟨k-1,by cases k with | zero=>simp at hn;omega | succ k=>rfl⟩
    have hn256:n<256:=Nat.lt_of_lt_of_le hn (Nat.pow_le_pow_right (by decide) hk8:2 ^ (k+1)≤2 ^ 8)
    have hn2:Hid (n / 2<2 ^ k):=by have:n<2 ^ k*2:=by rw [← Nat.pow_succ];exact hn
                                   exact Nat.div_lt_of_lt_mul (by omega)
    have hpos:0<n:=Nat.pos_of_ne_zero hn0
    have hn0':=Lib.hid hn0
    have hr':=Lib.hid hr
    clear hr hn hn0
    have hbit:bits BinOp.and IntKind.i64 (n:Int) 1=((n%2:Nat):Int):=by
     have h:=bits_mask .i64 8 (by decide) (fun n h1 h2=>IntWalk.i64_in n ⟨by omega,by omega⟩) 1 (by decide) n (by omega)
     exact h (by omega)
    rcases Nat.mod_two_eq_zero_or_one n with h2 | h2
    all_goals
     rw [h2] at hbit
     have h2':=Lib.hid h2
     clear h2
    · go_wp2_with fail
      refine(mul_nat a' a' ha' ha' _).mono ?_
      rintro e w1 ⟨rfl,hb1⟩
      have hfin:=Lib.hid (InvAt_next hr'.out hn0'.out hn2.out hk8 ha' ho' (by rw [if_neg (by rw [h2'.out];decide)]) (hB.trans (hb1.mono hB.size)))
      go_wp2
      go_roundw
      case rel=>exact hfin.out
      case measure=>simp [intOf];omega
    · go_wp2_with fail
      refine(mul_nat o a' ho' ha' _).mono ?_
      rintro e w1 ⟨rfl,hb1⟩
      have hB1:=hB.trans (hb1.mono hB.size)
      have hlt:=Fld.mul_lt o a' ho'
      go_wp2_with fail
      refine(mul_nat a' a' ha' ha' _).mono ?_
      rintro e w2 ⟨rfl,hb2⟩
      have hfin:=Lib.hid (InvAt_next hr'.out hn0'.out hn2.out hk8 ha' hlt (by rw [if_pos h2'.out]) (hB1.trans (hb2.mono hB1.size)))
      go_wp2
      go_roundw
      case rel=>exact hfin.out
      case measure=>simp [intOf];omega
def TurnedAt (a:Nat) (ns:List Nat) (vo vi:Value):Prop:=
 ∃ k o:Nat,k≤ns.length∧o<256∧vo= .int .u8 o∧vi= .int .i64 k∧o=Fld.turned a (ns.take k)
theorem TurnedAt_next {a:Nat} {ns:List Nat} {k:Nat} (ha:a<256) (hk:k<ns.length):
 TurnedAt a ns (.int .u8 ((Fld.turned a (ns.take k) ^^^ Fld.rot a (ns.getD k 0):Nat):Int)) (.int .i64 ((k:Int)+1)):=by
 refine⟨k+1,Fld.turned a (ns.take (k+1)),hk,Fld.turned_lt a ha _,?_,rfl,rfl⟩
 have:Fld.turned a (ns.take (k+1))=Fld.turned a (ns.take k) ^^^ Fld.rot a (ns.getD k 0):=by
  rw [List.take_succ_eq_append_getElem hk,Fld.turned,List.foldl_append]
  simp [Fld.turned,List.getD_eq_getElem?_getD,hk]
 rw [this]
theorem turned_any (a:Nat) (ha:a<256) (b:Nat) (ns:List Nat) (hl:ns.length≤1000) (h7:∀ k,ns.getD k 0≤7) (w:World)
 (hc:∀ k,k<ns.length→w.cell? ⟨b,k,none⟩=some (.int .i64 (ns.getD k 0:Nat))):
 Calls Tryz.prog 288 #[.int .u8 a,.slice (some ⟨b,0,none⟩) ns.length ns.length] w fun e w'=>
  e= .returned (.int .u8 ((Fld.turned a ns:Nat):Int))∧w=w':=by
 go_enter Tryz.func288,Tryz.ntmps288
 go_wp2
 go_loop [4,9] (fun vo vi=>TurnedAt a ns vo vi) (fun _ vi=>ns.length-(intOf vi).toNat)
 case atStart=>exact⟨0,0,Nat.zero_le _,by decide,rfl,rfl,rfl⟩
 case round=>
  obtain⟨k,o,hk,ho,rfl,rfl,ho'⟩:=hrel
  have Ho:=Lib.hid ho'
  clear ho'
  by_cases hlt:k<ns.length
  · have hck:=hc k hlt
    have h7k:=h7 k
    have hrot:=Fld.rot_lt a (ns.getD k 0) ha
    have hx:bits BinOp.xor IntKind.u8 (o:Int) ((Fld.rot a (ns.getD k 0):Nat):Int)=((o ^^^ Fld.rot a (ns.getD k 0):Nat):Int):=u8_xor_nat _ _ ho hrot
    have hfin:=Lib.hid (TurnedAt_next (ns:=ns) ha hlt)
    rw [← Ho.out] at hfin
    clear hc h7
    generalize ns.getD k 0=n at*
    go_wp2_with fail
    refine(rotateLeft8_any a n (by omega) (by omega) (by omega) (by omega) _).mono ?_
    rintro e w1 ⟨rfl,rfl⟩
    go_wp2
    go_round
    case rel=>exact hfin.out
    case measure=>simp [intOf];omega
  · go_wp2
    go_ret
    exact⟨ret_int (by rw [Ho.out,List.take_of_length_le (by omega)]),rfl⟩
theorem turned_five (a:Nat) (ha:a<256) (w:World):
 Calls Tryz.prog 288 #[.int .u8 a,.slice (some ⟨w.heap.size,0,none⟩) 5 5]
  (w.alloc (.cells #[.int .i64 0,.int .i64 1,.int .i64 2,.int .i64 3,.int .i64 4] 3)) fun e w'=>
  e= .returned (.int .u8 ((Fld.turned a [0,1,2,3,4]:Nat):Int))∧(w.alloc (.cells #[.int .i64 0,.int .i64 1,.int .i64 2,.int .i64 3,.int .i64 4] 3))=w':=by
 refine turned_any a ha w.heap.size [0,1,2,3,4] (by decide) ?_ _ ?_
 · intro k
   rcases k with _ | _ | _ | _ | _ | k <;> simp
 · intro k hk
   rcases k with _ | _ | _ | _ | _ | k
   iterate 5 go_simp
   simp at hk
   omega
theorem sub_any (a:Int) (ha0:0≤a) (ha:a≤255) (w:World):
 Calls Tryz.prog 278 #[.int .u8 a] w fun e w'=>e= .returned (.int .u8 ((Fld.sub a.toNat:Nat):Int))∧Below w.heap.size w w':=by
 obtain⟨a,rfl⟩:=Int.eq_ofNat_of_zero_le ha0
 rw [Int.toNat_natCast]
 have hi:=Fld.inv_lt a (by omega)
 have ht:=Fld.turned_lt (Fld.inv a) hi [0,1,2,3,4]
 have hx:bits BinOp.xor IntKind.u8 ((Fld.turned (Fld.inv a) [0,1,2,3,4]:Nat):Int) 99=((Fld.sub a:Nat):Int):=u8_xor_nat _ 99 ht (by decide)
 go_enter Tryz.func278,Tryz.ntmps278
 go_wp2_with fail
 refine(inv_any a (by omega) (by omega) _).mono ?_
 rintro e w1 ⟨rfl,hb1⟩
 go_wp2_with fail
 refine(turned_five _ hi _).mono ?_
 rintro e w2 ⟨rfl,rfl⟩
 go_wp2
 go_ret
 exact⟨rfl,hb1.alloc hb1.size _⟩
namespace Fld
def term (c by_:List Nat) (i k:Nat):Nat:=mul (by_.getD k 0) (c.getD ((i+k)%4) 0)
def rowTo (c by_:List Nat) (i:Nat):Nat→Nat
 | 0=>0
 | k+1=>rowTo c by_ i k ^^^ term c by_ i k
def outAt (c by_:List Nat) (i k:Nat):List Nat:=(List.range 4).map fun j=>if j<i then rowTo c by_ j 4 else if j=i then rowTo c by_ i k else 0
def mixL (c by_:List Nat):List Nat:=(List.range 4).map fun j=>rowTo c by_ j 4
def Bytes (l:List Nat):Prop:=∀ k,l.getD k 0<256
theorem term_lt {c by_:List Nat} (hb:Bytes by_) (i k:Nat):term c by_ i k<256:=mul_lt _ _ (hb k)
theorem rowTo_lt {c by_:List Nat} (hb:Bytes by_) (i:Nat):∀ k,rowTo c by_ i k<256
 | 0=>by simp [rowTo]
 | k+1=>Nat.xor_lt_two_pow (n:=8) (rowTo_lt hb i k) (term_lt hb i k)
theorem outAt_full (c by_:List Nat) (i:Nat):outAt c by_ i 4=outAt c by_ (i+1) 0:=by
 unfold outAt
 refine List.map_congr_left fun j _=> ?_
 by_cases h1:j<i
 · rw [if_pos h1,if_pos (by omega)]
 · by_cases h2:j=i
   · subst h2;rw [if_neg h1,if_pos rfl,if_pos (by omega)]
   · rw [if_neg h1,if_neg h2,if_neg (by omega)]
     split
     · rfl
     · rfl
theorem outAt_end (c by_:List Nat):outAt c by_ 4 0=mixL c by_:=by
 unfold outAt mixL
 refine List.map_congr_left fun j hj=> ?_
 rw [if_pos (by simpa using hj)]
theorem outAt_get (c by_:List Nat) {i k:Nat} (hi:i<4):((outAt c by_ i k).map U).toArray[i]? =some (U (rowTo c by_ i k)):=by
 simp [outAt,hi]
theorem outAt_set (c by_:List Nat) {i k:Nat} (_:i<4):((outAt c by_ i k).map U).toArray.setIfInBounds i (U (rowTo c by_ i (k+1)))=((outAt c by_ i (k+1)).map U).toArray:=by
 apply Array.ext'
 apply List.ext_getElem
 · simp [outAt]
 · intro j h1 h2
   simp only [outAt,Array.toList_setIfInBounds,List.length_map,List.length_range] at h1 h2
   simp only [outAt,Array.toList_setIfInBounds,List.getElem_set,List.getElem_map,List.getElem_range]
   by_cases h:i=j
   · subst h;simp
   · rw [if_neg h,if_neg (Ne.symm h),if_neg (Ne.symm h)]
end Fld
def MixAt (c by_:List Nat) (w:World) (i k:Nat) (wr:World):Prop:=
 Row wr w.heap.size 244 (c.map U).toArray∧Row wr (w.heap.size+1) 244 (by_.map U).toArray∧
 Row wr (w.heap.size+1+1) 244 ((Fld.outAt c by_ i k).map U).toArray∧Below w.heap.size w wr
def MixOuter (c by_:List Nat) (w:World) (vi:Value) (wr:World):Prop:=∃ i:Nat,i≤4∧vi= .int .i64 i∧MixAt c by_ w i 0 wr
def MixInner (c by_:List Nat) (w:World) (i:Nat) (vk:Value) (wr:World):Prop:=∃ k:Nat,k≤4∧vk= .int .i64 k∧MixAt c by_ w i k wr
theorem MixAt.next {c by_:List Nat} {w wr w1:World} {i k:Nat} (hi:i<4) (h:MixAt c by_ w i k wr) (hb:Below wr.heap.size wr w1):
 MixAt c by_ w i (k+1) (w1.setCell ⟨w.heap.size+1+1,i,none⟩ (U (Fld.rowTo c by_ i (k+1)))):=by
 obtain⟨h1,h2,h3,h4⟩:=h
 refine⟨(h1.below hb h1.lt).other (by dsimp only;omega) _,(h2.below hb h2.lt).other (by dsimp only;omega) _,?_,(h4.trans (hb.mono h4.size)).setCell (p:=⟨w.heap.size+1+1,i,none⟩) (by dsimp only;omega) _⟩
 rw [← Fld.outAt_set c by_ hi]
 exact(h3.below hb h3.lt).store i _
theorem index4 (x0 x1 x2 x3 k:Nat) (hk:k<4) (w:World):
 (Instr.index 244 (.agg #[U x0,U x1,U x2,U x3]) (.int .i64 (k:Int))).run Tryz.prog w= .ok (U ([x0,x1,x2,x3].getD k 0)) w:=by
 rcases k with _ | _ | _ | _ | k
 · kernel_rfl
 · kernel_rfl
 · kernel_rfl
 · kernel_rfl
 · omega
theorem mix_any (c0 c1 c2 c3 b0 b1 b2 b3:Nat) (hc:Fld.Bytes [c0,c1,c2,c3]) (hb:Fld.Bytes [b0,b1,b2,b3]) (w:World):
 Calls Tryz.prog 290 #[.agg #[U c0,U c1,U c2,U c3],.agg #[U b0,U b1,U b2,U b3]] w fun e w'=>
  e= .returned (.agg ((Fld.mixL [c0,c1,c2,c3] [b0,b1,b2,b3]).map U).toArray)∧Below w.heap.size w w':=by
 go_enter Tryz.func290,Tryz.ntmps290
 go_wp2
 go_loopw [8] (fun vi wr=>MixOuter [c0,c1,c2,c3] [b0,b1,b2,b3] w vi wr) (fun vi _=>4-(intOf vi).toNat)
 case atStart=>
  refine⟨0,by decide,rfl,?_,?_,?_,?_⟩
  · exact((Row.new _ _ _).alloc _).alloc _
  · have:=(Row.new (w.alloc (.cells #[U c0,U c1,U c2,U c3] 244)) 244 #[U b0,U b1,U b2,U b3]).alloc (.cells #[U 0,U 0,U 0,U 0] 244)
    rw [World.size_alloc] at this
    exact this
  · have:=Row.new ((w.alloc (.cells #[U c0,U c1,U c2,U c3] 244)).alloc (.cells #[U b0,U b1,U b2,U b3] 244)) 244 #[U 0,U 0,U 0,U 0]
    rw [World.size_alloc,World.size_alloc] at this
    exact this
  · exact(((Below.refl _ _).alloc (Nat.le_refl _) _).alloc (by simp) _).alloc (by simp;omega) _
 case round=>
  obtain⟨i,hi,rfl,hat⟩:=hrel
  by_cases hlt:i<4
  · have hB:=hat.2.2.2
    have hi1:(i:Int)<4:=by omega
    have q0:wr.cell? ⟨w.heap.size+1,0,none⟩=some (U b0):=hat.2.1.cell 0
    have q1:wr.cell? ⟨w.heap.size+1,1,none⟩=some (U b1):=hat.2.1.cell 1
    have q2:wr.cell? ⟨w.heap.size+1,2,none⟩=some (U b2):=hat.2.1.cell 2
    have q3:wr.cell? ⟨w.heap.size+1,3,none⟩=some (U b3):=hat.2.1.cell 3
    go_wp2
    clear q0 q1 q2 q3
    go_loopw [12] (fun vk wr=>MixInner [c0,c1,c2,c3] [b0,b1,b2,b3] w i vk wr) (fun vk _=>4-(intOf vk).toNat)
    case atStart=>exact⟨0,by decide,rfl,hat⟩
    case round=>
     clear hat hB
     obtain⟨k,hk,rfl,hat⟩:=hrel
     by_cases hltk:k<4
     · have hco:wr.cell? ⟨w.heap.size+1+1,i,none⟩=some (U (Fld.rowTo [c0,c1,c2,c3] [b0,b1,b2,b3] i k)):=(hat.2.2.1.cell i).trans (Fld.outAt_get _ _ hlt)
       have hfo:wr.frozen? ⟨w.heap.size+1+1,i,none⟩=false:=hat.2.2.1.frozen i
       have hcv:((i+k)%4)<4:=Nat.mod_lt _ (by decide)
       have hcc:wr.cell? ⟨w.heap.size,(i+k)%4,none⟩=some (U ([c0,c1,c2,c3].getD ((i+k)%4) 0)):=by
        refine(hat.1.cell _).trans ?_
        generalize (i+k)%4=m at hcv
        rcases m with _ | _ | _ | _ | m <;> first | rfl | omega
       have hcm:=hc ((i+k)%4)
       have hz1:w.heap.size<wr.heap.size:=hat.1.lt
       have hz2:w.heap.size+1+1<wr.heap.size:=hat.2.2.1.lt
       have hrow:=Fld.rowTo_lt (c:=[c0,c1,c2,c3]) hb i k
       have hbk:=hb k
       have hx:bits BinOp.xor IntKind.u8 ((Fld.rowTo [c0,c1,c2,c3] [b0,b1,b2,b3] i k:Nat):Int) ((Fld.mul ([b0,b1,b2,b3].getD k 0) ([c0,c1,c2,c3].getD ((i+k)%4) 0):Nat):Int)=
        ((Fld.rowTo [c0,c1,c2,c3] [b0,b1,b2,b3] i (k+1):Nat):Int):=u8_xor_nat _ _ hrow (Fld.mul_lt _ _ hbk)
       have hfin:=fun(w1:World) (h:Below wr.heap.size wr w1)=>MixAt.next hlt hat h
       have Hfin:=Lib.hid hfin
       clear hfin hat
       have hcall:=fun W=>mul_nat ([b0,b1,b2,b3].getD k 0) ([c0,c1,c2,c3].getD ((i+k)%4) 0) hbk hcm W
       have Hcall:=Lib.hid hcall
       clear hcall
       have hidx:=index4 b0 b1 b2 b3 k hltk wr
       have hsum:IntKind.i64.wrap ((i:Int)+(k:Int))=(i:Int)+(k:Int):=IntWalk.i64_in _ (by omega)
       have hrem:((i:Int)+(k:Int)).tmod 4=(((i+k)%4:Nat):Int):=by rw [Int.tmod_eq_emod_of_nonneg (by omega)];omega
       have hwr:IntKind.i64.wrap (((i+k)%4:Nat):Int)=(((i+k)%4:Nat):Int):=IntWalk.i64_in _ (by omega)
       generalize [c0,c1,c2,c3].getD ((i+k)%4) 0=cv at*
       generalize [b0,b1,b2,b3].getD k 0=bk at*
       generalize (i+k)%4=m at*
       generalize Fld.rowTo [c0,c1,c2,c3] [b0,b1,b2,b3] i k=ok at*
       generalize Fld.rowTo [c0,c1,c2,c3] [b0,b1,b2,b3] i (k+1)=ok' at*
       have hm1:(m:Int)<4:=by omega
       have hm0:0≤(m:Int):=by omega
       go_wp2
       go_region_with (go_at_call 300;refine(Hcall.out _).mono ?_;rintro e w1 ⟨rfl,hb1⟩;have k1:=(hb1.cell (p:=⟨w.heap.size+1+1,i,none⟩) hz2).trans hco;have k2:=(hb1.frozen (p:=⟨w.heap.size+1+1,i,none⟩) hz2).trans hfo)
       all_goals go_wp2
       all_goals
        go_roundw
        case rel=>exact⟨k+1,hltk,by go_num,Hfin.out w1 ((Below.refl _ _).drew.trans hb1)⟩
        case measure=>simp [intOf];omega
     · obtain rfl:k=4:=by omega
       have hnext:Hid (MixOuter [c0,c1,c2,c3] [b0,b1,b2,b3] w (.int .i64 ((i:Int)+1)) wr):=⟨i+1,hlt,rfl,by
        have h:=hat
        unfold MixAt at h ⊢
        rw [← Fld.outAt_full];exact h⟩
       go_wp2
       go_roundw
       case rel=>exact hnext.out
       case measure=>simp [intOf];omega
  · obtain rfl:i=4:=by omega
    have hat':=hat
    unfold MixAt at hat'
    rw [Fld.outAt_end] at hat'
    obtain⟨-,-,hr,hB⟩:=hat'
    clear hat
    obtain⟨m0,m1,m2,m3,hm⟩:∃ m0 m1 m2 m3,Fld.mixL [c0,c1,c2,c3] [b0,b1,b2,b3]=[m0,m1,m2,m3]:=⟨_,_,_,_,rfl⟩
    rw [hm] at hr
    have Hm:=Lib.hid hm
    clear hm
    have q0:wr.cell? ⟨w.heap.size+1+1,0,none⟩=some (U m0):=hr.cell 0
    have q1:wr.cell? ⟨w.heap.size+1+1,1,none⟩=some (U m1):=hr.cell 1
    have q2:wr.cell? ⟨w.heap.size+1+1,2,none⟩=some (U m2):=hr.cell 2
    have q3:wr.cell? ⟨w.heap.size+1+1,3,none⟩=some (U m3):=hr.cell 3
    have f0:=hr.frozen 0
    have f1:=hr.frozen 1
    have f2:=hr.frozen 2
    have f3:=hr.frozen 3
    have Hr:=Lib.hid hr
    clear hr
    go_wp2
    have hr4:=(((Hr.out.store 0 (U m0)).store 1 (U m1)).store 2 (U m2)).store 3 (U m3)
    refine bodyPost_ret (v:= .agg #[U m0,U m1,U m2,U m3]) (results_cell_row rfl _ _ _ _ _ _ _ rfl hr4 Tryz.underlying244 rfl (by kernel_rfl)) rfl ⟨?_,?_⟩
    · rw [Hm.out];rfl
    · exact(((hB.setCell (p:=⟨w.heap.size+1+1,0,none⟩) (by dsimp only;omega) _).setCell (p:=⟨w.heap.size+1+1,1,none⟩) (by dsimp only;omega) _).setCell (p:=⟨w.heap.size+1+1,2,none⟩) (by dsimp only;omega) _).setCell (p:=⟨w.heap.size+1+1,3,none⟩) (by dsimp only;omega) _
def Fld.mx (c:List Nat) (j:Nat):Nat:=Fld.rowTo c [2,3,1,1] j 4
theorem Fld.mixBy:Fld.Bytes [2,3,1,1]∧Fld.Bytes [14,11,13,9]:=by
 constructor <;> (intro k;rcases k with _ | _ | _ | _ | k <;> simp)
theorem Fld.mx_lt (c:List Nat) (j:Nat):Fld.mx c j<256:=Fld.rowTo_lt Fld.mixBy.1 j 4
theorem Fld.bytes4 {a b c d:Nat} (ha:a<256) (hb:b<256) (hc:c<256) (hd:d<256):Fld.Bytes [a,b,c,d]:=by
 intro k;rcases k with _ | _ | _ | _ | k <;> simp <;> assumption
theorem row_four {w1:World} {g:Nat} {t:TypeId} {x0 x1 x2 x3:Value} (hr:Row w1 g t #[x0,x1,x2,x3]):
 (w1.cell? ⟨g,0,none⟩=some x0∧w1.cell? ⟨g,1,none⟩=some x1∧w1.cell? ⟨g,2,none⟩=some x2∧w1.cell? ⟨g,3,none⟩=some x3)∧
 (w1.frozen? ⟨g,0,none⟩=false∧w1.frozen? ⟨g,1,none⟩=false∧w1.frozen? ⟨g,2,none⟩=false∧w1.frozen? ⟨g,3,none⟩=false):=
 ⟨⟨hr.cell 0,hr.cell 1,hr.cell 2,hr.cell 3⟩,hr.frozen 0,hr.frozen 1,hr.frozen 2,hr.frozen 3⟩
theorem Mix_any (c0 c1 c2 c3:Nat) (hc:Fld.Bytes [c0,c1,c2,c3]) (w:World):
 Calls Tryz.prog 281 #[.agg #[U c0,U c1,U c2,U c3]] w fun e w'=>
  e= .returned (.agg #[U (Fld.mx [c0,c1,c2,c3] 0),U (Fld.mx [c0,c1,c2,c3] 1),U (Fld.mx [c0,c1,c2,c3] 2),U (Fld.mx [c0,c1,c2,c3] 3)])∧Below w.heap.size w w':=by
 go_enter Tryz.func281,Tryz.ntmps281
 go_wp2_with fail
 refine(mix_any c0 c1 c2 c3 2 3 1 1 hc Fld.mixBy.1 _).mono ?_
 rintro e w1 ⟨he,hb1⟩
 obtain rfl:e= .returned (.agg #[U (Fld.mx [c0,c1,c2,c3] 0),U (Fld.mx [c0,c1,c2,c3] 1),U (Fld.mx [c0,c1,c2,c3] 2),U (Fld.mx [c0,c1,c2,c3] 3)]):=he
 have hb0:Below w.heap.size w w1:=(((Below.refl _ _).alloc (Nat.le_refl _) _).alloc (by simp) _).trans (hb1.mono (by simp;omega))
 have hr:Row w1 (w.heap.size+1) 244 #[U 0,U 0,U 0,U 0]:=by
  have h:=Row.new (w.alloc (Obj.cells #[U c0,U c1,U c2,U c3] 244)) 244 #[U 0,U 0,U 0,U 0]
  rw [World.size_alloc] at h
  exact h.below hb1 (by simp)
 obtain⟨⟨q0,q1,q2,q3⟩,f0,f1,f2,f3⟩:=row_four hr
 have Hr:=Lib.hid hr
 have Hb0:=Lib.hid hb0
 clear hr hb1 hb0
 go_wp2
 have hr4:=(((Hr.out.store 0 (U (Fld.mx [c0,c1,c2,c3] 0))).store 1 (U (Fld.mx [c0,c1,c2,c3] 1))).store 2 (U (Fld.mx [c0,c1,c2,c3] 2))).store 3 (U (Fld.mx [c0,c1,c2,c3] 3))
 refine bodyPost_ret (v:= .agg #[U (Fld.mx [c0,c1,c2,c3] 0),U (Fld.mx [c0,c1,c2,c3] 1),U (Fld.mx [c0,c1,c2,c3] 2),U (Fld.mx [c0,c1,c2,c3] 3)]) (results_cell_row rfl _ _ _ _ _ _ _ rfl hr4 Tryz.underlying244 rfl (by kernel_rfl)) rfl ⟨rfl,?_⟩
 exact(((Hb0.out.setCell (p:=⟨w.heap.size+1,0,none⟩) (by dsimp only;omega) _).setCell (p:=⟨w.heap.size+1,1,none⟩) (by dsimp only;omega) _).setCell (p:=⟨w.heap.size+1,2,none⟩) (by dsimp only;omega) _).setCell (p:=⟨w.heap.size+1,3,none⟩) (by dsimp only;omega) _
end Go.Proofs.YtpnbkfboneabaaaGreat
