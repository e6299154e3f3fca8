import Derived.Test.YtpnbkfboneabaaaGreatGB
import Derived.Deep.MidRow
import Derived.Deep.QuietTactic
import Derived.BigQuiet
import Derived.Shelf.Abstract
import Derived.Deep.RegionLaw
set_option maxRecDepth 100000
set_option maxHeartbeats 2000000
namespace Go.Proofs.YtpnbkfboneabaaaGreat
namespace Aes
def add (s k:List Nat):List Nat:=(List.range 16).map fun i=>s.getD i 0 ^^^ k.getD i 0
def move (by_:Nat) (s:List Nat):List Nat:=(List.range 16).map fun i=>s.getD ((i+4*by_*(i%4))%16) 0
def each (f:Nat→Nat) (s:List Nat):List Nat:=(List.range 16).map fun i=>f (s.getD i 0)
def columns (f:List Nat→Nat→Nat) (s:List Nat):List Nat:=(List.range 16).map fun i=>f [s.getD (4*(i / 4)) 0,s.getD (4*(i / 4)+1) 0,s.getD (4*(i / 4)+2) 0,s.getD (4*(i / 4)+3) 0] (i%4)
theorem range_all {f:Nat→Nat} (hf:∀ i,i<16→f i<256):Bs.All ((List.range 16).map f):= .of_mem fun x hx=>by
 obtain⟨i,hi,rfl⟩:=List.mem_map.1 hx
 exact hf i (by simpa using hi)
theorem range_get {f:Nat→Nat} {i:Nat} (hi:i<16):((List.range 16).map f).getD i 0=f i:=by simp [List.getD_eq_getElem?_getD,hi]
theorem add_length (s k:List Nat):(add s k).length=16:=by simp [add]
theorem move_length (b:Nat) (s:List Nat):(move b s).length=16:=by simp [move]
theorem each_length (f:Nat→Nat) (s:List Nat):(each f s).length=16:=by simp [each]
theorem columns_length (f:List Nat→Nat→Nat) (s:List Nat):(columns f s).length=16:=by simp [columns]
theorem add_all {s k:List Nat} (hs:Bs.All s) (hk:Bs.All k):Bs.All (add s k):=range_all fun i _=>Nat.xor_lt_two_pow (n:=8) (hs i) (hk i)
theorem move_all {s:List Nat} (b:Nat) (hs:Bs.All s):Bs.All (move b s):=range_all fun _ _=>hs _
theorem each_all {s:List Nat} {f:Nat→Nat} (hf:∀ x,x<256→f x<256) (hs:Bs.All s):Bs.All (each f s):=range_all fun i _=>hf _ (hs i)
theorem columns_all {s:List Nat} {f:List Nat→Nat→Nat} (hf:∀ c j,f c j<256):Bs.All (columns f s):=range_all fun _ _=>hf _ _
def wordAt (l:List Nat) (j:Nat):List Nat:=[l.getD (4*j) 0,l.getD (4*j+1) 0,l.getD (4*j+2) 0,l.getD (4*j+3) 0]
def turnT (n i mark:Nat) (t:List Nat):List Nat:=
 if i%n=0 then [Fld.sub (t.getD 1 0) ^^^ mark,Fld.sub (t.getD 2 0),Fld.sub (t.getD 3 0),Fld.sub (t.getD 0 0)]
 else if n=8∧i%n=4 then [Fld.sub (t.getD 0 0),Fld.sub (t.getD 1 0),Fld.sub (t.getD 2 0),Fld.sub (t.getD 3 0)] else [t.getD 0 0,t.getD 1 0,t.getD 2 0,t.getD 3 0]
def newWord (n i mark:Nat) (l:List Nat):List Nat:=
 [(turnT n i mark (wordAt l (i-1))).getD 0 0 ^^^ l.getD (4*(i-n)) 0,(turnT n i mark (wordAt l (i-1))).getD 1 0 ^^^ l.getD (4*(i-n)+1) 0,
  (turnT n i mark (wordAt l (i-1))).getD 2 0 ^^^ l.getD (4*(i-n)+2) 0,(turnT n i mark (wordAt l (i-1))).getD 3 0 ^^^ l.getD (4*(i-n)+3) 0]
def expGo (n:Nat):Nat→Nat→Nat→List Nat→List Nat
 | 0,_,_,l=>l
 | k+1,i,mark,l=>expGo n k (i+1) (if i%n=0 then Fld.mul 2 mark else mark) (l++newWord n i mark l)
def expanded (key:List Nat):List Nat:=expGo (key.length / 4) (3*(key.length / 4)+28) (key.length / 4) 1 key
theorem wordAt_all {l:List Nat} (h:Bs.All l) (j:Nat):Bs.All (wordAt l j):=Fld.bytes4 (h _) (h _) (h _) (h _)
theorem turnT_all {n i mark:Nat} {t:List Nat} (hm:mark<256) (h:Bs.All t):Bs.All (turnT n i mark t):=by
 unfold turnT
 split
 · exact Fld.bytes4 (Nat.xor_lt_two_pow (n:=8) (Fld.sub_lt _ (h _)) hm) (Fld.sub_lt _ (h _)) (Fld.sub_lt _ (h _)) (Fld.sub_lt _ (h _))
 · split
   · exact Fld.bytes4 (Fld.sub_lt _ (h _)) (Fld.sub_lt _ (h _)) (Fld.sub_lt _ (h _)) (Fld.sub_lt _ (h _))
   · exact Fld.bytes4 (h _) (h _) (h _) (h _)
theorem newWord_all {n i mark:Nat} {l:List Nat} (hm:mark<256) (h:Bs.All l):Bs.All (newWord n i mark l):=by
 have t:=turnT_all (n:=n) (i:=i) hm (wordAt_all h (i-1))
 exact Fld.bytes4 (Nat.xor_lt_two_pow (n:=8) (t _) (h _)) (Nat.xor_lt_two_pow (n:=8) (t _) (h _)) (Nat.xor_lt_two_pow (n:=8) (t _) (h _)) (Nat.xor_lt_two_pow (n:=8) (t _) (h _))
theorem all_append {l m:List Nat} (hl:Bs.All l) (hm:Bs.All m):Bs.All (l++m):= .of_mem fun x hx=>by
 rcases List.mem_append.1 hx with h | h
 · exact hl.mem x h
 · exact hm.mem x h
theorem expGo_length (n:Nat):∀(k i mark:Nat) (l:List Nat),(expGo n k i mark l).length=l.length+4*k
 | 0,_,_,_=>rfl
 | k+1,i,mark,l=>by rw [expGo,expGo_length n k];simp [newWord];omega
theorem expGo_all (n:Nat):∀(k i mark:Nat) (l:List Nat),mark<256→Bs.All l→Bs.All (expGo n k i mark l)
 | 0,_,_,_,_,h=>h
 | k+1,i,mark,l,hm,h=>by
   rw [expGo]
   refine expGo_all n k _ _ _ ?_ (all_append h (newWord_all hm h))
   split
   · exact Fld.mul_lt 2 mark (by decide)
   · exact hm
end Aes
end Go.Proofs.YtpnbkfboneabaaaGreat
namespace Go.Proofs.YtpnbkfboneabaaaGreat
open Go.RowKit
theorem Aes.cells16:Tryz.prog.cellsOf 5=1:=by kernel_rfl
theorem Aes.info16:(Tryz.prog.info? 335).map (·.size)=some 16:=by kernel_rfl
theorem Aes.index16 {l:List Nat} (hl:l.length=16) {j:Nat} (hj:j<16) (w:World):
 (Instr.index 335 (.agg (Bs.vals l)) (.int .i64 (j:Int))).run Tryz.prog w= .ok (U (l.getD j 0)) w:=
 run_index_bytes Tryz.underlying335 Tryz.underlying5 (i:=(Tryz.prog.info? 5).getD default) (by kernel_rfl) Aes.cells16 hl hj w
def StAt (g:Nat) (new s:List Nat) (w:World) (vi:Value) (wr:World):Prop:=
 ∃ i:Nat,i≤16∧vi= .int .i64 i∧Row wr g 335 (Bs.vals (Bs.upTo i new s))∧Keep (fun k=>k≠g) w wr
theorem StAt.next {g:Nat} {new s:List Nat} {w wr:World} {i:Nat} (hn:new.length=16) (hs:s.length=16) (hi:i<16)
 (hr:Row wr g 335 (Bs.vals (Bs.upTo i new s))) (hk:Keep (fun k=>k≠g) w wr):
 StAt g new s w (.int .i64 ((i:Int)+1)) (wr.setCell ⟨g,i,none⟩ (U (new.getD i 0))):=by
 refine⟨i+1,hi,rfl,?_,hk.setCell (fun h=>absurd rfl h) _⟩
 have h:=hr.store i (U (new.getD i 0))
 rw [Bs.set,Bs.upTo_set (by omega) (by omega)] at h
 exact h
theorem StAt.drew {g:Nat} {new s:List Nat} {w wr:World} {vi:Value} (h:StAt g new s w vi wr):StAt g new s w vi wr.drew:=by
 obtain⟨i,hi,rfl,hr,hk⟩:=h
 exact⟨i,hi,rfl,hr.drew,hk.drew⟩
theorem state_add (g:Nat) (s k:List Nat) (hs:s.length=16) (hk:k.length=16) (hsa:Bs.All s) (hka:Bs.All k) (w:World) (hr:Row w g 335 (Bs.vals s)):
 Calls Tryz.prog 275 #[.pointer (some ⟨g,0,none⟩),.agg (Bs.vals k)] w fun e w'=>
  e= .returned (.tuple #[])∧Row w' g 335 (Bs.vals (Aes.add s k))∧Keep (fun j=>j≠g) w w':=by
 have hlt:=hr.lt
 have hbox:=Row.new w 335 (Bs.vals k)
 have hst:StAt g (Aes.add s k) s w (.int .i64 0) (w.alloc (.cells (Bs.vals k) 335)):=⟨0,by decide,rfl,by rw [Bs.upTo_zero];exact hr.alloc _,(Keep.refl _ _).alloc _⟩
 have Hst:=Lib.hid hst
 clear hst
 go_enter Tryz.func275,Tryz.ntmps275
 go_wp2_with (refine wpList_load_row rfl 335 _ rfl w.heap.size rfl 335 _ _ _ hbox Tryz.underlying335 rfl (by rw [Bs.size,hk];exact Aes.info16) ?_)
 clear hbox
 go_loopw [7] (fun vi wr=>StAt g (Aes.add s k) s w vi wr) (fun vi _=>16-(intOf vi).toNat)
 case atStart=>exact Hst.out
 case round=>
  obtain⟨i,hi,rfl,hri,hki⟩:=hrel
  by_cases hlt16:i<16
  · have hidx:=Aes.index16 hk hlt16 wr
    have hsl:i<(Bs.upTo i (Aes.add s k) s).length:=by rw [Bs.upTo_length (by rw [Aes.add_length,hs]),hs];exact hlt16
    have hcell:wr.cell? ⟨g,i,none⟩=some (U (s.getD i 0)):=by
     rw [hri.cell i,Bs.get _ hsl,Bs.upTo_get (by rw [Aes.add_length,hs]) (Nat.le_refl _)]
    have hfr:=hri.frozen i
    have hx:bits BinOp.xor IntKind.u8 ((s.getD i 0:Nat):Int) ((k.getD i 0:Nat):Int)=(((Aes.add s k).getD i 0:Nat):Int):=by
     rw [u8_xor_nat _ _ (hsa i) (hka i),Aes.add,Aes.range_get hlt16]
    have hnext:=Lib.hid (StAt.next (Aes.add_length s k) hs hlt16 hri hki)
    have hnext2:=Lib.hid hnext.out.drew
    have hi16:(i:Int)<16:=by omega
    clear hsl hlt16 hi hri hki hk hs hsa hka
    generalize (Aes.add s k).getD i 0=x at*
    generalize k.getD i 0=y at*
    generalize s.getD i 0=z at*
    go_wp2
    go_region
    all_goals
     go_wp2
     go_roundw
     case rel=>first | exact hnext.out | exact hnext2.out
     case measure=>simp [intOf];omega
  · have hz:Hid (Row wr g 335 (Bs.vals (Aes.add s k))):=by
     obtain rfl:i=16:=by omega
     rw [Bs.upTo_all (by rw [Aes.add_length];omega) (by omega)] at hri;exact hri
    have hi16:¬ (i:Int)<16:=by omega
    clear hlt16 hi hri
    go_wp2
    go_end0
    exact⟨rfl,hz.out,hki⟩
def MvAt (g:Nat) (new s:List Nat) (w:World) (vi:Value) (wr:World):Prop:=StAt g new s w vi wr∧Row wr w.heap.size 335 (Bs.vals s)
theorem MvAt.drew {g:Nat} {new s:List Nat} {w wr:World} {vi:Value} (h:MvAt g new s w vi wr):MvAt g new s w vi wr.drew:=⟨h.1.drew,h.2.drew⟩
theorem state_move (g b:Nat) (hb:b≤3) (s:List Nat) (hs:s.length=16) (w:World) (hr:Row w g 335 (Bs.vals s)):
 Calls Tryz.prog 279 #[.pointer (some ⟨g,0,none⟩),.int .i64 (b:Int)] w fun e w'=>
  e= .returned (.tuple #[])∧Row w' g 335 (Bs.vals (Aes.move b s))∧Keep (fun j=>j≠g) w w':=by
 have hlt:=hr.lt
 have hz:(w.alloc (.cells (Bs.vals (List.replicate 16 0)) 335)).there w.heap.size 0 (Bs.vals s).size:=(Row.new w _ _).there (by rw [Bs.size,Bs.size,hs];decide)
 obtain⟨w1,hw1⟩:∃ w1,(w.alloc (.cells (Bs.vals (List.replicate 16 0)) 335)).setCells w.heap.size 0 (Bs.vals s).toList=w1:=⟨_,rfl⟩
 have hold:Row w1 w.heap.size 335 (Bs.vals s):=by
  rw [← hw1]
  have:=(Row.new w 335 (Bs.vals (List.replicate 16 0))).setCells (vs:=(Bs.vals s).toList) (by simp [hs])
  simpa using this
 have hst:StAt g (Aes.move b s) s w (.int .i64 0) w1:=by
  rw [← hw1]
  exact⟨0,by decide,rfl,by rw [Bs.upTo_zero];exact Row.other_setCells (by omega) _ _ _ (hr.alloc _),Keep.setCells (by intro _;omega) _ _ _ ((Keep.refl _ _).alloc _)⟩
 have Hst:=Lib.hid hst
 have Hold:=Lib.hid hold
 have Hz:=Lib.hid hz
 have Hw1:=Lib.hid hw1
 clear hst hold hz hw1
 go_enter Tryz.func279,Tryz.ntmps279
 go_wp2_with (first | (refine wpList_load_row rfl 335 _ rfl g rfl 335 _ _ _ hr Tryz.underlying335 rfl (by rw [Bs.size,hs];exact Aes.info16) ?_) | (refine wpList_store_mid rfl 335 _ _ rfl w.heap.size 0 (Bs.vals s) rfl rfl Hz.out (by rw [Bs.size,hs];exact Aes.info16) (Bs.one s) ?_))
 rw [show (w.alloc (.cells #[.int .u8 0,.int .u8 0,.int .u8 0,.int .u8 0,.int .u8 0,.int .u8 0,.int .u8 0,.int .u8 0,.int .u8 0,.int .u8 0,.int .u8 0,.int .u8 0,.int .u8 0,.int .u8 0,.int .u8 0,.int .u8 0] 335)).setCells w.heap.size 0 (Bs.vals s).toList=w1 from Hw1.out]
 go_loopw [9] (fun vi wr=>MvAt g (Aes.move b s) s w vi wr) (fun vi _=>16-(intOf vi).toNat)
 case atStart=>exact⟨Hst.out,Hold.out⟩
 case round=>
  clear Hst Hold Hz Hw1
  obtain⟨⟨i,hi,rfl,hri,hki⟩,hold⟩:=hrel
  by_cases hlt16:i<16
  · have hml:((i+4*b*(i%4))%16)<16:=Nat.mod_lt _ (by decide)
    have hsl:i<(Bs.upTo i (Aes.move b s) s).length:=by rw [Bs.upTo_length (by rw [Aes.move_length,hs]),hs];exact hlt16
    have hnew:(Aes.move b s).getD i 0=s.getD ((i+4*b*(i%4))%16) 0:=by rw [Aes.move,Aes.range_get hlt16]
    have hcell:wr.cell? ⟨w.heap.size,(i+4*b*(i%4))%16,none⟩=some (U ((Aes.move b s).getD i 0)):=by
     rw [hold.cell,Bs.get _ (by omega),hnew]
    have hthere:wr.cell? ⟨g,i,none⟩=some (U ((Bs.upTo i (Aes.move b s) s).getD i 0)):=by rw [hri.cell i,Bs.get _ hsl]
    have hfr:=hri.frozen i
    have hnext:=Lib.hid (show MvAt g (Aes.move b s) s w _ _ from⟨StAt.next (Aes.move_length b s) hs hlt16 hri hki,hold.other (a:=⟨g,i,none⟩) (by dsimp only;omega) (U ((Aes.move b s).getD i 0))⟩)
    have hnext2:=Lib.hid hnext.out.drew
    have hi16:(i:Int)<16:=by omega
    have hq4:i%4<4:=Nat.mod_lt _ (by decide)
    have hbq:4*b*(i%4)≤4*3*4:=Nat.mul_le_mul (by omega) (by omega)
    have e0:IntKind.i64.wrap (4*(b:Int))=4*(b:Int):=IntWalk.i64_in _ (by omega)
    have e1:(i:Int).tmod 4=((i%4:Nat):Int):=by rw [Int.tmod_eq_emod_of_nonneg (by omega)];omega
    have e2:(i:Int)%4=((i%4:Nat):Int):=by omega
    have e3:IntKind.i64.wrap (4*(b:Int)*((i%4:Nat):Int))=((4*b*(i%4):Nat):Int):=by
     rw [show 4*(b:Int)*((i%4:Nat):Int)=((4*b*(i%4):Nat):Int) from by push_cast;rfl]
     exact IntWalk.i64_in _ (by omega)
    have e3':4*(b:Int)*((i%4:Nat):Int)=((4*b*(i%4):Nat):Int):=by push_cast;rfl
    have e4:IntKind.i64.wrap ((i:Int)+((4*b*(i%4):Nat):Int))=((i+4*b*(i%4):Nat):Int):=by
     rw [show (i:Int)+((4*b*(i%4):Nat):Int)=((i+4*b*(i%4):Nat):Int) from by omega]
     exact IntWalk.i64_in _ (by omega)
    have e4':(i:Int)+((4*b*(i%4):Nat):Int)=((i+4*b*(i%4):Nat):Int):=by omega
    have e5:((i+4*b*(i%4):Nat):Int).tmod 16=(((i+4*b*(i%4))%16:Nat):Int):=by rw [Int.tmod_eq_emod_of_nonneg (by omega)];omega
    have e5':((i+4*b*(i%4):Nat):Int)%16=(((i+4*b*(i%4))%16:Nat):Int):=by omega
    have e6:IntKind.i64.wrap (((i+4*b*(i%4))%16:Nat):Int)=(((i+4*b*(i%4))%16:Nat):Int):=IntWalk.i64_in _ (by omega)
    have e7:IntKind.i64.wrap ((i%4:Nat):Int)=((i%4:Nat):Int):=IntWalk.i64_in _ (by omega)
    have hpb:4*b*(i%4)≤48:=hbq
    have hrb:i+4*b*(i%4)≤64:=by omega
    clear hnew hsl hi hri hki hold hbq hs
    generalize (Aes.move b s).getD i 0=x at*
    generalize (Bs.upTo i (Aes.move b s) s).getD i 0=z at*
    generalize hm:(i+4*b*(i%4))%16=m at*
    have Hm:=Lib.hid hm
    clear hm
    generalize hr':i+4*b*(i%4)=r at*
    clear hr'
    generalize hp':4*b*(i%4)=p at*
    clear hp'
    generalize hq':i%4=q at*
    clear hq'
    have m0:0≤(m:Int):=by omega
    have m1:(m:Int)<16:=by omega
    clear hml hq4 hlt16
    go_wp2
    go_region
    all_goals
     go_wp2
     go_roundw
     case rel=>first | exact hnext.out | exact hnext2.out
     case measure=>simp [intOf];omega
  · have hz:Hid (Row wr g 335 (Bs.vals (Aes.move b s))):=by
     obtain rfl:i=16:=by omega
     rw [Bs.upTo_all (by rw [Aes.move_length];omega) (by omega)] at hri;exact hri
    have hi16:¬ (i:Int)<16:=by omega
    clear hlt16 hi hri
    go_wp2
    go_end0
    exact⟨rfl,hz.out,hki⟩
theorem state_each (g f:Nat) (F:Nat→Nat) (_:∀ x,x<256→F x<256) (eg:∀ args w,(callFunc f args).run Tryz.prog w= .ok (.enter f args) w)
 (hf:∀ x,x<256→∀ W,Calls Tryz.prog f #[U x] W fun e w'=>e= .returned (U (F x))∧Below W.heap.size W w')
 (s:List Nat) (hs:s.length=16) (hsa:Bs.All s) (w:World) (hr:Row w g 335 (Bs.vals s)):
 Calls Tryz.prog 277 #[.pointer (some ⟨g,0,none⟩),.func (.func f) #[] #[]] w fun e w'=>
  e= .returned (.tuple #[])∧Row w' g 335 (Bs.vals (Aes.each F s))∧Keep (fun j=>j≠g) w w':=by
 have hst:StAt g (Aes.each F s) s w (.int .i64 0) w:=⟨0,by decide,rfl,by rw [Bs.upTo_zero];exact hr,Keep.refl _ _⟩
 have Hst:=Lib.hid hst
 have Hf:=Lib.hid hf
 clear hst hf hr
 go_enter Tryz.func277,Tryz.ntmps277
 go_wp2
 go_loopw [7] (fun vi wr=>StAt g (Aes.each F s) s w vi wr) (fun vi _=>16-(intOf vi).toNat)
 case atStart=>exact Hst.out
 case round=>
  clear Hst
  obtain⟨i,hi,rfl,hri,hki⟩:=hrel
  by_cases hlt16:i<16
  · have hsl:i<(Bs.upTo i (Aes.each F s) s).length:=by rw [Bs.upTo_length (by rw [Aes.each_length,hs]),hs];exact hlt16
    have hcell:wr.cell? ⟨g,i,none⟩=some (U (s.getD i 0)):=by
     rw [hri.cell i,Bs.get _ hsl,Bs.upTo_get (by rw [Aes.each_length,hs]) (Nat.le_refl _)]
    have hcell2:wr.drew.cell? ⟨g,i,none⟩=some (U (s.getD i 0)):=hcell
    have hnew:(Aes.each F s).getD i 0=F (s.getD i 0):=by rw [Aes.each,Aes.range_get hlt16]
    have hcall:=Hf.out (s.getD i 0) (hsa i)
    rw [← hnew] at hcall
    have Hcall:=Lib.hid hcall
    have hnext:=Lib.hid (fun(w1:World) (h:Below wr.heap.size wr w1)=>StAt.next (w:=w) (wr:=w1) (Aes.each_length F s) hs hlt16 (hri.below h hri.lt) (hki.call h))
    have hlt:=hri.lt
    have hfr:=hri.frozen i
    have hi16:(i:Int)<16:=by omega
    clear hsl hlt16 hi hri hki hcall hnew hsa
    generalize (Aes.each F s).getD i 0=x at*
    generalize s.getD i 0=z at*
    go_wp2
    go_quiet (fail)
    go_wp2
    have hc3:(wr.drewN (nq+1)).cell? ⟨g,i,none⟩=some (U z):=hcell
    have hf3:(wr.drewN (nq+1)).frozen? ⟨g,i,none⟩=false:=hfr
    go_region_with (refine(Hcall.out _).mono ?_;rintro e w1 ⟨rfl,hb1⟩;have k1:=cell_below hb1 hc3;have k2:=(frozen_below hb1 hc3).trans hf3)
    all_goals
     have hnx:=Lib.hid (hnext.out _ (below_drewN hb1))
     have hnx2:=Lib.hid hnx.out.drew
     go_wp2
     go_roundw
     case rel=>first | exact hnx.out | exact hnx2.out
     case measure=>simp [intOf];omega
  · have hz:Hid (Row wr g 335 (Bs.vals (Aes.each F s))):=by
     obtain rfl:i=16:=by omega
     rw [Bs.upTo_all (by rw [Aes.each_length];omega) (by omega)] at hri;exact hri
    have hi16:¬ (i:Int)<16:=by omega
    clear hlt16 hi hri
    go_wp2
    go_end0
    exact⟨rfl,hz.out,hki⟩
def ColAt (g:Nat) (new s:List Nat) (w:World) (vi:Value) (wr:World):Prop:=
 ∃ o:Nat,o≤16∧o%4=0∧vi= .int .i64 (o:Int)∧Row wr g 335 (Bs.vals (Bs.upTo o new s))∧Keep (fun k=>k≠g) w wr
theorem Aes.slice_lh (g o:Nat) (ho:o≤12) (W:World):
 (Instr.sliceAt 335 (.pointer (some ⟨g,0,none⟩)) (some (.int .i64 (o:Int))) (some (.int .i64 ((o:Int)+4))) none).run Tryz.prog W= .ok (.slice (some ⟨g,o,none⟩) 4 (16-o)) W:=by
 have hal:Tryz.prog.arrayLen 335=16:=by kernel_rfl
 have hel:Tryz.prog.elem 335=5:=by kernel_rfl
 rw [run_sliceAt_array_lh (P:=Tryz.prog) W 335 ⟨g,0,none⟩ (by rw [hal,hel];exact Tryz.underlying335) .i64 .i64 o ((o:Int)+4) (by omega) (by omega) (by rw [hal];omega)]
 rw [hel,run_sizeOf W (i:=(Tryz.prog.info? 5).getD default) (by kernel_rfl),Aes.cells16,hal]
 simp only [Result.andThen_ok,slicedAt,Int.toNat_natCast,Nat.mul_one]
 rw [if_neg (by omega),show((o:Int)+4).toNat-o=4 by omega,Addr.add_mid,Nat.zero_add]
theorem Aes.array_at (a:Addr) (c:Nat) (W:World):(Instr.arrayAt 244 (.slice (some a) 4 c)).run Tryz.prog W= .ok (.pointer (some a)) W:=by
 simp [Instr.arrayAt,run_underlying Tryz.underlying244]
theorem Aes.slice_l (g o:Nat) (ho:o≤12) (W:World):
 (Instr.sliceAt 335 (.pointer (some ⟨g,0,none⟩)) (some (.int .i64 (o:Int))) none none).run Tryz.prog W= .ok (.slice (some ⟨g,o,none⟩) (16-o) (16-o)) W:=by
 have hal:Tryz.prog.arrayLen 335=16:=by kernel_rfl
 have hel:Tryz.prog.elem 335=5:=by kernel_rfl
 rw [run_sliceAt_array_l (P:=Tryz.prog) W 335 ⟨g,0,none⟩ (by rw [hal,hel];exact Tryz.underlying335) .i64 o (by omega) (by rw [hal];omega)]
 rw [hel,run_sizeOf W (i:=(Tryz.prog.info? 5).getD default) (by kernel_rfl),Aes.cells16,hal]
 simp only [Result.andThen_ok,slicedAt,Int.toNat_natCast,Nat.mul_one]
 rw [if_neg (by omega),Addr.add_mid,Nat.zero_add]
theorem state_columns (g f:Nat) (F:List Nat→Nat→Nat) (_:∀ c j,F c j<256) (eg:∀ args w,(callFunc f args).run Tryz.prog w= .ok (.enter f args) w)
 (hf:∀ x0 x1 x2 x3,x0<256→x1<256→x2<256→x3<256→∀ W,Calls Tryz.prog f #[.agg #[U x0,U x1,U x2,U x3]] W fun e w'=>
  e= .returned (.agg #[U (F [x0,x1,x2,x3] 0),U (F [x0,x1,x2,x3] 1),U (F [x0,x1,x2,x3] 2),U (F [x0,x1,x2,x3] 3)])∧Below W.heap.size W w')
 (s:List Nat) (hs:s.length=16) (hsa:Bs.All s) (w:World) (hr:Row w g 335 (Bs.vals s)):
 Calls Tryz.prog 280 #[.pointer (some ⟨g,0,none⟩),.func (.func f) #[] #[]] w fun e w'=>
  e= .returned (.tuple #[])∧Row w' g 335 (Bs.vals (Aes.columns F s))∧Keep (fun j=>j≠g) w w':=by
 have hst:ColAt g (Aes.columns F s) s w (.int .i64 0) w:=⟨0,by decide,rfl,rfl,by rw [Bs.upTo_zero];exact hr,Keep.refl _ _⟩
 have Hst:=Lib.hid hst
 have Hf:=Lib.hid hf
 clear hst hf hr
 go_enter Tryz.func280,Tryz.ntmps280
 go_wp2
 go_loopw [4] (fun vi wr=>ColAt g (Aes.columns F s) s w vi wr) (fun vi _=>16-(intOf vi).toNat)
 case atStart=>exact Hst.out
 case round=>
  clear Hst
  obtain⟨o,ho,ho4,rfl,hri,hki⟩:=hrel
  by_cases hlt4:o<16
  · have hnl:=Aes.columns_length F s
    have ho12:o≤12:=by omega
    have hlen:(Bs.upTo o (Aes.columns F s) s).length=16:=by rw [Bs.upTo_length (by rw [hnl,hs]),hs]
    have hcell:∀ j,o≤j→j<16→wr.cell? ⟨g,j,none⟩=some (U (s.getD j 0)):=fun j h1 h2=>by
     rw [hri.cell j,Bs.get _ (by omega),Bs.upTo_get (by rw [hnl,hs]) h1]
    have q0:=hcell o (by omega) (by omega)
    have q1:=hcell (o+1) (by omega) (by omega)
    have q2:=hcell (o+2) (by omega) (by omega)
    have q3:=hcell (o+3) (by omega) (by omega)
    have hnew:∀ j,j<4→F [s.getD o 0,s.getD (o+1) 0,s.getD (o+2) 0,s.getD (o+3) 0] j=(Aes.columns F s).getD (o+j) 0:=fun j hj=>by
     rw [Aes.columns,Aes.range_get (by omega),show 4*((o+j) / 4)=o by omega,show(o+j)%4=j by omega]
    have hcall:=Hf.out _ _ _ _ (hsa o) (hsa (o+1)) (hsa (o+2)) (hsa (o+3))
    rw [hnew 0 (by decide),hnew 1 (by decide),hnew 2 (by decide),hnew 3 (by decide),Nat.add_zero] at hcall
    have hspl:=Lib.hid (Bs.splice_upTo (o:=o) (new:=Aes.columns F s) (old:=s) (by rw [hnl,hs]) (by omega))
    have Hcall:=Lib.hid hcall
    have Hri:=Lib.hid hri
    have Hki:=Lib.hid hki
    have hi16:(o:Int)<16:=by omega
    have hi12:(o:Int)+4≤16:=by omega
    have hne:¬ 16=o:=by omega
    have Hlen:=Lib.hid hlen
    have Ho4:=Lib.hid ho4
    have hs1:=Aes.slice_lh g o ho12 wr
    have hs2:=Aes.slice_l g o ho12
    have hs3:=Aes.array_at ⟨g,o,none⟩ (16-o) wr
    clear ho4 hnew hcall hcell hri hki hlt4 ho hsa hs hnl hlen
    generalize s.getD o 0=z0 at*
    generalize s.getD (o+1) 0=z1 at*
    generalize s.getD (o+2) 0=z2 at*
    generalize s.getD (o+3) 0=z3 at*
    generalize (Aes.columns F s).getD o 0=n0 at*
    generalize (Aes.columns F s).getD (o+1) 0=n1 at*
    generalize (Aes.columns F s).getD (o+2) 0=n2 at*
    generalize (Aes.columns F s).getD (o+3) 0=n3 at*
    go_wp2_with fail
    refine(Hcall.out _).mono ?_
    rintro e w1 ⟨rfl,hb1⟩
    have hrw:Row (w1.alloc (.cells #[U n0,U n1,U n2,U n3] 244)).drew g 335 ((Bs.upTo o (Aes.columns F s) s).map U).toArray:=(Hri.out.below hb1 Hri.out.lt).alloc _
    have hkw:Keep (fun k=>k≠g) w (w1.alloc (.cells #[U n0,U n1,U n2,U n3] 244)).drew:=((Hki.out.call hb1).alloc _).drew
    have hsrc:∀ j v,[U n0,U n1,U n2,U n3][j]? =some v→(w1.alloc (.cells #[U n0,U n1,U n2,U n3] 244)).drew.cell? ((⟨w1.heap.size,0,none⟩:Addr).add j)=some v:=fun j v hv=>by
     rw [Addr.add_mid,Nat.zero_add]
     exact((Row.new w1 244 #[U n0,U n1,U n2,U n3]).cell j).trans (by simpa using hv)
    have Hrw:=Lib.hid hrw
    have Hkw:=Lib.hid hkw
    have Hsrc:=Lib.hid hsrc
    clear hrw hkw hsrc hb1
    go_wp2_with fail
    have hlo:o+4≤((Bs.upTo o (Aes.columns F s) s).map U).length:=by rw [List.length_map];have:=Hlen.out;omega
    have Hlo:=Lib.hid hlo
    clear hlo
    go_region_law (refine step_copy_keep rfl (.tmp 23) (.tmp 24) 42 42 rfl 5 Tryz.underlying42 (by kernel_rfl) g o (16-o) (16-o) ⟨w1.heap.size,0,none⟩ 4 4 rfl rfl _ 335 Hrw.out [U n0,U n1,U n2,U n3] (Nat.min_eq_left (by omega:4≤16-o)).symm Hsrc.out Hlo.out (by simp [Value.oneCell']) ?_;intro w2 hg2 hk2)
    all_goals
     have hnx:Hid (ColAt g (Aes.columns F s) s w (.int .i64 ((o:Int)+4)) w2):=by
      refine⟨o+4,by omega,by have:=Ho4.out;omega,by rfl,?_,(Hkw.out).trans hk2⟩
      have h:=hg2.out
      rw [hspl.out] at h
      exact h
     clear hg2 hk2
     go_wp2
     go_roundw
     case rel=>exact hnx.out
     case measure=>simp [intOf];omega
  · have hz:Hid (Row wr g 335 (Bs.vals (Aes.columns F s))):=by
     obtain rfl:o=16:=by omega
     rw [Bs.upTo_all (by rw [Aes.columns_length];omega) (by omega)] at hri;exact hri
    have hi16:¬ (o:Int)<16:=by omega
    clear hlt4 ho hri
    go_wp2
    go_end0
    exact⟨rfl,hz.out,hki⟩
theorem Aes.index4w (x0 x1 x2 x3 k:Nat) (hk:k<4) (w:World):
 (Instr.index 353 (.agg #[U x0,U x1,U x2,U x3]) (.int .i64 (k:Int))).run Tryz.prog w= .ok (U ([x0,x1,x2,x3].getD k 0)) w:=
 run_index_bytes (l:=[x0,x1,x2,x3]) Tryz.underlying353 Tryz.underlying5 (i:=(Tryz.prog.info? 5).getD default) (by kernel_rfl) Aes.cells16 rfl hk w
def SubAt (g:Nat) (x:List Nat) (w:World) (vi:Value) (wr:World):Prop:=
 ∃ i:Nat,i≤4∧vi= .int .i64 i∧Row wr g 353 (Bs.vals (Bs.upTo i (x.map Fld.sub) x))∧Row wr (g+1) 353 #[U 0,U 0,U 0,U 0]∧Below w.heap.size w wr
theorem word_sub (x0 x1 x2 x3:Nat) (h0:x0<256) (h1:x1<256) (h2:x2<256) (h3:x3<256) (w:World):
 Calls Tryz.prog 299 #[.agg #[U x0,U x1,U x2,U x3]] w fun e w'=>
  e= .returned (.agg #[U (Fld.sub x0),U (Fld.sub x1),U (Fld.sub x2),U (Fld.sub x3)])∧Below w.heap.size w w':=by
 have hst:SubAt w.heap.size [x0,x1,x2,x3] w (.int .i64 0) ((w.alloc (.cells #[U x0,U x1,U x2,U x3] 353)).alloc (.cells #[U 0,U 0,U 0,U 0] 353)):=by
  refine⟨0,by decide,rfl,(Row.new _ _ _).alloc _,?_,((Below.refl _ _).alloc (Nat.le_refl _) _).alloc (by simp) _⟩
  have h:=Row.new (w.alloc (.cells #[U x0,U x1,U x2,U x3] 353)) 353 #[U 0,U 0,U 0,U 0]
  rw [World.size_alloc] at h;exact h
 have Hst:=Lib.hid hst
 clear hst
 have hall:=Fld.bytes4 h0 h1 h2 h3
 go_enter Tryz.func299,Tryz.ntmps299
 go_wp2
 go_loopw [6] (fun vi wr=>SubAt w.heap.size [x0,x1,x2,x3] w vi wr) (fun vi _=>4-(intOf vi).toNat)
 case atStart=>exact Hst.out
 case round=>
  clear Hst
  obtain⟨i,hi,rfl,hri,hr2,hB⟩:=hrel
  by_cases hlt4:i<4
  · have hidx:=Aes.index4w x0 x1 x2 x3 i hlt4 wr
    have hx:=hall i
    have hcell:wr.cell? ⟨w.heap.size,i,none⟩=some (U ((Bs.upTo i ([x0,x1,x2,x3].map Fld.sub) [x0,x1,x2,x3]).getD i 0)):=by
     rw [hri.cell i,Bs.get _ (by rw [Bs.upTo_length (by simp)];exact hlt4)]
    have hfr:=hri.frozen i
    have hnew:([x0,x1,x2,x3].map Fld.sub).getD i 0=Fld.sub ([x0,x1,x2,x3].getD i 0):=by
     rcases i with _ | _ | _ | _ | i <;> first | rfl | omega
    have hnext:∀ w1,Below wr.heap.size wr w1→SubAt w.heap.size [x0,x1,x2,x3] w (.int .i64 ((i:Int)+1)) (w1.setCell ⟨w.heap.size,i,none⟩ (U (Fld.sub ([x0,x1,x2,x3].getD i 0)))):=fun w1 h=>by
     refine⟨i+1,hlt4,rfl,?_,(hr2.below h hr2.lt).other (by dsimp only;omega) _,(hB.trans (h.mono hB.size)).setCell (p:=⟨w.heap.size,i,none⟩) (Nat.le_refl _) _⟩
     have k:=(hri.below h hri.lt).store i (U (([x0,x1,x2,x3].map Fld.sub).getD i 0))
     rw [Bs.set,Bs.upTo_set (by simp) (by simpa using hlt4),hnew] at k
     exact k
    have Hnext:=Lib.hid hnext
    have hi4:(i:Int)<4:=by omega
    clear hnext hnew hri hr2 hB hlt4 hi
    generalize [x0,x1,x2,x3].getD i 0=y at*
    generalize (Bs.upTo i ([x0,x1,x2,x3].map Fld.sub) [x0,x1,x2,x3]).getD i 0=z at*
    have Hy:=Lib.hid hx
    clear hx
    go_wp2_with fail
    refine(sub_any y (by omega) (by have:=Hy.out;omega) _).mono ?_
    rw [Int.toNat_natCast]
    rintro e w1 ⟨rfl,hb1⟩
    have hnx:=Lib.hid (Hnext.out w1 hb1)
    have k1:=cell_below hb1 hcell
    have k2:=(frozen_below hb1 hcell).trans hfr
    go_wp2
    go_roundw
    case rel=>exact hnx.out
    case measure=>simp [intOf];omega
  · obtain rfl:i=4:=by omega
    have hr4:Row wr w.heap.size 353 #[U (Fld.sub x0),U (Fld.sub x1),U (Fld.sub x2),U (Fld.sub x3)]:=hri
    obtain⟨⟨q0,q1,q2,q3⟩,-⟩:=row_four hr4
    obtain⟨⟨p0,p1,p2,p3⟩,f0,f1,f2,f3⟩:=row_four hr2
    have Hr2:=Lib.hid hr2
    have HB:=Lib.hid hB
    clear hri hr4 hr2 hB
    go_wp2
    have hfin:=(((Hr2.out.store 0 (U (Fld.sub x0))).store 1 (U (Fld.sub x1))).store 2 (U (Fld.sub x2))).store 3 (U (Fld.sub x3))
    refine bodyPost_ret (v:= .agg #[U (Fld.sub x0),U (Fld.sub x1),U (Fld.sub x2),U (Fld.sub x3)]) (results_cell_row rfl _ _ _ _ _ _ _ rfl hfin Tryz.underlying353 rfl (by kernel_rfl)) rfl ⟨rfl,?_⟩
    exact(((HB.out.setCell (p:=⟨w.heap.size+1,0,none⟩) (by dsimp only;omega) _).setCell (p:=⟨w.heap.size+1,1,none⟩) (by dsimp only;omega) _).setCell (p:=⟨w.heap.size+1,2,none⟩) (by dsimp only;omega) _).setCell (p:=⟨w.heap.size+1,3,none⟩) (by dsimp only;omega) _
end Go.Proofs.YtpnbkfboneabaaaGreat
