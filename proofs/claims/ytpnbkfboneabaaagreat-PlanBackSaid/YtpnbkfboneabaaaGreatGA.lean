import Derived.RangeFuncNested
import Derived.RangeFuncBound
import Derived.RangeFuncCalls
import Derived.RangeFuncLeaves
import Derived.Laws.Rows
import Derived.ChangeKeysEq
import Derived.Deep.MidRow
import Derived.Deep.Draws
import Derived.Laws.CopyOwn
import Derived.Lib.ConvBytes
import Derived.Laws.AppendOwn
import Derived.Laws.OwnMore
import Derived.OwnWalk
import Derived.Test.YtpnbkfboneabaaaGreatChecked
import Derived.WalkKit
import Derived.ProofKit
import Derived.BigQuiet
import Derived.Lib.Hide
import Derived.Laws.BytesString
import Derived.StillTailTactics
import Derived.OrdersIn
namespace Go.Proofs.YtpnbkfboneabaaaGreat
open Go.RowKit
structure Keep (S:Nat→Prop) (w w':World):Prop where
 os:w'.os=w.os
 tape:w'.tape=w.tape
 output:w'.output=w.output
 size:w.heap.size≤w'.heap.size
 block:∀ k,S k→k<w.heap.size→w'.heap[k]? =w.heap[k]?
namespace Keep
variable {S T:Nat→Prop} {a b c w w':World}
theorem refl (S:Nat→Prop) (w:World):Keep S w w:=⟨rfl,rfl,rfl,Nat.le_refl _,fun _ _ _=>rfl⟩
theorem trans (h:Keep S a b) (k:Keep S b c):Keep S a c:=
 ⟨k.os.trans h.os,k.tape.trans h.tape,k.output.trans h.output,Nat.le_trans h.size k.size,fun i hi hl=>(k.block i hi (Nat.lt_of_lt_of_le hl h.size)).trans (h.block i hi hl)⟩
theorem mono (h:Keep S a b) (hs:∀ k,T k→k<a.heap.size→S k):Keep T a b:=⟨h.os,h.tape,h.output,h.size,fun k hk hl=>h.block k (hs k hk hl) hl⟩
theorem drew (h:Keep S a w):Keep S a w.drew:=⟨h.os,h.tape,h.output,h.size,h.block⟩
theorem alloc (h:Keep S a w) (o:Obj):Keep S a (w.alloc o):=
 h.trans ⟨rfl,rfl,rfl,by simp,fun k _ hl=>Below.heap_alloc _ _ _ hl⟩
theorem setCell (h:Keep S a w) {p:Addr} (hp:S p.block→a.heap.size≤p.block) (u:Value):Keep S a (w.setCell p u):=
 ⟨h.os,h.tape,h.output,by have:=h.size;simp [World.setCell];exact this,fun k hk hl=>by
  refine(Below.heap_setCell _ _ _ _ ?_).trans (h.block k hk hl)
  rintro rfl
  exact absurd hl (Nat.not_lt.2 (hp hk))⟩
theorem putObj (h:Keep S a w) {l:Nat} (hp:S l→a.heap.size≤l) (o:Obj):Keep S a (w.putObj l o):=
 ⟨h.os,h.tape,h.output,by rw [World.putObj_size];exact h.size,fun k hk hl=>by
  refine(World.putObj_heap_other ?_).trans (h.block k hk hl)
  rintro rfl
  exact absurd hl (Nat.not_lt.2 (hp hk))⟩
theorem below (h:Below a.heap.size a b):Keep S a b:=⟨h.os,h.tape,h.output,h.size,fun k _ hl=>h.block k hl⟩
theorem call (h:Keep S a b) (k:Below b.heap.size b c):Keep S a c:=h.trans (.below k)
theorem toBelow (h:Keep S a b) (hs:∀ k,k<a.heap.size→S k):Below a.heap.size a b:=⟨h.os,h.tape,h.output,h.size,fun k hk=>h.block k (hs k hk) hk⟩
theorem heap (h:Keep S a b) {k:Nat} {o:Obj} (hk:S k) (ho:a.heap[k]? =some o):b.heap[k]? =some o:=(h.block k hk (Array.getElem?_eq_some_iff.1 ho).1).trans ho
theorem cell (h:Keep S a b) {p:Addr} {v:Value} (hp:S p.block) (hc:a.cell? p=some v):b.cell? p=some v:=by
 obtain⟨o,ho,_⟩:=cells_of_cell hc
 exact(World.cell?_of_block (h.block _ hp (Array.getElem?_eq_some_iff.1 ho).1)).trans hc
theorem frozen (h:Keep S a b) {p:Addr} {v:Value} (hp:S p.block) (hc:a.cell? p=some v):b.frozen? p=a.frozen? p:=by
 obtain⟨o,ho,_⟩:=cells_of_cell hc
 exact World.frozen?_of_block (h.block _ hp (Array.getElem?_eq_some_iff.1 ho).1)
end Keep
theorem below_seq {a b c:World} (h:Below a.heap.size a b) (k:Below b.heap.size b c):Below a.heap.size a c:=h.trans (k.mono h.size)
theorem below_putObj {B:Nat} {a w:World} (h:Below B a w) {l:Nat} (hl:B≤l) (o:Obj):Below B a (w.putObj l o):=
 ⟨h.os,h.tape,h.output,by rw [World.putObj_size];exact h.size,fun k hk=>(World.putObj_heap_other (by omega)).trans (h.block k hk)⟩
theorem heap_setCell_other {w:World} {k:Nat} {o:Obj} (h:w.heap[k]? =some o) (a:Addr) (hne:k≠a.block) (v:Value):(w.setCell a v).heap[k]? =some o:=(Below.heap_setCell _ _ _ _ hne).trans h
theorem cell_putObj {w:World} {a:Addr} {v:Value} (h:w.cell? a=some v) {l:Nat} (hne:a.block≠l) (o:Obj):(w.putObj l o).cell? a=some v:=(World.cell?_of_block (World.putObj_heap_other hne)).trans h
def Stable {β:Type} (S:Nat→Prop) (I:β→World→Prop):Prop:=∀ s A B,I s A→Keep S A B→I s B
def YieldW (P:Program) (l:Nat) (args:Array Value) (W:World) (R:Ending→World→Prop):Prop:=
 ∃ fn tmps assign body,(Instr.yield l args).run P W= .ok (.round l fn tmps assign body) W∧∀ m,RoundIn Fence.wide m P l fn tmps assign body W R
def SeqK {α:Type} (P:Program) (g:Nat) (lb:Array Value) (encs:α→Array Value) (xs:List α) (priv need:Nat→Prop) (w:World):Prop:=
 ∀(l:Nat) (J Jx:List α→World→Prop) (W:World),Keep need w W→Stable (fun k=>¬ priv k) J→Stable (fun k=>¬ priv k) Jx→
  (∀ pre x rest,xs=pre++x::rest→∀ W1,J pre W1→YieldW P l (encs x) W1 fun e W'=>
   (e= .returned (.bool true)∧J (pre++[x]) W'∧Keep need W1 W')∨(e= .returned (.bool false)∧Jx (pre++[x]) W'))→
  J [] W→
  Calls P g (#[.func (.yield l) #[] #[]]++lb) W fun e W'=>(∃ v,e= .returned v)∧(J xs W'∨∃ pre suf,pre++suf=xs∧Jx pre W')
def keepPost {α:Type} (mine:Nat→Prop) (I:List α→World→Prop) (Ix:Code→List α→World→Prop) (xs:List α) (W:World):Exit→Act→World→Prop
 | .normal,_,W'=>Keep (fun k=>¬ mine k) W W'∧I xs W'
 | .ret,_,W'=>Keep (fun k=>¬ mine k) W W'∧Ix .ret xs W'
 | .exit id,_,W'=>Keep (fun k=>¬ mine k) W W'∧Ix (.exit id) xs W'
 | .goto t,_,W'=>Keep (fun k=>¬ mine k) W W'∧Ix (.goto t) xs W'
 | .panic _,_,_=>False
 | .outgrown,_,_=>False
variable {P:Program}
theorem wp_range {α:Type} {g:Operand} {ps:Array Tmp} {assign body:Code} {Q:Exit→Act→World→Prop} {a:Act} {w:World} {n:Nat}
 {gf:Nat} {lb:Array Value} (hg:a.eval g= .func (.func gf) #[] lb) (eg:∀ args w,(callFunc gf args).run P w= .ok (.enter gf args) w)
 {encs:α→Array Value} {xs:List α} {priv need:Nat→Prop} (hseq:SeqK P gf lb encs xs priv need w)
 (hpriv:∀ k,priv k→k<w.heap.size) (hneed:∀ k,need k→k<w.heap.size) (hps:∀ x,(encs x).size=ps.size)
 (mine:Nat→Prop) (hmine:∀ k,mine k→k<w.heap.size∧¬ need k)
 (I:List α→World→Prop) (Ix:Code→List α→World→Prop)
 (hI:Stable (fun k=>¬ priv k∧k≠w.heap.size∧k≠w.heap.size+1) I) (hIx:∀ c,Stable (fun k=>¬ priv k∧k≠w.heap.size∧k≠w.heap.size+1) (Ix c)) (h0:I [] w)
 (hbody:∀(l:Nat) (pre:List α) (x:α) (rest:List α) (W:World),xs=pre++x::rest→w.heap.size+2≤W.heap.size→I pre W→
  assign.wpIn (Fence.wide.inRound l) n P (Exit.then (fun a₁ W2=>Keep (fun k=>¬ mine k) W W2∧∀ W3,Keep (fun k=>k≠w.heap.size+1) W2 W3→W3.heap.size=W2.heap.size→
   body.wpIn (Fence.wide.inRound l) n P (keepPost mine I Ix (pre++[x]) W3) a₁ W3) (fun _ _ _=>False))
   { tmps:=(ps.zip (encs x)).foldl (fun t (p,v)=>t.setIfInBounds p v) a.tmps,defers:=[] } W)
 (hdone:∀(W:World),I xs W→w.heap.size+2≤W.heap.size→W.heap[w.heap.size]? =some (.deferred (some []))→Q .normal { a with defers:={ target:= .collected w.heap.size,args:=#[] }::a.defers } W)
 (hstop:∀(c:Code) (pre suf:List α) (W:World),pre++suf=xs→Ix c pre W→w.heap.size+2≤W.heap.size→W.heap[w.heap.size]? =some (.deferred (some []))→
  c.wpIn Fence.wide n P Q { a with defers:={ target:= .collected w.heap.size,args:=#[] }::a.defers } W):
 (Code.rangeFunc g ps assign body).wpIn Fence.wide n P Q a w:=by
 refine wpIn_rangeFunc ?_
 intro fn hfn
 rw [show Fence.wide.round=none from rfl]
 obtain⟨rec,hrec⟩:∃ rec:LoopState→Option Code→Loop,rec=fun st pe=>{ state:=st,pending:=pe,fn,tmps:=a.tmps,params:=ps,assign,body,defers:=w.heap.size }:=⟨_,rfl⟩
 obtain⟨W1,hW1⟩:∃ W1,(w.alloc (.deferred (some []))).alloc (.loop (rec .ready none))=W1:=⟨_,rfl⟩
 have hL1:W1.heap[w.heap.size+1]? =some (.loop (rec .ready none)):=by
  rw [← hW1];have:=World.alloc_heap_new (w.alloc (.deferred (some []))) (.loop (rec .ready none));rwa [World.size_alloc] at this
 have hK1:W1.heap[w.heap.size]? =some (.deferred (some [])):=by
  rw [← hW1];exact(Below.heap_alloc _ _ _ (by simp)).trans (World.alloc_heap_new w _)
 have hk1:Keep (fun _=>True) w W1:=by rw [← hW1];exact((Keep.refl _ _).alloc _).alloc _
 have hs1:W1.heap.size=w.heap.size+2:=by rw [← hW1];simp
 have hI1:I [] W1:=hI _ _ _ h0 (hk1.mono fun _ _ _=>trivial)
 refine⟨w.heap.size+1,[{ target:= .collected w.heap.size,args:=#[] }],W1,{ target:= .fn (.func gf) lb,args:=#[.func (.yield (w.heap.size+1)) #[] #[]] },W1,gf,
  #[.func (.yield (w.heap.size+1)) #[] #[]]++lb,W1,?_,?_,?_,?_,fun h=>(by cases h),?_⟩
 · rw [← hW1,hrec];exact run_enterLoop_outer _ _ _ _ _
 · simp only [resolve,hg]
   simp [go_sem]
 · intro f' _;trivial
 · simp [invoke,go_sem,eg]
 · have hnp:∀ k,w.heap.size≤k→¬ priv k:=fun k hk hp=>by have:=hpriv k hp;omega
   have hnm:∀ k,w.heap.size≤k→¬ mine k:=fun k hk hp=>by have:=(hmine k hp).1;omega
   -- what a round,or the iterator,leaves of the two blocks
   refine callsIn_wide.2 ((hseq (w.heap.size+1)
    (fun pre W=>I pre W∧w.heap.size+2≤W.heap.size∧W.heap[w.heap.size+1]? =some (.loop (rec .ready none))∧W.heap[w.heap.size]? =some (.deferred (some [])))
    (fun pre W=>∃ c,Ix c pre W∧w.heap.size+2≤W.heap.size∧W.heap[w.heap.size+1]? =some (.loop (rec .done (some c)))∧W.heap[w.heap.size]? =some (.deferred (some [])))
    W1 (hk1.mono fun _ _ _=>trivial)
    (fun s A B hs hk=>⟨hI s A B hs.1 (hk.mono fun k h _=>h.1),Nat.le_trans hs.2.1 hk.size,hk.heap (hnp _ (by omega)) hs.2.2.1,hk.heap (hnp _ (by omega)) hs.2.2.2⟩)
    (fun s A B hs hk=>by
     obtain⟨c,hc,hz,hl,hd⟩:=hs
     exact⟨c,hIx c s A B hc (hk.mono fun k h _=>h.1),Nat.le_trans hz hk.size,hk.heap (hnp _ (by omega)) hl,hk.heap (hnp _ (by omega)) hd⟩)
    ?_ ⟨hI1,by omega,hL1,hK1⟩).mono ?_)
   · rintro pre x rest hxs W ⟨hi,hz,hl,hd⟩
     have hy:=run_yield (P:=P) (args:=encs x) hl (by rw [hrec];exact hps x)
     rw [hrec] at hy
     refine⟨fn,_,assign,body,hy,fun m=> ?_⟩
     suffices hR:RoundIn Fence.wide n P (w.heap.size+1) fn ((ps.zip (encs x)).foldl (fun t (p,v)=>t.setIfInBounds p v) a.tmps) assign body W _ from⟨hR.1,fun c cs _=>hR.2 c cs (room_wide _)⟩
     refine roundIn_of_wpIn hfn (wpIn_mono (hbody (w.heap.size+1) pre x rest W hxs hz hi) ?_)
     rintro e a₁ W2 hp
     cases e with
     | normal=>
       obtain⟨hk2,hnext⟩:=hp
       have hl2:=hk2.heap (hnm _ (by omega)) hl
       have hd2:=hk2.heap (hnm _ (by omega)) hd
       have hz2:=Nat.le_trans hz hk2.size
       refine⟨_,run_beginRound hl2 (by rw [hrec]),?_⟩
       have hl3:(W2.putObj (w.heap.size+1) (.loop { rec .ready none with state:= .busy })).heap[w.heap.size+1]? =some (.loop { rec .ready none with state:= .busy }):=World.putObj_heap_same (Array.getElem?_eq_some_iff.1 hl2).1
       have hd3:(W2.putObj (w.heap.size+1) (.loop { rec .ready none with state:= .busy })).heap[w.heap.size]? =some (.deferred (some [])):=(World.putObj_heap_other (by omega)).trans hd2
       have hk3:Keep (fun k=>k≠w.heap.size+1) W2 (W2.putObj (w.heap.size+1) (.loop { rec .ready none with state:= .busy })):=(Keep.refl _ _).putObj (fun h=>absurd rfl h) _
       refine wpIn_mono (hnext _ hk3 World.putObj_size) ?_
       have fin:∀(jump:Option Code) (W3:World),Keep (fun k=>¬ mine k) (W2.putObj (w.heap.size+1) (.loop { rec .ready none with state:= .busy })) W3→
        (Instr.endRound (w.heap.size+1) jump).run P W3= .ok (.bool jump.isNone) (W3.putObj (w.heap.size+1) (.loop (rec (if jump.isNone then .ready else .done) jump)))∧
        Keep (fun k=>k≠w.heap.size+1) W3 (W3.putObj (w.heap.size+1) (.loop (rec (if jump.isNone then .ready else .done) jump)))∧
        w.heap.size+2≤(W3.putObj (w.heap.size+1) (.loop (rec (if jump.isNone then .ready else .done) jump))).heap.size∧
        (W3.putObj (w.heap.size+1) (.loop (rec (if jump.isNone then .ready else .done) jump))).heap[w.heap.size+1]? =some (.loop (rec (if jump.isNone then .ready else .done) jump))∧
        (W3.putObj (w.heap.size+1) (.loop (rec (if jump.isNone then .ready else .done) jump))).heap[w.heap.size]? =some (.deferred (some []))∧
        Keep need W (W3.putObj (w.heap.size+1) (.loop (rec (if jump.isNone then .ready else .done) jump))):=fun jump W3 hk4=>by
        have hl4:=hk4.heap (hnm _ (by omega)) hl3
        have hd4:=hk4.heap (hnm _ (by omega)) hd3
        have:=run_endRound (P:=P) jump hl4
        have hz3:w.heap.size+2≤W3.heap.size:=by have:=hk4.size;rw [World.putObj_size] at this;omega
        rw [hrec] at this ⊢
        refine⟨this,(Keep.refl _ _).putObj (fun h=>absurd rfl h) _,by rw [World.putObj_size];exact hz3,World.putObj_heap_same (Array.getElem?_eq_some_iff.1 hl4).1,(World.putObj_heap_other (by omega)).trans hd4,?_⟩
        have e1:Keep need W W2:=hk2.mono fun k hn _ hm=>(hmine k hm).2 hn
        have e2:Keep need W2 W3:=(hk3.mono fun k hn _=>by have:=hneed k hn;omega).trans (hk4.mono fun k hn _ hm=>(hmine k hm).2 hn)
        exact(e1.trans e2).putObj (fun hn=>by have:=hneed _ hn;omega) _
       rintro e a3 W3 hp
       have stab:∀(c:Option Code) {W4:World},Keep (fun k=>k≠w.heap.size+1) W3 W4→Keep (fun k=>¬ priv k∧k≠w.heap.size∧k≠w.heap.size+1) W3 W4:=fun _ _ hk=>hk.mono fun k h _=>h.2.2
       cases e with
       | normal=>
         obtain⟨hk4,hi4⟩:=hp
         obtain⟨hr,hk5,hz5,hl5,hd5,hn5⟩:=fin none W3 hk4
         exact⟨_,_,hr,.inl ⟨rfl,⟨hI _ _ _ hi4 (stab none hk5),hz5,hl5,hd5⟩,hn5⟩⟩
       | ret=>
         obtain⟨hk4,hi4⟩:=hp
         obtain⟨hr,hk5,hz5,hl5,hd5,hn5⟩:=fin (some .ret) W3 hk4
         exact⟨_,_,hr,.inr ⟨rfl,.ret,hIx _ _ _ _ hi4 (stab none hk5),hz5,hl5,hd5⟩⟩
       | exit id=>
         obtain⟨hk4,hi4⟩:=hp
         obtain⟨hr,hk5,hz5,hl5,hd5,hn5⟩:=fin (some (.exit id)) W3 hk4
         exact⟨_,_,hr,.inr ⟨rfl,.exit id,hIx _ _ _ _ hi4 (stab none hk5),hz5,hl5,hd5⟩⟩
       | goto t=>
         obtain⟨hk4,hi4⟩:=hp
         obtain⟨hr,hk5,hz5,hl5,hd5,hn5⟩:=fin (some (.goto t)) W3 hk4
         exact⟨_,_,hr,.inr ⟨rfl,.goto t,hIx _ _ _ _ hi4 (stab none hk5),hz5,hl5,hd5⟩⟩
       | panic ch=>exact hp.elim
       | outgrown=>exact hp.elim
     | ret=>exact hp.elim
     | exit id=>exact hp.elim
     | goto t=>exact hp.elim
     | panic ch=>exact hp.elim
     | outgrown=>exact hp.elim
   · rintro e W2 ⟨⟨v,rfl⟩,(⟨hi,hz,hl,hd⟩ | ⟨pre,suf,hps',c,hi,hz,hl,hd⟩)⟩
     · have hk5:∀ o,Keep (fun k=>¬ priv k∧k≠w.heap.size∧k≠w.heap.size+1) W2 (W2.putObj (w.heap.size+1) o):=fun o=>(Keep.refl _ _).putObj (fun h=>absurd rfl h.2.2) _
       exact⟨none,_,by have:=run_endLoop (P:=P) hl (by rw [hrec];simp);rw [hrec] at this;exact this,hdone _ (hI _ _ _ hi (hk5 _)) (by rw [World.putObj_size];exact hz) ((World.putObj_heap_other (by omega)).trans hd)⟩
     · have hk5:∀ o,Keep (fun k=>¬ priv k∧k≠w.heap.size∧k≠w.heap.size+1) W2 (W2.putObj (w.heap.size+1) o):=fun o=>(Keep.refl _ _).putObj (fun h=>absurd rfl h.2.2) _
       exact⟨some c,_,by have:=run_endLoop (P:=P) hl (by rw [hrec];simp);rw [hrec] at this;exact this,hstop c pre suf _ hps' (hIx c _ _ _ hi (hk5 _)) (by rw [World.putObj_size];exact hz) ((World.putObj_heap_other (by omega)).trans hd)⟩
end Go.Proofs.YtpnbkfboneabaaaGreat
namespace Go.Proofs.YtpnbkfboneabaaaGreat
open Go.RowKit
abbrev U (n:Nat):Value:= .int .u8 (n:Int)
def Row (W:World) (g:Nat) (t:TypeId) (cs:Array Value):Prop:=W.heap[g]? =some (.cells cs t (0,0))
namespace Row
variable {W W':World} {g:Nat} {t:TypeId} {cs:Array Value}
theorem lt (h:Row W g t cs):g<W.heap.size:=(Array.getElem?_eq_some_iff.1 h).1
theorem cell (h:Row W g t cs) (j:Nat):W.cell? ⟨g,j,none⟩=cs[j]? :=cell_of_row W g j cs t _ h
theorem frozen (h:Row W g t cs) (j:Nat):W.frozen? ⟨g,j,none⟩=false:=by
 simp only [World.frozen?,show W.heap[g]? =_ from h];simp
theorem keep {S:Nat→Prop} (h:Row W g t cs) (hk:Keep S W W') (hg:S g):Row W' g t cs:=hk.heap hg h
theorem below {B:Nat} (h:Row W g t cs) (hk:Below B W W') (hg:g<B):Row W' g t cs:=(hk.block g hg).trans h
theorem drew (h:Row W g t cs):Row W.drew g t cs:=h
theorem store (h:Row W g t cs) (j:Nat) (v:Value):Row (W.setCell ⟨g,j,none⟩ v) g t (cs.setIfInBounds j v):=by
 show(W.heap.modify g _)[g]? =_
 rw [Array.getElem?_modify,if_pos rfl,show W.heap[g]? =_ from h]
 rfl
theorem other (h:Row W g t cs) {a:Addr} (hne:g≠a.block) (v:Value):Row (W.setCell a v) g t cs:=heap_setCell_other h a hne v
theorem alloc (h:Row W g t cs) (o:Obj):Row (W.alloc o) g t cs:=(Below.heap_alloc _ _ _ h.lt).trans h
theorem new (W:World) (t:TypeId) (cs:Array Value):Row (W.alloc (.cells cs t)) W.heap.size t cs:=World.alloc_heap_new _ _
end Row
namespace Bs
abbrev vals (l:List Nat):Array Value:=(l.map U).toArray
theorem get (l:List Nat) {j:Nat} (h:j<l.length):(vals l)[j]? =some (U (l.getD j 0)):=by simp [vals,List.getD_eq_getElem?_getD,h]
theorem set (l:List Nat) (j x:Nat):(vals l).setIfInBounds j (U x)=vals (l.set j x):=by
 simp [vals]
theorem size (l:List Nat):(vals l).size=l.length:=by simp [vals]
theorem one (l:List Nat):(vals l).all (·.oneCell')=true:=by simp [vals,Value.oneCell']
def upTo (i:Nat) (new old:List Nat):List Nat:=new.take i++old.drop i
theorem upTo_zero (new old:List Nat):upTo 0 new old=old:=by simp [upTo]
theorem upTo_all {i:Nat} {new old:List Nat} (h:new.length≤i) (h2:old.length≤i):upTo i new old=new:=by simp [upTo,List.take_of_length_le h,List.drop_eq_nil_of_le h2]
theorem upTo_length {i:Nat} {new old:List Nat} (h:new.length=old.length):(upTo i new old).length=old.length:=by simp [upTo];omega
theorem upTo_get {i j:Nat} {new old:List Nat} (h:new.length=old.length) (hij:i≤j):(upTo i new old).getD j 0=old.getD j 0:=by
 simp only [upTo,List.getD_eq_getElem?_getD,List.getElem?_append,List.length_take]
 by_cases hi:j<min i new.length
 · omega
 · rw [if_neg hi,List.getElem?_drop]
   by_cases hn:i≤new.length
   · rw [show i+(j-min i new.length)=j from by omega]
   · rw [List.getElem?_eq_none (by omega),List.getElem?_eq_none (by omega)]
theorem upTo_set {i:Nat} {new old:List Nat} (h:new.length=old.length) (hi:i<old.length):(upTo i new old).set i (new.getD i 0)=upTo (i+1) new old:=by
 have hn:i<new.length:=by omega
 apply List.ext_getElem
 · simp [upTo];omega
 · intro j h1 h2
   rw [List.getElem_set]
   simp only [upTo,List.getElem_append,List.length_take,List.getElem_take,List.getElem_drop,List.getD_eq_getElem?_getD,List.getElem?_eq_getElem hn,Option.getD_some]
   by_cases e:i=j
   · subst e;rw [if_pos rfl,dif_pos (by omega)]
   · rw [if_neg e]
     by_cases h3:j<i
     · rw [dif_pos (by omega),dif_pos (by omega)]
     · rw [dif_neg (by omega),dif_neg (by omega)]
       congr 1;omega
def All (l:List Nat):Prop:=∀ j,l.getD j 0<256
theorem All.of_mem {l:List Nat} (h:∀ x∈l,x<256):All l:=fun j=>by
 rw [List.getD_eq_getElem?_getD]
 by_cases hj:j<l.length
 · rw [List.getElem?_eq_getElem hj];exact h _ (List.getElem_mem hj)
 · rw [List.getElem?_eq_none (by omega)];exact(by decide:0<256)
theorem All.mem {l:List Nat} (h:All l):∀ x∈l,x<256:=fun x hx=>by
 obtain⟨j,hj,rfl⟩:=List.mem_iff_getElem.1 hx
 have:=h j
 rwa [List.getD_eq_getElem?_getD,List.getElem?_eq_getElem hj] at this
end Bs
theorem run_index_bytes {P:Program} {t e:TypeId} {n:Nat} {l:List Nat} {i:TypeInfo} (ht:P.underlying t=some (.array n e)) (he:P.underlying e=some (.int .u8)) (hi:P.info? e=some i) (hz:P.cellsOf e=1) (hl:l.length=n) {j:Nat} (hj:j<n) (w:World):
 (Instr.index t (.agg (Bs.vals l)) (.int .i64 (j:Int))).run P w= .ok (U (l.getD j 0)) w:=by
 have hagg:(isAgg e).run P w= .ok false w:=by
  unfold isAgg
  rw [Sem.run_bind,run_underlying he w]
  simp
 have hg:=Bs.get l (j:=j) (by omega)
 simp only [Instr.index,asIntOf,Sem.run_bind,Sem.run_pure,Result.andThen_ok,run_underlying ht]
 rw [if_pos (by omega)]
 simp only [Sem.run_bind,run_sizeOf w hi,Result.andThen_ok,hz,Nat.mul_one,Int.toNat_natCast,part,hagg,hg]
 simp
theorem Row.setCells_some {g:Nat} {t:TypeId}:∀(vs:List Value) (o:Nat) (W:World) (cs:Array Value),Row W g t cs→∃ cs':Array Value,Row (W.setCells g o vs) g t cs'∧cs'.size=cs.size
 | [],_,_,cs,h=>⟨cs,h,rfl⟩
 | v::vs,o,W,cs,h=>by
   obtain⟨cs',h1,h2⟩:=Row.setCells_some vs (o+1) _ _ (h.store o v)
   exact⟨cs',h1,by rw [h2];simp⟩
theorem Row.there {W:World} {g:Nat} {t:TypeId} {cs:Array Value} (h:Row W g t cs) {n:Nat} (hn:n≤cs.size):W.there g 0 n:=fun j hj=>by
 refine⟨?_,h.frozen _⟩
 rw [Nat.zero_add,h.cell j,Array.getElem?_eq_getElem (by omega)];rfl
theorem Row.setCells {W:World} {g:Nat} {t:TypeId} {cs:Array Value} (h:Row W g t cs) {vs:List Value} (hl:vs.length=cs.size):Row (W.setCells g 0 vs) g t vs.toArray:=by
 obtain⟨cs',h1,h2⟩:=Row.setCells_some vs 0 W cs h
 have e:cs'=vs.toArray:=by
  apply Array.ext
  · simp [h2,hl]
  · intro j hj _
    have hv:j<vs.length:=by omega
    have:=World.cell?_setCells_in g vs 0 W (fun i hi=>(h.there (n:=vs.length) (by omega) i hi).1) j hv
    rw [Nat.zero_add,h1.cell j,Array.getElem?_eq_getElem hj] at this
    simpa using this
 rw [e] at h1;exact h1
theorem Keep.setCells {S:Nat→Prop} {a:World} {g:Nat} (hp:S g→a.heap.size≤g):∀(vs:List Value) (o:Nat) (W:World),Keep S a W→Keep S a (W.setCells g o vs)
 | [],_,_,h=>h
 | v::vs,o,_,h=>Keep.setCells hp vs (o+1) _ (h.setCell (p:=⟨g,o,none⟩) hp v)
theorem Row.other_setCells {g b:Nat} {t:TypeId} {cs:Array Value} (hne:g≠b):∀(vs:List Value) (o:Nat) (W:World),Row W g t cs→Row (W.setCells b o vs) g t cs
 | [],_,_,h=>h
 | v::vs,o,_,h=>Row.other_setCells hne vs (o+1) _ (h.other (a:=⟨b,o,none⟩) hne v)
theorem Bs.splice_upTo {o:Nat} {new old:List Nat} (h:new.length=old.length) (ho:o+4≤old.length):
 splice ((Bs.upTo o new old).map U) o [U (new.getD o 0),U (new.getD (o+1) 0),U (new.getD (o+2) 0),U (new.getD (o+3) 0)]=(Bs.upTo (o+4) new old).map U:=by
 have e1:(Bs.upTo o new old).take o=new.take o:=by simp [Bs.upTo,List.take_append,List.take_take];omega
 have e2:(Bs.upTo o new old).drop (o+4)=old.drop (o+4):=by
  simp only [Bs.upTo,List.drop_append,List.length_take,List.drop_drop]
  rw [List.drop_eq_nil_of_le (by simp;omega),List.nil_append]
  congr 1;omega
 have e3:new.take (o+4)=new.take o++[new.getD o 0,new.getD (o+1) 0,new.getD (o+2) 0,new.getD (o+3) 0]:=by
  rw [List.take_succ_eq_append_getElem (by omega:o+3<new.length),List.take_succ_eq_append_getElem (by omega:o+2<new.length),List.take_succ_eq_append_getElem (by omega:o+1<new.length),List.take_succ_eq_append_getElem (by omega:o<new.length)]
  have g:∀ j,(hj:j<new.length)→new.getD j 0=new[j]:=fun j hj=>by rw [List.getD_eq_getElem?_getD,List.getElem?_eq_getElem hj];rfl
  rw [g o (by omega),g (o+1) (by omega),g (o+2) (by omega),g (o+3) (by omega)]
  simp only [List.append_assoc,List.cons_append,List.nil_append]
 unfold splice
 rw [← List.map_take,← List.map_drop,e1,show o+[U (new.getD o 0),U (new.getD (o+1) 0),U (new.getD (o+2) 0),U (new.getD (o+3) 0)].length=o+4 from rfl,e2]
 rw [show Bs.upTo (o+4) new old=new.take (o+4)++old.drop (o+4) from rfl,e3]
 simp
theorem step_copy_keep {P:Program} {ops:Array Oper} {o:Oper} {a:Act} {w:World} {K:Act→World→Prop} {Q:Exit→Act→World→Prop} {E:Prop} (hgd:o.guard=none) (d s:Operand) (dT sT:TypeId)
 (ho:o.op= .call { callee:= .builtin .copy,args:=#[d,s],argTypes:=#[dT,sT] }) (elem:TypeId) (hu:P.underlying dT=some (.slice elem)) (hsz:(P.info? elem).map (·.size)=some 1)
 (g off dLen dCap:Nat) (ad:Addr) (sLen sCap:Nat) (hd:a.eval d= .slice (some ⟨g,off,none⟩) dLen dCap) (hs:a.eval s= .slice (some ad) sLen sCap)
 (cur:List Value) (t:TypeId) (hg:Row w g t cur.toArray) (cs:List Value) (hn:cs.length=Nat.min sLen dLen)
 (hsrc:∀ j v,cs[j]? =some v→w.cell? (ad.add j)=some v) (hfit:off+cs.length≤cur.length) (h1:∀ v∈cs,v.oneCell'=true)
 (h:∀ w',Hid (Row w' g t (splice cur off cs).toArray)→Keep (fun k=>k≠g) w w'→K (a.put o.dst (goInt cs.length)) w'):
 if Region.wanted o (yielded ops a.tmps)=true then Oper.wp P o a w K Q else E:=by
 have hw:Region.wanted o (yielded ops a.tmps)=true:=by simp [Region.wanted,hgd]
 rw [if_pos hw]
 have hrun:=run_copy_row (P:=P) w dT sT o.type elem g off dLen dCap ad sLen sCap cur.toArray t cs hu hsz hg hn hsrc (by simpa using hfit) h1
 unfold Oper.wp
 simp [execOp,ho,resolve,invoke,builtin,hd,hs,hrun,Result.andThen]
 refine h _ (show _=_ by simpa [splice] using setRow_heap w g _ _ t _ hg) ⟨rfl,rfl,rfl,by simp [World.setRow],fun k hk _=>setRow_other w g k _ hk⟩
def bytesOf (s:ByteArray):List Nat:=s.data.toList.map UInt8.toNat
theorem bytesOf_length (s:ByteArray):(bytesOf s).length=s.size:=by simp [bytesOf]
theorem bytesOf_all (s:ByteArray):Bs.All (bytesOf s):= .of_mem fun x hx=>by
 obtain⟨c,_,rfl⟩:=List.mem_map.1 hx
 exact c.toNat_lt
theorem bytesOf_extract (s:ByteArray) (lo hi:Nat) (_:hi≤s.size):bytesOf (s.extract lo hi)=((bytesOf s).drop lo).take (hi-lo):=by
 simp [bytesOf,ByteArray.data_extract,List.map_drop,List.map_take]
theorem bytesOf_getD (s:ByteArray) (j:Nat):(bytesOf s).getD j 0=(s.data.toList.getD j 0).toNat:=by
 simp only [bytesOf,List.getD_eq_getElem?_getD,List.getElem?_map]
 cases s.data.toList[j]? <;> rfl
theorem conv_bytes {P:Program} {src dst e:TypeId} {u:TypeDesc} (hs:P.underlying src=some u) (hd:P.underlying dst=some (.slice e)) (he:P.underlying e=some (.int .u8)) (s:ByteArray) (w:World):
 ∃(W1:World) (cap:Nat),(convert src dst (.string s)).run P w= .ok (.slice (some ⟨w.heap.size,0,none⟩) s.size cap) W1∧Below w.heap.size w W1∧W1.heap.size=w.heap.size+1∧
  (∀ j,j<s.size→W1.cell? ⟨w.heap.size,j,none⟩=some (U ((bytesOf s).getD j 0))):=
 ⟨_,_,Lib.run_convert_string_bytes w src dst e s hs hd he,⟨rfl,rfl,rfl,by rw [Lib.bytesWorld_size];omega,fun k hk=>Lib.bytesWorld_at_old w e s k hk⟩,Lib.bytesWorld_size w e s,
  fun j hj=>by rw [bytesOf_getD];exact Lib.bytesWorld_cell w e s j hj⟩
theorem keep_grown {W W':World} {v:Value} (h:W.grownBy W' v.ownBlock):Keep (fun k=>v.ownBlock≠some k) W W':=
 ⟨h.os,h.tape,h.output,h.size,fun k hk hl=>h.block k hl (fun e=>hk e.symm)⟩
theorem owns_keep {W W':World} {base:Nat} {e:TypeId} {size n:Nat} {v:Value} {xs:List Value} {S:Nat→Prop} (h:W.ownsRow base e size v n xs) (hk:Keep S W W') (hs:∀ k,v.ownBlock=some k→S k):W'.ownsRow base e size v n xs:=by
 refine⟨h.1,?_⟩
 rcases h.2 with hn | ⟨g,cap,cur,rfl,hb,hgg,rest⟩
 · exact .inl hn
 · exact .inr ⟨g,cap,cur,rfl,hb,hk.heap (hs g rfl) hgg,rest⟩
theorem owns_below {W W':World} {base:Nat} {e:TypeId} {size n:Nat} {v:Value} {xs:List Value} (h:W.ownsRow base e size v n xs) (hk:Below W.heap.size W W'):W'.ownsRow base e size v n xs:=
 owns_keep h (Keep.below (S:=fun _=>True) hk) (fun _ _=>trivial)
theorem Bs.take_four {l:List Nat} {i:Nat} (h:4*i+4≤l.length):l.take (4*(i+1))=l.take (4*i)++[l.getD (4*i+0) 0,l.getD (4*i+1) 0,l.getD (4*i+2) 0,l.getD (4*i+3) 0]:=by
 have g:∀ j,(hj:j<l.length)→l.getD j 0=l[j]:=fun j hj=>by rw [List.getD_eq_getElem?_getD,List.getElem?_eq_getElem hj];rfl
 rw [show 4*(i+1)=4*i+3+1 by omega,List.take_succ_eq_append_getElem (by omega:4*i+3<l.length),List.take_succ_eq_append_getElem (by omega:4*i+2<l.length),List.take_succ_eq_append_getElem (by omega:4*i+1<l.length),List.take_succ_eq_append_getElem (by omega:4*i<l.length)]
 rw [g (4*i+0) (by omega),g (4*i+1) (by omega),g (4*i+2) (by omega),g (4*i+3) (by omega)]
 simp only [List.append_assoc,List.cons_append,List.nil_append,Nat.add_zero]
theorem below_drewN {W w1:World} {n:Nat} (hb:Below (W.drewN n).heap.size (W.drewN n) w1):Below W.heap.size W w1:=⟨hb.os,hb.tape,hb.output,hb.size,hb.block⟩
theorem below_drew {W w1:World} (hb:Below W.drew.heap.size W.drew w1):Below W.heap.size W w1:=⟨hb.os,hb.tape,hb.output,hb.size,hb.block⟩
theorem frozen_below {W w1:World} {p:Addr} {v:Value} (hb:Below W.heap.size W w1) (hc:W.cell? p=some v):w1.frozen? p=W.frozen? p:=by
 obtain⟨o,ho,_⟩:=cells_of_cell hc
 exact hb.frozen (Array.getElem?_eq_some_iff.1 ho).1
theorem cell_below {W w1:World} {p:Addr} {v:Value} (hb:Below W.heap.size W w1) (hc:W.cell? p=some v):w1.cell? p=some v:=by
 obtain⟨o,ho,_⟩:=cells_of_cell hc
 exact(hb.cell (Array.getElem?_eq_some_iff.1 ho).1).trans hc
end Go.Proofs.YtpnbkfboneabaaaGreat
namespace Go.Proofs.YtpnbkfboneabaaaGreat
open Go.RowKit
def strOf (l:List Nat):ByteArray:=⟨(l.map UInt8.ofNat).toArray⟩
theorem strOf_size (l:List Nat):(strOf l).size=l.length:=by simp [strOf,ByteArray.size]
theorem bytesOf_strOf {l:List Nat} (h:Bs.All l):bytesOf (strOf l)=l:=by
 unfold bytesOf strOf
 simp only [List.map_map]
 refine(List.map_congr_left (fun x hx=> ?_)).trans (List.map_id l)
 have:=h.mem x hx
 simp [Nat.mod_eq_of_lt this]
theorem strOf_bytesOf (s:ByteArray):strOf (bytesOf s)=s:=by
 unfold bytesOf strOf
 rw [List.map_map]
 have:(UInt8.ofNat ∘ UInt8.toNat)=id:=by funext x;simp
 rw [this,List.map_id]
theorem strOf_push (l:List Nat) (r:ByteArray):l.foldl (fun r n=>r.push (UInt8.ofNat n)) r=⟨r.data++(l.map UInt8.ofNat).toArray⟩:=by
 induction l generalizing r with
 | nil=>simp
 | cons x l ih=>rw [List.foldl_cons,ih];simp [ByteArray.push]
theorem conv_string {P:Program} {src dst e:TypeId} (hs:P.underlying src=some (.slice e)) (he:P.underlying e=some (.int .u8)) (hd:P.underlying dst=some .string) (g o cap:Nat) (l:List Nat) (w:World)
 (hc:∀ j,j<l.length→w.cell? ⟨g,o+j,none⟩=some (U (l.getD j 0))) (n:Nat) (hn:l.length=n):
 (convert src dst (.slice (some ⟨g,o,none⟩) n cap)).run P w= .ok (.string (strOf l)) w:=by
 subst hn
 rw [run_convert_bytes_string w src dst e _ _ _ hs he hd,run_bytesToString w ⟨g,o,none⟩ l.length cap (l.map fun(x:Nat)=>(x:Int)) ?_]
 · rw [List.foldl_map]
   have:=strOf_push l ByteArray.empty
   simp only [Int.toNat_natCast]
   rw [this]
   simp [strOf,ByteArray.empty,ByteArray.emptyWithCapacity]
   rfl
 · have:=run_loadCells_list (P:=P) w ⟨g,o,none⟩ (l.map U) (fun j v hv=>by
    rw [Addr.add_mid]
    have hj:j<l.length:=by have:=(List.getElem?_eq_some_iff.1 hv).1;simpa using this
    rw [hc j hj,← hv]
    simp [List.getD_eq_getElem?_getD,hj])
   rw [List.length_map] at this
   rw [this,List.map_map]
   rfl
theorem idx_string (s:ByteArray) (z:Int) (p:Nat) (hz:z=(p:Int)) (hp:p<s.size) (W:World):
 (Instr.index 9 (.string s) (.int .i64 z)).run Tryz.prog W= .ok (U ((bytesOf s).getD p 0)) W:=by
 subst hz
 rw [run_index_string W 9 s .i64 (p:Int) Tryz.underlying9,dif_pos ⟨by omega,by omega⟩]
 have h:p<s.data.size:=hp
 have this:(s[(p:Int).toNat]'(by omega)).toNat=(bytesOf s).getD p 0:=by
  have e:(s[(p:Int).toNat]'(by omega)).toNat=(s.data[p]).toNat:=rfl
  rw [e]
  simp only [bytesOf,List.getD_eq_getElem?_getD,List.getElem?_map,Array.getElem?_toList]
  rw [Array.getElem?_eq_getElem h]
  rfl
 rw [this]
theorem sl_hi (s:ByteArray) (z:Int) (p:Nat) (hz:z=(p:Int)) (hp:p≤s.size) (W:World):
 (Instr.slice 9 (.string s) none (some (.int .i64 z)) none).run Tryz.prog W= .ok (.string (s.extract 0 p)) W:=by
 subst hz
 rw [run_slice_string_h W 9 s Tryz.underlying9 .i64 (p:Int) (by omega) (by omega),Int.toNat_natCast]
theorem sl_lo (s:ByteArray) (z:Int) (p:Nat) (hz:z=(p:Int)) (hp:p≤s.size) (W:World):
 (Instr.slice 9 (.string s) (some (.int .i64 z)) none none).run Tryz.prog W= .ok (.string (s.extract p s.size)) W:=by
 subst hz
 rw [run_slice_string_l W 9 s Tryz.underlying9 .i64 (p:Int) (by omega) (by omega),Int.toNat_natCast]
theorem sl_mid (s:ByteArray) (y z:Int) (p q:Nat) (hy:y=(p:Int)) (hz:z=(q:Int)) (hp:p≤q) (hq:q≤s.size) (W:World):
 (Instr.slice 9 (.string s) (some (.int .i64 y)) (some (.int .i64 z)) none).run Tryz.prog W= .ok (.string (s.extract p q)) W:=by
 subst hy hz
 rw [run_slice_string W 9 s .i64 .i64 (p:Int) (q:Int) Tryz.underlying9 (by omega) (by omega) (by omega),Int.toNat_natCast,Int.toNat_natCast]
def SeqF {α:Type} (P:Program) (g:Nat) (lb:Array Value) (encs:α→Array Value) (xs:List α) (priv need:Nat→Prop) (fin:World→Prop) (w:World):Prop:=
 ∀(l:Nat) (J Jx:List α→World→Prop) (W:World),Keep need w W→w.heap.size+2≤W.heap.size→Stable (fun k=>¬ priv k) J→Stable (fun k=>¬ priv k) Jx→
  (∀ pre x rest,xs=pre++x::rest→∀ W1,J pre W1→YieldW P l (encs x) W1 fun e W'=>
   (e= .returned (.bool true)∧J (pre++[x]) W'∧Keep need W1 W')∨(e= .returned (.bool false)∧Jx (pre++[x]) W'))→
  J [] W→
  Calls P g (#[.func (.yield l) #[] #[]]++lb) W fun e W'=>(∃ v,e= .returned v)∧((J xs W'∧fin W')∨∃ pre suf,pre++suf=xs∧Jx pre W')
variable {P:Program}
theorem wp_rangeF {α:Type} {g:Operand} {ps:Array Tmp} {assign body:Code} {Q:Exit→Act→World→Prop} {a:Act} {w:World} {n:Nat}
 {gf:Nat} {lb:Array Value} (hg:a.eval g= .func (.func gf) #[] lb) (eg:∀ args w,(callFunc gf args).run P w= .ok (.enter gf args) w)
 {encs:α→Array Value} {xs:List α} {priv need:Nat→Prop} {fin:World→Prop} (hseq:SeqF P gf lb encs xs priv need fin w)
 (hpriv:∀ k,priv k→k<w.heap.size) (hneed:∀ k,need k→k≠w.heap.size+1) (hfin:∀ A B,fin A→Keep (fun k=>k≠w.heap.size+1) A B→fin B) (hps:∀ x,(encs x).size=ps.size)
 (mine:Nat→Prop) (hmine:∀ k,mine k→k<w.heap.size∧¬ need k)
 (I:List α→World→Prop) (Ix:Code→List α→World→Prop)
 (hI:Stable (fun k=>¬ priv k∧k≠w.heap.size∧k≠w.heap.size+1) I) (hIx:∀ c,Stable (fun k=>¬ priv k∧k≠w.heap.size∧k≠w.heap.size+1) (Ix c)) (h0:I [] w)
 (hbody:∀(l:Nat) (pre:List α) (x:α) (rest:List α) (W:World),xs=pre++x::rest→w.heap.size+2≤W.heap.size→I pre W→
  assign.wpIn (Fence.wide.inRound l) n P (Exit.then (fun a₁ W2=>Keep (fun k=>¬ mine k) W W2∧∀ W3,Keep (fun k=>k≠w.heap.size+1) W2 W3→W3.heap.size=W2.heap.size→
   body.wpIn (Fence.wide.inRound l) n P (keepPost mine I Ix (pre++[x]) W3) a₁ W3) (fun _ _ _=>False))
   { tmps:=(ps.zip (encs x)).foldl (fun t (p,v)=>t.setIfInBounds p v) a.tmps,defers:=[] } W)
 (hdone:∀(W:World),I xs W→fin W→w.heap.size+2≤W.heap.size→W.heap[w.heap.size]? =some (.deferred (some []))→Q .normal { a with defers:={ target:= .collected w.heap.size,args:=#[] }::a.defers } W)
 (hstop:∀(c:Code) (pre suf:List α) (W:World),pre++suf=xs→Ix c pre W→w.heap.size+2≤W.heap.size→W.heap[w.heap.size]? =some (.deferred (some []))→
  c.wpIn Fence.wide n P Q { a with defers:={ target:= .collected w.heap.size,args:=#[] }::a.defers } W):
 (Code.rangeFunc g ps assign body).wpIn Fence.wide n P Q a w:=by
 refine wpIn_rangeFunc ?_
 intro fn hfn
 rw [show Fence.wide.round=none from rfl]
 obtain⟨rec,hrec⟩:∃ rec:LoopState→Option Code→Loop,rec=fun st pe=>{ state:=st,pending:=pe,fn,tmps:=a.tmps,params:=ps,assign,body,defers:=w.heap.size }:=⟨_,rfl⟩
 obtain⟨W1,hW1⟩:∃ W1,(w.alloc (.deferred (some []))).alloc (.loop (rec .ready none))=W1:=⟨_,rfl⟩
 have hL1:W1.heap[w.heap.size+1]? =some (.loop (rec .ready none)):=by
  rw [← hW1];have:=World.alloc_heap_new (w.alloc (.deferred (some []))) (.loop (rec .ready none));rwa [World.size_alloc] at this
 have hK1:W1.heap[w.heap.size]? =some (.deferred (some [])):=by
  rw [← hW1];exact(Below.heap_alloc _ _ _ (by simp)).trans (World.alloc_heap_new w _)
 have hk1:Keep (fun _=>True) w W1:=by rw [← hW1];exact((Keep.refl _ _).alloc _).alloc _
 have hs1:W1.heap.size=w.heap.size+2:=by rw [← hW1];simp
 have hI1:I [] W1:=hI _ _ _ h0 (hk1.mono fun _ _ _=>trivial)
 refine⟨w.heap.size+1,[{ target:= .collected w.heap.size,args:=#[] }],W1,{ target:= .fn (.func gf) lb,args:=#[.func (.yield (w.heap.size+1)) #[] #[]] },W1,gf,
  #[.func (.yield (w.heap.size+1)) #[] #[]]++lb,W1,?_,?_,?_,?_,fun h=>(by cases h),?_⟩
 · rw [← hW1,hrec];exact run_enterLoop_outer _ _ _ _ _
 · simp only [resolve,hg]
   simp [go_sem]
 · intro f' _;trivial
 · simp [invoke,go_sem,eg]
 · have hnp:∀ k,w.heap.size≤k→¬ priv k:=fun k hk hp=>by have:=hpriv k hp;omega
   have hnm:∀ k,w.heap.size≤k→¬ mine k:=fun k hk hp=>by have:=(hmine k hp).1;omega
   -- what a round,or the iterator,leaves of the two blocks
   refine callsIn_wide.2 ((hseq (w.heap.size+1)
    (fun pre W=>I pre W∧w.heap.size+2≤W.heap.size∧W.heap[w.heap.size+1]? =some (.loop (rec .ready none))∧W.heap[w.heap.size]? =some (.deferred (some [])))
    (fun pre W=>∃ c,Ix c pre W∧w.heap.size+2≤W.heap.size∧W.heap[w.heap.size+1]? =some (.loop (rec .done (some c)))∧W.heap[w.heap.size]? =some (.deferred (some [])))
    W1 (hk1.mono fun _ _ _=>trivial) (by omega)
    (fun s A B hs hk=>⟨hI s A B hs.1 (hk.mono fun k h _=>h.1),Nat.le_trans hs.2.1 hk.size,hk.heap (hnp _ (by omega)) hs.2.2.1,hk.heap (hnp _ (by omega)) hs.2.2.2⟩)
    (fun s A B hs hk=>by
     obtain⟨c,hc,hz,hl,hd⟩:=hs
     exact⟨c,hIx c s A B hc (hk.mono fun k h _=>h.1),Nat.le_trans hz hk.size,hk.heap (hnp _ (by omega)) hl,hk.heap (hnp _ (by omega)) hd⟩)
    ?_ ⟨hI1,by omega,hL1,hK1⟩).mono ?_)
   · rintro pre x rest hxs W ⟨hi,hz,hl,hd⟩
     have hy:=run_yield (P:=P) (args:=encs x) hl (by rw [hrec];exact hps x)
     rw [hrec] at hy
     refine⟨fn,_,assign,body,hy,fun m=> ?_⟩
     suffices hR:RoundIn Fence.wide n P (w.heap.size+1) fn ((ps.zip (encs x)).foldl (fun t (p,v)=>t.setIfInBounds p v) a.tmps) assign body W _ from⟨hR.1,fun c cs _=>hR.2 c cs (room_wide _)⟩
     refine roundIn_of_wpIn hfn (wpIn_mono (hbody (w.heap.size+1) pre x rest W hxs hz hi) ?_)
     rintro e a₁ W2 hp
     cases e with
     | normal=>
       obtain⟨hk2,hnext⟩:=hp
       have hl2:=hk2.heap (hnm _ (by omega)) hl
       have hd2:=hk2.heap (hnm _ (by omega)) hd
       have hz2:=Nat.le_trans hz hk2.size
       refine⟨_,run_beginRound hl2 (by rw [hrec]),?_⟩
       have hl3:(W2.putObj (w.heap.size+1) (.loop { rec .ready none with state:= .busy })).heap[w.heap.size+1]? =some (.loop { rec .ready none with state:= .busy }):=World.putObj_heap_same (Array.getElem?_eq_some_iff.1 hl2).1
       have hd3:(W2.putObj (w.heap.size+1) (.loop { rec .ready none with state:= .busy })).heap[w.heap.size]? =some (.deferred (some [])):=(World.putObj_heap_other (by omega)).trans hd2
       have hk3:Keep (fun k=>k≠w.heap.size+1) W2 (W2.putObj (w.heap.size+1) (.loop { rec .ready none with state:= .busy })):=(Keep.refl _ _).putObj (fun h=>absurd rfl h) _
       refine wpIn_mono (hnext _ hk3 World.putObj_size) ?_
       have fin:∀(jump:Option Code) (W3:World),Keep (fun k=>¬ mine k) (W2.putObj (w.heap.size+1) (.loop { rec .ready none with state:= .busy })) W3→
        (Instr.endRound (w.heap.size+1) jump).run P W3= .ok (.bool jump.isNone) (W3.putObj (w.heap.size+1) (.loop (rec (if jump.isNone then .ready else .done) jump)))∧
        Keep (fun k=>k≠w.heap.size+1) W3 (W3.putObj (w.heap.size+1) (.loop (rec (if jump.isNone then .ready else .done) jump)))∧
        w.heap.size+2≤(W3.putObj (w.heap.size+1) (.loop (rec (if jump.isNone then .ready else .done) jump))).heap.size∧
        (W3.putObj (w.heap.size+1) (.loop (rec (if jump.isNone then .ready else .done) jump))).heap[w.heap.size+1]? =some (.loop (rec (if jump.isNone then .ready else .done) jump))∧
        (W3.putObj (w.heap.size+1) (.loop (rec (if jump.isNone then .ready else .done) jump))).heap[w.heap.size]? =some (.deferred (some []))∧
        Keep need W (W3.putObj (w.heap.size+1) (.loop (rec (if jump.isNone then .ready else .done) jump))):=fun jump W3 hk4=>by
        have hl4:=hk4.heap (hnm _ (by omega)) hl3
        have hd4:=hk4.heap (hnm _ (by omega)) hd3
        have:=run_endRound (P:=P) jump hl4
        have hz3:w.heap.size+2≤W3.heap.size:=by have:=hk4.size;rw [World.putObj_size] at this;omega
        rw [hrec] at this ⊢
        refine⟨this,(Keep.refl _ _).putObj (fun h=>absurd rfl h) _,by rw [World.putObj_size];exact hz3,World.putObj_heap_same (Array.getElem?_eq_some_iff.1 hl4).1,(World.putObj_heap_other (by omega)).trans hd4,?_⟩
        have e1:Keep need W W2:=hk2.mono fun k hn _ hm=>(hmine k hm).2 hn
        have e2:Keep need W2 W3:=(hk3.mono fun k hn _=>by have:=hneed k hn;exact this).trans (hk4.mono fun k hn _ hm=>(hmine k hm).2 hn)
        exact(e1.trans e2).putObj (fun hn=>absurd rfl (hneed _ hn)) _
       rintro e a3 W3 hp
       have stab:∀(c:Option Code) {W4:World},Keep (fun k=>k≠w.heap.size+1) W3 W4→Keep (fun k=>¬ priv k∧k≠w.heap.size∧k≠w.heap.size+1) W3 W4:=fun _ _ hk=>hk.mono fun k h _=>h.2.2
       cases e with
       | normal=>
         obtain⟨hk4,hi4⟩:=hp
         obtain⟨hr,hk5,hz5,hl5,hd5,hn5⟩:=fin none W3 hk4
         exact⟨_,_,hr,.inl ⟨rfl,⟨hI _ _ _ hi4 (stab none hk5),hz5,hl5,hd5⟩,hn5⟩⟩
       | ret=>
         obtain⟨hk4,hi4⟩:=hp
         obtain⟨hr,hk5,hz5,hl5,hd5,hn5⟩:=fin (some .ret) W3 hk4
         exact⟨_,_,hr,.inr ⟨rfl,.ret,hIx _ _ _ _ hi4 (stab none hk5),hz5,hl5,hd5⟩⟩
       | exit id=>
         obtain⟨hk4,hi4⟩:=hp
         obtain⟨hr,hk5,hz5,hl5,hd5,hn5⟩:=fin (some (.exit id)) W3 hk4
         exact⟨_,_,hr,.inr ⟨rfl,.exit id,hIx _ _ _ _ hi4 (stab none hk5),hz5,hl5,hd5⟩⟩
       | goto t=>
         obtain⟨hk4,hi4⟩:=hp
         obtain⟨hr,hk5,hz5,hl5,hd5,hn5⟩:=fin (some (.goto t)) W3 hk4
         exact⟨_,_,hr,.inr ⟨rfl,.goto t,hIx _ _ _ _ hi4 (stab none hk5),hz5,hl5,hd5⟩⟩
       | panic ch=>exact hp.elim
       | outgrown=>exact hp.elim
     | ret=>exact hp.elim
     | exit id=>exact hp.elim
     | goto t=>exact hp.elim
     | panic ch=>exact hp.elim
     | outgrown=>exact hp.elim
   · rintro e W2 ⟨⟨v,rfl⟩,(⟨⟨hi,hz,hl,hd⟩,hfn⟩ | ⟨pre,suf,hps',c,hi,hz,hl,hd⟩)⟩
     · have hk5:∀ o,Keep (fun k=>¬ priv k∧k≠w.heap.size∧k≠w.heap.size+1) W2 (W2.putObj (w.heap.size+1) o):=fun o=>(Keep.refl _ _).putObj (fun h=>absurd rfl h.2.2) _
       exact⟨none,_,by have:=run_endLoop (P:=P) hl (by rw [hrec];simp);rw [hrec] at this;exact this,hdone _ (hI _ _ _ hi (hk5 _)) (hfin _ _ hfn ((Keep.refl _ _).putObj (fun h=>absurd rfl h) _)) (by rw [World.putObj_size];exact hz) ((World.putObj_heap_other (by omega)).trans hd)⟩
     · have hk5:∀ o,Keep (fun k=>¬ priv k∧k≠w.heap.size∧k≠w.heap.size+1) W2 (W2.putObj (w.heap.size+1) o):=fun o=>(Keep.refl _ _).putObj (fun h=>absurd rfl h.2.2) _
       exact⟨some c,_,by have:=run_endLoop (P:=P) hl (by rw [hrec];simp);rw [hrec] at this;exact this,hstop c pre suf _ hps' (hIx c _ _ _ hi (hk5 _)) (by rw [World.putObj_size];exact hz) ((World.putObj_heap_other (by omega)).trans hd)⟩
end Go.Proofs.YtpnbkfboneabaaaGreat
namespace Go.Proofs.YtpnbkfboneabaaaGreat
open Go.RowKit
def OnlyNormal (Q:Exit→Act→World→Prop):Exit→Act→World→Prop:=fun e a w=>e= .normal∧Q .normal a w
theorem OnlyNormal.letsOut {Q:Exit→Act→World→Prop}:¬ LetsOut (OnlyNormal Q):=by
 rintro ⟨a,w,h,_⟩
 cases h
theorem Oper.wpIn_of_wp {P:Program} {o:Oper} {a:Act} {w:World} {next:Act→World→Prop} {Q:Exit→Act→World→Prop} (lp n:Nat) (hd:∀ c,o.op≠ .defer c) (h:o.wp P a w next Q):o.wpIn (Fence.wide.inRound lp) n P a w next Q:=by
 refine⟨fun _ _=>trivial,?_⟩
 rw [Oper.semAt_eq _ _ _ hd]
 unfold Oper.wp at h
 generalize (execOp a.eval o).run P w=r at h
 match r,h with
 | .ok (.value v) w',h=>exact h
 | .ok .skip w',h=>exact h
 | .ok (.defer d) w',h=>exact h
 | .ok (.enter f args) w',h=>exact⟨fun h=>(by cases h),callsIn_wide.2 h⟩
 | .ok (.row row args) w',h=>
   refine⟨fun h=>(by cases h),fun c cs _=> ?_⟩
   obtain⟨v,w'',hr,hs⟩:=h c cs
   exact⟨v,w'',hr,stepsIn_wide.2 hs⟩
 | .halt (.panic v) w',h=>exact h
theorem wpOpIn_of_wpOp {P:Program} {ops:Array Oper} {Q:Exit→Act→World→Prop} {i:Nat} {K K':Act→World→Prop} {a:Act} {w:World} (lp n:Nat) (hd:∀ o∈ops,∀ c,o.op≠ .defer c) (hk:∀ a w,K a w→K' a w)
 (h:wpOp P ops (OnlyNormal Q) i K a w):wpOpIn (Fence.wide.inRound lp) n P ops (OnlyNormal Q) i K' a w:=by
 unfold wpOp at h
 unfold wpOpIn
 cases ho:ops[i]? with
 | none=>rw [ho] at h;exact hk _ _ h
 | some o=>
   rw [ho] at h
   dsimp only at h ⊢
   by_cases hw:Region.wanted o (yielded ops a.tmps)=true
   · rw [if_pos hw] at h ⊢
     rcases h with h | ⟨_,h⟩
     · exact Oper.wpIn_mono hk (Oper.wpIn_of_wp lp n (hd o (Array.mem_of_getElem? ho)) h)
     · exact absurd h OnlyNormal.letsOut
   · rw [if_neg hw] at h ⊢
     exact⟨fun _ _=>trivial,hk _ _ h⟩
theorem wpAnyIn_of_wpAny {P:Program} {ops:Array Oper} {Q:Exit→Act→World→Prop} {md:Region.Mode} (lp n:Nat) (hd:∀ o∈ops,∀ c,o.op≠ .defer c):
 ∀(fuel:Nat) (listed:Array Bool) (a:Act) (w:World),wpAny P md ops (OnlyNormal Q) fuel listed a w→wpAnyIn (Fence.wide.inRound lp) n P md ops (OnlyNormal Q) fuel listed a w
 | 0,_,_,_,h=>h
 | fuel+1,_,_,_,h=>⟨h.1,fun i hi=>wpOpIn_of_wpOp lp n hd (fun a w hk=>wpAnyIn_of_wpAny lp n hd fuel _ a w hk) (h.2 i hi)⟩
def noDefers (l:List Oper):Bool:=l.all fun o=>match o.op with
 | .defer _=>false
 | _=>true
theorem noDefers_spec {l:List Oper} (h:noDefers l=true):∀ o∈l.toArray,∀ c,o.op≠ .defer c:=by
 intro o ho c e
 have:=List.all_eq_true.1 h o (by simpa using ho)
 rw [e] at this
 cases this
theorem wpIn_round_still_tail {P:Program} {id lp m:Nat} {Q:Exit→Act→World→Prop} {a:Act} {w:World} {l:List Oper} (n:Nat) (hm:P.follows .mixedOrders=true) (hB:Region.lexTailB .any l.toArray n=true) (hd:noDefers l=true)
 (h:wpStill P l.toArray { w with drawn:=w.drawn+1 } (fun a'=>wpList P l.toArray (OnlyNormal Q) (l.drop n) a' { w with drawn:=w.drawn+1 }) (l.take n) a):(Code.region id l.toArray true).wpIn (Fence.wide.inRound lp) m P Q a w:=by
 simp only [Region.lexTailB,Bool.and_eq_true,decide_eq_true_eq] at hB
 obtain⟨⟨⟨⟨hsel,hn⟩,hs⟩,hc⟩,hlex⟩:=hB
 have hn':n<l.length:=by simpa using hn
 have htl:(l.take n).length=n:=by simp;omega
 have hdl:(l.drop n).length=l.toArray.size-n:=by simp
 have inv0:HeadInv .any l.toArray n (Array.replicate l.toArray.size false):=
  ⟨by simp,fun j oj _ hl=>(by rw [getD_replicate_false] at hl;cases hl),fun t _ ht=>getD_in (by simpa using ht) (getD_replicate_false _ _)⟩
 have H:=wpAnyL_lex (md:= .any) (g:=l.toArray.size-n) hsel hs hc hn (l.take n) 0 _ a (fun j hj=>by
  have hj':j<n:=by rw [htl] at hj;exact hj
  simp [hj']) (by simpa using htl) inv0 (by rw [htl];exact hlex) h
 refine wpIn_mono (Q:=OnlyNormal Q) ?_ (by rintro _ a w ⟨rfl,h⟩;exact h)
 refine wpIn_region_any hm (wpAnyIn_of_wpAny lp m (noDefers_spec hd) _ _ _ _ ?_)
 have:=wpAny_of_head (Q':=OnlyNormal Q) (g:=l.toArray.size-n) (fun listed a' hL=>by
  have:=wpAny_of_seq (md:= .any) (Q':=OnlyNormal Q) (l.drop n) n listed a' { w with drawn:=w.drawn+1 } (fun j=>by simp [List.getElem?_drop]) (by rw [hdl];exact hL.1) hL.2
  rwa [hdl] at this) _ _ _ H
 rw [htl,show n+(l.toArray.size-n)=l.toArray.size by omega] at this
 exact this
variable {P:Program}
theorem wp_rangeH {α:Type} {g:Operand} {ps:Array Tmp} {assign body:Code} {Q:Exit→Act→World→Prop} {a:Act} {w:World} {n:Nat}
 {gf:Nat} {lb:Array Value} (hg:a.eval g= .func (.func gf) #[] lb) (eg:∀ args w,(callFunc gf args).run P w= .ok (.enter gf args) w)
 {encs:α→Array Value} {xs:List α} {priv need:Nat→Prop} {fin:World→Prop} (hseq:SeqF P gf lb encs xs priv need fin w)
 (hpriv:∀ k,priv k→k≠w.heap.size∧k≠w.heap.size+1) (hneed:∀ k,need k→k≠w.heap.size+1) (hfin:∀ A B,fin A→Keep (fun k=>k≠w.heap.size+1) A B→fin B) (hps:∀ x,(encs x).size=ps.size)
 (mine:Nat→Prop) (hmine:∀ k,mine k→k<w.heap.size∧¬ need k)
 (I:List α→World→Prop) (Ix:Code→List α→World→Prop)
 (hI:Stable (fun k=>¬ priv k∧k≠w.heap.size∧k≠w.heap.size+1) I) (hIx:∀ c,Stable (fun k=>¬ priv k∧k≠w.heap.size∧k≠w.heap.size+1) (Ix c)) (h0:I [] w)
 (hbody:∀(l:Nat) (pre:List α) (x:α) (rest:List α) (W:World),xs=pre++x::rest→w.heap.size+2≤W.heap.size→I pre W→
  assign.wpIn (Fence.wide.inRound l) n P (Exit.then (fun a₁ W2=>Keep (fun k=>¬ mine k) W W2∧∀ W3,Keep (fun k=>k≠w.heap.size+1) W2 W3→W3.heap.size=W2.heap.size→
   body.wpIn (Fence.wide.inRound l) n P (keepPost mine I Ix (pre++[x]) W3) a₁ W3) (fun _ _ _=>False))
   { tmps:=(ps.zip (encs x)).foldl (fun t (p,v)=>t.setIfInBounds p v) a.tmps,defers:=[] } W)
 (hdone:∀(W:World),I xs W→fin W→w.heap.size+2≤W.heap.size→W.heap[w.heap.size]? =some (.deferred (some []))→Q .normal { a with defers:={ target:= .collected w.heap.size,args:=#[] }::a.defers } W)
 (hstop:∀(c:Code) (pre suf:List α) (W:World),pre++suf=xs→Ix c pre W→w.heap.size+2≤W.heap.size→W.heap[w.heap.size]? =some (.deferred (some []))→
  c.wpIn Fence.wide n P Q { a with defers:={ target:= .collected w.heap.size,args:=#[] }::a.defers } W):
 (Code.rangeFunc g ps assign body).wpIn Fence.wide n P Q a w:=by
 refine wpIn_rangeFunc ?_
 intro fn hfn
 rw [show Fence.wide.round=none from rfl]
 obtain⟨rec,hrec⟩:∃ rec:LoopState→Option Code→Loop,rec=fun st pe=>{ state:=st,pending:=pe,fn,tmps:=a.tmps,params:=ps,assign,body,defers:=w.heap.size }:=⟨_,rfl⟩
 obtain⟨W1,hW1⟩:∃ W1,(w.alloc (.deferred (some []))).alloc (.loop (rec .ready none))=W1:=⟨_,rfl⟩
 have hL1:W1.heap[w.heap.size+1]? =some (.loop (rec .ready none)):=by
  rw [← hW1];have:=World.alloc_heap_new (w.alloc (.deferred (some []))) (.loop (rec .ready none));rwa [World.size_alloc] at this
 have hK1:W1.heap[w.heap.size]? =some (.deferred (some [])):=by
  rw [← hW1];exact(Below.heap_alloc _ _ _ (by simp)).trans (World.alloc_heap_new w _)
 have hk1:Keep (fun _=>True) w W1:=by rw [← hW1];exact((Keep.refl _ _).alloc _).alloc _
 have hs1:W1.heap.size=w.heap.size+2:=by rw [← hW1];simp
 have hI1:I [] W1:=hI _ _ _ h0 (hk1.mono fun _ _ _=>trivial)
 refine⟨w.heap.size+1,[{ target:= .collected w.heap.size,args:=#[] }],W1,{ target:= .fn (.func gf) lb,args:=#[.func (.yield (w.heap.size+1)) #[] #[]] },W1,gf,
  #[.func (.yield (w.heap.size+1)) #[] #[]]++lb,W1,?_,?_,?_,?_,fun h=>(by cases h),?_⟩
 · rw [← hW1,hrec];exact run_enterLoop_outer _ _ _ _ _
 · simp only [resolve,hg]
   simp [go_sem]
 · intro f' _;trivial
 · simp [invoke,go_sem,eg]
 · have hnp:∀ k,(k=w.heap.size∨k=w.heap.size+1)→¬ priv k:=fun k hk hp=>by have:=hpriv k hp;omega
   have hnm:∀ k,w.heap.size≤k→¬ mine k:=fun k hk hp=>by have:=(hmine k hp).1;omega
   -- what a round,or the iterator,leaves of the two blocks
   refine callsIn_wide.2 ((hseq (w.heap.size+1)
    (fun pre W=>I pre W∧w.heap.size+2≤W.heap.size∧W.heap[w.heap.size+1]? =some (.loop (rec .ready none))∧W.heap[w.heap.size]? =some (.deferred (some [])))
    (fun pre W=>∃ c,Ix c pre W∧w.heap.size+2≤W.heap.size∧W.heap[w.heap.size+1]? =some (.loop (rec .done (some c)))∧W.heap[w.heap.size]? =some (.deferred (some [])))
    W1 (hk1.mono fun _ _ _=>trivial) (by omega)
    (fun s A B hs hk=>⟨hI s A B hs.1 (hk.mono fun k h _=>h.1),Nat.le_trans hs.2.1 hk.size,hk.heap (hnp _ (by omega)) hs.2.2.1,hk.heap (hnp _ (by omega)) hs.2.2.2⟩)
    (fun s A B hs hk=>by
     obtain⟨c,hc,hz,hl,hd⟩:=hs
     exact⟨c,hIx c s A B hc (hk.mono fun k h _=>h.1),Nat.le_trans hz hk.size,hk.heap (hnp _ (by omega)) hl,hk.heap (hnp _ (by omega)) hd⟩)
    ?_ ⟨hI1,by omega,hL1,hK1⟩).mono ?_)
   · rintro pre x rest hxs W ⟨hi,hz,hl,hd⟩
     have hy:=run_yield (P:=P) (args:=encs x) hl (by rw [hrec];exact hps x)
     rw [hrec] at hy
     refine⟨fn,_,assign,body,hy,fun m=> ?_⟩
     suffices hR:RoundIn Fence.wide n P (w.heap.size+1) fn ((ps.zip (encs x)).foldl (fun t (p,v)=>t.setIfInBounds p v) a.tmps) assign body W _ from⟨hR.1,fun c cs _=>hR.2 c cs (room_wide _)⟩
     refine roundIn_of_wpIn hfn (wpIn_mono (hbody (w.heap.size+1) pre x rest W hxs hz hi) ?_)
     rintro e a₁ W2 hp
     cases e with
     | normal=>
       obtain⟨hk2,hnext⟩:=hp
       have hl2:=hk2.heap (hnm _ (by omega)) hl
       have hd2:=hk2.heap (hnm _ (by omega)) hd
       have hz2:=Nat.le_trans hz hk2.size
       refine⟨_,run_beginRound hl2 (by rw [hrec]),?_⟩
       have hl3:(W2.putObj (w.heap.size+1) (.loop { rec .ready none with state:= .busy })).heap[w.heap.size+1]? =some (.loop { rec .ready none with state:= .busy }):=World.putObj_heap_same (Array.getElem?_eq_some_iff.1 hl2).1
       have hd3:(W2.putObj (w.heap.size+1) (.loop { rec .ready none with state:= .busy })).heap[w.heap.size]? =some (.deferred (some [])):=(World.putObj_heap_other (by omega)).trans hd2
       have hk3:Keep (fun k=>k≠w.heap.size+1) W2 (W2.putObj (w.heap.size+1) (.loop { rec .ready none with state:= .busy })):=(Keep.refl _ _).putObj (fun h=>absurd rfl h) _
       refine wpIn_mono (hnext _ hk3 World.putObj_size) ?_
       have fin:∀(jump:Option Code) (W3:World),Keep (fun k=>¬ mine k) (W2.putObj (w.heap.size+1) (.loop { rec .ready none with state:= .busy })) W3→
        (Instr.endRound (w.heap.size+1) jump).run P W3= .ok (.bool jump.isNone) (W3.putObj (w.heap.size+1) (.loop (rec (if jump.isNone then .ready else .done) jump)))∧
        Keep (fun k=>k≠w.heap.size+1) W3 (W3.putObj (w.heap.size+1) (.loop (rec (if jump.isNone then .ready else .done) jump)))∧
        w.heap.size+2≤(W3.putObj (w.heap.size+1) (.loop (rec (if jump.isNone then .ready else .done) jump))).heap.size∧
        (W3.putObj (w.heap.size+1) (.loop (rec (if jump.isNone then .ready else .done) jump))).heap[w.heap.size+1]? =some (.loop (rec (if jump.isNone then .ready else .done) jump))∧
        (W3.putObj (w.heap.size+1) (.loop (rec (if jump.isNone then .ready else .done) jump))).heap[w.heap.size]? =some (.deferred (some []))∧
        Keep need W (W3.putObj (w.heap.size+1) (.loop (rec (if jump.isNone then .ready else .done) jump))):=fun jump W3 hk4=>by
        have hl4:=hk4.heap (hnm _ (by omega)) hl3
        have hd4:=hk4.heap (hnm _ (by omega)) hd3
        have:=run_endRound (P:=P) jump hl4
        have hz3:w.heap.size+2≤W3.heap.size:=by have:=hk4.size;rw [World.putObj_size] at this;omega
        rw [hrec] at this ⊢
        refine⟨this,(Keep.refl _ _).putObj (fun h=>absurd rfl h) _,by rw [World.putObj_size];exact hz3,World.putObj_heap_same (Array.getElem?_eq_some_iff.1 hl4).1,(World.putObj_heap_other (by omega)).trans hd4,?_⟩
        have e1:Keep need W W2:=hk2.mono fun k hn _ hm=>(hmine k hm).2 hn
        have e2:Keep need W2 W3:=(hk3.mono fun k hn _=>by have:=hneed k hn;exact this).trans (hk4.mono fun k hn _ hm=>(hmine k hm).2 hn)
        exact(e1.trans e2).putObj (fun hn=>absurd rfl (hneed _ hn)) _
       rintro e a3 W3 hp
       have stab:∀(c:Option Code) {W4:World},Keep (fun k=>k≠w.heap.size+1) W3 W4→Keep (fun k=>¬ priv k∧k≠w.heap.size∧k≠w.heap.size+1) W3 W4:=fun _ _ hk=>hk.mono fun k h _=>h.2.2
       cases e with
       | normal=>
         obtain⟨hk4,hi4⟩:=hp
         obtain⟨hr,hk5,hz5,hl5,hd5,hn5⟩:=fin none W3 hk4
         exact⟨_,_,hr,.inl ⟨rfl,⟨hI _ _ _ hi4 (stab none hk5),hz5,hl5,hd5⟩,hn5⟩⟩
       | ret=>
         obtain⟨hk4,hi4⟩:=hp
         obtain⟨hr,hk5,hz5,hl5,hd5,hn5⟩:=fin (some .ret) W3 hk4
         exact⟨_,_,hr,.inr ⟨rfl,.ret,hIx _ _ _ _ hi4 (stab none hk5),hz5,hl5,hd5⟩⟩
       | exit id=>
         obtain⟨hk4,hi4⟩:=hp
         obtain⟨hr,hk5,hz5,hl5,hd5,hn5⟩:=fin (some (.exit id)) W3 hk4
         exact⟨_,_,hr,.inr ⟨rfl,.exit id,hIx _ _ _ _ hi4 (stab none hk5),hz5,hl5,hd5⟩⟩
       | goto t=>
         obtain⟨hk4,hi4⟩:=hp
         obtain⟨hr,hk5,hz5,hl5,hd5,hn5⟩:=fin (some (.goto t)) W3 hk4
         exact⟨_,_,hr,.inr ⟨rfl,.goto t,hIx _ _ _ _ hi4 (stab none hk5),hz5,hl5,hd5⟩⟩
       | panic ch=>exact hp.elim
       | outgrown=>exact hp.elim
     | ret=>exact hp.elim
     | exit id=>exact hp.elim
     | goto t=>exact hp.elim
     | panic ch=>exact hp.elim
     | outgrown=>exact hp.elim
   · rintro e W2 ⟨⟨v,rfl⟩,(⟨⟨hi,hz,hl,hd⟩,hfn⟩ | ⟨pre,suf,hps',c,hi,hz,hl,hd⟩)⟩
     · have hk5:∀ o,Keep (fun k=>¬ priv k∧k≠w.heap.size∧k≠w.heap.size+1) W2 (W2.putObj (w.heap.size+1) o):=fun o=>(Keep.refl _ _).putObj (fun h=>absurd rfl h.2.2) _
       exact⟨none,_,by have:=run_endLoop (P:=P) hl (by rw [hrec];simp);rw [hrec] at this;exact this,hdone _ (hI _ _ _ hi (hk5 _)) (hfin _ _ hfn ((Keep.refl _ _).putObj (fun h=>absurd rfl h) _)) (by rw [World.putObj_size];exact hz) ((World.putObj_heap_other (by omega)).trans hd)⟩
     · have hk5:∀ o,Keep (fun k=>¬ priv k∧k≠w.heap.size∧k≠w.heap.size+1) W2 (W2.putObj (w.heap.size+1) o):=fun o=>(Keep.refl _ _).putObj (fun h=>absurd rfl h.2.2) _
       exact⟨some c,_,by have:=run_endLoop (P:=P) hl (by rw [hrec];simp);rw [hrec] at this;exact this,hstop c pre suf _ hps' (hIx c _ _ _ hi (hk5 _)) (by rw [World.putObj_size];exact hz) ((World.putObj_heap_other (by omega)).trans hd)⟩
end Go.Proofs.YtpnbkfboneabaaaGreat
namespace Go.Proofs.YtpnbkfboneabaaaGreat
open Go.RowKit
def SeqE {α:Type} (P:Program) (g:Nat) (lb:Array Value) (encs:α→Array Value) (xs:List α) (priv need:Nat→Prop) (w:World):Prop:=
 ∀(l:Nat) (J Jx:List α→World→Prop) (W:World),Keep need w W→w.heap.size+2≤W.heap.size→Stable (fun k=>¬ priv k) J→Stable (fun k=>¬ priv k) Jx→(∀ W,¬ J xs W)→
  (∀ pre x rest,xs=pre++x::rest→∀ W1,J pre W1→YieldW P l (encs x) W1 fun e W'=>
   (e= .returned (.bool true)∧J (pre++[x]) W'∧Keep need W1 W')∨(e= .returned (.bool false)∧Jx (pre++[x]) W'))→
  J [] W→
  Calls P g (#[.func (.yield l) #[] #[]]++lb) W fun e W'=>(∃ v,e= .returned v)∧(J xs W'∨∃ pre suf,pre++suf=xs∧Jx pre W')
variable {P:Program}
theorem wp_rangeE {α:Type} {g:Operand} {ps:Array Tmp} {assign body:Code} {Q:Exit→Act→World→Prop} {a:Act} {w:World} {n:Nat}
 {gf:Nat} {lb:Array Value} (hg:a.eval g= .func (.func gf) #[] lb) (eg:∀ args w,(callFunc gf args).run P w= .ok (.enter gf args) w)
 {encs:α→Array Value} {xs:List α} {priv need:Nat→Prop} (hseq:SeqE P gf lb encs xs priv need w)
 (hpriv:∀ k,priv k→k<w.heap.size) (hneed:∀ k,need k→k≠w.heap.size+1) (hps:∀ x,(encs x).size=ps.size)
 (mine:Nat→Prop) (hmine:∀ k,mine k→(k≠w.heap.size∧k≠w.heap.size+1)∧¬ need k)
 (I:List α→World→Prop) (Ix:Code→List α→World→Prop)
 (hI:Stable (fun k=>¬ priv k∧k≠w.heap.size∧k≠w.heap.size+1) I) (hIx:∀ c,Stable (fun k=>¬ priv k∧k≠w.heap.size∧k≠w.heap.size+1) (Ix c)) (h0:I [] w) (hend:∀ W,¬ I xs W)
 (hbody:∀(l:Nat) (pre:List α) (x:α) (rest:List α) (W:World),xs=pre++x::rest→w.heap.size+2≤W.heap.size→I pre W→
  assign.wpIn (Fence.wide.inRound l) n P (Exit.then (fun a₁ W2=>Keep (fun k=>¬ mine k) W W2∧∀ W3,Keep (fun k=>k≠w.heap.size+1) W2 W3→W3.heap.size=W2.heap.size→
   body.wpIn (Fence.wide.inRound l) n P (keepPost mine I Ix (pre++[x]) W3) a₁ W3) (fun _ _ _=>False))
   { tmps:=(ps.zip (encs x)).foldl (fun t (p,v)=>t.setIfInBounds p v) a.tmps,defers:=[] } W)
 (hstop:∀(c:Code) (pre suf:List α) (W:World),pre++suf=xs→Ix c pre W→w.heap.size+2≤W.heap.size→W.heap[w.heap.size]? =some (.deferred (some []))→
  c.wpIn Fence.wide n P Q { a with defers:={ target:= .collected w.heap.size,args:=#[] }::a.defers } W):
 (Code.rangeFunc g ps assign body).wpIn Fence.wide n P Q a w:=by
 refine wpIn_rangeFunc ?_
 intro fn hfn
 rw [show Fence.wide.round=none from rfl]
 obtain⟨rec,hrec⟩:∃ rec:LoopState→Option Code→Loop,rec=fun st pe=>{ state:=st,pending:=pe,fn,tmps:=a.tmps,params:=ps,assign,body,defers:=w.heap.size }:=⟨_,rfl⟩
 obtain⟨W1,hW1⟩:∃ W1,(w.alloc (.deferred (some []))).alloc (.loop (rec .ready none))=W1:=⟨_,rfl⟩
 have hL1:W1.heap[w.heap.size+1]? =some (.loop (rec .ready none)):=by
  rw [← hW1];have:=World.alloc_heap_new (w.alloc (.deferred (some []))) (.loop (rec .ready none));rwa [World.size_alloc] at this
 have hK1:W1.heap[w.heap.size]? =some (.deferred (some [])):=by
  rw [← hW1];exact(Below.heap_alloc _ _ _ (by simp)).trans (World.alloc_heap_new w _)
 have hk1:Keep (fun _=>True) w W1:=by rw [← hW1];exact((Keep.refl _ _).alloc _).alloc _
 have hs1:W1.heap.size=w.heap.size+2:=by rw [← hW1];simp
 have hI1:I [] W1:=hI _ _ _ h0 (hk1.mono fun _ _ _=>trivial)
 refine⟨w.heap.size+1,[{ target:= .collected w.heap.size,args:=#[] }],W1,{ target:= .fn (.func gf) lb,args:=#[.func (.yield (w.heap.size+1)) #[] #[]] },W1,gf,
  #[.func (.yield (w.heap.size+1)) #[] #[]]++lb,W1,?_,?_,?_,?_,fun h=>(by cases h),?_⟩
 · rw [← hW1,hrec];exact run_enterLoop_outer _ _ _ _ _
 · simp only [resolve,hg]
   simp [go_sem]
 · intro f' _;trivial
 · simp [invoke,go_sem,eg]
 · have hnp:∀ k,w.heap.size≤k→¬ priv k:=fun k hk hp=>by have:=hpriv k hp;omega
   have hnm:∀ k,(k=w.heap.size∨k=w.heap.size+1)→¬ mine k:=fun k hk hp=>by have:=(hmine k hp).1;omega
   -- what a round,or the iterator,leaves of the two blocks
   refine callsIn_wide.2 ((hseq (w.heap.size+1)
    (fun pre W=>I pre W∧w.heap.size+2≤W.heap.size∧W.heap[w.heap.size+1]? =some (.loop (rec .ready none))∧W.heap[w.heap.size]? =some (.deferred (some [])))
    (fun pre W=>∃ c,Ix c pre W∧w.heap.size+2≤W.heap.size∧W.heap[w.heap.size+1]? =some (.loop (rec .done (some c)))∧W.heap[w.heap.size]? =some (.deferred (some [])))
    W1 (hk1.mono fun _ _ _=>trivial) (by omega)
    (fun s A B hs hk=>⟨hI s A B hs.1 (hk.mono fun k h _=>h.1),Nat.le_trans hs.2.1 hk.size,hk.heap (hnp _ (by omega)) hs.2.2.1,hk.heap (hnp _ (by omega)) hs.2.2.2⟩)
    (fun s A B hs hk=>by
     obtain⟨c,hc,hz,hl,hd⟩:=hs
     exact⟨c,hIx c s A B hc (hk.mono fun k h _=>h.1),Nat.le_trans hz hk.size,hk.heap (hnp _ (by omega)) hl,hk.heap (hnp _ (by omega)) hd⟩)
    (fun W h=>hend W h.1)
    ?_ ⟨hI1,by omega,hL1,hK1⟩).mono ?_)
   · rintro pre x rest hxs W ⟨hi,hz,hl,hd⟩
     have hy:=run_yield (P:=P) (args:=encs x) hl (by rw [hrec];exact hps x)
     rw [hrec] at hy
     refine⟨fn,_,assign,body,hy,fun m=> ?_⟩
     suffices hR:RoundIn Fence.wide n P (w.heap.size+1) fn ((ps.zip (encs x)).foldl (fun t (p,v)=>t.setIfInBounds p v) a.tmps) assign body W _ from⟨hR.1,fun c cs _=>hR.2 c cs (room_wide _)⟩
     refine roundIn_of_wpIn hfn (wpIn_mono (hbody (w.heap.size+1) pre x rest W hxs hz hi) ?_)
     rintro e a₁ W2 hp
     cases e with
     | normal=>
       obtain⟨hk2,hnext⟩:=hp
       have hl2:=hk2.heap (hnm _ (by omega)) hl
       have hd2:=hk2.heap (hnm _ (by omega)) hd
       have hz2:=Nat.le_trans hz hk2.size
       refine⟨_,run_beginRound hl2 (by rw [hrec]),?_⟩
       have hl3:(W2.putObj (w.heap.size+1) (.loop { rec .ready none with state:= .busy })).heap[w.heap.size+1]? =some (.loop { rec .ready none with state:= .busy }):=World.putObj_heap_same (Array.getElem?_eq_some_iff.1 hl2).1
       have hd3:(W2.putObj (w.heap.size+1) (.loop { rec .ready none with state:= .busy })).heap[w.heap.size]? =some (.deferred (some [])):=(World.putObj_heap_other (by omega)).trans hd2
       have hk3:Keep (fun k=>k≠w.heap.size+1) W2 (W2.putObj (w.heap.size+1) (.loop { rec .ready none with state:= .busy })):=(Keep.refl _ _).putObj (fun h=>absurd rfl h) _
       refine wpIn_mono (hnext _ hk3 World.putObj_size) ?_
       have fin:∀(jump:Option Code) (W3:World),Keep (fun k=>¬ mine k) (W2.putObj (w.heap.size+1) (.loop { rec .ready none with state:= .busy })) W3→
        (Instr.endRound (w.heap.size+1) jump).run P W3= .ok (.bool jump.isNone) (W3.putObj (w.heap.size+1) (.loop (rec (if jump.isNone then .ready else .done) jump)))∧
        Keep (fun k=>k≠w.heap.size+1) W3 (W3.putObj (w.heap.size+1) (.loop (rec (if jump.isNone then .ready else .done) jump)))∧
        w.heap.size+2≤(W3.putObj (w.heap.size+1) (.loop (rec (if jump.isNone then .ready else .done) jump))).heap.size∧
        (W3.putObj (w.heap.size+1) (.loop (rec (if jump.isNone then .ready else .done) jump))).heap[w.heap.size+1]? =some (.loop (rec (if jump.isNone then .ready else .done) jump))∧
        (W3.putObj (w.heap.size+1) (.loop (rec (if jump.isNone then .ready else .done) jump))).heap[w.heap.size]? =some (.deferred (some []))∧
        Keep need W (W3.putObj (w.heap.size+1) (.loop (rec (if jump.isNone then .ready else .done) jump))):=fun jump W3 hk4=>by
        have hl4:=hk4.heap (hnm _ (by omega)) hl3
        have hd4:=hk4.heap (hnm _ (by omega)) hd3
        have:=run_endRound (P:=P) jump hl4
        have hz3:w.heap.size+2≤W3.heap.size:=by have:=hk4.size;rw [World.putObj_size] at this;omega
        rw [hrec] at this ⊢
        refine⟨this,(Keep.refl _ _).putObj (fun h=>absurd rfl h) _,by rw [World.putObj_size];exact hz3,World.putObj_heap_same (Array.getElem?_eq_some_iff.1 hl4).1,(World.putObj_heap_other (by omega)).trans hd4,?_⟩
        have e1:Keep need W W2:=hk2.mono fun k hn _ hm=>(hmine k hm).2 hn
        have e2:Keep need W2 W3:=(hk3.mono fun k hn _=>by have:=hneed k hn;exact this).trans (hk4.mono fun k hn _ hm=>(hmine k hm).2 hn)
        exact(e1.trans e2).putObj (fun hn=>absurd rfl (hneed _ hn)) _
       rintro e a3 W3 hp
       have stab:∀(c:Option Code) {W4:World},Keep (fun k=>k≠w.heap.size+1) W3 W4→Keep (fun k=>¬ priv k∧k≠w.heap.size∧k≠w.heap.size+1) W3 W4:=fun _ _ hk=>hk.mono fun k h _=>h.2.2
       cases e with
       | normal=>
         obtain⟨hk4,hi4⟩:=hp
         obtain⟨hr,hk5,hz5,hl5,hd5,hn5⟩:=fin none W3 hk4
         exact⟨_,_,hr,.inl ⟨rfl,⟨hI _ _ _ hi4 (stab none hk5),hz5,hl5,hd5⟩,hn5⟩⟩
       | ret=>
         obtain⟨hk4,hi4⟩:=hp
         obtain⟨hr,hk5,hz5,hl5,hd5,hn5⟩:=fin (some .ret) W3 hk4
         exact⟨_,_,hr,.inr ⟨rfl,.ret,hIx _ _ _ _ hi4 (stab none hk5),hz5,hl5,hd5⟩⟩
       | exit id=>
         obtain⟨hk4,hi4⟩:=hp
         obtain⟨hr,hk5,hz5,hl5,hd5,hn5⟩:=fin (some (.exit id)) W3 hk4
         exact⟨_,_,hr,.inr ⟨rfl,.exit id,hIx _ _ _ _ hi4 (stab none hk5),hz5,hl5,hd5⟩⟩
       | goto t=>
         obtain⟨hk4,hi4⟩:=hp
         obtain⟨hr,hk5,hz5,hl5,hd5,hn5⟩:=fin (some (.goto t)) W3 hk4
         exact⟨_,_,hr,.inr ⟨rfl,.goto t,hIx _ _ _ _ hi4 (stab none hk5),hz5,hl5,hd5⟩⟩
       | panic ch=>exact hp.elim
       | outgrown=>exact hp.elim
     | ret=>exact hp.elim
     | exit id=>exact hp.elim
     | goto t=>exact hp.elim
     | panic ch=>exact hp.elim
     | outgrown=>exact hp.elim
   · rintro e W2 ⟨⟨v,rfl⟩,(⟨hi,hz,hl,hd⟩ | ⟨pre,suf,hps',c,hi,hz,hl,hd⟩)⟩
     · exact absurd hi (hend _)
     · have hk5:∀ o,Keep (fun k=>¬ priv k∧k≠w.heap.size∧k≠w.heap.size+1) W2 (W2.putObj (w.heap.size+1) o):=fun o=>(Keep.refl _ _).putObj (fun h=>absurd rfl h.2.2) _
       exact⟨some c,_,by have:=run_endLoop (P:=P) hl (by rw [hrec];simp);rw [hrec] at this;exact this,hstop c pre suf _ hps' (hIx c _ _ _ hi (hk5 _)) (by rw [World.putObj_size];exact hz) ((World.putObj_heap_other (by omega)).trans hd)⟩
end Go.Proofs.YtpnbkfboneabaaaGreat
