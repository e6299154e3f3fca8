import Derived.Test.YtpnbkfboneabaaaGreatGA
import Derived.Test.YtpnbkfboneabaaaGreatOD
namespace Go.Proofs.YtpnbkfboneabaaaGreat
open Go.RowKit
def SeqG {α:Type} (P:Program) (g:Nat) (lb:Array Value) (encs:α→Array Value) (xs:List α) (priv need:Nat→Prop) (At:List α→World→Prop) (Mid:List α→α→World→Prop) (w:World):Prop:=
 ∀(l:Nat) (J:List α→World→Prop) (W:World),Keep need w W→w.heap.size+2≤W.heap.size→Stable (fun k=>¬ priv k) J→
  (∀ pre x rest,xs=pre++x::rest→∀ W1,J pre W1→Mid pre x W1→YieldW P l (encs x) W1 fun e W'=>
   e= .returned (.bool true)∧J (pre++[x]) W'∧At (pre++[x]) W'∧Keep need W1 W')→
  J [] W→At [] W→
  Calls P g (#[.func (.yield l) #[] #[]]++lb) W fun e W'=>(∃ v,e= .returned v)∧J xs W'∧At xs W'
variable {P:Program}
theorem wp_rangeI {α:Type} {g:Operand} {ps:Array Tmp} {assign body:Code} {Q:Exit→Act→World→Prop} {a:Act} {w:World} {n:Nat}
 {gf:Nat} {lb:Array Value} (hg:a.eval g= .func (.func gf) #[] lb) (eg:∀ args w,(callFunc gf args).run P w= .ok (.enter gf args) w)
 {encs:α→Array Value} {xs:List α} {priv need:Nat→Prop} {At:List α→World→Prop} {Mid:List α→α→World→Prop} (hseq:SeqG P gf lb encs xs priv need At Mid w)
 (hpriv:∀ k,priv k→k<w.heap.size) (hneed:∀ k,need k→k≠w.heap.size+1)
 (hAt:∀ pre W i o o',W.heap[i]? =some (.loop o)→At pre W→At pre (W.putObj i (.loop o'))) (hMid:∀ pre x W i o o',W.heap[i]? =some (.loop o)→Mid pre x W→Mid pre x (W.putObj i (.loop o')))
 (hA0:∀ W,Keep (fun _=>True) w W→At [] W) (hps:∀ x,(encs x).size=ps.size)
 (mine:Nat→Prop) (hmine:∀ k,mine k→(k≠w.heap.size∧k≠w.heap.size+1)∧¬ need k)
 (I:List α→World→Prop) (hI:Stable (fun k=>¬ priv k∧k≠w.heap.size∧k≠w.heap.size+1) I) (h0:I [] w)
 (hbody:∀(l:Nat) (pre:List α) (x:α) (rest:List α) (W:World),xs=pre++x::rest→w.heap.size+2≤W.heap.size→I pre W→Mid pre x W→
  assign.wpIn (Fence.wide.inRound l) n P (Exit.then (fun a₁ W2=>Keep (fun k=>¬ mine k) W W2∧Mid pre x W2∧∀ W3,Keep (fun k=>k≠w.heap.size+1) W2 W3→W3.heap.size=W2.heap.size→Mid pre x W3→
   body.wpIn (Fence.wide.inRound l) n P (keepPost mine (fun p W=>I p W∧At p W) (fun _ _ _=>False) (pre++[x]) W3) a₁ W3) (fun _ _ _=>False))
   { tmps:=(ps.zip (encs x)).foldl (fun t (p,v)=>t.setIfInBounds p v) a.tmps,defers:=[] } W)
 (hdone:∀(W:World),I xs W→At xs W→w.heap.size+2≤W.heap.size→W.heap[w.heap.size]? =some (.deferred (some []))→Q .normal { a with defers:={ target:= .collected w.heap.size,args:=#[] }::a.defers } W):
 (Code.rangeFunc g ps assign body).wpIn Fence.wide n P Q a w:=by
 refine wpIn_rangeFunc ?_
 intro fn hfn
 rw [show Fence.wide.round=none from rfl]
 obtain⟨rec,hrec⟩:∃ rec:LoopState→Option Code→Loop,rec=fun st pe=>{ state:=st,pending:=pe,fn,tmps:=a.tmps,params:=ps,assign,body,defers:=w.heap.size }:=⟨_,rfl⟩
 obtain⟨W1,hW1⟩:∃ W1,(w.alloc (.deferred (some []))).alloc (.loop (rec .ready none))=W1:=⟨_,rfl⟩
 have hL1:W1.heap[w.heap.size+1]? =some (.loop (rec .ready none)):=by
  rw [← hW1];have:=World.alloc_heap_new (w.alloc (.deferred (some []))) (.loop (rec .ready none));rwa [World.size_alloc] at this
 have hK1:W1.heap[w.heap.size]? =some (.deferred (some [])):=by
  rw [← hW1];exact(Below.heap_alloc _ _ _ (by simp)).trans (World.alloc_heap_new w _)
 have hk1:Keep (fun _=>True) w W1:=by rw [← hW1];exact((Keep.refl _ _).alloc _).alloc _
 have hs1:W1.heap.size=w.heap.size+2:=by rw [← hW1];simp
 have hI1:I [] W1:=hI _ _ _ h0 (hk1.mono fun _ _ _=>trivial)
 refine⟨w.heap.size+1,[{ target:= .collected w.heap.size,args:=#[] }],W1,{ target:= .fn (.func gf) lb,args:=#[.func (.yield (w.heap.size+1)) #[] #[]] },W1,gf,
  #[.func (.yield (w.heap.size+1)) #[] #[]]++lb,W1,?_,?_,?_,?_,fun h=>(by cases h),?_⟩
 · rw [← hW1,hrec];exact run_enterLoop_outer _ _ _ _ _
 · simp only [resolve,hg]
   simp [go_sem]
 · intro f' _;trivial
 · simp [invoke,go_sem,eg]
 · have hnp:∀ k,w.heap.size≤k→¬ priv k:=fun k hk hp=>by have:=hpriv k hp;omega
   have hnm0:¬ mine w.heap.size:=fun hp=>(hmine _ hp).1.1 rfl
   have hnm1:¬ mine (w.heap.size+1):=fun hp=>(hmine _ hp).1.2 rfl
   refine callsIn_wide.2 ((hseq (w.heap.size+1)
    (fun pre W=>I pre W∧w.heap.size+2≤W.heap.size∧W.heap[w.heap.size+1]? =some (.loop (rec .ready none))∧W.heap[w.heap.size]? =some (.deferred (some [])))
    W1 (hk1.mono fun _ _ _=>trivial) (by omega)
    (fun s A B hs hk=>⟨hI s A B hs.1 (hk.mono fun k h _=>h.1),Nat.le_trans hs.2.1 hk.size,hk.heap (hnp _ (by omega)) hs.2.2.1,hk.heap (hnp _ (by omega)) hs.2.2.2⟩)
    ?_ ⟨hI1,by omega,hL1,hK1⟩ (hA0 _ hk1)).mono ?_)
   · rintro pre x rest hxs W ⟨hi,hz,hl,hd⟩ hmid
     have hy:=run_yield (P:=P) (args:=encs x) hl (by rw [hrec];exact hps x)
     rw [hrec] at hy
     refine⟨fn,_,assign,body,hy,fun m=> ?_⟩
     suffices hR:RoundIn Fence.wide n P (w.heap.size+1) fn ((ps.zip (encs x)).foldl (fun t (p,v)=>t.setIfInBounds p v) a.tmps) assign body W _ from⟨hR.1,fun c cs _=>hR.2 c cs (room_wide _)⟩
     refine roundIn_of_wpIn hfn (wpIn_mono (hbody (w.heap.size+1) pre x rest W hxs hz hi hmid) ?_)
     rintro e a₁ W2 hp
     cases e with
     | normal=>
       obtain⟨hk2,hmid2,hnext⟩:=hp
       have hl2:=hk2.heap hnm1 hl
       have hd2:=hk2.heap hnm0 hd
       have hz2:=Nat.le_trans hz hk2.size
       refine⟨_,run_beginRound hl2 (by rw [hrec]),?_⟩
       have hl3:(W2.putObj (w.heap.size+1) (.loop { rec .ready none with state:= .busy })).heap[w.heap.size+1]? =some (.loop { rec .ready none with state:= .busy }):=World.putObj_heap_same (Array.getElem?_eq_some_iff.1 hl2).1
       have hd3:(W2.putObj (w.heap.size+1) (.loop { rec .ready none with state:= .busy })).heap[w.heap.size]? =some (.deferred (some [])):=(World.putObj_heap_other (by omega)).trans hd2
       have hk3:Keep (fun k=>k≠w.heap.size+1) W2 (W2.putObj (w.heap.size+1) (.loop { rec .ready none with state:= .busy })):=(Keep.refl _ _).putObj (fun h=>absurd rfl h) _
       refine wpIn_mono (hnext _ hk3 World.putObj_size (hMid _ _ _ _ _ _ hl2 hmid2)) ?_
       rintro e a3 W3 hp
       cases e with
       | normal=>
         obtain⟨hk4,hi4,ha4⟩:=hp
         have hl4:=hk4.heap hnm1 hl3
         have hd4:=hk4.heap hnm0 hd3
         have hr:=run_endRound (P:=P) none hl4
         have hz3:w.heap.size+2≤W3.heap.size:=by have:=hk4.size;rw [World.putObj_size] at this;omega
         have hk5:∀ o,Keep (fun k=>k≠w.heap.size+1) W3 (W3.putObj (w.heap.size+1) o):=fun o=>(Keep.refl _ _).putObj (fun h=>absurd rfl h) _
         have e1:Keep need W W2:=hk2.mono fun k hn _ hm=>(hmine k hm).2 hn
         have e2:Keep need W2 W3:=(hk3.mono fun k hn _=>by have:=hneed k hn;exact this).trans (hk4.mono fun k hn _ hm=>(hmine k hm).2 hn)
         rw [hrec] at hr ⊢
         exact⟨_,_,hr,rfl,⟨hI _ _ _ hi4 ((hk5 _).mono fun k h _=>h.2.2),by rw [World.putObj_size];exact hz3,World.putObj_heap_same (Array.getElem?_eq_some_iff.1 hl4).1,(World.putObj_heap_other (by omega)).trans hd4⟩,hAt _ _ _ _ _ hl4 ha4,(e1.trans e2).putObj (fun hn=>absurd rfl (hneed _ hn)) _⟩
       | ret=>exact hp.2.elim
       | exit id=>exact hp.2.elim
       | goto t=>exact hp.2.elim
       | panic ch=>exact hp.elim
       | outgrown=>exact hp.elim
     | ret=>exact hp.elim
     | exit id=>exact hp.elim
     | goto t=>exact hp.elim
     | panic ch=>exact hp.elim
     | outgrown=>exact hp.elim
   · rintro e W2 ⟨⟨v,rfl⟩,⟨hi,hz,hl,hd⟩,ha⟩
     have hk5:∀ o,Keep (fun k=>¬ priv k∧k≠w.heap.size∧k≠w.heap.size+1) W2 (W2.putObj (w.heap.size+1) o):=fun o=>(Keep.refl _ _).putObj (fun h=>absurd rfl h.2.2) _
     exact⟨none,_,by have:=run_endLoop (P:=P) hl (by rw [hrec];simp);rw [hrec] at this;exact this,hdone _ (hI _ _ _ hi (hk5 _)) (hAt _ _ _ _ _ hl ha) (by rw [World.putObj_size];exact hz) ((World.putObj_heap_other (by omega)).trans hd)⟩
end Go.Proofs.YtpnbkfboneabaaaGreat
namespace Go.Proofs.YtpnbkfboneabaaaGreat
open Go.RowKit
theorem put_big {a:Act} {d:Tmp} (v:Value) (h:a.tmps.size≤d):a.put (some d) v=a:=by
 obtain⟨t,f⟩:=a
 show(⟨t.setIfInBounds d v,f⟩:Act)=⟨t,f⟩
 refine congrArg (fun t=>(⟨t,f⟩:Act)) ?_
 apply Array.ext_getElem?
 intro i
 by_cases hi:d=i
 · subst hi
   have h':t.size≤d:=h
   rw [Array.getElem?_eq_none (by rw [Array.size_setIfInBounds];exact h'),Array.getElem?_eq_none h']
 · rw [Array.getElem?_setIfInBounds_ne hi]
def allB (ops:Array Oper) (s:Nat) (ds:List Tmp) (size:Nat):Bool:=
 decide (ds.length=ops.size) && decide ds.Nodup &&
 ((List.range ops.size).all fun i=>match ops[i]? with
   | none=>false
   | some o=>(o.guard.isNone) && (o.after.all fun e=> !Region.binds .any e || decide (e.on<i)) &&
     match ds[i]? with
     | none=>false
     | some d=>if i=s then (o.dst == none) && decide (size≤d) else (o.dst == some d) && decide (d<size))
def early (ops:Array Oper) (s i:Nat):Bool:=
 match ops[s]? with
 | none=>false
 | some o=>o.after.any fun e=>Region.binds .any e && e.on == i
def Stores (P:Program) (ρ:Operand→Value) (o:Oper) (w:World) (K:World→Prop):Prop:=
 ∃ w',((execOp ρ o).run P w= .ok .skip w'∨∃ v,(execOp ρ o).run P w= .ok (.value v) w')∧K w'
theorem Stores.wp {P:Program} {a:Act} {o:Oper} {w:World} {K:World→Prop} (h:Stores P a.eval o w K) (hd:o.dst=none) {N:Act→World→Prop} {Q:Exit→Act→World→Prop} (hK:∀ w',K w'→N a w'):o.wp P a w N Q:=by
 obtain⟨w',h1,h2⟩:=h
 unfold Oper.wp
 rcases h1 with h1 | ⟨v,h1⟩
 · rw [h1]
   show N (a.put o.dst undef) w'
   rw [hd]
   exact hK w' h2
 · rw [h1]
   show N (a.put o.dst v) w'
   rw [hd]
   exact hK w' h2
def turnB (ops:Array Oper) (n s:Nat) (ds:List Tmp) (size:Nat):Bool:=
 decide (ds.length=n) && decide ds.Nodup && decide (n≤ops.size) &&
 ((List.range ops.size).all fun i=>match ops[i]? with
   | none=>false
   | some o=>
     if i<n then (o.guard.isNone) && (o.after.all fun e=> !Region.binds .any e || decide (e.on<i)) &&
      match ds[i]? with
      | none=>false
      | some d=>if i=s then (o.dst == none) && decide (size≤d) else (o.dst == some d) && decide (d<size)
     else (List.range n).all fun j=>o.after.any fun e=>Region.binds .any e && e.on == j)
def CSteps (P:Program) (ops:Array Oper) (n s:Nat) (ds:List Tmp) (B:Bool→World→Prop) (R:Bool→Nat→Value→World→Prop) (a0:Act) (i:Nat):Prop:=
 ∀ j,i≤j→j<n→j≠s→∀ o,ops[j]? =some o→∀(b:Bool) (x:Nat→Value) (w:World) (ρ:Operand→Value),(b=true→early ops s j=false)→B b w→(∀ e∈o.after,Region.binds .any e=true→e.on≠s→R b e.on (x e.on) w)→
  (∀ i d,ds[i]? =some d→i≠s→ρ (.tmp d)=x i)→(∀ t,t ∉ ds→ρ (.tmp t)=a0.eval (.tmp t))→(∀ v,ρ (.const v)=v)→(∀ f,ρ (.func f)= .func (.func f) #[] #[])→Stepped P ρ o w (R b j)
theorem CSteps.nil {P:Program} {ops:Array Oper} {n s:Nat} {ds:List Tmp} {B:Bool→World→Prop} {R:Bool→Nat→Value→World→Prop} {a0:Act} {i:Nat} (h:n≤i):CSteps P ops n s ds B R a0 i:=fun j h1 h2=>by omega
theorem CSteps.skip {P:Program} {ops:Array Oper} {n s:Nat} {ds:List Tmp} {B:Bool→World→Prop} {R:Bool→Nat→Value→World→Prop} {a0:Act} (hs:CSteps P ops n s ds B R a0 (s+1)):CSteps P ops n s ds B R a0 s:=fun j h1 h2 h3=>hs j (by omega) h2 h3
theorem CSteps.ahead {P:Program} {ops:Array Oper} {n s:Nat} {ds:List Tmp} {B:Bool→World→Prop} {R:Bool→Nat→Value→World→Prop} {a0:Act} {i:Nat} {o:Oper} (ho:ops[i]? =some o) (he:early ops s i=true)
 (h:∀(x:Nat→Value) (w:World) (ρ:Operand→Value),B false w→(∀ e∈o.after,Region.binds .any e=true→e.on≠s→R false e.on (x e.on) w)→
  (∀ i d,ds[i]? =some d→i≠s→ρ (.tmp d)=x i)→(∀ t,t ∉ ds→ρ (.tmp t)=a0.eval (.tmp t))→(∀ v,ρ (.const v)=v)→(∀ f,ρ (.func f)= .func (.func f) #[] #[])→Stepped P ρ o w (R false i))
 (hs:CSteps P ops n s ds B R a0 (i+1)):CSteps P ops n s ds B R a0 i:=by
 intro j h1 h2 h3 o' ho' b x w ρ hb
 by_cases hj:j=i
 · subst hj
   rw [ho] at ho'
   cases ho'
   cases b with
   | true=>have:=hb rfl;rw [he] at this;cases this
   | false=>exact h x w ρ
 · exact hs j (by omega) h2 h3 o' ho' b x w ρ hb
theorem CSteps.free {P:Program} {ops:Array Oper} {n s:Nat} {ds:List Tmp} {B:Bool→World→Prop} {R:Bool→Nat→Value→World→Prop} {a0:Act} {i:Nat} {o:Oper} (ho:ops[i]? =some o)
 (h:∀(b:Bool) (x:Nat→Value) (w:World) (ρ:Operand→Value),B b w→(∀ e∈o.after,Region.binds .any e=true→e.on≠s→R b e.on (x e.on) w)→
  (∀ i d,ds[i]? =some d→i≠s→ρ (.tmp d)=x i)→(∀ t,t ∉ ds→ρ (.tmp t)=a0.eval (.tmp t))→(∀ v,ρ (.const v)=v)→(∀ f,ρ (.func f)= .func (.func f) #[] #[])→Stepped P ρ o w (R b i))
 (hs:CSteps P ops n s ds B R a0 (i+1)):CSteps P ops n s ds B R a0 i:=by
 intro j h1 h2 h3 o' ho' b x w ρ hb
 by_cases hj:j=i
 · subst hj
   rw [ho] at ho'
   cases ho'
   exact h b x w ρ
 · exact hs j (by omega) h2 h3 o' ho' b x w ρ hb
theorem wpAny_turns {P:Program} {ops:Array Oper} {Q:Exit→Act→World→Prop} (n s:Nat) (ds:List Tmp) (t:Nat) (L:Array Bool) (B:Bool→World→Prop) (R:Bool→Nat→Value→World→Prop) {a0:Act} {w0:World} (size:Nat)
 (ht:ops.size-n=t) (hL:((List.range ops.size).map fun j=>decide (j<n)).toArray=L) (hsz:a0.tmps.size=size) (hc:turnB ops n s ds size=true) (hss:s<n)
 (hmono:∀ b j,∀ v w w',R b j v w→Below w.heap.size w w'→R b j v w') (hB0:B false w0) (hBm:∀ b w w',B b w→Below w.heap.size w w'→B b w')
 (hstep:CSteps P ops n s ds B R a0 0)
 (hstore:∀ o,ops[s]? =some o→∀(x:Nat→Value) (w:World) (ρ:Operand→Value),B false w→(∀ e∈o.after,Region.binds .any e=true→R false e.on (x e.on) w)→
  (∀ i d,ds[i]? =some d→i≠s→ρ (.tmp d)=x i)→(∀ t,t ∉ ds→ρ (.tmp t)=a0.eval (.tmp t))→(∀ v,ρ (.const v)=v)→Stores P ρ o w fun w'=>B true w'∧∀ j,j≠s→R false j (x j) w→R true j (x j) w')
 (hrest:∀ x w,B true w→(∀ j,j<n→j≠s→R true j (x j) w)→wpAny P .any ops Q t L (putAll ds 0 x a0) w):
 wpAny P .any ops Q ops.size (Array.replicate ops.size false) a0 w0:=by
 subst hsz
 subst ht hL
 unfold turnB at hc
 simp only [Bool.and_eq_true,decide_eq_true_eq] at hc
 obtain⟨⟨⟨hlen,hnd⟩,hle⟩,hall⟩:=hc
 rw [List.all_eq_true] at hall
 have hop:∀ i,i<n→∀ o,ops[i]? =some o→o.guard=none∧(∀ e∈o.after,Region.binds .any e=true→e.on<i)∧∃ d,ds[i]? =some d∧(i=s→o.dst=none∧a0.tmps.size≤d)∧(i≠s→o.dst=some d∧d<a0.tmps.size):=by
  intro i hi o ho
  have h:=hall i (List.mem_range.2 (by omega))
  have hid:i<ds.length:=by omega
  rw [ho] at h
  simp only [if_pos hi,List.getElem?_eq_getElem hid,Bool.and_eq_true] at h
  obtain⟨⟨h1,h2⟩,h3⟩:=h
  refine⟨by simpa using h1,fun e he hb=> ?_,ds[i],List.getElem?_eq_getElem hid,fun his=> ?_,fun his=> ?_⟩
  · rw [Array.all_eq_true'] at h2
    have h4:=h2 e he
    rw [hb] at h4
    simpa using h4
  · rw [if_pos his,Bool.and_eq_true] at h3
    exact⟨eq_of_beq h3.1,by simpa using h3.2⟩
  · rw [if_neg his,Bool.and_eq_true] at h3
    exact⟨eq_of_beq h3.1,by simpa using h3.2⟩
 have htail:∀ i,n≤i→∀ o,ops[i]? =some o→∀ j,j<n→∃ e∈o.after,Region.binds .any e=true∧e.on=j:=by
  intro i hi o ho j hj
  have hil:i<ops.size:=(Array.getElem?_eq_some_iff.1 ho).1
  have h:=hall i (List.mem_range.2 hil)
  rw [ho] at h
  simp only [if_neg (show ¬ i<n by omega)] at h
  rw [List.all_eq_true] at h
  have h1:=h j (List.mem_range.2 hj)
  rw [Array.any_eq_true'] at h1
  obtain⟨e,he,h2⟩:=h1
  rw [Bool.and_eq_true] at h2
  exact⟨e,he,h2.1,by simpa using h2.2⟩
 have hin:∀ x i d,ds[i]? =some d→i≠s→(putAll ds 0 x a0).eval (.tmp d)=x i:=by
  intro x i d hid his
  have hil:i<n:=by rw [← hlen];exact(List.getElem?_eq_some_iff.1 hid).1
  obtain⟨_,_,d',hd',_,h2⟩:=hop i hil ops[i] (Array.getElem?_eq_getElem (by omega))
  rw [hid] at hd'
  cases hd'
  rw [putAll_in ds 0 i x a0 hnd hid (h2 his).2,Nat.zero_add]
 have claim:∀(m:Nat) (listed:Array Bool) (x:Nat→Value) (w:World),unl listed n=m→listed.size=ops.size→(∀ j,n≤j→listed.getD j false=false)→B (listed.getD s false) w→
  (listed.getD s false=true→∀ i,early ops s i=true→listed.getD i false=true)→
  (∀ j,j<n→j≠s→listed.getD j false=true→R (listed.getD s false) j (x j) w)→wpAny P .any ops Q (m+(ops.size-n)) listed (putAll ds 0 x a0) w:=by
  intro m
  induction m with
  | zero=>
    intro listed x w hm hsz hlo hB hE hRx
    rw [Nat.zero_add]
    have hl:listed=((List.range ops.size).map fun j=>decide (j<n)).toArray:=by
     apply Array.ext
     · simp [hsz]
     · intro j h1 h2
       have hj:listed.getD j false=listed[j]:=by rw [Array.getD_eq_getD_getElem?,Array.getElem?_eq_getElem h1];rfl
       have:listed[j]=decide (j<n):=by
        rw [← hj]
        by_cases hjn:j<n
        · rw [unl_zero hm j hjn,decide_eq_true hjn]
        · rw [hlo j (by omega),decide_eq_false hjn]
       rw [this]
       simp
    have hs:=unl_zero hm s hss
    rw [hs] at hB hRx
    rw [hl]
    exact hrest x w hB (fun j hj hjs=>hRx j hj hjs (unl_zero hm j hj))
  | succ m ih=>
    intro listed x w hm hsz hlo hB hE hRx
    rw [show m+1+(ops.size-n)=(m+(ops.size-n))+1 by omega]
    obtain⟨i0,hi0,hf0,hb0⟩:=unl_some (listed:=listed) (n:=n) (by omega)
    have hi0s:i0<ops.size:=by omega
    refine⟨fun hr=> ?_,fun i hi=> ?_⟩
    · exfalso
      have:i0∈Region.ready .any ops listed:=by
       unfold Region.ready
       rw [List.mem_filter]
       refine⟨List.mem_range.2 hi0s,?_⟩
       rw [Bool.and_eq_true]
       constructor
       · have:listed.getD i0 true=false:=by
          rw [Array.getD_eq_getD_getElem?] at hf0 ⊢
          rw [Array.getElem?_eq_getElem (by omega)] at hf0 ⊢
          exact hf0
         rw [this]
         rfl
       · rw [Array.getElem?_eq_getElem hi0s]
         simp only [Option.map_some,Option.getD_some]
         rw [Array.all_eq_true']
         intro e he
         cases hb:Region.binds .any e with
         | false=>rfl
         | true=>
           have:=(hop i0 hi0 _ (Array.getElem?_eq_getElem hi0s)).2.1 e he hb
           rw [hb0 e.on this]
           rfl
      rw [hr] at this
      cases this
    · obtain⟨his,hif,o,ho,hedge⟩:=ready_mem hi
      have hif':listed.getD i false=false:=by
       rw [Array.getD_eq_getD_getElem?] at hif ⊢
       rw [Array.getElem?_eq_getElem (by omega)] at hif ⊢
       exact hif
      have hin0:i<n:=by
       refine Decidable.byContradiction fun hge=> ?_
       obtain⟨e,he,hb,hj⟩:=htail i (by omega) o ho i0 hi0
       have:=hedge e he hb
       rw [hj,hf0] at this
       cases this
      obtain⟨hg,hback,d,hdi,hst,hns⟩:=hop i hin0 o ho
      have hset:(listed.setIfInBounds i true).getD i false=true:=by
       rw [Array.getD_eq_getD_getElem?]
       simp [show i<listed.size by omega]
      have hoth:∀ j,j≠i→(listed.setIfInBounds i true).getD j false=listed.getD j false:=fun j hj=>by
       rw [Array.getD_eq_getD_getElem?,Array.getElem?_setIfInBounds_ne (Ne.symm hj),← Array.getD_eq_getD_getElem?]
      have hun:unl (listed.setIfInBounds i true) n=m:=by
       have:=unl_step (listed:=listed) (by omega:i<listed.size) hif' hin0
       omega
      have hlo2:∀ j,n≤j→(listed.setIfInBounds i true).getD j false=false:=fun j hj=>by
       rw [hoth j (by omega)]
       exact hlo j hj
      unfold wpOp
      rw [ho]
      have hwant:Region.wanted o (yielded ops (putAll ds 0 x a0).tmps)=true:=by
       unfold Region.wanted
       rw [hg]
      simp only [hwant,if_true]
      by_cases hi_s:i=s
      · subst hi_s
        obtain⟨hd,hbig⟩:=hst rfl
        have hnos:∀ e∈o.after,Region.binds .any e=true→e.on≠i:=fun e he hb=>by have:=hback e he hb;omega
        rw [hif'] at hB
        refine .inl (Stores.wp (hstore o ho x w _ hB (fun e he hb=> ?_) (hin x) (fun t ht=>putAll_out ds 0 x a0 ht) (fun _=>rfl)) hd ?_)
        · have h:=hRx e.on (by have:=hback e he hb;omega) (hnos e he hb) (hedge e he hb)
          rw [hif'] at h
          exact h
        rintro w' ⟨hbw,hturn⟩
        refine ih (listed.setIfInBounds i true) x w' hun (by rw [Array.size_setIfInBounds,hsz]) hlo2 (by rw [hset];exact hbw) (fun _ k hk=> ?_) (fun j hj hji hlj=> ?_)
        · unfold early at hk
          rw [ho] at hk
          rw [Array.any_eq_true'] at hk
          obtain⟨e,he,h2⟩:=hk
          rw [Bool.and_eq_true] at h2
          have hke:e.on=k:=by simpa using h2.2
          rw [hoth k (by rw [← hke];exact hnos e he h2.1),← hke]
          exact hedge e he h2.1
        · rw [hset]
          rw [hoth j hji] at hlj
          have h:=hRx j hj hji hlj
          rw [hif'] at h
          exact hturn j hji h
      · obtain⟨hd,hlt⟩:=hns hi_s
        have hS:(listed.setIfInBounds i true).getD s false=listed.getD s false:=hoth s (fun h=>hi_s h.symm)
        refine .inl (Stepped.wp (hstep i (Nat.zero_le _) hin0 hi_s o ho (listed.getD s false) x w _ (fun hb=> ?_) hB (fun e he hb hne=>hRx e.on (by have:=hback e he hb;omega) hne (hedge e he hb)) (hin x) (fun t ht=>putAll_out ds 0 x a0 ht) (fun _=>rfl) (fun _=>rfl)) ?_)
        · cases he:early ops s i with
          | false=>rfl
          | true=>
            have:=hE hb i he
            rw [hif'] at this
            cases this
        intro v w' hbw hR
        rw [hd,putAll_at ds 0 i d x a0 hnd hdi]
        refine ih (listed.setIfInBounds i true) _ w' hun (by rw [Array.size_setIfInBounds,hsz]) hlo2 (by rw [hS];exact hBm _ _ _ hB hbw) (fun h k hk=> ?_) (fun j hj hjs hlj=> ?_)
        · rw [hS] at h
          by_cases hki:k=i
          · rw [hki];exact hset
          · rw [hoth k hki];exact hE h k hk
        · rw [hS]
          by_cases hji:j=i
          · subst hji
            rw [if_pos (by omega)]
            exact hR
          · rw [if_neg (by omega)]
            rw [hoth j hji] at hlj
            exact hmono _ j _ _ _ (hRx j hj hjs hlj) hbw
 obtain⟨x,hx⟩:=putAll_old ds 0 a0
 have hno:∀ j,(Array.replicate ops.size false).getD j false=false:=fun j=>by
  rw [Array.getD_eq_getD_getElem?]
  by_cases hj:j<ops.size
  · simp [hj]
  · simp [hj]
 have hun:∀ k,unl (Array.replicate ops.size false) k=k:=by
  intro k
  induction k with
  | zero=>rfl
  | succ k ih=>
    unfold unl
    rw [ih,hno k]
    rfl
 have h:=claim n (Array.replicate ops.size false) x w0 (hun n) (Array.size_replicate ..) (fun j _=>hno j) (by rw [hno];exact hB0) (fun h=>by rw [hno] at h;cases h) (fun j _ _ hl=>by rw [hno] at hl;cases hl)
 rw [hx,show n+(ops.size-n)=ops.size by omega] at h
 exact h
def turns:List Nat→(Nat→Bool)→Nat
 | [],_=>0
 | s::sp,L=>if L s=true then turns sp L+1 else 0
theorem turns_congr:∀ {sp:List Nat} {L M:Nat→Bool},(∀ s∈sp,L s=M s)→turns sp L=turns sp M
 | [],_,_,_=>rfl
 | s::sp,L,M,h=>by
   unfold turns
   rw [h s List.mem_cons_self,turns_congr fun t ht=>h t (List.mem_cons_of_mem _ ht)]
theorem turns_at:∀ {sp:List Nat} {L:Nat→Bool} {k i:Nat},sp[k]? =some i→(∀ j t,j<k→sp[j]? =some t→L t=true)→L i=false→turns sp L=k
 | [],_,_,_,h,_,_=>by simp at h
 | s::sp,L,0,i,h,_,hi=>by
   simp only [List.getElem?_cons_zero,Option.some.injEq] at h
   subst h
   unfold turns
   rw [hi,if_neg (by decide)]
 | s::sp,L,k+1,i,h,hl,hi=>by
   unfold turns
   rw [hl 0 s (by omega) rfl,if_pos rfl,turns_at (k:=k) (by simpa using h) (fun j t hj ht=>hl (j+1) t (by omega) (by simpa using ht)) hi]
theorem turns_next:∀ {sp:List Nat} {L:Nat→Bool} {k:Nat},k<sp.length→(∀ j t,j≤k→sp[j]? =some t→L t=true)→(∀ t,sp[k+1]? =some t→L t=false)→turns sp L=k+1
 | [],_,_,h,_,_=>by simp at h
 | s::sp,L,0,_,hl,hn=>by
   unfold turns
   rw [hl 0 s (Nat.le_refl _) rfl,if_pos rfl]
   cases sp with
   | nil=>rfl
   | cons t sp=>
     unfold turns
     rw [hn t rfl,if_neg (by decide)]
 | s::sp,L,k+1,h,hl,hn=>by
   unfold turns
   rw [hl 0 s (by omega) rfl,if_pos rfl,turns_next (k:=k) (by simpa using h) (fun j t hj ht=>hl (j+1) t (by omega) (by simpa using ht)) (fun t ht=>hn t (by simpa using ht))]
theorem turns_all:∀ {sp:List Nat} {L:Nat→Bool},(∀ s∈sp,L s=true)→turns sp L=sp.length
 | [],_,_=>rfl
 | s::sp,L,h=>by
   unfold turns
   rw [h s List.mem_cons_self,if_pos rfl,turns_all fun t ht=>h t (List.mem_cons_of_mem _ ht)]
   rfl
theorem turns_lt {sp:List Nat} {L:Nat→Bool}:∀ {k s:Nat},sp[k]? =some s→k<turns sp L→L s=true:=by
 induction sp with
 | nil=>intro k s h _;simp at h
 | cons t sp ih=>
   intro k s h hk
   unfold turns at hk
   by_cases ht:L t=true
   · rw [if_pos ht] at hk
     cases k with
     | zero=>
       simp only [List.getElem?_cons_zero,Option.some.injEq] at h
       subst h
       exact ht
     | succ k=>exact ih (by simpa using h) (by omega)
   · rw [if_neg ht] at hk
     omega
def phaseB (ops:Array Oper) (n:Nat) (sp:List Nat) (ds:List Tmp) (size:Nat):Bool:=
 decide (ds.length=n) && decide ds.Nodup && decide (n≤ops.size) && decide sp.Nodup && (sp.all fun s=>decide (s<n)) && ((List.range (sp.length-1)).all fun k=>early ops (sp.getD (k+1) 0) (sp.getD k 0)) &&
 ((List.range ops.size).all fun i=>match ops[i]? with
   | none=>false
   | some o=>
     if i<n then (o.guard.isNone) && (o.after.all fun e=> !Region.binds .any e || decide (e.on<i)) &&
      match ds[i]? with
      | none=>false
      | some d=>(o.dst == some d) && decide (d<size) || (o.dst == none) && decide (size≤d) && sp.contains i
     else (List.range n).all fun j=>o.after.any fun e=>Region.binds .any e && e.on == j)
def Turned (P:Program) (ρ:Operand→Value) (o:Oper) (w:World) (K:Value→World→Prop):Prop:=
 ∃ v w',((execOp ρ o).run P w= .ok (.value v) w'∨(execOp ρ o).run P w= .ok .skip w'∧v=undef)∧K v w'
theorem Turned.wp {P:Program} {a:Act} {o:Oper} {w:World} {K:Value→World→Prop} (h:Turned P a.eval o w K) {N:Act→World→Prop} {Q:Exit→Act→World→Prop} (hK:∀ v w',K v w'→N (a.put o.dst v) w'):o.wp P a w N Q:=by
 obtain⟨v,w',h1,h2⟩:=h
 unfold Oper.wp
 rcases h1 with h1 | ⟨h1,rfl⟩
 · rw [h1]
   exact hK v w' h2
 · rw [h1]
   exact hK undef w' h2
def PSteps (P:Program) (ops:Array Oper) (n:Nat) (sp:List Nat) (ds:List Tmp) (size:Nat) (B:Nat→(Nat→Value)→World→Prop) (R:Nat→Nat→Value→World→Prop) (a0:Act) (i:Nat):Prop:=
 ∀ j,i≤j→j<n→j ∉ sp→∀ o,ops[j]? =some o→∀(b:Nat) (x:Nat→Value) (w:World) (ρ:Operand→Value),(∀ k s,sp[k]? =some s→early ops s j=true→b≤k)→B b x w→(∀ e∈o.after,Region.binds .any e=true→R b e.on (x e.on) w)→
  (∀ i d,ds[i]? =some d→d<size→ρ (.tmp d)=x i)→(∀ t,t ∉ ds→ρ (.tmp t)=a0.eval (.tmp t))→(∀ v,ρ (.const v)=v)→(∀ f,ρ (.func f)= .func (.func f) #[] #[])→Stepped P ρ o w (R b j)
theorem PSteps.nil {P:Program} {ops:Array Oper} {n:Nat} {sp:List Nat} {ds:List Tmp} {size:Nat} {B:Nat→(Nat→Value)→World→Prop} {R:Nat→Nat→Value→World→Prop} {a0:Act} {i:Nat} (h:n≤i):PSteps P ops n sp ds size B R a0 i:=fun j h1 h2=>by omega
theorem PSteps.skip {P:Program} {ops:Array Oper} {n:Nat} {sp:List Nat} {ds:List Tmp} {size:Nat} {B:Nat→(Nat→Value)→World→Prop} {R:Nat→Nat→Value→World→Prop} {a0:Act} {i:Nat} (hi:i∈sp) (hs:PSteps P ops n sp ds size B R a0 (i+1)):PSteps P ops n sp ds size B R a0 i:=fun j h1 h2 h3=>by
 have:j≠i:=fun e=>h3 (e ▸ hi)
 exact hs j (by omega) h2 h3
theorem PSteps.upto {P:Program} {ops:Array Oper} {n:Nat} {sp:List Nat} {ds:List Tmp} {size:Nat} {B:Nat→(Nat→Value)→World→Prop} {R:Nat→Nat→Value→World→Prop} {a0:Act} {i:Nat} {o:Oper} (m s:Nat) (hm:sp[m]? =some s) (ho:ops[i]? =some o) (he:early ops s i=true)
 (h:∀(b:Nat) (x:Nat→Value) (w:World) (ρ:Operand→Value),b≤m→B b x w→(∀ e∈o.after,Region.binds .any e=true→R b e.on (x e.on) w)→
  (∀ i d,ds[i]? =some d→d<size→ρ (.tmp d)=x i)→(∀ t,t ∉ ds→ρ (.tmp t)=a0.eval (.tmp t))→(∀ v,ρ (.const v)=v)→(∀ f,ρ (.func f)= .func (.func f) #[] #[])→Stepped P ρ o w (R b i))
 (hs:PSteps P ops n sp ds size B R a0 (i+1)):PSteps P ops n sp ds size B R a0 i:=by
 intro j h1 h2 h3 o' ho' b x w ρ hb
 by_cases hj:j=i
 · subst hj
   rw [ho] at ho'
   cases ho'
   exact h b x w ρ (hb m s hm he)
 · exact hs j (by omega) h2 h3 o' ho' b x w ρ hb
theorem PSteps.free {P:Program} {ops:Array Oper} {n:Nat} {sp:List Nat} {ds:List Tmp} {size:Nat} {B:Nat→(Nat→Value)→World→Prop} {R:Nat→Nat→Value→World→Prop} {a0:Act} {i:Nat} {o:Oper} (ho:ops[i]? =some o)
 (h:∀(b:Nat) (x:Nat→Value) (w:World) (ρ:Operand→Value),B b x w→(∀ e∈o.after,Region.binds .any e=true→R b e.on (x e.on) w)→
  (∀ i d,ds[i]? =some d→d<size→ρ (.tmp d)=x i)→(∀ t,t ∉ ds→ρ (.tmp t)=a0.eval (.tmp t))→(∀ v,ρ (.const v)=v)→(∀ f,ρ (.func f)= .func (.func f) #[] #[])→Stepped P ρ o w (R b i))
 (hs:PSteps P ops n sp ds size B R a0 (i+1)):PSteps P ops n sp ds size B R a0 i:=by
 intro j h1 h2 h3 o' ho' b x w ρ hb
 by_cases hj:j=i
 · subst hj
   rw [ho] at ho'
   cases ho'
   exact h b x w ρ
 · exact hs j (by omega) h2 h3 o' ho' b x w ρ hb
def PTurn (P:Program) (ops:Array Oper) (sp:List Nat) (ds:List Tmp) (size:Nat) (B:Nat→(Nat→Value)→World→Prop) (R:Nat→Nat→Value→World→Prop) (a0:Act) (k:Nat):Prop:=
 ∀ s,sp[k]? =some s→∀ o,ops[s]? =some o→∀(x:Nat→Value) (w:World) (ρ:Operand→Value),B k x w→(∀ e∈o.after,Region.binds .any e=true→R k e.on (x e.on) w)→
  (∀ i d,ds[i]? =some d→d<size→ρ (.tmp d)=x i)→(∀ t,t ∉ ds→ρ (.tmp t)=a0.eval (.tmp t))→(∀ v,ρ (.const v)=v)→
  Turned P ρ o w fun v w'=>B (k+1) (fun j=>if j=s then v else x j) w'∧R (k+1) s v w'∧∀ j,j≠s→R k j (x j) w→R (k+1) j (x j) w'
theorem wpAny_phases {P:Program} {ops:Array Oper} {Q:Exit→Act→World→Prop} (n:Nat) (sp:List Nat) (ds:List Tmp) (t:Nat) (L:Array Bool) (B:Nat→(Nat→Value)→World→Prop) (R:Nat→Nat→Value→World→Prop) {a0:Act} {w0:World} (size:Nat)
 (ht:ops.size-n=t) (hL:((List.range ops.size).map fun j=>decide (j<n)).toArray=L) (hsz:a0.tmps.size=size) (hc:phaseB ops n sp ds size=true)
 (hmono:∀ b j,∀ v w w',R b j v w→Below w.heap.size w w'→R b j v w') (hB0:∀ x,B 0 x w0) (hBm:∀ b x y w w',B b x w→(∀ s∈sp,y s=x s)→Below w.heap.size w w'→B b y w')
 (hstep:PSteps P ops n sp ds size B R a0 0) (hturn:∀ k,PTurn P ops sp ds size B R a0 k)
 (hrest:∀ x w,B sp.length x w→(∀ j,j<n→R sp.length j (x j) w)→wpAny P .any ops Q t L (putAll ds 0 x a0) w):
 wpAny P .any ops Q ops.size (Array.replicate ops.size false) a0 w0:=by
 subst hsz
 subst ht hL
 unfold phaseB at hc
 simp only [Bool.and_eq_true,decide_eq_true_eq] at hc
 obtain⟨⟨⟨⟨⟨⟨hlen,hnd⟩,hle⟩,hspn⟩,hspl⟩,hch⟩,hall⟩:=hc
 rw [List.all_eq_true] at hall hspl hch
 have hspn':∀ s∈sp,s<n:=fun s hs=>by simpa using hspl s hs
 have hchain:∀ k s s',sp[k]? =some s→sp[k+1]? =some s'→early ops s' s=true:=by
  intro k s s' h1 h2
  have hk:k+1<sp.length:=(List.getElem?_eq_some_iff.1 h2).1
  have:=hch k (List.mem_range.2 (by omega))
  rw [List.getD_eq_getElem?_getD,List.getD_eq_getElem?_getD,h1,h2] at this
  exact this
 have hop:∀ i,i<n→∀ o,ops[i]? =some o→o.guard=none∧(∀ e∈o.after,Region.binds .any e=true→e.on<i)∧∃ d,ds[i]? =some d∧(o.dst=some d∧d<a0.tmps.size∨o.dst=none∧a0.tmps.size≤d∧i∈sp):=by
  intro i hi o ho
  have h:=hall i (List.mem_range.2 (by omega))
  have hid:i<ds.length:=by omega
  rw [ho] at h
  simp only [if_pos hi,List.getElem?_eq_getElem hid,Bool.and_eq_true,Bool.or_eq_true] at h
  obtain⟨⟨h1,h2⟩,h3⟩:=h
  refine⟨by simpa using h1,fun e he hb=> ?_,ds[i],List.getElem?_eq_getElem hid,?_⟩
  · rw [Array.all_eq_true'] at h2
    have h4:=h2 e he
    rw [hb] at h4
    simpa using h4
  · rcases h3 with ⟨h3,h4⟩ | ⟨⟨h3,h4⟩,h5⟩
    · exact .inl ⟨eq_of_beq h3,by simpa using h4⟩
    · exact .inr ⟨eq_of_beq h3,by simpa using h4,by simpa using h5⟩
 have htail:∀ i,n≤i→∀ o,ops[i]? =some o→∀ j,j<n→∃ e∈o.after,Region.binds .any e=true∧e.on=j:=by
  intro i hi o ho j hj
  have hil:i<ops.size:=(Array.getElem?_eq_some_iff.1 ho).1
  have h:=hall i (List.mem_range.2 hil)
  rw [ho] at h
  simp only [if_neg (show ¬ i<n by omega)] at h
  rw [List.all_eq_true] at h
  have h1:=h j (List.mem_range.2 hj)
  rw [Array.any_eq_true'] at h1
  obtain⟨e,he,h2⟩:=h1
  rw [Bool.and_eq_true] at h2
  exact⟨e,he,h2.1,by simpa using h2.2⟩
 have hin:∀ x i d,ds[i]? =some d→d<a0.tmps.size→(putAll ds 0 x a0).eval (.tmp d)=x i:=by
  intro x i d hid hd
  rw [putAll_in ds 0 i x a0 hnd hid hd,Nat.zero_add]
 have hput:∀ x i d o v,ds[i]? =some d→(o.dst=some d∧d<a0.tmps.size∨o.dst=none∧a0.tmps.size≤d∧i∈sp)→(putAll ds 0 x a0).put (o:Oper).dst v=putAll ds 0 (fun j=>if j=i then v else x j) a0:=by
  intro x i d o v hid h
  have h1:=putAll_at (v:=v) ds 0 i d x a0 hnd hid
  rw [Nat.zero_add] at h1
  rw [← h1]
  rcases h with ⟨h,_⟩ | ⟨h,h2,_⟩
  · rw [h]
  · rw [h,put_big v (by rw [putAll_size];exact h2)]
    rfl
 have claim:∀(m:Nat) (listed:Array Bool) (x:Nat→Value) (w:World),unl listed n=m→listed.size=ops.size→(∀ j,n≤j→listed.getD j false=false)→
  (∀ s∈sp,listed.getD s false=true→∀ i,early ops s i=true→listed.getD i false=true)→B (turns sp fun j=>listed.getD j false) x w→
  (∀ j,j<n→listed.getD j false=true→R (turns sp fun j=>listed.getD j false) j (x j) w)→wpAny P .any ops Q (m+(ops.size-n)) listed (putAll ds 0 x a0) w:=by
  intro m
  induction m with
  | zero=>
    intro listed x w hm hsz hlo hE hB hRx
    rw [Nat.zero_add]
    have hl:listed=((List.range ops.size).map fun j=>decide (j<n)).toArray:=by
     apply Array.ext
     · simp [hsz]
     · intro j h1 h2
       have hj:listed.getD j false=listed[j]:=by rw [Array.getD_eq_getD_getElem?,Array.getElem?_eq_getElem h1];rfl
       have:listed[j]=decide (j<n):=by
        rw [← hj]
        by_cases hjn:j<n
        · rw [unl_zero hm j hjn,decide_eq_true hjn]
        · rw [hlo j (by omega),decide_eq_false hjn]
       rw [this]
       simp
    rw [turns_all (fun s hs=>unl_zero hm s (hspn' s hs))] at hB hRx
    rw [hl]
    exact hrest x w hB (fun j hj=>hRx j hj (unl_zero hm j hj))
  | succ m ih=>
    intro listed x w hm hsz hlo hE hB hRx
    rw [show m+1+(ops.size-n)=(m+(ops.size-n))+1 by omega]
    obtain⟨i0,hi0,hf0,hb0⟩:=unl_some (listed:=listed) (n:=n) (by omega)
    have hi0s:i0<ops.size:=by omega
    refine⟨fun hr=> ?_,fun i hi=> ?_⟩
    · exfalso
      have:i0∈Region.ready .any ops listed:=by
       unfold Region.ready
       rw [List.mem_filter]
       refine⟨List.mem_range.2 hi0s,?_⟩
       rw [Bool.and_eq_true]
       constructor
       · have:listed.getD i0 true=false:=by
          rw [Array.getD_eq_getD_getElem?] at hf0 ⊢
          rw [Array.getElem?_eq_getElem (by omega)] at hf0 ⊢
          exact hf0
         rw [this]
         rfl
       · rw [Array.getElem?_eq_getElem hi0s]
         simp only [Option.map_some,Option.getD_some]
         rw [Array.all_eq_true']
         intro e he
         cases hb:Region.binds .any e with
         | false=>rfl
         | true=>
           have:=(hop i0 hi0 _ (Array.getElem?_eq_getElem hi0s)).2.1 e he hb
           rw [hb0 e.on this]
           rfl
      rw [hr] at this
      cases this
    · obtain⟨his,hif,o,ho,hedge⟩:=ready_mem hi
      have hif':listed.getD i false=false:=by
       rw [Array.getD_eq_getD_getElem?] at hif ⊢
       rw [Array.getElem?_eq_getElem (by omega)] at hif ⊢
       exact hif
      have hin0:i<n:=by
       refine Decidable.byContradiction fun hge=> ?_
       obtain⟨e,he,hb,hj⟩:=htail i (by omega) o ho i0 hi0
       have:=hedge e he hb
       rw [hj,hf0] at this
       cases this
      obtain⟨hg,hback,d,hdi,hdst⟩:=hop i hin0 o ho
      have hset:(listed.setIfInBounds i true).getD i false=true:=by
       rw [Array.getD_eq_getD_getElem?]
       simp [show i<listed.size by omega]
      have hoth:∀ j,j≠i→(listed.setIfInBounds i true).getD j false=listed.getD j false:=fun j hj=>by
       rw [Array.getD_eq_getD_getElem?,Array.getElem?_setIfInBounds_ne (Ne.symm hj),← Array.getD_eq_getD_getElem?]
      have hun:unl (listed.setIfInBounds i true) n=m:=by
       have:=unl_step (listed:=listed) (by omega:i<listed.size) hif' hin0
       omega
      have hlo2:∀ j,n≤j→(listed.setIfInBounds i true).getD j false=false:=fun j hj=>by
       rw [hoth j (by omega)]
       exact hlo j hj
      have hearly:∀ k,early ops i k=true→listed.getD k false=true:=by
       intro k hk
       unfold early at hk
       rw [ho] at hk
       rw [Array.any_eq_true'] at hk
       obtain⟨e,he,h2⟩:=hk
       rw [Bool.and_eq_true] at h2
       have hke:e.on=k:=by simpa using h2.2
       rw [← hke]
       exact hedge e he h2.1
      have hE2:∀ s∈sp,(listed.setIfInBounds i true).getD s false=true→∀ k,early ops s k=true→(listed.setIfInBounds i true).getD k false=true:=by
       intro s hs hls k hk
       by_cases hki:k=i
       · rw [hki];exact hset
       · rw [hoth k hki]
         by_cases hsi:s=i
         · exact hearly k (hsi ▸ hk)
         · rw [hoth s hsi] at hls
           exact hE s hs hls k hk
      unfold wpOp
      rw [ho]
      have hwant:Region.wanted o (yielded ops (putAll ds 0 x a0).tmps)=true:=by
       unfold Region.wanted
       rw [hg]
      simp only [hwant,if_true]
      by_cases hi_s:i∈sp
      · obtain⟨k,hkl,hki⟩:=List.mem_iff_getElem.1 hi_s
        have hk:sp[k]? =some i:=by rw [List.getElem?_eq_getElem hkl,hki]
        have hpre:∀(c j t:Nat),j+c=k→sp[j]? =some t→j<k→listed.getD t false=true:=by
         intro c
         induction c with
         | zero=>intro j t h1 _ h3;omega
         | succ c ihc=>
           intro j t h1 h2 h3
           by_cases hjk:j+1=k
           · exact hearly t (hchain j t i h2 (by rw [hjk];exact hk))
           · have hj1:j+1<sp.length:=by omega
             have h4:=ihc (j+1) sp[j+1] (by omega) (List.getElem?_eq_getElem hj1) (by omega)
             exact hE _ (List.getElem_mem hj1) h4 t (hchain j t _ h2 (List.getElem?_eq_getElem hj1))
        have htk:turns sp (fun j=>listed.getD j false)=k:=turns_at hk (fun j t hj ht=>hpre (k-j) j t (by omega) ht hj) hif'
        have hnx:turns sp (fun j=>(listed.setIfInBounds i true).getD j false)=k+1:=by
         refine turns_next hkl (fun j t hj ht=> ?_) (fun t ht=> ?_)
         · by_cases hti:t=i
           · show(listed.setIfInBounds i true).getD t false=true
             rw [hti];exact hset
           · show(listed.setIfInBounds i true).getD t false=true
             rw [hoth t hti]
             have:j≠k:=fun e=>hti (by rw [e,hk] at ht;exact(Option.some.inj ht).symm)
             exact hpre (k-j) j t (by omega) ht (by omega)
         · have hti:t≠i:=by
            rintro rfl
            have h1:k+1<sp.length:=(List.getElem?_eq_some_iff.1 ht).1
            have h2:=List.pairwise_iff_getElem.1 hspn k (k+1) hkl h1 (by omega)
            refine h2 ?_
            rw [hki]
            exact((List.getElem?_eq_some_iff.1 ht).2).symm
           show(listed.setIfInBounds i true).getD t false=false
           rw [hoth t hti]
           cases hlt:listed.getD t false with
           | false=>rfl
           | true=>
             have:=hE t (List.mem_of_getElem? ht) hlt i (hchain k i t hk ht)
             rw [hif'] at this
             cases this
        rw [htk] at hB hRx
        refine .inl (Turned.wp (hturn k i hk o ho x w _ hB (fun e he hb=>hRx e.on (by have:=hback e he hb;omega) (hedge e he hb)) (hin x) (fun t ht=>putAll_out ds 0 x a0 ht) (fun _=>rfl)) ?_)
        rintro v w' ⟨hB2,hRi,hRo⟩
        rw [hput x i d o v hdi hdst]
        refine ih (listed.setIfInBounds i true) _ w' hun (by rw [Array.size_setIfInBounds,hsz]) hlo2 hE2 (by rw [hnx];exact hB2) (fun j hj hlj=> ?_)
        rw [hnx]
        by_cases hji:j=i
        · subst hji
          rw [if_pos rfl]
          exact hRi
        · rw [if_neg hji]
          rw [hoth j hji] at hlj
          exact hRo j hji (hRx j hj hlj)
      · have hnx:turns sp (fun j=>(listed.setIfInBounds i true).getD j false)=turns sp (fun j=>listed.getD j false):=turns_congr fun s hs=>hoth s fun e=>hi_s (e ▸ hs)
        refine .inl (Stepped.wp (hstep i (Nat.zero_le _) hin0 hi_s o ho _ x w _ (fun k s hk he=> ?_) hB (fun e he hb=>hRx e.on (by have:=hback e he hb;omega) (hedge e he hb)) (hin x) (fun t ht=>putAll_out ds 0 x a0 ht) (fun _=>rfl) (fun _=>rfl)) ?_)
        · refine Decidable.byContradiction fun hlt=> ?_
          have h1:=turns_lt hk (Nat.lt_of_not_le hlt)
          have h2:=hE s (List.mem_of_getElem? hk) h1 i he
          rw [hif'] at h2
          cases h2
        intro v w' hbw hR
        rw [hput x i d o v hdi hdst]
        refine ih (listed.setIfInBounds i true) _ w' hun (by rw [Array.size_setIfInBounds,hsz]) hlo2 hE2 (by rw [hnx];exact hBm _ _ _ _ _ hB (fun s hs=>if_neg fun(e:s=i)=>hi_s (e ▸ hs)) hbw) (fun j hj hlj=> ?_)
        rw [hnx]
        by_cases hji:j=i
        · subst hji
          rw [if_pos rfl]
          exact hR
        · rw [if_neg hji]
          rw [hoth j hji] at hlj
          exact hmono _ j _ _ _ (hRx j hj hlj) hbw
 obtain⟨x,hx⟩:=putAll_old ds 0 a0
 have hno:∀ j,(Array.replicate ops.size false).getD j false=false:=fun j=>by
  rw [Array.getD_eq_getD_getElem?]
  by_cases hj:j<ops.size
  · simp [hj]
  · simp [hj]
 have hun:∀ k,unl (Array.replicate ops.size false) k=k:=by
  intro k
  induction k with
  | zero=>rfl
  | succ k ih=>
    unfold unl
    rw [ih,hno k]
    rfl
 have hp0:turns sp (fun j=>(Array.replicate ops.size false).getD j false)=0:=by
  cases sp with
  | nil=>rfl
  | cons s sp=>
    show(if (Array.replicate ops.size false).getD s false=true then _ else 0)=0
    rw [hno s,if_neg (by decide)]
 have h:=claim n (Array.replicate ops.size false) x w0 (hun n) (Array.size_replicate ..) (fun j _=>hno j) (fun s _ h=>by rw [hno] at h;cases h) (by rw [hp0];exact hB0 x) (fun j _ hl=>by rw [hno] at hl;cases hl)
 rw [hx,show n+(ops.size-n)=ops.size by omega] at h
 exact h
theorem wpIn_round_any {P:Program} {id lp m:Nat} {Q:Exit→Act→World→Prop} {a:Act} {w:World} {l:List Oper} (hm:P.follows .mixedOrders=true) (hd:noDefers l=true)
 (h:wpAny P .any l.toArray (OnlyNormal Q) l.toArray.size (Array.replicate l.toArray.size false) a (World.drew w)):(Code.region id l.toArray true).wpIn (Fence.wide.inRound lp) m P Q a w:=
 wpIn_mono (Q:=OnlyNormal Q) (wpIn_region_any hm (wpAnyIn_of_wpAny lp m (noDefers_spec hd) _ _ _ _ h)) (by rintro _ a w ⟨rfl,h⟩;exact h)
end Go.Proofs.YtpnbkfboneabaaaGreat
