import Derived.Test.YtpnbkfboneabaaaGreatOC
import Derived.Test.YtpnbkfboneabaaaGreatGA
import Derived.Orders
import Derived.RegionTactic
import Derived.Test.YtpnbkfboneabaaaGreatGF
namespace Go.Proofs.YtpnbkfboneabaaaGreat
open Go.RowKit
theorem pick9_any (c n:Int) (hc: -9223372036854775808≤c∧c≤9223372036854775807) (hn:0<n∧n<4611686018427387904) (w:World):
 Calls Tryz.prog 37 #[.int .i64 c,.int .i64 n] w fun e w'=>e= .returned (.int .i64 (pickOf c n))∧w'=w:=by
 have hn0:¬ (n=0):=by omega
 go_enter Tryz.func37,Tryz.ntmps37
 by_cases h:c<0
 · go_wp2
   go_ret
   refine⟨?_,rfl⟩
   show Ending.returned (Value.int .i64 (-((c+1).tmod n)))=_
   rw [pickOf,if_pos h,Int.neg_tmod]
 · go_wp2
   go_ret
   refine⟨?_,rfl⟩
   show Ending.returned (Value.int .i64 (c%n))=_
   rw [pickOf,if_neg (by omega),Int.tmod_eq_emod_of_nonneg (by omega)]
theorem pick8_any (c n:Int) (hc: -9223372036854775808≤c∧c≤9223372036854775807) (hn:0<n∧n<4611686018427387904) (w:World):
 Calls Tryz.prog 64 #[.int .i64 c,.int .i64 n] w fun e w'=>e= .returned (.int .i64 (pickOf c n))∧w'=w:=by
 have hn0:¬ (n=0):=by omega
 go_enter Tryz.func64,Tryz.ntmps64
 by_cases h:c<0
 · go_wp2
   go_ret
   refine⟨?_,rfl⟩
   show Ending.returned (Value.int .i64 (-((c+1).tmod n)))=_
   rw [pickOf,if_pos h,Int.neg_tmod]
 · go_wp2
   go_ret
   refine⟨?_,rfl⟩
   show Ending.returned (Value.int .i64 (c%n))=_
   rw [pickOf,if_neg (by omega),Int.tmod_eq_emod_of_nonneg (by omega)]
def putAll:List Tmp→Nat→(Nat→Value)→Act→Act
 | [],_,_,a=>a
 | d::ds,k,x,a=>putAll ds (k+1) x (a.put (some d) (x k))
theorem put_self (a:Act) (d:Tmp):a.put (some d) (a.tmps.getD d undef)=a:=by
 obtain⟨t,f⟩:=a
 show(⟨t.setIfInBounds d (t.getD d undef),f⟩:Act)=⟨t,f⟩
 refine congrArg (fun t=>(⟨t,f⟩:Act)) ?_
 apply Array.ext_getElem?
 intro i
 by_cases h:d=i
 · subst h
   by_cases hd:d<t.size
   · simp [hd]
   · simp [hd]
 · rw [Array.getElem?_setIfInBounds_ne h]
theorem put_twice (a:Act) (d:Tmp) (u v:Value):(a.put (some d) u).put (some d) v=a.put (some d) v:=by
 unfold Act.put
 simp
theorem putAll_put {d:Tmp} {v:Value}:∀(ds:List Tmp) (k:Nat) (x:Nat→Value) (a:Act),d ∉ ds→(putAll ds k x a).put (some d) v=putAll ds k x (a.put (some d) v)
 | [],_,_,_,_=>rfl
 | e::ds,k,x,a,h=>by
   show(putAll ds (k+1) x (a.put (some e) (x k))).put (some d) v=putAll ds (k+1) x ((a.put (some d) v).put (some e) (x k))
   rw [putAll_put ds (k+1) x _ (fun hm=>h (List.mem_cons_of_mem _ hm)),Act.put_comm a (x:=some e) (y:=some d) (x k) v (fun c hc hd=>h (by
    cases hc;cases hd;exact List.mem_cons_self))]
theorem putAll_congr:∀(ds:List Tmp) (k:Nat) (x y:Nat→Value) (a:Act),(∀ j,k≤j→x j=y j)→putAll ds k x a=putAll ds k y a
 | [],_,_,_,_,_=>rfl
 | e::ds,k,x,y,a,h=>by
   show putAll ds (k+1) x (a.put (some e) (x k))=putAll ds (k+1) y (a.put (some e) (y k))
   rw [h k (Nat.le_refl _)]
   exact putAll_congr ds (k+1) x y _ (fun j hj=>h j (by omega))
theorem putAll_at {v:Value}:∀(ds:List Tmp) (k i:Nat) (d:Tmp) (x:Nat→Value) (a:Act),ds.Nodup→ds[i]? =some d→
 (putAll ds k x a).put (some d) v=putAll ds k (fun j=>if j=k+i then v else x j) a
 | [],_,_,_,_,_,_,h=>by simp at h
 | e::ds,k,0,d,x,a,hn,h=>by
   simp only [List.getElem?_cons_zero,Option.some.injEq] at h
   subst h
   rw [List.nodup_cons] at hn
   show(putAll ds (k+1) x (a.put (some e) (x k))).put (some e) v=putAll ds (k+1) _ (a.put (some e) (if k=k+0 then v else x k))
   rw [putAll_put ds _ _ _ hn.1,put_twice,if_pos (by omega)]
   exact putAll_congr ds (k+1) _ _ _ (fun j hj=>by rw [if_neg (by omega)])
 | e::ds,k,i+1,d,x,a,hn,h=>by
   rw [List.nodup_cons] at hn
   show(putAll ds (k+1) x (a.put (some e) (x k))).put (some d) v=putAll ds (k+1) _ (a.put (some e) (if k=k+(i+1) then v else x k))
   rw [if_neg (by omega),putAll_at ds (k+1) i d x _ hn.2 (by simpa using h)]
   exact putAll_congr ds (k+1) _ _ _ (fun j _=>by rw [show k+1+i=k+(i+1) by omega])
theorem putAll_old:∀(ds:List Tmp) (k:Nat) (a:Act),∃ x,putAll ds k x a=a
 | [],_,_=>⟨fun _=>undef,rfl⟩
 | e::ds,k,a=>by
   obtain⟨x,hx⟩:=putAll_old ds (k+1) a
   refine⟨fun j=>if j=k then a.tmps.getD e undef else x j,?_⟩
   show putAll ds (k+1) _ (a.put (some e) (if k=k then a.tmps.getD e undef else x k))=a
   rw [if_pos rfl,put_self]
   exact(putAll_congr ds (k+1) _ x a (fun j hj=>by rw [if_neg (by omega)])).trans hx
def unl (listed:Array Bool):Nat→Nat
 | 0=>0
 | k+1=>unl listed k+(if listed.getD k false=true then 0 else 1)
theorem unl_zero {listed:Array Bool}:∀ {n:Nat},unl listed n=0→∀ j,j<n→listed.getD j false=true
 | 0,_,_,h=>absurd h (Nat.not_lt_zero _)
 | n+1,h,j,hj=>by
   unfold unl at h
   by_cases hn:listed.getD n false=true
   · rw [if_pos hn] at h
     rcases Nat.lt_succ_iff_lt_or_eq.1 hj with h1 | rfl
     · exact unl_zero h j h1
     · exact hn
   · rw [if_neg hn] at h
     omega
theorem unl_same {listed:Array Bool} {i:Nat}:∀ {n:Nat},n≤i→unl (listed.setIfInBounds i true) n=unl listed n
 | 0,_=>rfl
 | n+1,h=>by
   unfold unl
   rw [unl_same (by omega:n≤i)]
   have:(listed.setIfInBounds i true).getD n false=listed.getD n false:=by
    rw [Array.getD_eq_getD_getElem?,Array.getD_eq_getD_getElem?,Array.getElem?_setIfInBounds_ne (by omega)]
   rw [this]
theorem unl_step {listed:Array Bool} {i:Nat} (hi:i<listed.size) (hf:listed.getD i false=false):∀ {n:Nat},i<n→unl (listed.setIfInBounds i true) n+1=unl listed n
 | 0,h=>absurd h (Nat.not_lt_zero _)
 | n+1,h=>by
   unfold unl
   by_cases hn:i=n
   · subst hn
     rw [unl_same (Nat.le_refl _)]
     have:(listed.setIfInBounds i true).getD i false=true:=by
      rw [Array.getD_eq_getD_getElem?]
      simp [hi]
     rw [this,hf]
     rfl
   · have:(listed.setIfInBounds i true).getD n false=listed.getD n false:=by
      rw [Array.getD_eq_getD_getElem?,Array.getD_eq_getD_getElem?,Array.getElem?_setIfInBounds_ne hn]
     rw [this]
     have:=unl_step hi hf (n:=n) (by omega)
     omega
theorem unl_some {listed:Array Bool}:∀ {n:Nat},unl listed n≠0→∃ i,i<n∧listed.getD i false=false∧∀ j,j<i→listed.getD j false=true
 | 0,h=>absurd rfl h
 | n+1,h=>by
   by_cases h0:unl listed n=0
   · unfold unl at h
     refine⟨n,Nat.lt_succ_self _,?_,fun j hj=>unl_zero h0 j hj⟩
     cases hb:listed.getD n false with
     | false=>rfl
     | true=>rw [h0,if_pos hb] at h;exact absurd rfl h
   · obtain⟨i,hi,h1,h2⟩:=unl_some h0
     exact⟨i,by omega,h1,h2⟩
def headB (ops:Array Oper) (n:Nat) (ds:List Tmp):Bool:=
 decide (ds.length=n) && decide ds.Nodup && decide (n≤ops.size) &&
 ((List.range ops.size).all fun i=>match ops[i]? with
   | none=>false
   | some o=>
     if i<n then (o.dst == ds[i]?) && (o.guard.isNone) && (o.after.all fun e=> !Region.binds .any e || decide (e.on<i))
     else (List.range n).all fun j=>o.after.any fun e=>Region.binds .any e && e.on == j)
theorem ready_mem {ops:Array Oper} {listed:Array Bool} {i:Nat} (h:i∈Region.ready .any ops listed):
 i<ops.size∧listed.getD i true=false∧∃ o,ops[i]? =some o∧∀ e∈o.after,Region.binds .any e=true→listed.getD e.on false=true:=by
 unfold Region.ready at h
 rw [List.mem_filter] at h
 obtain⟨h1,h2⟩:=h
 rw [List.mem_range] at h1
 rw [Bool.and_eq_true] at h2
 refine⟨h1,by simpa using h2.1,ops[i],Array.getElem?_eq_getElem h1,fun e he hb=> ?_⟩
 have h3:=h2.2
 rw [Array.getElem?_eq_getElem h1] at h3
 simp only [Option.map_some,Option.getD_some] at h3
 rw [Array.all_eq_true'] at h3
 have h4:=h3 e he
 rw [hb] at h4
 simpa using h4
theorem putAll_size:∀(ds:List Tmp) (k:Nat) (x:Nat→Value) (a:Act),(putAll ds k x a).tmps.size=a.tmps.size
 | [],_,_,_=>rfl
 | e::ds,k,x,a=>by
   show(putAll ds (k+1) x (a.put (some e) (x k))).tmps.size=_
   rw [putAll_size]
   exact Array.size_setIfInBounds ..
theorem putAll_out {t:Tmp}:∀(ds:List Tmp) (k:Nat) (x:Nat→Value) (a:Act),t ∉ ds→(putAll ds k x a).eval (.tmp t)=a.eval (.tmp t)
 | [],_,_,_,_=>rfl
 | e::ds,k,x,a,h=>by
   show(putAll ds (k+1) x (a.put (some e) (x k))).eval (.tmp t)=_
   rw [putAll_out ds _ _ _ (fun hm=>h (List.mem_cons_of_mem _ hm))]
   exact Act.eval_put (fun d hd hx=>by
    cases hd
    cases hx
    exact h List.mem_cons_self)
theorem putAll_in {t:Tmp}:∀(ds:List Tmp) (k i:Nat) (x:Nat→Value) (a:Act),ds.Nodup→ds[i]? =some t→t<a.tmps.size→(putAll ds k x a).eval (.tmp t)=x (k+i)
 | [],_,_,_,_,_,h,_=>by simp at h
 | e::ds,k,0,x,a,hn,h,hs=>by
   simp only [List.getElem?_cons_zero,Option.some.injEq] at h
   subst h
   rw [List.nodup_cons] at hn
   show(putAll ds (k+1) x (a.put (some e) (x k))).eval (.tmp e)=_
   rw [putAll_out ds _ _ _ hn.1]
   show(a.tmps.setIfInBounds e (x k)).getD e undef=x k
   rw [Array.getD_eq_getD_getElem?]
   simp [hs]
 | e::ds,k,i+1,x,a,hn,h,hs=>by
   rw [List.nodup_cons] at hn
   show(putAll ds (k+1) x (a.put (some e) (x k))).eval (.tmp t)=_
   rw [putAll_in ds (k+1) i x _ hn.2 (by simpa using h) (by
    show t<(a.tmps.setIfInBounds e (x k)).size
    rw [Array.size_setIfInBounds]
    exact hs),show k+1+i=k+(i+1) by omega]
structure Stepped (P:Program) (ρ:Operand→Value) (o:Oper) (w:World) (R:Value→World→Prop):Prop where
 out:(∃ v w',(execOp ρ o).run P w= .ok (.value v) w'∧Below w.heap.size w w'∧R v w')∨
  ∃ f args w1,(execOp ρ o).run P w= .ok (.enter f args) w1∧Calls P f args w1 fun e w'=>∃ v,e= .returned v∧Below w.heap.size w w'∧R v w'
theorem Stepped.val {P:Program} {ρ:Operand→Value} {o:Oper} {w:World} {R:Value→World→Prop} {v:Value} (h:(execOp ρ o).run P w= .ok (.value v) w) (hR:R v w):Stepped P ρ o w R:=⟨.inl ⟨v,w,h,Below.refl _ _,hR⟩⟩
theorem Stepped.grow {P:Program} {ρ:Operand→Value} {o:Oper} {w w':World} {R:Value→World→Prop} {v:Value} (h:(execOp ρ o).run P w= .ok (.value v) w') (hb:Below w.heap.size w w') (hR:R v w'):Stepped P ρ o w R:=⟨.inl ⟨v,w',h,hb,hR⟩⟩
theorem Stepped.call {P:Program} {ρ:Operand→Value} {o:Oper} {w:World} {R:Value→World→Prop} {f:FuncId} {args:Array Value} (h:(execOp ρ o).run P w= .ok (.enter f args) w) (hc:Calls P f args w fun e w'=>∃ v,e= .returned v∧Below w.heap.size w w'∧R v w'):Stepped P ρ o w R:=⟨.inr ⟨f,args,w,h,hc⟩⟩
theorem Stepped.wp {P:Program} {a:Act} {o:Oper} {w:World} {R:Value→World→Prop} (h:Stepped P a.eval o w R) {K:Act→World→Prop} {Q:Exit→Act→World→Prop} (hK:∀ v w',Below w.heap.size w w'→R v w'→K (a.put o.dst v) w'):o.wp P a w K Q:=by
 unfold Oper.wp
 rcases h.out with ⟨v,w',h1,h2,h3⟩ | ⟨f,args,w1,h1,h2⟩
 · rw [h1]
   exact hK v w' h2 h3
 · rw [h1]
   show Calls P f args w1 _
   refine h2.mono ?_
   rintro e w' ⟨v,rfl,h3,h4⟩
   exact hK v w' h3 h4
def HSteps (P:Program) (ops:Array Oper) (n:Nat) (ds:List Tmp) (R:Nat→Value→World→Prop) (a0:Act) (w0:World) (i:Nat):Prop:=
 ∀ j,i≤j→j<n→∀ o,ops[j]? =some o→∀(x:Nat→Value) (w:World) (ρ:Operand→Value),Below w0.heap.size w0 w→(∀ e∈o.after,Region.binds .any e=true→R e.on (x e.on) w)→
  (∀ i d,ds[i]? =some d→ρ (.tmp d)=x i)→(∀ t,t ∉ ds→ρ (.tmp t)=a0.eval (.tmp t))→(∀ v,ρ (.const v)=v)→(∀ f,ρ (.func f)= .func (.func f) #[] #[])→Stepped P ρ o w (R j)
theorem HSteps.nil {P:Program} {ops:Array Oper} {n:Nat} {ds:List Tmp} {R:Nat→Value→World→Prop} {a0:Act} {w0:World} {i:Nat} (h:n≤i):HSteps P ops n ds R a0 w0 i:=fun j h1 h2=>by omega
theorem HSteps.cons {P:Program} {ops:Array Oper} {n:Nat} {ds:List Tmp} {R:Nat→Value→World→Prop} {a0:Act} {w0:World} {i:Nat} {o:Oper} (ho:ops[i]? =some o)
 (h:∀(x:Nat→Value) (w:World) (ρ:Operand→Value),Below w0.heap.size w0 w→(∀ e∈o.after,Region.binds .any e=true→R e.on (x e.on) w)→
  (∀ i d,ds[i]? =some d→ρ (.tmp d)=x i)→(∀ t,t ∉ ds→ρ (.tmp t)=a0.eval (.tmp t))→(∀ v,ρ (.const v)=v)→(∀ f,ρ (.func f)= .func (.func f) #[] #[])→Stepped P ρ o w (R i))
 (hs:HSteps P ops n ds R a0 w0 (i+1)):HSteps P ops n ds R a0 w0 i:=by
 intro j h1 h2 o' ho'
 by_cases hj:j=i
 · subst hj
   rw [ho] at ho'
   cases ho'
   exact h
 · exact hs j (by omega) h2 o' ho'
theorem wpAny_head {P:Program} {ops:Array Oper} {Q:Exit→Act→World→Prop} (n:Nat) (ds:List Tmp) (t:Nat) (L:Array Bool) (R:Nat→Value→World→Prop) {a0:Act} {w0:World}
 (ht:ops.size-n=t) (hL:((List.range ops.size).map fun j=>decide (j<n)).toArray=L) (hc:headB ops n ds=true) (hds:(ds.all fun d=>decide (d<a0.tmps.size))=true)
 (hmono:∀ j,j<n→∀ v w w',R j v w→Below w.heap.size w w'→R j v w')
 (hstep:HSteps P ops n ds R a0 w0 0)
 (hrest:∀ x w,Below w0.heap.size w0 w→(∀ j,j<n→R j (x j) w)→wpAny P .any ops Q t L (putAll ds 0 x a0) w):
 wpAny P .any ops Q ops.size (Array.replicate ops.size false) a0 w0:=by
 subst ht hL
 unfold headB at hc
 simp only [Bool.and_eq_true,decide_eq_true_eq] at hc
 obtain⟨⟨⟨hlen,hnd⟩,hle⟩,hall⟩:=hc
 rw [List.all_eq_true] at hall
 have hop:∀ i,i<n→∀ o,ops[i]? =some o→(∃ d,o.dst=some d∧ds[i]? =some d)∧o.guard=none∧∀ e∈o.after,Region.binds .any e=true→e.on<i:=by
  intro i hi o ho
  have h:=hall i (List.mem_range.2 (by omega))
  rw [ho] at h
  simp only [if_pos hi,Bool.and_eq_true] at h
  obtain⟨⟨h1,h2⟩,h3⟩:=h
  refine⟨?_,by simpa using h2,fun e he hb=> ?_⟩
  · have hid:i<ds.length:=by omega
    refine⟨ds[i],?_,List.getElem?_eq_getElem hid⟩
    have h4:=eq_of_beq h1
    rw [h4,List.getElem?_eq_getElem hid]
  · rw [Array.all_eq_true'] at h3
    have h4:=h3 e he
    rw [hb] at h4
    simpa using h4
 have htail:∀ i,n≤i→∀ o,ops[i]? =some o→∀ j,j<n→∃ e∈o.after,Region.binds .any e=true∧e.on=j:=by
  intro i hi o ho j hj
  have hil:i<ops.size:=(Array.getElem?_eq_some_iff.1 ho).1
  have h:=hall i (List.mem_range.2 hil)
  rw [ho] at h
  simp only [if_neg (show ¬ i<n by omega)] at h
  rw [List.all_eq_true] at h
  have h1:=h j (List.mem_range.2 hj)
  rw [Array.any_eq_true'] at h1
  obtain⟨e,he,h2⟩:=h1
  rw [Bool.and_eq_true] at h2
  exact⟨e,he,h2.1,by simpa using h2.2⟩
 have claim:∀(m:Nat) (listed:Array Bool) (x:Nat→Value) (w:World),unl listed n=m→listed.size=ops.size→(∀ j,n≤j→listed.getD j false=false)→Below w0.heap.size w0 w→
  (∀ j,j<n→listed.getD j false=true→R j (x j) w)→wpAny P .any ops Q (m+(ops.size-n)) listed (putAll ds 0 x a0) w:=by
  intro m
  induction m with
  | zero=>
    intro listed x w hm hsz hlo hB hRx
    rw [Nat.zero_add]
    have hl:listed=((List.range ops.size).map fun j=>decide (j<n)).toArray:=by
     apply Array.ext
     · simp [hsz]
     · intro j h1 h2
       have hj:listed.getD j false=listed[j]:=by rw [Array.getD_eq_getD_getElem?,Array.getElem?_eq_getElem h1];rfl
       have:listed[j]=decide (j<n):=by
        rw [← hj]
        by_cases hjn:j<n
        · rw [unl_zero hm j hjn,decide_eq_true hjn]
        · rw [hlo j (by omega),decide_eq_false hjn]
       rw [this]
       simp
    rw [hl]
    exact hrest x w hB (fun j hj=>hRx j hj (unl_zero hm j hj))
  | succ m ih=>
    intro listed x w hm hsz hlo hB hRx
    rw [show m+1+(ops.size-n)=(m+(ops.size-n))+1 by omega]
    obtain⟨i0,hi0,hf0,hb0⟩:=unl_some (listed:=listed) (n:=n) (by omega)
    have hi0s:i0<ops.size:=by omega
    refine⟨fun hr=> ?_,fun i hi=> ?_⟩
    · exfalso
      have:i0∈Region.ready .any ops listed:=by
       unfold Region.ready
       rw [List.mem_filter]
       refine⟨List.mem_range.2 hi0s,?_⟩
       rw [Bool.and_eq_true]
       constructor
       · have:listed.getD i0 true=false:=by
          rw [Array.getD_eq_getD_getElem?] at hf0 ⊢
          rw [Array.getElem?_eq_getElem (by omega)] at hf0 ⊢
          exact hf0
         rw [this]
         rfl
       · rw [Array.getElem?_eq_getElem hi0s]
         simp only [Option.map_some,Option.getD_some]
         rw [Array.all_eq_true']
         intro e he
         cases hb:Region.binds .any e with
         | false=>rfl
         | true=>
           have:=(hop i0 hi0 _ (Array.getElem?_eq_getElem hi0s)).2.2 e he hb
           rw [hb0 e.on this]
           rfl
      rw [hr] at this
      cases this
    · obtain⟨his,hif,o,ho,hedge⟩:=ready_mem hi
      have hif':listed.getD i false=false:=by
       rw [Array.getD_eq_getD_getElem?] at hif ⊢
       rw [Array.getElem?_eq_getElem (by omega)] at hif ⊢
       exact hif
      have hin:i<n:=by
       refine Decidable.byContradiction fun hge=> ?_
       obtain⟨e,he,hb,hj⟩:=htail i (by omega) o ho i0 hi0
       have:=hedge e he hb
       rw [hj,hf0] at this
       cases this
      obtain⟨⟨d,hd,hdi⟩,hg,hback⟩:=hop i hin o ho
      unfold wpOp
      rw [ho]
      have hwant:Region.wanted o (yielded ops (putAll ds 0 x a0).tmps)=true:=by
       unfold Region.wanted
       rw [hg]
      simp only [hwant,if_true]
      refine .inl (Stepped.wp (hstep i (Nat.zero_le _) hin o ho x w _ hB (fun e he hb=>hRx e.on (by have:=hback e he hb;omega) (hedge e he hb)) ?_ ?_ (fun _=>rfl) (fun _=>rfl)) ?_)
      · intro i d hid
        rw [putAll_in ds 0 i x a0 hnd hid (by
         have h:=List.all_eq_true.1 hds d (List.mem_of_getElem? hid)
         simpa using h),Nat.zero_add]
      · exact fun t ht=>putAll_out ds 0 x a0 ht
      intro v w' hbw hR
      rw [hd,putAll_at ds 0 i d x a0 hnd hdi]
      refine ih (listed.setIfInBounds i true) _ w' ?_ ?_ ?_ ?_ ?_
      · have:=unl_step (listed:=listed) (by omega:i<listed.size) hif' hin
        omega
      · rw [Array.size_setIfInBounds,hsz]
      · intro j hj
        rw [Array.getD_eq_getD_getElem?,Array.getElem?_setIfInBounds_ne (by omega),← Array.getD_eq_getD_getElem?]
        exact hlo j hj
      · exact hB.trans (hbw.mono hB.size)
      · intro j hj hlj
        by_cases hji:j=i
        · subst hji
          rw [if_pos (by omega)]
          exact hR
        · rw [if_neg (by omega)]
          rw [Array.getD_eq_getD_getElem?,Array.getElem?_setIfInBounds_ne (Ne.symm hji),← Array.getD_eq_getD_getElem?] at hlj
          exact hmono j hj _ _ _ (hRx j hj hlj) hbw
 obtain⟨x,hx⟩:=putAll_old ds 0 a0
 have hun:∀ k,k≤ops.size→unl (Array.replicate ops.size false) k=k:=by
  intro k
  induction k with
  | zero=>exact fun _=>rfl
  | succ k ih=>
    intro hk
    unfold unl
    rw [ih (by omega)]
    have:(Array.replicate ops.size false).getD k false=false:=by
     rw [Array.getD_eq_getD_getElem?]
     simp [show k<ops.size by omega]
    rw [this]
    rfl
 have h:=claim n (Array.replicate ops.size false) x w0 (hun n hle) (Array.size_replicate ..) (fun j _=>by
  rw [Array.getD_eq_getD_getElem?]
  by_cases hj:j<ops.size
  · simp [hj]
  · simp [hj]) (Below.refl _ _) (fun j _ hl=>by
  rw [Array.getD_eq_getD_getElem?] at hl
  by_cases hj:j<ops.size
  · simp [hj] at hl
  · simp [hj] at hl)
 rw [hx,show n+(ops.size-n)=ops.size by omega] at h
 exact h
theorem whole_text (s:ByteArray) (n:Nat) (h:s.size=n):s.extract 0 n=s:=by
 have h2:=(text_join s ⟨#[]⟩).1
 subst h
 have h3:s++(⟨#[]⟩:ByteArray)=s:=by
  apply ByteArray.ext
  show(s++(⟨#[]⟩:ByteArray)).data=s.data
  rw [ByteArray.data_append]
  exact Array.append_empty
 rw [h3] at h2
 exact h2
theorem Idl.label_fed {d:Idl} (hg:d.Good) (hl:d.nm.length≠2000) (q L:ByteArray) (hL:L.size=16):
 (∃ s,(q,s)∈d.nm∧(d.fed L 0).label q=(s,d.fed L 0,0))∨(q ∉ d.ins∧(d.fed L 0).label q=(L,⟨L,16,d.nm++[(q,L)],d.cl⟩,0)):=by
 by_cases hf:q∈d.ins
 · obtain⟨s,hs⟩:=Idl.in_ins hf
   exact .inl ⟨s,hs,Idl.label_found (d:=d.fed L 0) (hg.fed (by omega) (Nat.zero_le _)) hs⟩
 · refine .inr ⟨hf,?_⟩
   rw [Idl.label_new (d:=d.fed L 0) hf hl (by show 0+16≤L.size;omega)]
   unfold Idl.named
   show(L.extract 0 16,(⟨L,0+16,d.nm++[(q,L.extract 0 16)],d.cl⟩:Idl),(0:Int))=_
   rw [whole_text L 16 hL]
theorem Idl.cell_fed {d:Idl} (hg:d.Good) (hl:d.cl.length≠2000) (l t L:ByteArray) (hL:L.size=40):
 (∃ c,(l,t,c)∈d.cl∧(d.fed L 0).cell l t=(c,d.fed L 0,0))∨((l,t) ∉ d.made∧(d.fed L 0).cell l t=(L,⟨L,40,d.nm,d.cl++[(l,t,L)]⟩,0)):=by
 by_cases hf:(l,t)∈d.made
 · obtain⟨c,hc⟩:=Idl.in_made hf
   exact .inl ⟨c,hc,Idl.cell_found (d:=d.fed L 0) (hg.fed (by omega) (Nat.zero_le _)) hc⟩
 · refine .inr ⟨hf,?_⟩
   rw [Idl.cell_new (d:=d.fed L 0) hf hl (by show 0+40≤L.size;omega)]
   unfold Idl.celled
   show(L.extract 0 40,(⟨L,0+40,d.nm,d.cl++[(l,t,L.extract 0 40)]⟩:Idl),(0:Int))=_
   rw [whole_text L 40 hL]
namespace Orc
def agg (o:Orc) (nv cv:Value):Value:= .agg (Orc.vals o.m o.key o.d.tb o.d.pos nv cv o.d.clash)
def ask [Sha.Words] (o:Orc) (q:ByteArray):Orc:={ o with d:=(o.wayL q).2.1 }
def put [Sha.Words] (o:Orc) (l t:ByteArray):Orc:={ o with d:=(o.wayC l t).2.1 }
def cost (o:Orc) (n:Nat):Nat:=if o.m=1 then 0 else n
theorem wayL_cases [Sha.Words] {o:Orc} (hg:o.Good) (q:ByteArray) (hl:o.d.nm.length≠2000) (hp:o.m=2→o.d.pos+16≤o.d.tb.size):
 (∃ s,(q,s)∈o.d.nm∧o.wayL q=(s,o.d,0))∨(q ∉ o.d.ins∧∃ s,s.size=16∧(o.m=1→s=lab o.key q)∧o.wayL q=(s,{ o.d with pos:=o.d.pos+o.cost 16,nm:=o.d.nm++[(q,s)] },0)):=by
 by_cases hm:o.m=1
 · have hw:o.wayL q=(((o.d.fed (lab o.key q) 0).label q).1,back o.d ((o.d.fed (lab o.key q) 0).label q).2.1,((o.d.fed (lab o.key q) 0).label q).2.2):=by
    unfold wayL
    rw [if_pos hm]
   have hk:o.cost 16=0:=by unfold cost;rw [if_pos hm]
   rcases Idl.label_fed hg.d hl q (lab o.key q) (lab_size _ _) with ⟨s,hs,h⟩ | ⟨hf,h⟩
   · rw [h] at hw
     exact .inl ⟨s,hs,hw⟩
   · rw [h] at hw
     rw [hk]
     exact .inr ⟨hf,lab o.key q,lab_size _ _,fun _=>rfl,hw⟩
 · have hw:o.wayL q=o.d.label q:=by
    unfold wayL
    rw [if_neg hm]
   have hk:o.cost 16=16:=by unfold cost;rw [if_neg hm]
   rw [hw,hk]
   by_cases hf:q∈o.d.ins
   · obtain⟨s,hs⟩:=Idl.in_ins hf
     exact .inl ⟨s,hs,Idl.label_found hg.d hs⟩
   · have h2:=hp (hg.m.resolve_left hm)
     refine .inr ⟨hf,o.d.tb.extract o.d.pos (o.d.pos+16),?_,fun h1=>absurd h1 hm,Idl.label_new hf hl h2⟩
     rw [ByteArray.size_extract]
     omega
theorem wayC_cases [Sha.Words] {o:Orc} (hg:o.Good) (l t:ByteArray) (ht:t.size=24) (hl:o.d.cl.length≠2000) (hp:o.m=2→o.d.pos+40≤o.d.tb.size):
 (∃ c,(l,t,c)∈o.d.cl∧o.wayC l t=(c,o.d,0))∨((l,t) ∉ o.d.made∧∃ c,c.size=40∧(o.m=1→c=box o.key l t)∧o.wayC l t=(c,{ o.d with pos:=o.d.pos+o.cost 40,cl:=o.d.cl++[(l,t,c)] },0)):=by
 by_cases hm:o.m=1
 · have hw:o.wayC l t=(((o.d.fed (box o.key l t) 0).cell l t).1,back o.d ((o.d.fed (box o.key l t) 0).cell l t).2.1,((o.d.fed (box o.key l t) 0).cell l t).2.2):=by
    unfold wayC
    rw [if_pos hm]
   have hk:o.cost 40=0:=by unfold cost;rw [if_pos hm]
   rcases Idl.cell_fed hg.d hl l t (box o.key l t) (box_size _ _ _ ht) with ⟨c,hc,h⟩ | ⟨hf,h⟩
   · rw [h] at hw
     exact .inl ⟨c,hc,hw⟩
   · rw [h] at hw
     rw [hk]
     exact .inr ⟨hf,box o.key l t,box_size _ _ _ ht,fun _=>rfl,hw⟩
 · have hw:o.wayC l t=o.d.cell l t:=by
    unfold wayC
    rw [if_neg hm]
   have hk:o.cost 40=40:=by unfold cost;rw [if_neg hm]
   rw [hw,hk]
   by_cases hf:(l,t)∈o.d.made
   · obtain⟨c,hc⟩:=Idl.in_made hf
     exact .inl ⟨c,hc,Idl.cell_found hg.d hc⟩
   · have h2:=hp (hg.m.resolve_left hm)
     refine .inr ⟨hf,o.d.tb.extract o.d.pos (o.d.pos+40),?_,fun h1=>absurd h1 hm,Idl.cell_new hf hl h2⟩
     rw [ByteArray.size_extract]
     omega
theorem ask_good [Sha.Words] {o:Orc} (hg:o.Good) {q:ByteArray} (hq:q.size≤100) (hl:o.d.nm.length≠2000):(o.ask q).Good:=⟨hg.m,hg.key,wayL_good hg hq hl⟩
theorem put_good [Sha.Words] {o:Orc} (hg:o.Good) {l t:ByteArray} (hlb:l.size=16) (htx:t.size=24) (hl:o.d.cl.length≠2000) (hp:o.m=2→o.d.pos+40≤o.d.tb.size):(o.put l t).Good:=⟨hg.m,hg.key,wayC_good hg hlb htx hl hp⟩
end Orc
theorem oracleLabel_all [Sha.Words] (o:Orc) (hg:o.Good) (nv cv:Value) (word:ByteArray) (e c:Nat) (hw:word.size≤20) (he:e≤1000000) (hc:c≤1000000) (hl:o.d.nm.length≠2000)
 (hp:o.m=2→o.d.pos+16≤o.d.tb.size) (w:World) (hR:Sha.RoundIn w) (hN:NmAt w 0 nv o.d.nm) (hC:ClAt w 0 cv o.d.cl):
 Calls Tryz.prog 78 #[o.agg nv cv,.string word,.int .i64 (e:Int),.int .i64 (c:Int)] w fun x w'=>∃ nv' cv',x= .returned (.tuple #[.string (o.wayL (asked word e c)).1,(o.ask (asked word e c)).agg nv' cv',.int .i64 0])∧NmAt w' w.heap.size nv' (o.ask (asked word e c)).d.nm∧ClAt w' w.heap.size cv' (o.ask (asked word e c)).d.cl∧Below w.heap.size w w':=by
 have hok:(o.wayL (asked word e c)).2.2=0:=by
  rcases Orc.wayL_cases hg (asked word e c) hl hp with ⟨s,_,h⟩ | ⟨_,s,_,_,h⟩ <;> rw [h]
 unfold Orc.agg Orc.ask
 rcases hg.m with hm | hm
 · have h:=oracleLabel_real o hg hm nv cv word e c hw he hc hl hok w hR hN hC
   rw [← hm] at h
   exact h
 · have h:=oracleLabel_drawn o hg hm nv cv word e c hw he hc hl hok w hN hC
   rw [← hm] at h
   exact h
theorem oracleCell_all [Sha.Words] (o:Orc) (hg:o.Good) (nv cv:Value) (lb tx:ByteArray) (hlb:lb.size=16) (htx:tx.size=24) (hl:o.d.cl.length≠2000)
 (hp:o.m=2→o.d.pos+40≤o.d.tb.size) (w:World) (hR:Sha.RoundIn w) (hN:NmAt w 0 nv o.d.nm) (hC:ClAt w 0 cv o.d.cl):
 Calls Tryz.prog 79 #[o.agg nv cv,.string lb,.string tx] w fun x w'=>∃ nv' cv',x= .returned (.tuple #[.string (o.wayC lb tx).1,(o.put lb tx).agg nv' cv',.int .i64 0])∧NmAt w' w.heap.size nv' (o.put lb tx).d.nm∧ClAt w' w.heap.size cv' (o.put lb tx).d.cl∧Below w.heap.size w w':=by
 have hok:(o.wayC lb tx).2.2=0:=by
  rcases Orc.wayC_cases hg lb tx htx hl hp with ⟨s,_,h⟩ | ⟨_,s,_,_,h⟩ <;> rw [h]
 unfold Orc.agg Orc.put
 rcases hg.m with hm | hm
 · have h:=oracleCell_real o hg hm nv cv lb tx hlb htx hl hok w hR hN hC
   rw [← hm] at h
   exact h
 · have h:=oracleCell_drawn o hg hm nv cv lb tx hlb htx hl (hp hm) hok w hN hC
   rw [← hm] at h
   exact h
theorem oracleOpen_all [Sha.Words] (o:Orc) (hg:o.Good) (nv cv:Value) (lb c:ByteArray) (hlb:lb.size=16) (hc:c.size=40) (w:World) (hR:Sha.RoundIn w) (hN:NmAt w 0 nv o.d.nm) (hC:ClAt w 0 cv o.d.cl):
 Calls Tryz.prog 49 #[o.agg nv cv,.string lb,.string c] w fun x w'=>x= .returned (.tuple #[.string (o.wayO lb c).1,.int .i64 (o.wayO lb c).2])∧Below w.heap.size w w':=by
 unfold Orc.agg
 rcases hg.m with hm | hm
 · have h:=oracleOpen_real o hg hm nv cv lb c hlb hc w hR hN hC
   rw [← hm] at h
   exact h
 · have h:=oracleOpen_drawn o hg hm nv cv lb c hlb hc w hN hC
   rw [← hm] at h
   exact h
theorem oracleRight_all (o:Orc) (hg:o.Good) (nv cv:Value) (w:World) (hN:NmAt w 0 nv o.d.nm) (hC:ClAt w 0 cv o.d.cl):
 Calls Tryz.prog 42 #[o.agg nv cv] w fun e w'=>e= .returned (.bool true)∧Below w.heap.size w w':=
 oracleRight_any o.m hg.m o.key hg.key o.d hg.d nv cv w hN hC
end Go.Proofs.YtpnbkfboneabaaaGreat
