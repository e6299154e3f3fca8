import Derived.Test.YtpnbkfboneabaaaGreatDigCK
set_option maxRecDepth 100000
set_option maxHeartbeats 2000000
namespace Go.Proofs.YtpnbkfboneabaaaGreat
open Go.RowKit
def Sha.start:List Int:=[1779033703,3144134277,1013904242,2773480762,1359893119,2600822924,528734635,1541459225]
def Sha.hash (H:List Int) (rest:ByteArray) (many:Nat):Array Value:=Ws.vals H++#[.string rest,.int .i64 (many:Int)]
theorem start_any (w:World):Calls Tryz.prog 240 #[] w fun e w'=>e= .returned (.agg (Ws.vals Sha.start))∧Below w.heap.size w w':=by
 go_enter Tryz.func240,Tryz.ntmps240
 go_wp2
 refine⟨rfl,.agg (Ws.vals Sha.start),?_,rfl,(Below.refl _ _).alloc (Nat.le_refl _) _⟩
 simp [results,Tryz.f240,go_sem]
 rfl
theorem New_any (w:World):Calls Tryz.prog 229 #[] w fun e w'=>e= .returned (.agg (Sha.hash Sha.start ⟨#[]⟩ 0))∧Below w.heap.size w w':=by
 go_enter Tryz.func229,Tryz.ntmps229
 go_wp2_with fail
 refine(start_any _).mono ?_
 rintro e w1 ⟨rfl,hb1⟩
 dsimp only [Sha.start,Ws.vals,List.map_cons,List.map_nil]
 have hr:Row w1 w.heap.size 217 #[.int .u32 0,.int .u32 0,.int .u32 0,.int .u32 0,.int .u32 0,.int .u32 0,.int .u32 0,.int .u32 0,.string ⟨#[]⟩,.int .i64 0]:=(Row.new w _ _).below hb1 (by simp)
 have hb1':Keep (fun k=>k<w.heap.size) w w1:=(((Keep.refl (fun _=>True) w).alloc _).trans ((Keep.below hb1).mono fun _ _ _=>trivial)).mono fun _ _ _=>trivial
 have c0:=hr.cell 0
 have f0:=hr.frozen 0
 have c1:=hr.cell 1
 have f1:=hr.frozen 1
 have c2:=hr.cell 2
 have f2:=hr.frozen 2
 have c3:=hr.cell 3
 have f3:=hr.frozen 3
 have c4:=hr.cell 4
 have f4:=hr.frozen 4
 have c5:=hr.cell 5
 have f5:=hr.frozen 5
 have c6:=hr.cell 6
 have f6:=hr.frozen 6
 have c7:=hr.cell 7
 have f7:=hr.frozen 7
 have c8:=hr.cell 8
 have f8:=hr.frozen 8
 have c9:=hr.cell 9
 have f9:=hr.frozen 9
 have hrf:=((((((((((hr).store 0 (.int .u32 1779033703)).store 1 (.int .u32 3144134277)).store 2 (.int .u32 1013904242)).store 3 (.int .u32 2773480762)).store 4 (.int .u32 1359893119)).store 5 (.int .u32 2600822924)).store 6 (.int .u32 528734635)).store 7 (.int .u32 1541459225)).store 8 (.string ⟨#[]⟩)).store 9 (.int .i64 0)
 have hkf:=((((((((((hb1').setCell (p:=⟨w.heap.size,0,none⟩) (fun h=>absurd h (Nat.lt_irrefl _)) (.int .u32 1779033703)).setCell (p:=⟨w.heap.size,1,none⟩) (fun h=>absurd h (Nat.lt_irrefl _)) (.int .u32 3144134277)).setCell (p:=⟨w.heap.size,2,none⟩) (fun h=>absurd h (Nat.lt_irrefl _)) (.int .u32 1013904242)).setCell (p:=⟨w.heap.size,3,none⟩) (fun h=>absurd h (Nat.lt_irrefl _)) (.int .u32 2773480762)).setCell (p:=⟨w.heap.size,4,none⟩) (fun h=>absurd h (Nat.lt_irrefl _)) (.int .u32 1359893119)).setCell (p:=⟨w.heap.size,5,none⟩) (fun h=>absurd h (Nat.lt_irrefl _)) (.int .u32 2600822924)).setCell (p:=⟨w.heap.size,6,none⟩) (fun h=>absurd h (Nat.lt_irrefl _)) (.int .u32 528734635)).setCell (p:=⟨w.heap.size,7,none⟩) (fun h=>absurd h (Nat.lt_irrefl _)) (.int .u32 1541459225)).setCell (p:=⟨w.heap.size,8,none⟩) (fun h=>absurd h (Nat.lt_irrefl _)) (.string ⟨#[]⟩)).setCell (p:=⟨w.heap.size,9,none⟩) (fun h=>absurd h (Nat.lt_irrefl _)) (.int .i64 0)
 obtain⟨WF,hWF⟩:∃ WF,((((((((((w1.setCell ⟨w.heap.size,0,none⟩ (.int .u32 1779033703)).setCell ⟨w.heap.size,1,none⟩ (.int .u32 3144134277)).setCell ⟨w.heap.size,2,none⟩ (.int .u32 1013904242)).setCell ⟨w.heap.size,3,none⟩ (.int .u32 2773480762)).setCell ⟨w.heap.size,4,none⟩ (.int .u32 1359893119)).setCell ⟨w.heap.size,5,none⟩ (.int .u32 2600822924)).setCell ⟨w.heap.size,6,none⟩ (.int .u32 528734635)).setCell ⟨w.heap.size,7,none⟩ (.int .u32 1541459225)).setCell ⟨w.heap.size,8,none⟩ (.string ⟨#[]⟩)).setCell ⟨w.heap.size,9,none⟩ (.int .i64 0))=WF:=⟨_,rfl⟩
 rw [hWF] at hrf hkf
 have Hrf:=Lib.hid hrf
 have Hkf:=Lib.hid hkf
 have HWF:=Lib.hid hWF
 clear hrf hkf hWF hr hb1 hb1'
 go_wp2
 change bodyPost _ _ _ _ _ ((((((((((w1.setCell ⟨w.heap.size,0,none⟩ (.int .u32 1779033703)).setCell ⟨w.heap.size,1,none⟩ (.int .u32 3144134277)).setCell ⟨w.heap.size,2,none⟩ (.int .u32 1013904242)).setCell ⟨w.heap.size,3,none⟩ (.int .u32 2773480762)).setCell ⟨w.heap.size,4,none⟩ (.int .u32 1359893119)).setCell ⟨w.heap.size,5,none⟩ (.int .u32 2600822924)).setCell ⟨w.heap.size,6,none⟩ (.int .u32 528734635)).setCell ⟨w.heap.size,7,none⟩ (.int .u32 1541459225)).setCell ⟨w.heap.size,8,none⟩ (.string ⟨#[]⟩)).setCell ⟨w.heap.size,9,none⟩ (.int .i64 0))
 rw [HWF.out]
 have q:=Hrf.out
 have q0:=q.cell 0
 have q1:=q.cell 1
 have q2:=q.cell 2
 have q3:=q.cell 3
 have q4:=q.cell 4
 have q5:=q.cell 5
 have q6:=q.cell 6
 have q7:=q.cell 7
 have q8:=q.cell 8
 have q9:=q.cell 9
 refine⟨rfl,.agg (Sha.hash Sha.start ⟨#[]⟩ 0),?_,rfl,⟨Hkf.out.os,Hkf.out.tape,Hkf.out.output,Hkf.out.size,fun k hk=>Hkf.out.block k hk hk⟩⟩
 simp [results,Tryz.f229,go_sem,q0,q1,q2,q3,q4,q5,q6,q7,q8,q9]
 rfl
theorem Right_any (H:List Int) (hH:H.length=8) (rest:ByteArray) (many:Nat) (h1:rest.size=many%64) (h2:many≤1048576) (w:World):
 Calls Tryz.prog 237 #[.agg (Sha.hash H rest many)] w fun e w'=>e= .returned (.bool true)∧Below w.heap.size w w':=by
 obtain⟨a0,a1,a2,a3,a4,a5,a6,a7,rfl⟩:=Sha.list8 hH
 have e0:(0:Int)≤(many:Int):=by omega
 have e1:(many:Int)≤1048576:=by omega
 have e2:((rest.size:Int) == (many:Int)%64)=true:=by rw [beq_iff_eq];omega
 have e3:(rest.size:Int)=(many:Int)%64:=by omega
 go_enter Tryz.func237,Tryz.ntmps237
 dsimp only [Sha.hash,Ws.vals,List.map_cons,List.map_nil]
 go_wp2
 go_ret
 exact⟨rfl,(Below.refl _ _).alloc (Nat.le_refl _) _⟩
theorem extract_whole (s:ByteArray):s.extract 0 s.size=s:=by
 have e:bytesOf (s.extract 0 s.size)=bytesOf s:=by
  rw [bytesOf_extract _ _ _ (Nat.le_refl _),List.drop_zero,Nat.sub_zero,List.take_of_length_le (by rw [bytesOf_length];exact Nat.le_refl _)]
 rw [← strOf_bytesOf (s.extract 0 s.size),e,strOf_bytesOf]
theorem extract_extract (s:ByteArray) (a b c d:Nat) (h1:b≤s.size) (h2:a+d≤b) (h3:c≤d):(s.extract a b).extract c d=s.extract (a+c) (a+d):=by
 have hs:(s.extract a b).size=b-a:=by rw [ByteArray.size_extract];omega
 have e:bytesOf ((s.extract a b).extract c d)=bytesOf (s.extract (a+c) (a+d)):=by
  rw [bytesOf_extract _ _ _ (by omega),bytesOf_extract _ _ _ h1,bytesOf_extract _ _ _ (by omega),List.drop_take,List.take_take,List.drop_drop,Nat.min_eq_left (by omega),show a+d-(a+c)=d-c by omega]
 rw [← strOf_bytesOf ((s.extract a b).extract c d),e,strOf_bytesOf]
def Sha.chunks (s:ByteArray):List ByteArray:=(List.range (s.size / 64)).map fun i=>s.extract (64*i) (64*i+64)
theorem Sha.chunks_length (s:ByteArray):(Sha.chunks s).length=s.size / 64:=by simp [Sha.chunks]
theorem Sha.chunks_at (s:ByteArray) {i:Nat} (hi:i<s.size / 64):Sha.chunks s=(Sha.chunks s).take i++s.extract (64*i) (64*i+64)::(Sha.chunks s).drop (i+1):=by
 have h:i<(Sha.chunks s).length:=by rw [Sha.chunks_length];exact hi
 have e:(Sha.chunks s)[i]=s.extract (64*i) (64*i+64):=by simp [Sha.chunks]
 rw [← e,List.getElem_cons_drop,List.take_append_drop]
theorem Sha.chunks_next (s:ByteArray) {i:Nat} (hi:i<s.size / 64):(Sha.chunks s).take (i+1)=(Sha.chunks s).take i++[s.extract (64*i) (64*i+64)]:=by
 have h:i<(Sha.chunks s).length:=by rw [Sha.chunks_length];exact hi
 have e:(Sha.chunks s)[i]=s.extract (64*i) (64*i+64):=by simp [Sha.chunks]
 rw [← e,List.take_append_getElem h]
theorem Sha.chunks_size {s x:ByteArray} (h:x∈Sha.chunks s):x.size=64:=by
 obtain⟨i,hi,rfl⟩:=List.mem_map.1 h
 have:i<s.size / 64:=by simpa using hi
 rw [ByteArray.size_extract];omega
def Sha.encb (x:ByteArray):Array Value:=#[.string x]
theorem digBlocks_any (s:ByteArray) (w:World):
 Calls Tryz.prog 238 #[.string s] w fun e w'=>
  e= .returned (.func (.func 248) #[] #[.pointer (some ⟨w.heap.size,0,none⟩)])∧w'=w.alloc (.cells #[.string s] 9):=by
 have hmf:∀(fn:Fn) (first cap:Array Value) (w:World),(Instr.makeFunc fn first cap).run Tryz.prog w= .ok (.func fn first cap) w:=fun _ _ _ _=>rfl
 go_enter Tryz.func238,Tryz.ntmps238
 go_wp2
 go_ret
 exact⟨rfl,rfl⟩
def cellLen (bc:Nat) (wr:World):Nat:=match wr.cell? ⟨bc,0,none⟩ with
 | some (.string t)=>t.size
 | _=>0
def ChAt (J:List ByteArray→World→Prop) (bc:Nat) (s:ByteArray) (wr:World):Prop:=
 ∃ i:Nat,i≤s.size / 64∧J ((Sha.chunks s).take i) wr∧wr.cell? ⟨bc,0,none⟩=some (.string (s.extract (64*i) s.size))∧wr.frozen? ⟨bc,0,none⟩=false
theorem digBlocks1_any (bc:Nat) (s:ByteArray) (_hs:s.size≤1000000000) (need:Nat→Prop) (hnc:need bc) (w:World) (hc:w.cell? ⟨bc,0,none⟩=some (.string s)) (hf:w.frozen? ⟨bc,0,none⟩=false):
 SeqF Tryz.prog 248 #[.pointer (some ⟨bc,0,none⟩)] Sha.encb (Sha.chunks s) (fun k=>k=bc) need (fun _=>True) w:=by
 intro lp J Jx W hW hz hJ hJx hY h0
 have hst:ChAt J bc s W:=⟨0,Nat.zero_le _,by rw [List.take_zero];exact h0,by rw [Nat.mul_zero,extract_whole];exact hW.cell (p:=⟨bc,0,none⟩) hnc hc,(hW.frozen (p:=⟨bc,0,none⟩) hnc hc).trans hf⟩
 have Hst:=Lib.hid hst
 have HJ:=Lib.hid hJ
 clear hst hc hf hW h0 hJ hJx
 refine(callsIn_wide (n:=9)).1 ?_
 refine callsIn_of_wp Tryz.func248 rfl trivial ?_ rfl
 simp only [Tryz.ntmps248,List.size_toArray,List.length_cons,List.length_nil,Nat.reduceAdd,Nat.reduceSub,Array.replicate_succ,Array.replicate_zero,List.push_toArray,List.append_toArray,List.nil_append,List.cons_append]
 gi_wp2
 gi_loopw [3] (fun _ wr=>ChAt J bc s wr) (fun _ wr=>cellLen bc wr)
 case atStart=>exact Hst.out
 case round=>
  clear Hst
  obtain⟨i,hi,hj,hc,hf⟩:=hrel
  have hsz:(s.extract (64*i) s.size).size=s.size-64*i:=by rw [ByteArray.size_extract];omega
  have hm:cellLen bc wr=s.size-64*i:=by rw [cellLen,hc];exact hsz
  by_cases hlt:i<s.size / 64
  · have hY1:=hY _ _ _ (Sha.chunks_at s hlt) wr hj
    have Hnext:=Lib.hid (Sha.chunks_next s hlt)
    have hg:(64:Int)≤((s.extract (64*i) s.size).size:Int):=by omega
    have h1:=fun W=>sl_hi (s.extract (64*i) s.size) 64 64 rfl (by omega) W
    rw [extract_extract s (64*i) s.size 0 64 (Nat.le_refl _) (by omega) (by decide),Nat.add_zero] at h1
    have h2:=fun W=>sl_lo (s.extract (64*i) s.size) 64 64 rfl (by omega) W
    rw [extract_extract s (64*i) s.size 64 (s.extract (64*i) s.size).size (Nat.le_refl _) (by omega) (by omega),show 64*i+(s.extract (64*i) s.size).size=s.size by omega,show 64*i+64=64*(i+1) by omega] at h2
    obtain⟨fn,tmps,assign,body,hy,hR⟩:=hY1
    dsimp only [Sha.encb] at hy
    generalize s.extract (64*i) (64*i+64)=x at*
    generalize hX:s.extract (64*i) s.size=X at*
    clear hX
    gi_wp2
    refine(hR 8).mono ?_
    rintro e W3 (⟨rfl,hj3,hk3⟩ | ⟨rfl,hx3⟩)
    · have c3:=hk3.cell (p:=⟨bc,0,none⟩) hnc hc
      have f3:=(hk3.frozen (p:=⟨bc,0,none⟩) hnc hc).trans hf
      have hks:Keep (fun k=>¬ k=bc) W3 (W3.setCell ⟨bc,0,none⟩ (.string (s.extract (64*(i+1)) s.size))):=(Keep.refl _ _).setCell (p:=⟨bc,0,none⟩) (fun h=>absurd rfl h) _
      have Hn:Hid (ChAt J bc s (W3.setCell ⟨bc,0,none⟩ (.string (s.extract (64*(i+1)) s.size)))):=Lib.hid ⟨i+1,hlt,by rw [Hnext.out];exact HJ.out _ _ _ hj3 hks,World.cell?_setCell_same _ _ _ c3,by go_simp⟩
      have hm2:cellLen bc (W3.setCell ⟨bc,0,none⟩ (.string (s.extract (64*(i+1)) s.size)))=s.size-64*(i+1):=by
       rw [cellLen,World.cell?_setCell_same _ _ _ c3]
       show(s.extract (64*(i+1)) s.size).size=_
       rw [ByteArray.size_extract];omega
      have Hm2:=Lib.hid hm2
      clear hj3 hy hR hks hk3 hm2
      gi_wp2
      refine⟨Hn.out,?_⟩
      have:=Hm2.out
      omega
    · have Hx:=Lib.hid hx3
      gi_wp2
      refine bodyPost_ret (results_none rfl _ _ _) rfl ?_
      refine⟨⟨_,rfl⟩,.inr ⟨_,(Sha.chunks s).drop (i+1),?_,Hx.out⟩⟩
      rw [← Hnext.out,List.take_append_drop]
  · have hg:¬ (64:Int)≤((s.extract (64*i) s.size).size:Int):=by omega
    rw [List.take_of_length_le (by rw [Sha.chunks_length];omega)] at hj
    have Hj:=Lib.hid hj
    gi_wp2
    exact⟨rfl,_,results_none rfl _ _ _,⟨_,rfl⟩,.inl Hj.out⟩
end Go.Proofs.YtpnbkfboneabaaaGreat
