import Derived.Test.YtpnbkfboneabaaaGreatAesIK
import Derived.Test.YtpnbkfboneabaaaGreatStrEK
set_option maxRecDepth 100000
set_option maxHeartbeats 4000000
namespace Go.Proofs.YtpnbkfboneabaaaGreat
open Go.RowKit
theorem Aes.array_at_state (a:Addr) (c:Nat) (W:World):(Instr.arrayAt 335 (.slice (some a) 16 c)).run Tryz.prog W= .ok (.pointer (some a)) W:=by
 simp [Instr.arrayAt,run_underlying Tryz.underlying335]
theorem encrypt_any (b n:Nat) (hn:n=4∨n=8) (s block:ByteArray) (hs:s.size=4*n) (hbl:block.size=16) (w:World) (hr:Row w b 341 #[.string s,.int .u32 0,.int .i32 0,.int .u32 0,.slice none 0 0]):
 Calls Tryz.prog 269 #[.pointer (some ⟨b,0,none⟩),.string block] w fun e w'=>
  e= .returned (.string (strOf (Aes.enc (bytesOf s) (bytesOf block))))∧Keep (fun k=>k≠b) w w':=by
 have hbw:=hr.lt
 obtain⟨W1,cap,hcv,hb1,hz1,hc1⟩:=conv_bytes (P:=Tryz.prog) (src:=9) Tryz.underlying9 Tryz.underlying42 Tryz.underlying5 block w
 rw [hbl] at hcv hc1
 have hblen:(bytesOf block).length=16:=by rw [bytesOf_length,hbl]
 have hball:=bytesOf_all block
 have har:=Aes.array_at_state ⟨w.heap.size,0,none⟩ cap W1
 have q0:=hc1 0 (by decide)
 have q1:=hc1 1 (by decide)
 have q2:=hc1 2 (by decide)
 have q3:=hc1 3 (by decide)
 have q4:=hc1 4 (by decide)
 have q5:=hc1 5 (by decide)
 have q6:=hc1 6 (by decide)
 have q7:=hc1 7 (by decide)
 have q8:=hc1 8 (by decide)
 have q9:=hc1 9 (by decide)
 have q10:=hc1 10 (by decide)
 have q11:=hc1 11 (by decide)
 have q12:=hc1 12 (by decide)
 have q13:=hc1 13 (by decide)
 have q14:=hc1 14 (by decide)
 have q15:=hc1 15 (by decide)
 have hb16:=list16 hblen
 obtain⟨Y,hY⟩:∃ Y,bytesOf block=Y:=⟨_,rfl⟩
 rw [hY] at hb16 hblen hball q0 q1 q2 q3 q4 q5 q6 q7 q8 q9 q10 q11 q12 q13 q14 q15
 generalize Y.getD 0 0=y0 at*
 generalize Y.getD 1 0=y1 at*
 generalize Y.getD 2 0=y2 at*
 generalize Y.getD 3 0=y3 at*
 generalize Y.getD 4 0=y4 at*
 generalize Y.getD 5 0=y5 at*
 generalize Y.getD 6 0=y6 at*
 generalize Y.getD 7 0=y7 at*
 generalize Y.getD 8 0=y8 at*
 generalize Y.getD 9 0=y9 at*
 generalize Y.getD 10 0=y10 at*
 generalize Y.getD 11 0=y11 at*
 generalize Y.getD 12 0=y12 at*
 generalize Y.getD 13 0=y13 at*
 generalize Y.getD 14 0=y14 at*
 generalize Y.getD 15 0=y15 at*
 have HY:Hid (bytesOf block=[y0,y1,y2,y3,y4,y5,y6,y7,y8,y9,y10,y11,y12,y13,y14,y15]):=Lib.hid (hY.trans hb16)
 subst hb16
 have hrs:=Row.new W1 335 #[U y0,U y1,U y2,U y3,U y4,U y5,U y6,U y7,U y8,U y9,U y10,U y11,U y12,U y13,U y14,U y15]
 obtain⟨w2,hw2⟩:∃ w2,W1.alloc (.cells #[U y0,U y1,U y2,U y3,U y4,U y5,U y6,U y7,U y8,U y9,U y10,U y11,U y12,U y13,U y14,U y15] 335)=w2:=⟨_,rfl⟩
 rw [hw2] at hrs
 have hrb2:Row w2 b 341 #[.string s,.int .u32 0,.int .i32 0,.int .u32 0,.slice none 0 0]:=by rw [← hw2];exact(hr.below hb1 hbw).alloc _
 have hk2:Keep (fun k=>k≠b) w w2:=by rw [← hw2];exact(Keep.below hb1).alloc _
 have hlb:(bytesOf s).length=4*n:=by rw [bytesOf_length,hs]
 have hll:(Aes.expanded (bytesOf s)).length=16*(n+7):=by rw [Aes.expanded_length,hlb];omega
 have hall:=Aes.expanded_all (bytesOf_all s)
 have hdiv:(bytesOf s).length / 4=n:=by omega
 obtain⟨L,hL⟩:∃ L,Aes.expanded (bytesOf s)=L:=⟨_,rfl⟩
 obtain⟨gs,hgs⟩:∃ gs,W1.heap.size=gs:=⟨_,rfl⟩
 rw [hgs] at hrs
 have hgw:w.heap.size≤gs:=by rw [← hgs];exact hb1.size
 have Hrs:=Lib.hid hrs
 have Hrb2:=Lib.hid hrb2
 have Hk2:=Lib.hid hk2
 have Hw2:=Lib.hid hw2
 have Hball:=Lib.hid hball
 have HL:=Lib.hid hL
 rw [hL] at hll hall
 have Hall:=Lib.hid hall
 clear hrs hrb2 hk2 hr hw2 hb1 hz1 hc1 hball hL hall hY
 refine(callsIn_wide (n:=9)).1 ?_
 refine callsIn_of_wp_marks Tryz.func269 rfl trivial ?_ rfl
 simp only [Tryz.ntmps269,List.size_toArray,List.length_cons,List.length_nil,Nat.reduceAdd,Nat.reduceSub,Array.replicate_succ,Array.replicate_zero,List.push_toArray,List.append_toArray,List.nil_append,List.cons_append]
 gi_wp2_with (refine⟨trivial,?_⟩;gi_at_call 268;fail)
 rw [show W1.alloc (.cells #[U y0,U y1,U y2,U y3,U y4,U y5,U y6,U y7,U y8,U y9,U y10,U y11,U y12,U y13,U y14,U y15] 335)=w2 from Hw2.out]
 refine⟨trivial,?_⟩
 refine(callsIn_wide.2 (keys_first b n s hn hs (.int .u32 0) w2 Hrb2.out)).mono ?_
 rintro e w3 ⟨v,rfl,hr3,ho3,hk3⟩
 obtain⟨g,cap3,rfl,hgb,hgl⟩:=owns_row ho3 (by omega)
 rw [HL.out] at ho3
 have hkin:KeysIn b g n s L (.int .u32 0) (.slice (some ⟨g,0,none⟩) (n+7) cap3) w3:=⟨hr3,⟨cap3,rfl⟩,hll,fun m hm=>by
  rw [ho3.cellAt m (by omega)]
  simp [List.getD_eq_getElem?_getD,show m<L.length by omega]⟩
 have hgs3:gs<w2.heap.size:=Hrs.out.lt
 have hrs3:=Hrs.out.keep hk3 (by omega)
 have hk03:=Hk2.out.trans hk3
 have hz3:=hk3.size
 have hK:(Aes.keyAt L 0).length=16:=Aes.keyAt_length hll (by omega)
 have hget:∀ t,t<16→w3.cell? ⟨g,t,none⟩=some (U ((Aes.keyAt L 0).getD t 0)):=fun t ht=>by
  rw [hkin.2.2.2 t (by omega),← Aes.keyAt_get ht,Nat.zero_mul,Nat.zero_add]
 have hKa:Bs.All (Aes.keyAt L 0):=Aes.keyAt_all Hall.out 0
 clear q0 q1 q2 q3 q4 q5 q6 q7 q8 q9 q10 q11 q12 q13 q14 q15
 have q0:=hget 0 (by decide)
 have q1:=hget 1 (by decide)
 have q2:=hget 2 (by decide)
 have q3:=hget 3 (by decide)
 have q4:=hget 4 (by decide)
 have q5:=hget 5 (by decide)
 have q6:=hget 6 (by decide)
 have q7:=hget 7 (by decide)
 have q8:=hget 8 (by decide)
 have q9:=hget 9 (by decide)
 have q10:=hget 10 (by decide)
 have q11:=hget 11 (by decide)
 have q12:=hget 12 (by decide)
 have q13:=hget 13 (by decide)
 have q14:=hget 14 (by decide)
 have q15:=hget 15 (by decide)
 have hk16:=list16 hK
 obtain⟨K0,hK0⟩:∃ K0,Aes.keyAt L 0=K0:=⟨_,rfl⟩
 rw [hK0] at hk16 hK hKa q0 q1 q2 q3 q4 q5 q6 q7 q8 q9 q10 q11 q12 q13 q14 q15
 generalize K0.getD 0 0=k0 at*
 generalize K0.getD 1 0=k1 at*
 generalize K0.getD 2 0=k2 at*
 generalize K0.getD 3 0=k3 at*
 generalize K0.getD 4 0=k4 at*
 generalize K0.getD 5 0=k5 at*
 generalize K0.getD 6 0=k6 at*
 generalize K0.getD 7 0=k7 at*
 generalize K0.getD 8 0=k8 at*
 generalize K0.getD 9 0=k9 at*
 generalize K0.getD 10 0=k10 at*
 generalize K0.getD 11 0=k11 at*
 generalize K0.getD 12 0=k12 at*
 generalize K0.getD 13 0=k13 at*
 generalize K0.getD 14 0=k14 at*
 generalize K0.getD 15 0=k15 at*
 have HK0:Hid (Aes.keyAt L 0=[k0,k1,k2,k3,k4,k5,k6,k7,k8,k9,k10,k11,k12,k13,k14,k15]):=Lib.hid (hK0.trans hk16)
 subst hk16
 have Hkin:=Lib.hid hkin
 have Hk03:=Lib.hid hk03
 have Hka:=Lib.hid hKa
 clear hkin hk03 hr3 ho3 hk3 hget hK0 hKa
 gi_wp2_with (refine⟨trivial,?_⟩;gi_at_call 268;fail)
 refine⟨trivial,?_⟩
 refine(callsIn_wide.2 (state_add gs [y0,y1,y2,y3,y4,y5,y6,y7,y8,y9,y10,y11,y12,y13,y14,y15] [k0,k1,k2,k3,k4,k5,k6,k7,k8,k9,k10,k11,k12,k13,k14,k15] rfl rfl Hball.out Hka.out w3 hrs3)).mono ?_
 rintro e w4 ⟨rfl,hr4,hk4⟩
 obtain⟨S1,hS1⟩:∃ S1,Aes.add [y0,y1,y2,y3,y4,y5,y6,y7,y8,y9,y10,y11,y12,y13,y14,y15] [k0,k1,k2,k3,k4,k5,k6,k7,k8,k9,k10,k11,k12,k13,k14,k15]=S1:=⟨_,rfl⟩
 have hS1l:S1.length=16:=by rw [← hS1];exact Aes.add_length _ _
 have hS1a:Bs.All S1:=by rw [← hS1];exact Aes.add_all Hball.out Hka.out
 have HS1:=Lib.hid hS1
 rw [hS1] at hr4
 have hgs2:gs≠b:=by omega
 have hgb2:g≠b:=by omega
 have hgg:g≠gs:=by omega
 have hkin4:=Hkin.out.keep hk4 (Ne.symm hgs2) hgg
 have hk04:Keep (fun k=>k≠b) w w4:=Hk03.out.on hk4 (fun k _ hl=>by omega)
 have hg4:g<w4.heap.size:=by have:=hk4.size;omega
 have hgs4:gs<w4.heap.size:=hr4.lt
 have hb4:b<w4.heap.size:=by omega
 have Hr4:=Lib.hid hr4
 have Hkin4:=Lib.hid hkin4
 have Hk04:=Lib.hid hk04
 have HS1a:=Lib.hid hS1a
 clear q0 q1 q2 q3 q4 q5 q6 q7 q8 q9 q10 q11 q12 q13 q14 q15 hS1 hr4 hkin4 hk04 hk4 Hrs Hrb2 Hk2 Hw2 hrs3 Hkin Hk03 hS1a hcv har hblen hK hgs hz3 hgs3 hgl
 gi_wp2_with (refine⟨trivial,?_⟩;gi_at_call 268;fail)
 refine⟨trivial,?_⟩
 refine(callsIn_wide.2 (rounds_any b false w4)).mono ?_
 rintro e w5 ⟨rfl,hw5⟩
 have hz5:w5.heap.size=w4.heap.size+2:=by rw [hw5];simp
 have hk45:Keep (fun _=>True) w4 w5:=by rw [hw5];exact((Keep.refl _ _).alloc _).alloc _
 have hc5:w5.cell? ⟨w4.heap.size,0,none⟩=some (.pointer (some ⟨b,0,none⟩)):=by rw [hw5];go_simp
 have hd5:w5.cell? ⟨w4.heap.size+1,0,none⟩=some (.bool false):=by rw [hw5];go_simp
 clear hw5
 obtain⟨bc,hbc⟩:∃ bc,w4.heap.size=bc:=⟨_,rfl⟩
 rw [hbc] at hc5 hd5 hz5 hg4 hgs4 hb4
 have hkin5:=Hkin4.out.keep hk45 trivial trivial
 have hway:WayAt b gs Aes.encStep S1 w [] w5:=⟨Hr4.out.keep hk45 trivial,hS1l,HS1a.out,Hk04.out.on hk45 (fun _ _ _=>trivial)⟩
 have Hkin5:=Lib.hid hkin5
 have Hway:=Lib.hid hway
 clear hkin5 hway Hkin4 Hr4 Hk04 hk45
 gi_wp2
 clear hbc
 refine wp_rangeF (n:=9) (gf:=287) (lb:=#[.pointer (some ⟨bc,0,none⟩),.pointer (some ⟨bc+1,0,none⟩)]) rfl
  (enters_of Tryz.func287 (by kernel_rfl) rfl)
  (rounds1_on b bc (bc+1) n hn s L (.int .u32 0) (fun k=>k=b∨k=g∨k=bc∨k=bc+1) (.inl rfl) (.inr (.inr (.inl rfl))) (.inr (.inr (.inr rfl))) (by omega) (by omega) w5 hc5 hd5
   (fun W hW _=>(keys_again b _ _ _ _ W (Hkin5.out.keep hW (.inl rfl) (.inr (.inl rfl))).1).mono (fun e w' h=>by
    obtain⟨rfl,rfl⟩:=h
    exact⟨_,g,rfl,.inr (.inl rfl),Hkin5.out.keep hW (.inl rfl) (.inr (.inl rfl)),Keep.refl _ _⟩)))
  (by omega) (by omega) ?fin (fun _=>rfl) (fun k=>k=gs) (by omega) (WayAt b gs Aes.encStep S1 w) (fun _ _ _=>False)
  (WayAt_stable b gs _ S1 w _ (by omega) (by omega)) (fun _ _ _ _ hs _=>hs) Hway.out ?body ?done ?stop
 case fin=>
  rintro A B ⟨v,g2,hn2,h⟩ hk
  exact⟨v,g2,hn2,h.keep hk (by omega) (by omega)⟩
 case stop=>intro c pre suf W _ h;exact h.elim
 case done=>
  as_aux_lemma=>
  rintro W ⟨hrw,hrl,hra,hkw⟩ ⟨v2,g2,hn2,hki2⟩ hz hK
  have hfin:(Aes.rounds n L false).foldl Aes.encStep S1=Aes.enc (bytesOf s) (bytesOf block):=by
   rw [Aes.enc,HL.out,hdiv,HY.out,HK0.out,HS1.out]
  obtain⟨R,hR⟩:∃ R,Aes.enc (bytesOf s) (bytesOf block)=R:=⟨_,rfl⟩
  rw [hfin,hR] at hrw hrl hra
  have HR:=Lib.hid hR
  clear hR hfin
  have hcv:=conv_string (P:=Tryz.prog) (src:=42) (dst:=9) Tryz.underlying42 Tryz.underlying5 Tryz.underlying9 gs 0 16 R W (fun j hj=>by rw [Nat.zero_add,hrw.cell j,Bs.get R hj]) 16 hrl
  clear Hkin5 Hway HS1 HK0 HY hc5 hd5
  gi_wp2
  refine⟨by simp,.inl ⟨_,_,rfl,run_takeDeferred hK,?_⟩⟩
  refine⟨.string (strOf R),by simp [results,Tryz.f269,go_sem],by rw [HR.out],?_⟩
  exact hkw.putObj (fun _=>by omega) _
 case body=>
  as_aux_lemma=>
  intro lp pre x rest W hxs hz hi
  obtain⟨xk,xl⟩:=x
  have hx:=Aes.rounds_mem hll Hall.out (x:=(xk,xl)) (by rw [hxs];simp)
  dsimp only at hx
  have hx1:=list16 hx.1
  have hxa:=hx.2
  rw [hx1] at hxa
  generalize xk.getD 0 0=x0 at*
  generalize xk.getD 1 0=x1 at*
  generalize xk.getD 2 0=x2 at*
  generalize xk.getD 3 0=x3 at*
  generalize xk.getD 4 0=x4 at*
  generalize xk.getD 5 0=x5 at*
  generalize xk.getD 6 0=x6 at*
  generalize xk.getD 7 0=x7 at*
  generalize xk.getD 8 0=x8 at*
  generalize xk.getD 9 0=x9 at*
  generalize xk.getD 10 0=x10 at*
  generalize xk.getD 11 0=x11 at*
  generalize xk.getD 12 0=x12 at*
  generalize xk.getD 13 0=x13 at*
  generalize xk.getD 14 0=x14 at*
  generalize xk.getD 15 0=x15 at*
  subst hx1
  have hfold:(pre++[([x0,x1,x2,x3,x4,x5,x6,x7,x8,x9,x10,x11,x12,x13,x14,x15],xl)]).foldl Aes.encStep S1=Aes.encStep (pre.foldl Aes.encStep S1) ([x0,x1,x2,x3,x4,x5,x6,x7,x8,x9,x10,x11,x12,x13,x14,x15],xl):=by rw [List.foldl_append];rfl
  have hbx:=Row.new W 335 #[U x0,U x1,U x2,U x3,U x4,U x5,U x6,U x7,U x8,U x9,U x10,U x11,U x12,U x13,U x14,U x15]
  have Hfold:=Lib.hid hfold
  have Hi:=Lib.hid hi
  have Hbx:=Lib.hid hbx
  have Hxa:=Lib.hid hxa
  clear hfold hi hbx hxa hx hxs hc5 hd5 Hkin5 Hway HS1
  dsimp only [Aes.encs,Bs.vals,List.map_cons,List.map_nil]
  gi_wp2
  repeat ((rw [Oper.semAt_eq _ _ _ (fun c h=>by cases h)];go_simp);gi_wp2)
  refine⟨(Keep.refl _ _).alloc _,fun W3 hk hzz=> ?_⟩
  have hr3:=(Hi.out.1.alloc (.cells #[U x0,U x1,U x2,U x3,U x4,U x5,U x6,U x7,U x8,U x9,U x10,U x11,U x12,U x13,U x14,U x15] 335)).keep hk (by omega)
  have hx3:=Hbx.out.keep hk (by omega)
  have hkw3:Keep (fun k=>k≠b) w W3:=(Hi.out.2.2.2.alloc (.cells #[U x0,U x1,U x2,U x3,U x4,U x5,U x6,U x7,U x8,U x9,U x10,U x11,U x12,U x13,U x14,U x15] 335)).on hk (by intro k _ hl;omega)
  have hSl:=Hi.out.2.1
  have hSa:=Hi.out.2.2.1
  generalize pre.foldl Aes.encStep S1=S at*
  obtain⟨kb,hkb⟩:∃ kb,W.heap.size=kb:=⟨_,rfl⟩
  rw [hkb] at hx3
  have hkbs:kb≠gs:=by omega
  have HSa:=Lib.hid hSa
  have Hr3:=Lib.hid hr3
  have Hx3:=Lib.hid hx3
  have Hkw3:=Lib.hid hkw3
  clear hr3 hx3 hkw3 hk hzz Hbx hSa Hi
  gi_wp2
  refine⟨trivial,?_⟩
  (rw [Oper.semAt_eq _ _ _ (fun c h=>by cases h)];go_simp)
  refine CallsIn.inRound lp ((callsIn_wide.2 (each_sub gs S hSl HSa.out W3 Hr3.out)).mono ?_)
  rintro e w6 ⟨rfl,hr6,hk6⟩
  have Ha6:=Lib.hid (Aes.each_all (fun x hx=>Fld.sub_lt x hx) HSa.out)
  have hl6:=Aes.each_length Fld.sub S
  have Hr6:=Lib.hid hr6
  have Hk6:=Lib.hid hk6
  clear hr6 hk6
  gi_wp2
  refine⟨trivial,?_⟩
  (rw [Oper.semAt_eq _ _ _ (fun c h=>by cases h)];go_simp)
  refine CallsIn.inRound lp ((callsIn_wide.2 (state_move gs 1 (by decide) (Aes.each Fld.sub S) hl6 w6 Hr6.out)).mono ?_)
  rintro e w7 ⟨rfl,hr7,hk7⟩
  have Ha7:=Lib.hid (Aes.move_all 1 Ha6.out)
  have hl7:=Aes.move_length 1 (Aes.each Fld.sub S)
  have Hr7:=Lib.hid hr7
  have Hk7:=Lib.hid (Hk6.out.trans hk7)
  clear hr7 hk7 Hk6 Hr6
  obtain⟨T,hT⟩:∃ T,Aes.move 1 (Aes.each Fld.sub S)=T:=⟨_,rfl⟩
  rw [hT] at Ha7 hl7 Hr7
  have HT:=Lib.hid hT
  clear hT Ha6 hl6
  cases xl
  · skip
    gi_wp2
    (rw [Oper.semAt_eq _ _ _ (fun c h=>by cases h)];go_simp)
    gi_wp2
    refine⟨trivial,?_⟩
    (rw [Oper.semAt_eq _ _ _ (fun c h=>by cases h)];go_simp)
    refine CallsIn.inRound lp ((callsIn_wide.2 (columns_mix gs T hl7 Ha7.out w7 Hr7.out)).mono ?_)
    rintro e w8 ⟨rfl,hr8,hk8⟩
    have Hr8:=Lib.hid hr8
    have Hk8:=Lib.hid (Hk7.out.trans hk8)
    have hxb:=Hx3.out.keep Hk8.out hkbs
    clear hr8 hk8 Hk7 Hr7
    have p0:=hxb.cell 0
    have p1:=hxb.cell 1
    have p2:=hxb.cell 2
    have p3:=hxb.cell 3
    have p4:=hxb.cell 4
    have p5:=hxb.cell 5
    have p6:=hxb.cell 6
    have p7:=hxb.cell 7
    have p8:=hxb.cell 8
    have p9:=hxb.cell 9
    have p10:=hxb.cell 10
    have p11:=hxb.cell 11
    have p12:=hxb.cell 12
    have p13:=hxb.cell 13
    have p14:=hxb.cell 14
    have p15:=hxb.cell 15
    clear hxb
    gi_wp2
    (rw [Oper.semAt_eq _ _ _ (fun c h=>by cases h)];go_simp)
    gi_wp2
    refine⟨trivial,?_⟩
    (rw [Oper.semAt_eq _ _ _ (fun c h=>by cases h)];go_simp)
    refine CallsIn.inRound lp ((callsIn_wide.2 (state_add gs (Aes.columns Fld.mx T) [x0,x1,x2,x3,x4,x5,x6,x7,x8,x9,x10,x11,x12,x13,x14,x15] (Aes.columns_length _ _) rfl (Aes.columns_all Fld.mx_lt) Hxa.out w8 Hr8.out)).mono ?_)
    rintro e w9 ⟨rfl,hr9,hk9⟩
    have Hr9:=Lib.hid hr9
    have Hk9:=Lib.hid (Hk8.out.trans hk9)
    clear hr9 hk9
    gi_wp2
    refine⟨Hk9.out,?_,?_,?_,Hkw3.out.on Hk9.out (by intro k _ hl;omega)⟩
    · rw [Hfold.out,Aes.encStep,if_neg Bool.false_ne_true,HT.out];exact Hr9.out
    · rw [Hfold.out];exact Aes.encStep_length _ _
    · rw [Hfold.out,Aes.encStep,if_neg Bool.false_ne_true,HT.out];exact Aes.add_all (Aes.columns_all Fld.mx_lt) Hxa.out
  · have hxb:=Hx3.out.keep Hk7.out hkbs
    have p0:=hxb.cell 0
    have p1:=hxb.cell 1
    have p2:=hxb.cell 2
    have p3:=hxb.cell 3
    have p4:=hxb.cell 4
    have p5:=hxb.cell 5
    have p6:=hxb.cell 6
    have p7:=hxb.cell 7
    have p8:=hxb.cell 8
    have p9:=hxb.cell 9
    have p10:=hxb.cell 10
    have p11:=hxb.cell 11
    have p12:=hxb.cell 12
    have p13:=hxb.cell 13
    have p14:=hxb.cell 14
    have p15:=hxb.cell 15
    clear hxb
    gi_wp2
    (rw [Oper.semAt_eq _ _ _ (fun c h=>by cases h)];go_simp)
    gi_wp2
    (rw [Oper.semAt_eq _ _ _ (fun c h=>by cases h)];go_simp)
    gi_wp2
    refine⟨trivial,?_⟩
    (rw [Oper.semAt_eq _ _ _ (fun c h=>by cases h)];go_simp)
    refine CallsIn.inRound lp ((callsIn_wide.2 (state_add gs T [x0,x1,x2,x3,x4,x5,x6,x7,x8,x9,x10,x11,x12,x13,x14,x15] hl7 rfl Ha7.out Hxa.out w7 Hr7.out)).mono ?_)
    rintro e w9 ⟨rfl,hr9,hk9⟩
    have Hr9:=Lib.hid hr9
    have Hk9:=Lib.hid (Hk7.out.trans hk9)
    clear hr9 hk9
    gi_wp2
    refine⟨Hk9.out,?_,?_,?_,Hkw3.out.on Hk9.out (by intro k _ hl;omega)⟩
    · rw [Hfold.out,Aes.encStep,if_pos rfl,HT.out];exact Hr9.out
    · rw [Hfold.out];exact Aes.encStep_length _ _
    · rw [Hfold.out,Aes.encStep,if_pos rfl,HT.out];exact Aes.add_all Ha7.out Hxa.out
def Aes.badKey (k:ByteArray):Prop:=k.size≠16∧k.size≠32
theorem Encrypt_any (n:Nat) (hn:n=4∨n=8) (k b:ByteArray) (hk:k.size=4*n) (hb:b.size=16) (w:World):
 Calls Tryz.prog 259 #[.string k,.string b] w fun e w'=>
  e= .returned (.tuple #[.string (strOf (Aes.enc (bytesOf k) (bytesOf b))),.int .i64 0])∧Below w.heap.size w w':=by
 have t1:((b.size:Int) != 16)=false:=by rw [bne_eq_false_iff_eq];omega
 go_enter Tryz.func259,Tryz.ntmps259
 go_wp2_with fail
 refine(newCipher_some k n hn hk _).mono ?_
 rintro e w1 ⟨rfl,hw1⟩
 have hr1:Row w1 w.heap.size 341 #[.string k,.int .u32 0,.int .i32 0,.int .u32 0,.slice none 0 0]:=by rw [hw1];exact Row.new _ _ _
 have hk1:Keep (fun _=>True) w w1:=by rw [hw1];exact(Keep.refl _ _).alloc _
 have Hr1:=Lib.hid hr1
 have Hk1:=Lib.hid hk1
 clear hw1 hr1 hk1
 go_wp2_with fail
 refine(encrypt_any w.heap.size n hn k b hk hb w1 Hr1.out).mono ?_
 rintro e w2 ⟨rfl,hk2⟩
 have Hk2:=Lib.hid hk2
 clear hk2
 go_wp2
 go_ret2
 exact⟨rfl,(Hk1.out.on Hk2.out (fun j _ hl=>by omega)).toBelow (fun _ _=>trivial)⟩
theorem aesKey_cases (k:ByteArray):Aes.badKey k∨∃ n,(n=4∨n=8)∧k.size=4*n:=by
 by_cases h1:k.size=16
 · exact .inr ⟨4,.inl rfl,by omega⟩
 · by_cases h2:k.size=32
   · exact .inr ⟨8,.inr rfl,by omega⟩
   · exact .inl ⟨h1,h2⟩
theorem Expand_none (k:ByteArray) (h:Aes.badKey k) (w:World):
 Calls Tryz.prog 257 #[.string k] w fun e w'=>e= .returned (.tuple #[.string ⟨#[]⟩,.int .i64 1])∧Below w.heap.size w w':=by
 go_enter Tryz.func257,Tryz.ntmps257
 go_wp2_with fail
 refine(newCipher_none k h.1 h.2 _).mono ?_
 rintro e w1 ⟨rfl,rfl⟩
 go_wp2
 go_ret2
 exact⟨rfl,Below.refl _ _⟩
theorem Aes.infoByte:(Tryz.prog.info? 5).map (fun i=>(i.zero,i.size,i.bytes))=some (some (.int .u8 0),1,1):=by kernel_rfl
def TextAt (B g cap n:Nat) (L:List Nat) (w:World) (vb vi:Value) (wr:World):Prop:=
 ∃ i:Nat,i≤n+7∧vi= .int .i64 (i:Int)∧wr.ownsRow w.heap.size 5 1 vb (16*i) ((L.take (16*i)).map U)∧
   wr.ownsRow B 335 16 (.slice (some ⟨g,0,none⟩) (n+7) cap) (n+7) (L.map U)∧vb.ownBlock≠some g∧Keep (fun _=>True) w wr
theorem Expand_any (n:Nat) (hn:n=4∨n=8) (k:ByteArray) (hk:k.size=4*n) (w:World):
 Calls Tryz.prog 257 #[.string k] w fun e w'=>e= .returned (.tuple #[.string (strOf (Aes.expanded (bytesOf k))),.int .i64 0])∧Below w.heap.size w w':=by
 obtain⟨i0,hi0,hz0,hz1,hz2⟩:=info_parts Aes.infoByte
 go_enter Tryz.func257,Tryz.ntmps257
 go_wp2_with fail
 refine(newCipher_some k n hn hk _).mono ?_
 rintro e w1 ⟨rfl,hw1⟩
 have hr1:Row w1 w.heap.size 341 #[.string k,.int .u32 0,.int .i32 0,.int .u32 0,.slice none 0 0]:=by rw [hw1];exact Row.new _ _ _
 have hk1:Keep (fun _=>True) w w1:=by rw [hw1];exact(Keep.refl _ _).alloc _
 have Hr1:=Lib.hid hr1
 have Hk1:=Lib.hid hk1
 clear hw1 hr1 hk1
 go_wp2_with fail
 refine(keys_first w.heap.size n k hn hk (.int .u32 0) w1 Hr1.out).mono ?_
 rintro e w2 ⟨v,rfl,-,hown,hk2⟩
 obtain⟨g,cap,rfl,hgb,hgl⟩:=owns_row hown (by omega)
 have hk02:Keep (fun _=>True) w w2:=Hk1.out.on hk2 (fun j _ hl=>by omega)
 have hlen:(Aes.expanded (bytesOf k)).length=16*(n+7):=by rw [Aes.expanded_length,bytesOf_length,hk];omega
 obtain⟨L,hL⟩:∃ L,Aes.expanded (bytesOf k)=L:=⟨_,rfl⟩
 rw [hL] at hown hlen
 have hst:TextAt w1.heap.size g cap n L w (.slice none 0 0) (.int .i64 0) w2:=
  ⟨0,by omega,rfl,by simpa using World.ownsRow_nil w2 w.heap.size _ 1,hown,by simp [Value.ownBlock],hk02⟩
 have Hst:=Lib.hid hst
 have HL:=Lib.hid hL
 clear hst hown hk02 hk2 hL
 go_wp2
 go_loopw [5,15] (fun vb vi wr=>TextAt w1.heap.size g cap n L w vb vi wr) (fun _ vi _=>n+7-(intOf vi).toNat)
 case atStart=>exact Hst.out
 case round=>
  clear Hst
  obtain⟨i,hi,rfl,hb,hown,hne,hkeep⟩:=hrel
  by_cases hlt:i<n+7
  · have hlt':(i:Int)<(n:Int)+7:=by omega
    have hcell:∀ t,t<16→wr.cell? ⟨g,i*16+t,none⟩=some (U (L.getD (i*16+t) 0)):=fun t ht=>by
     rw [hown.cellAt _ (by omega)]
     simp [List.getD_eq_getElem?_getD,show i*16+t<L.length by omega]
    have q0:=hcell 0 (by decide)
    have q1:=hcell 1 (by decide)
    have q2:=hcell 2 (by decide)
    have q3:=hcell 3 (by decide)
    have q4:=hcell 4 (by decide)
    have q5:=hcell 5 (by decide)
    have q6:=hcell 6 (by decide)
    have q7:=hcell 7 (by decide)
    have q8:=hcell 8 (by decide)
    have q9:=hcell 9 (by decide)
    have q10:=hcell 10 (by decide)
    have q11:=hcell 11 (by decide)
    have q12:=hcell 12 (by decide)
    have q13:=hcell 13 (by decide)
    have q14:=hcell 14 (by decide)
    have q15:=hcell 15 (by decide)
    rw [Nat.add_zero] at q0
    have htk:L.take (16*(i+1))=L.take (16*i)++[L.getD (i*16) 0,L.getD (i*16+1) 0,L.getD (i*16+2) 0,L.getD (i*16+3) 0,L.getD (i*16+4) 0,L.getD (i*16+5) 0,L.getD (i*16+6) 0,L.getD (i*16+7) 0,L.getD (i*16+8) 0,L.getD (i*16+9) 0,L.getD (i*16+10) 0,L.getD (i*16+11) 0,L.getD (i*16+12) 0,L.getD (i*16+13) 0,L.getD (i*16+14) 0,L.getD (i*16+15) 0]:=by
     have hl16:((L.drop (16*i)).take 16).length=16:=by simp;omega
     rw [Nat.mul_add,Nat.mul_one,List.take_add]
     congr 1
     rw [list16 hl16]
     simp only [List.getD_eq_getElem?_getD,List.getElem?_take,List.getElem?_drop,Nat.reduceLT,if_true,Nat.mul_comm 16 i,Nat.add_zero]
    generalize L.getD (i*16) 0=k0 at*
    generalize L.getD (i*16+1) 0=k1 at*
    generalize L.getD (i*16+2) 0=k2 at*
    generalize L.getD (i*16+3) 0=k3 at*
    generalize L.getD (i*16+4) 0=k4 at*
    generalize L.getD (i*16+5) 0=k5 at*
    generalize L.getD (i*16+6) 0=k6 at*
    generalize L.getD (i*16+7) 0=k7 at*
    generalize L.getD (i*16+8) 0=k8 at*
    generalize L.getD (i*16+9) 0=k9 at*
    generalize L.getD (i*16+10) 0=k10 at*
    generalize L.getD (i*16+11) 0=k11 at*
    generalize L.getD (i*16+12) 0=k12 at*
    generalize L.getD (i*16+13) 0=k13 at*
    generalize L.getD (i*16+14) 0=k14 at*
    generalize L.getD (i*16+15) 0=k15 at*
    have hrow:=Row.new wr 335 #[U k0,U k1,U k2,U k3,U k4,U k5,U k6,U k7,U k8,U k9,U k10,U k11,U k12,U k13,U k14,U k15]
    have hnews:∀ j u,[U k0,U k1,U k2,U k3,U k4,U k5,U k6,U k7,U k8,U k9,U k10,U k11,U k12,U k13,U k14,U k15][j]? =some u→(wr.alloc (.cells #[U k0,U k1,U k2,U k3,U k4,U k5,U k6,U k7,U k8,U k9,U k10,U k11,U k12,U k13,U k14,U k15] 335)).cell? ((⟨wr.heap.size,0,none⟩:Addr).add j)=some u:=fun j u hu=>by
     rw [Addr.add_mid,Nat.zero_add,hrow.cell j];simpa using hu
    have Hnews:=Lib.hid hnews
    have Htk:=Lib.hid htk
    have Hb:=Lib.hid (hb.alloc (.cells #[U k0,U k1,U k2,U k3,U k4,U k5,U k6,U k7,U k8,U k9,U k10,U k11,U k12,U k13,U k14,U k15] 335))
    have Hown:=Lib.hid (hown.alloc (.cells #[U k0,U k1,U k2,U k3,U k4,U k5,U k6,U k7,U k8,U k9,U k10,U k11,U k12,U k13,U k14,U k15] 335))
    have Hkeep:=Lib.hid (hkeep.alloc (.cells #[U k0,U k1,U k2,U k3,U k4,U k5,U k6,U k7,U k8,U k9,U k10,U k11,U k12,U k13,U k14,U k15] 335))
    have Hne:=Lib.hid hne
    have hi14:i≤14:=by omega
    clear hcell htk hrow hnews hb hown hkeep hne
    go_wp2_with (at_builtin;go_must (refine wpList_append_own _ rfl _ _ 42 rfl w.heap.size 5 i0 _ 1 1 Tryz.underlying42 hi0 hz0 hz1 hz2 rfl (by decide) _ _ _ rfl Hb.out ⟨wr.heap.size,0,none⟩ 16 16 [U k0,U k1,U k2,U k3,U k4,U k5,U k6,U k7,U k8,U k9,U k10,U k11,U k12,U k13,U k14,U k15] rfl rfl Hnews.out (by simp [Value.oneCell']) (by unfold maxLen;omega) (by omega) Hkeep.out.size ?_);intro v' w3 hown' hgrow _)
    have hkeys:=owns_keep Hown.out (keep_grown hgrow) (fun j hj e=>Hne.out (e.trans hj.symm))
    have hap:=owns_apart hown' hkeys (by decide) (g:=g) rfl
    have hkp:=Hkeep.out.on (keep_grown hgrow) (fun j _ hl e=>by have:=(Hb.out.lt j e).1;omega)
    go_roundw
    case rel=>
     refine⟨i+1,by omega,by go_num,?_,hkeys,hap,hkp⟩
     rw [Htk.out,List.map_append]
     exact hown'
    case measure=>simp [intOf];omega
  · obtain rfl:i=n+7:=by omega
    have hlt':¬ ((n+7:Nat):Int)<(n:Int)+7:=by omega
    obtain⟨g',cap',rfl,hbg',hlg'⟩:=owns_row hb (by omega)
    have hcv:=conv_string (P:=Tryz.prog) (src:=42) (dst:=9) Tryz.underlying42 Tryz.underlying5 Tryz.underlying9 g' 0 cap' L wr (fun j hj=>by
     rw [Nat.zero_add,hb.cellAt j (by omega),List.take_of_length_le (by omega)]
     simp [List.getD_eq_getElem?_getD,hj]) (16*(n+7)) hlen
    have Hkeep:=Lib.hid hkeep
    clear hb hown hkeep hne
    go_wp2
    go_ret2
    exact⟨by rw [HL.out];rfl,Hkeep.out.toBelow (fun _ _=>trivial)⟩
theorem Str.told (t:ByteArray):Str.Told t:=by
 intro w
 rcases aesKey_cases t with h | ⟨n,hn,hk⟩
 · refine(Expand_none t h w).mono fun e w' h2=>⟨_,_,h2.1,?_,h2.2⟩
   rw [Str.good,decide_eq_false (by unfold Aes.badKey at h;omega)]
   rfl
 · refine(Expand_any n hn t hk w).mono fun e w' h2=>⟨_,_,h2.1,?_,h2.2⟩
   rw [Str.good,decide_eq_true (by omega)]
   rfl
theorem Str.enc (t:ByteArray) (hg:Str.good t=true):Str.Enc t (Aes.enc (bytesOf t)):=by
 have h:t.size=16∨t.size=32:=of_decide_eq_true hg
 intro c hc w
 rcases h with h | h
 · exact Encrypt_any 4 (.inl rfl) t c h hc w
 · exact Encrypt_any 8 (.inr rfl) t c h hc w
end Go.Proofs.YtpnbkfboneabaaaGreat
