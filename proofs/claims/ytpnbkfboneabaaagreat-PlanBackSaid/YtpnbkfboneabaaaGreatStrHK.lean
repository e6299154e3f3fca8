import Derived.Test.YtpnbkfboneabaaaGreatStrGK
set_option maxRecDepth 100000
set_option maxHeartbeats 4000000
namespace Go.Proofs.YtpnbkfboneabaaaGreat
open Go.RowKit
def Str.xor (a b:List Nat):List Nat:=(List.range a.length).map fun i=>a.getD i 0 ^^^ b.getD i 0
theorem Str.xor_length (a b:List Nat):(Str.xor a b).length=a.length:=by simp [Str.xor]
theorem Str.xor_get (a b:List Nat) {i:Nat} (hi:i<a.length):(Str.xor a b).getD i 0=a.getD i 0 ^^^ b.getD i 0:=by simp [Str.xor,List.getD_eq_getElem?_getD,hi]
theorem Str.xor_all {a b:List Nat} (ha:Bs.All a) (hb:Bs.All b):Bs.All (Str.xor a b):= .of_mem fun x hx=>by
 obtain⟨i,_,rfl⟩:=List.mem_map.1 hx
 exact Nat.xor_lt_two_pow (n:=8) (ha i) (hb i)
def Str.Block (F:List Nat→List Nat):Prop:=∀ c,c.length=16→Bs.All c→(F c).length=16∧Bs.All (F c)
theorem Str.stream_all {F:List Nat→List Nat} (hF:Str.Block F) (C:List Nat) (N:Nat):Bs.All (Str.stream F C N):= .of_mem fun x hx=>by
 obtain⟨i,_,hi⟩:=List.mem_flatMap.1 hx
 exact(hF _ (Ctr.next_length _ _) (Ctr.next_all _ _)).2.mem x hi
theorem Str.keys_all {F:List Nat→List Nat} (hF:Str.Block F) (C:List Nat) (n:Nat):Bs.All (Str.keys F C n):= .of_mem fun x hx=>
 (Str.stream_all hF C _).mem x (List.mem_of_mem_take hx)
def XorStrAt (g h0:Nat) (R S:List Nat) (w0:World) (vi:Value) (wr:World):Prop:=
 ∃ i:Nat,i≤S.length∧vi= .int .i64 (i:Int)∧Buf wr g (Bs.upTo i R S)∧Keep (fun k=>k<h0) w0 wr
theorem XorStrAt.next {g h0 i:Nat} {R S:List Nat} {w0 wr:World} (hR:R.length=S.length) (hi:i<S.length) (hh:h0≤g) (hb:Buf wr g (Bs.upTo i R S)) (hk:Keep (fun k=>k<h0) w0 wr):
 XorStrAt g h0 R S w0 (.int .i64 ((i:Int)+1)) (wr.setCell ⟨g,i,none⟩ (U (R.getD i 0))):=by
 refine⟨i+1,hi,rfl,?_,hk.setCell (p:=⟨g,i,none⟩) (fun h=>absurd h (by dsimp only;omega)) _⟩
 have h:=hb.store (j:=i) (by rw [Bs.upTo_length hR];exact hi) (R.getD i 0)
 rwa [Bs.upTo_set hR hi] at h
theorem Xor_any (t c s:ByteArray) (hg:Str.good t=true) (hT:Str.Told t) (hc:c.size=16) (hs:s.size≤65536) (F:List Nat→List Nat) (hF:Str.Enc t F) (hFl:∀ c,c.length=16→(F c).length=16) (hFb:Str.Block F) (w:World):
 Calls Tryz.prog 223 #[.string t,.string c,.string s] w fun e w'=>e= .returned (.tuple #[.string (strOf (Str.xor (bytesOf s) (Str.keys F (bytesOf c) s.size))),.int .i64 0])∧Keep (fun k=>k<w.heap.size) w w':=by
 have hK0:=fun w=>Keys_any t c hg hT hc 0 (by decide) F hF hFl w
 have hKs:=fun w=>Keys_any t c hg hT hc s.size hs F hF hFl w
 have hKl:(Str.keys F (bytesOf c) s.size).length=s.size:=Str.keys_length hFl _ _
 have hKa:=Str.keys_all hFb (bytesOf c) s.size
 obtain⟨K,hK⟩:∃ K,Str.keys F (bytesOf c) s.size=K:=⟨_,rfl⟩
 have hSl:=bytesOf_length s
 have hSa:=bytesOf_all s
 obtain⟨S,hS⟩:∃ S,bytesOf s=S:=⟨_,rfl⟩
 rw [hK] at hKl hKa hKs ⊢
 rw [hS] at hSl hSa ⊢
 have HK0:=Lib.hid hK0
 have HKs:=Lib.hid hKs
 have HS:=Lib.hid hS
 have HSa:=Lib.hid hSa
 have HKa:=Lib.hid hKa
 clear hF hFl hT hK0 hKs hS hSa hKa hK
 go_enter Tryz.func223,Tryz.ntmps223
 go_wp2_with fail
 refine(HK0.out _).mono ?_
 rintro e w1 ⟨rfl,hk1⟩
 have Hk1:=Lib.hid hk1
 clear hk1
 go_wp2_with fail
 refine(HKs.out _).mono ?_
 rintro e w2 ⟨rfl,hk2⟩
 have Hk2:=Lib.hid (Hk1.out.trans (hk2.mono fun k hk _=>by have:=Hk1.out.size;omega))
 clear hk2 Hk1
 obtain⟨W3,cap,hcv,hb3,hz3,hbuf⟩:=conv_buf (P:=Tryz.prog) (src:=9) Tryz.underlying9 Tryz.underlying42 Tryz.underlying5 s w2
 rw [HS.out] at hbuf
 have hRl:=Str.xor_length S K
 obtain⟨g,hg⟩:∃ g,w2.heap.size=g:=⟨_,rfl⟩
 rw [hg] at hcv hbuf hb3
 have hst:XorStrAt g w.heap.size (Str.xor S K) S w (.int .i64 0) W3:=⟨0,Nat.zero_le _,rfl,by rw [Bs.upTo_zero];exact hbuf,Hk2.out.trans ⟨hb3.os,hb3.tape,hb3.output,by omega,fun k hk _=>hb3.block k (by have:=Hk2.out.size;omega)⟩⟩
 have hgw:w.heap.size≤g:=by have:=Hk2.out.size;omega
 have Hst:=Lib.hid hst
 have Hgs:=Lib.hid hgw
 clear hst hbuf hb3 hz3 Hk2 hgw
 go_wp2
 go_loopw [38] (fun vi wr=>XorStrAt g w.heap.size (Str.xor S K) S w vi wr) (fun vi _=>S.length-(intOf vi).toNat)
 case atStart=>exact Hst.out
 case round=>
  clear Hst
  obtain⟨i,hi,rfl,hbi,hki⟩:=hrel
  by_cases hlt:i<S.length
  · have hcell:=hbi.cell (j:=i) (by rw [Bs.upTo_length hRl];exact hlt)
    have hfr:=hbi.frozen (j:=i) (by rw [Bs.upTo_length hRl];exact hlt)
    rw [Bs.upTo_get hRl (Nat.le_refl _)] at hcell
    have hidx:=fun W=>idx_string (strOf K) (i:Int) i rfl (by rw [strOf_size];omega) W
    rw [bytesOf_strOf HKa.out] at hidx
    have hx:=u8_xor_nat (S.getD i 0) (K.getD i 0) (HSa.out i) (HKa.out i)
    have Hnx:=Lib.hid (XorStrAt.next hRl hlt Hgs.out hbi hki)
    have Hnx2:=Lib.hid (XorStrAt.next hRl hlt Hgs.out hbi.drew hki.drew)
    rw [Str.xor_get _ _ hlt] at Hnx Hnx2
    have hl2:(i:Int)<(s.size:Int):=by omega
    obtain⟨z,hz⟩:∃ z,S.getD i 0 ^^^ K.getD i 0=z:=⟨_,rfl⟩
    rw [hz] at hx Hnx Hnx2
    clear hz hbi hki hi
    generalize S.getD i 0=x at*
    generalize K.getD i 0=y at*
    go_wp2
    go_region
    all_goals
     go_wp2
     go_roundw
     case rel=>first | exact Hnx.out | exact Hnx2.out
     case measure=>simp [intOf];omega
  · obtain rfl:i=S.length:=by omega
    have hl2:¬ ((S.length:Nat):Int)<(s.size:Int):=by omega
    rw [Bs.upTo_all (by rw [hRl];exact Nat.le_refl _) (Nat.le_refl _)] at hbi
    have hcs:=conv_string (P:=Tryz.prog) (src:=42) (dst:=9) Tryz.underlying42 Tryz.underlying5 Tryz.underlying9 g 0 cap (Str.xor S K) wr (fun k hk=>by rw [Nat.zero_add];exact hbi.cell hk) s.size (by rw [hRl,hSl])
    have Hki:=Lib.hid hki
    clear hbi hki hi hlt
    go_wp2
    go_ret2
    exact⟨rfl,Hki.out⟩
end Go.Proofs.YtpnbkfboneabaaaGreat
