import Derived.Test.YtpnbkfboneabaaaGreatAskPK
import Derived.Test.YtpnbkfboneabaaaGreatGF
import Derived.Test.YtpnbkfboneabaaaGreatOD
import Derived.Test.YtpnbkfboneabaaaGreatRK
import Derived.Deep.QuietTactic
import Derived.BigQuiet
import Derived.Test.YtpnbkfboneabaaaGreatRG
import Derived.Test.YtpnbkfboneabaaaGreatIC
import Derived.Test.YtpnbkfboneabaaaGreatOA
import Derived.Test.YtpnbkfboneabaaaGreatDR
import Derived.Test.YtpnbkfboneabaaaGreatMT
set_option maxRecDepth 100000
set_option maxHeartbeats 4000000
namespace Go.Proofs.YtpnbkfboneabaaaGreat
open Go.RowKit
namespace Pln
def cellL (k id:Nat):List Nat:=[k]++fourB id++List.replicate 19 0
def cellB (k id:Nat):ByteArray:=strOf (cellL k id)
theorem cellL_length (k id:Nat):(cellL k id).length=24:=by simp [cellL,fourB]
theorem cellB_size (k id:Nat):(cellB k id).size=24:=by
 unfold cellB
 rw [strOf_size,cellL_length]
theorem cellL_all {k:Nat} (hk:k<256) (id:Nat):Bs.All (cellL k id):=by
 refine .of_mem fun z hz=> ?_
 unfold cellL at hz
 rcases List.mem_append.1 hz with hz | hz
 · rcases List.mem_append.1 hz with hz | hz
   · rw [List.mem_singleton] at hz
     omega
   · simp only [fourB,List.mem_cons,List.not_mem_nil,or_false] at hz
     omega
 · have:=List.eq_of_mem_replicate hz
   omega
theorem cellB_inj {k id k' id':Nat} (hk:k<256) (hk':k'<256) (hi:id<4294967296) (hi':id'<4294967296) (h:cellB k id=cellB k' id'):k=k'∧id=id':=by
 have h1:=strOf_inj (cellL_all hk id) (cellL_all hk' id') h
 unfold cellL at h1
 have h2:=List.append_inj h1 (by simp [fourB])
 have h3:=List.append_inj h2.1 (by simp)
 exact⟨by simpa using h3.1,fourB_inj hi hi' h3.2⟩
end Pln
namespace Pln
def rowAt (k id i:Nat):Array Value:=(([k]++(fourB id).take i++List.replicate (23-i) 0).map U).toArray
end Pln
theorem zeroCells_list (n:Nat):zeroCells n=(List.replicate n (U 0)).toArray:=by
 apply Array.ext_getElem?
 intro j
 by_cases hj:j<n
 · rw [zeroCells_get n hj]
   simp [hj]
 · rw [Array.getElem?_eq_none (by rw [zeroCells_size];omega),Array.getElem?_eq_none (by simp;omega)]
theorem Pln.row_start (k id:Nat):(zeroCells 24).setIfInBounds 0 (.int .u8 (k:Int))=Pln.rowAt k id 0:=by
 rw [zeroCells_list]
 rfl
def Pln.byteAt (id:Nat) (i:Nat):Nat:=(fourB id).getD i 0
theorem Pln.row_next (k id:Nat):∀ i,i<4→(Pln.rowAt k id i).setIfInBounds (1+i) (U (Pln.byteAt id i))=Pln.rowAt k id (i+1)
 | 0,_=>rfl
 | 1,_=>rfl
 | 2,_=>rfl
 | 3,_=>rfl
 | i+4,h=>absurd h (by omega)
theorem Pln.row_end (k id:Nat):Pln.rowAt k id 4=((Pln.cellL k id).map U).toArray:=rfl
theorem Pln.row_size (k id:Nat):∀ i,i≤4→(Pln.rowAt k id i).size=24
 | 0,_=>rfl
 | 1,_=>rfl
 | 2,_=>rfl
 | 3,_=>rfl
 | 4,_=>rfl
 | i+5,h=>absurd h (by omega)
theorem planText_any (k id:Nat) (hk:k≤2) (hid:id≤1073741824) (wd:ByteArray) (ep ct:Int) (w:World):
 Calls Tryz.prog 16 #[.agg #[.string wd,.int .i64 ep,.int .i64 ct,.int .i64 (k:Int),.int .i64 (id:Int)]] w fun e w'=>e= .returned (.tuple #[.string (Pln.cellB k id),.int .i64 0])∧Below w.heap.size w w':=by
 have hst:=Pln.row_start k id
 have hmk:∀ W,(Instr.makeSlice 42 (.int .i64 24) (.int .i64 24)).run Tryz.prog W= .ok (.slice (some ⟨W.heap.size,0,none⟩) 24 24) (W.alloc (.cells (zeroCells 24) 5)):=fun W=>make_zero 24 (by decide) W
 have hz0:(zeroCells 24)[0]? =some (U 0):=zeroCells_get 24 (by decide)
 generalize zeroCells 24=Z at hst hmk hz0
 have hk0:¬ (k:Int)<0:=by omega
 have hk2:(k:Int)≤2:=by omega
 have hi0:¬ (id:Int)<0:=by omega
 have hi2:(id:Int)≤1073741824:=by omega
 have hkm:(k:Int)%256=(k:Int):=by omega
 have p0:=(Row.new w 27 #[.string wd,.int .i64 ep,.int .i64 ct,.int .i64 (k:Int),.int .i64 (id:Int)]).alloc (.cells (Pln.rowAt k id 0) 5)
 have q0:=Row.new (w.alloc (.cells #[.string wd,.int .i64 ep,.int .i64 ct,.int .i64 (k:Int),.int .i64 (id:Int)] 27)) 5 (Pln.rowAt k id 0)
 rw [World.size_alloc] at q0
 have hb0:Below w.heap.size w ((w.alloc (.cells #[.string wd,.int .i64 ep,.int .i64 ct,.int .i64 (k:Int),.int .i64 (id:Int)] 27)).alloc (.cells (Pln.rowAt k id 0) 5)):=((Below.refl _ w).alloc (Nat.le_refl _) _).alloc (by rw [World.size_alloc];omega) _
 rw [← hst] at p0 q0 hb0
 have P0:=Lib.hid p0
 have Q0:=Lib.hid q0
 have B0:=Lib.hid hb0
 have Hst:=Lib.hid hst
 clear p0 q0 hb0 hst hk hid
 go_enter Tryz.func16,Tryz.ntmps16
 go_wp2
 go_loopw [5,30] (fun _ vi wr=>∃ i:Nat,i≤4∧vi= .int .i64 (i:Int)∧Row wr w.heap.size 27 #[.string wd,.int .i64 ep,.int .i64 ct,.int .i64 (k:Int),.int .i64 (id:Int)]∧Row wr (w.heap.size+1) 5 (Pln.rowAt k id i)∧Below w.heap.size w wr) (fun _ vi _=>4-(intOf vi).toNat)
 case atStart=>exact⟨0,Nat.zero_le _,rfl,P0.out,Hst.out ▸ Q0.out,B0.out⟩
 case round=>
  obtain⟨i,hi,rfl,p,q,hb⟩:=hrel
  clear P0 Q0 B0 Hst
  have c4:wr.cell? ⟨w.heap.size,4,none⟩=some (.int .i64 (id:Int)):=p.cell 4
  have f4:=p.frozen 4
  have P:=Lib.hid p
  have Q:=Lib.hid q
  have B:=Lib.hid hb
  have hlo:=p.lt
  have hlo2:=q.lt
  by_cases hlt:i<4
  · have hgi:∃ u,wr.cell? ⟨w.heap.size+1,1+i,none⟩=some u:=by
     have h1:1+i<(Pln.rowAt k id i).size:=by rw [Pln.row_size k id i hi];omega
     exact⟨_,by rw [q.cell,Array.getElem?_eq_getElem h1]⟩
    obtain⟨u,hu⟩:=hgi
    have hfz:=q.frozen (1+i)
    have hnx:∃ i':Nat,i'≤4∧Value.int .i64 ((i:Int)+1)= .int .i64 (i':Int)∧Row (wr.setCell ⟨w.heap.size+1,1+i,none⟩ (U (Pln.byteAt id i))) w.heap.size 27 #[.string wd,.int .i64 ep,.int .i64 ct,.int .i64 (k:Int),.int .i64 (id:Int)]∧Row (wr.setCell ⟨w.heap.size+1,1+i,none⟩ (U (Pln.byteAt id i))) (w.heap.size+1) 5 (Pln.rowAt k id i')∧Below w.heap.size w (wr.setCell ⟨w.heap.size+1,1+i,none⟩ (U (Pln.byteAt id i))):=
     ⟨i+1,hlt,rfl,p.other (a:=⟨w.heap.size+1,1+i,none⟩) (by simp) _,by rw [← Pln.row_next k id i hlt];exact q.store (1+i) _,hb.setCell (p:=⟨w.heap.size+1,1+i,none⟩) (by show w.heap.size≤w.heap.size+1;omega) _⟩
    have Hnx:=Lib.hid hnx
    clear hnx p q hb P Q B
    have hcase:i=0∨i=1∨i=2∨i=3:=by omega
    rcases hcase with rfl | rfl | rfl | rfl
    · rw [show U (Pln.byteAt id 0)=Value.int .u8 ((id:Int) / 16777216) from congrArg (Value.int .u8) (by show((id / 16777216%256:Nat):Int)=_;omega)] at Hnx
      go_wp2
      go_roundw
      case rel=>exact Hnx.out
      case measure=>simp [intOf]
    · rw [show U (Pln.byteAt id 1)=Value.int .u8 ((id:Int) / 65536%256) from congrArg (Value.int .u8) (by show((id / 65536%256:Nat):Int)=_;omega)] at Hnx
      go_wp2
      go_roundw
      case rel=>exact Hnx.out
      case measure=>simp [intOf]
    · rw [show U (Pln.byteAt id 2)=Value.int .u8 ((id:Int) / 256%256) from congrArg (Value.int .u8) (by show((id / 256%256:Nat):Int)=_;omega)] at Hnx
      go_wp2
      go_roundw
      case rel=>exact Hnx.out
      case measure=>simp [intOf]
    · rw [show U (Pln.byteAt id 3)=Value.int .u8 ((id:Int)%256) from congrArg (Value.int .u8) (by show((id%256:Nat):Int)=_;omega)] at Hnx
      go_wp2
      go_roundw
      case rel=>exact Hnx.out
      case measure=>simp [intOf]
  · obtain rfl:i=4:=by omega
    have hcv:(convert 42 9 (.slice (some ⟨w.heap.size+1,0,none⟩) 24 24)).run Tryz.prog wr= .ok (.string (Pln.cellB k id)) wr:=
     conv_string (P:=Tryz.prog) (src:=42) (dst:=9) Tryz.underlying42 Tryz.underlying5 Tryz.underlying9 (w.heap.size+1) 0 24 (Pln.cellL k id) wr
      (fun j hj=>by
       rw [Nat.zero_add,q.cell j,Pln.row_end]
       simp [hj,List.getD_eq_getElem?_getD]) 24 (Pln.cellL_length k id)
    have hcs:(Pln.cellB k id).size=24:=Pln.cellB_size k id
    obtain⟨S,hS⟩:∃ S,Pln.cellB k id=S:=⟨_,rfl⟩
    rw [hS] at hcv
    have HS:=Lib.hid hS
    clear p q hb P Q hcs hS
    go_wp2
    go_ret2
    rw [HS.out]
    exact⟨rfl,B.out⟩
def Pln.numAt (id:Nat):Nat→Nat
 | 0=>0
 | i+1=>Pln.numAt id i*256+Pln.byteAt id i
theorem Pln.bytesOf_cell (k id:Nat) (hk:k<256):bytesOf (Pln.cellB k id)=Pln.cellL k id:=bytesOf_strOf (Pln.cellL_all hk id)
theorem Pln.first_byte (k id:Nat) (hk:k<256) (h:0<(Pln.cellB k id).size):((Pln.cellB k id)[0]'h).toNat=k:=by
 have h1:=congrArg (fun l=>l[0]?) (Pln.bytesOf_cell k id hk)
 simp only [bytesOf,List.getElem?_map] at h1
 have h2:(Pln.cellB k id).data.toList[0]? =some ((Pln.cellB k id)[0]'h):=by
  rw [Array.getElem?_toList]
  exact Array.getElem?_eq_getElem h
 rw [h2] at h1
 simpa [Pln.cellL] using h1
theorem Pln.mid_bytes (k id:Nat) (hk:k<256):bytesOf ((Pln.cellB k id).extract 1 5)=fourB id:=by
 rw [bytesOf_extract _ _ _ (by rw [Pln.cellB_size];omega),Pln.bytesOf_cell k id hk]
 rfl
theorem or_low (n b:Nat) (hn:n<1099511627776) (hb:b<256):bits .or .i64 ((n:Int)*256) (b:Int)=(n:Int)*256+(b:Int):=by
 have h:2 ^ 8*n+b=2 ^ 8*n ||| b:=Nat.two_pow_add_eq_or_of_lt (by omega) n
 have e1:(n:Int)*256=((2 ^ 8*n:Nat):Int):=by omega
 rw [e1]
 show IntKind.i64.wrap ((BitVec.ofInt 64 ((2 ^ 8*n:Nat):Int) ||| BitVec.ofInt 64 (b:Int)).toNat:Int)=_
 rw [BitVec.toNat_or,ofInt_u64 _ (by omega),ofInt_u64 b (by omega),← h]
 have e:((2 ^ 8*n+b:Nat):Int)%2 ^ 64=((2 ^ 8*n+b:Nat):Int):=Int.emod_eq_of_lt (by omega) (by omega)
 simp only [IntKind.wrap,IntKind.bits,IntKind.signed,e]
 rw [if_neg]
 · omega
 · simp
   omega
theorem Pln.num_end {id:Nat} (h:id<4294967296):Pln.numAt id 4=id:=by
 show(((0*256+id / 16777216%256)*256+id / 65536%256)*256+id / 256%256)*256+id%256=id
 omega
theorem Pln.num_low (id:Nat) (_h:id≤1073741824):∀ i,i<4→Pln.numAt id i≤4294967296
 | 0,_=>by simp [numAt]
 | 1,_=>by simp [numAt,byteAt,fourB];omega
 | 2,_=>by simp [numAt,byteAt,fourB];omega
 | 3,_=>by simp [numAt,byteAt,fourB];omega
 | i+4,h=>absurd h (by omega)
theorem Pln.byte_lt (id i:Nat):Pln.byteAt id i<256:=by
 unfold byteAt fourB
 rcases i with _ | _ | _ | _ | i <;> simp <;> omega
theorem planRead_any (k id:Nat) (hk:k≤2) (hid:id≤1073741824) (w:World):
 Calls Tryz.prog 18 #[.string (Pln.cellB k id)] w fun e w'=>e= .returned (.tuple #[.int .i64 (k:Int),.int .i64 (id:Int),.bool true])∧Below w.heap.size w w':=by
 have hT:=fun W=>planText_any k id hk hid ⟨#[]⟩ 0 0 W
 have hs:(Pln.cellB k id).size=24:=Pln.cellB_size k id
 have h0:=Pln.first_byte k id (by omega)
 have hm:=Pln.mid_bytes k id (by omega)
 have hms:((Pln.cellB k id).extract 1 5).size=4:=by rw [ByteArray.size_extract,hs];rfl
 generalize Pln.cellB k id=S at hT hs h0 hm hms ⊢
 obtain⟨E,hE⟩:∃ E,S.extract 1 5=E:=⟨_,rfl⟩
 rw [hE] at hm hms
 obtain⟨W1,cap,hrun,hb,hz,hcells⟩:=conv_bytes (P:=Tryz.prog) (src:=9) (dst:=42) Tryz.underlying9 Tryz.underlying42 Tryz.underlying5 E (w.alloc (.cells #[.string ⟨#[]⟩,.int .i64 0,.int .i64 0,.int .i64 (k:Int),.int .i64 0] 27))
 rw [hms] at hrun hcells
 rw [hm] at hcells
 have p0:=(Row.new w 27 #[.string ⟨#[]⟩,.int .i64 0,.int .i64 0,.int .i64 (k:Int),.int .i64 0]).below hb (by simp)
 rw [World.size_alloc] at hrun hcells hz
 have hbw:Below w.heap.size w W1:=((Below.refl _ w).alloc (Nat.le_refl _) _).trans (hb.mono (by rw [World.size_alloc];omega))
 have hk2:(k:Int)≤2:=by omega
 have hi2:(id:Int)≤1073741824:=by omega
 have P0:=Lib.hid p0
 have C0:=Lib.hid hcells
 have B0:=Lib.hid hbw
 have HT:=Lib.hid hT
 clear p0 hcells hbw hT hb hm
 go_enter Tryz.func18,Tryz.ntmps18
 go_wp2_with fail
 go_loopw [7,21] (fun _ vi wr=>∃ i:Nat,i≤4∧vi= .int .i64 (i:Int)∧Row wr w.heap.size 27 #[.string ⟨#[]⟩,.int .i64 0,.int .i64 0,.int .i64 (k:Int),.int .i64 (Pln.numAt id i:Int)]∧(∀ j,j<4→wr.cell? ⟨w.heap.size+1,j,none⟩=some (U ((fourB id).getD j 0)))∧Below w.heap.size w wr) (fun _ vi _=>4-(intOf vi).toNat)
 case atStart=>exact⟨0,Nat.zero_le _,rfl,P0.out,C0.out,B0.out⟩
 case round=>
  obtain⟨i,hi,rfl,p,hc,hb⟩:=hrel
  clear P0 C0 B0 hrun hz
  have c4:wr.cell? ⟨w.heap.size,4,none⟩=some (.int .i64 (Pln.numAt id i:Int)):=p.cell 4
  have f4:=p.frozen 4
  have hlo:=p.lt
  by_cases hlt:i<4
  · have hbi:wr.cell? ⟨w.heap.size+1,i,none⟩=some (.int .u8 (Pln.byteAt id i:Int)):=hc i hlt
    have hnl:=Pln.num_low id (by omega) i hlt
    have hby:=Pln.byte_lt id i
    have hor:=or_low (Pln.numAt id i) (Pln.byteAt id i) (by omega) hby
    have hnx:∃ i':Nat,i'≤4∧Value.int .i64 ((i:Int)+1)= .int .i64 (i':Int)∧Row (wr.setCell ⟨w.heap.size,4,none⟩ (.int .i64 ((Pln.numAt id i:Int)*256+(Pln.byteAt id i:Int)))) w.heap.size 27 #[.string ⟨#[]⟩,.int .i64 0,.int .i64 0,.int .i64 (k:Int),.int .i64 (Pln.numAt id i':Int)]∧
     (∀ j,j<4→(wr.setCell ⟨w.heap.size,4,none⟩ (.int .i64 ((Pln.numAt id i:Int)*256+(Pln.byteAt id i:Int)))).cell? ⟨w.heap.size+1,j,none⟩=some (U ((fourB id).getD j 0)))∧Below w.heap.size w (wr.setCell ⟨w.heap.size,4,none⟩ (.int .i64 ((Pln.numAt id i:Int)*256+(Pln.byteAt id i:Int)))):=by
     refine⟨i+1,hlt,rfl,p.store 4 _,fun j hj=> ?_,hb.setCell (p:=⟨w.heap.size,4,none⟩) (Nat.le_refl _) _⟩
     exact((Keep.refl (fun k=>k≠w.heap.size) wr).setCell (p:=⟨w.heap.size,4,none⟩) (fun h=>absurd rfl h) _).cell (p:=⟨w.heap.size+1,j,none⟩) (show w.heap.size+1≠w.heap.size by omega) (hc j hj)
    have Hnx:=Lib.hid hnx
    have hnl':(Pln.numAt id i:Int)≤4294967296:=by omega
    have hby':(Pln.byteAt id i:Int)<256:=by omega
    generalize Pln.numAt id i=n at*
    generalize Pln.byteAt id i=b at*
    clear hnx p hc hb hnl hby
    go_wp2
    go_roundw
    case rel=>exact Hnx.out
    case measure=>simp [intOf];omega
  · obtain rfl:i=4:=by omega
    rw [Pln.num_end (by omega)] at p c4
    have c0:=p.cell 0
    change World.cell? _ _=some _ at c0
    have c1:=p.cell 1
    change World.cell? _ _=some _ at c1
    have c2:=p.cell 2
    change World.cell? _ _=some _ at c2
    have c3:=p.cell 3
    change World.cell? _ _=some _ at c3
    have P:=Lib.hid p
    have B:=Lib.hid hb
    clear p hc hb
    go_wp2_with fail
    refine(HT.out _).mono ?_
    rintro e w2 ⟨rfl,hb2⟩
    have p2:=P.out.below hb2 hlo
    have d3:=p2.cell 3
    change World.cell? _ _=some _ at d3
    have d4:=p2.cell 4
    change World.cell? _ _=some _ at d4
    have B2:=Lib.hid (B.out.trans (hb2.mono B.out.size))
    clear p2 hb2
    go_wp2
    go_quiet (fail)
    go_wp2
    refine bodyPost_ret (results_tmp3 rfl _ _ _) rfl ⟨rfl,?_⟩
    exact Below.trans_drewN B2.out nq
theorem planRead_odd (S:ByteArray) (h:S.size≠24) (h2:S.size≤maxLen) (w:World):
 Calls Tryz.prog 18 #[.string S] w fun e w'=>e= .returned (.tuple #[.int .i64 0,.int .i64 0,.bool false])∧w'=w:=by
 have h1:¬ (S.size:Int)=24:=by omega
 have h3:(S.size:Int)≤9223372036854775807:=by unfold maxLen at h2;omega
 go_enter Tryz.func18,Tryz.ntmps18
 go_wp2
 refine bodyPost_ret (results_tmp3 rfl _ _ _) rfl ⟨rfl,rfl⟩
def orcZ:Array Value:=#[.int .i64 0,.string ⟨#[]⟩,.string ⟨#[]⟩,.int .i64 0,.slice none 0 0,.slice none 0 0,.bool false]
def TupIs (b:Bool) (S:ByteArray) (P:Orc) (v:Value) (W:World):Prop:=
 ∃ n1 m1 c1 k1,v= .tuple #[.string S,.agg (Orc.vals P.m P.key P.d.tb P.d.pos (.slice n1 P.d.nm.length m1) (.slice c1 P.d.cl.length k1) P.d.clash),.int .i64 0]∧(b=false→NmAt W 0 (.slice n1 P.d.nm.length m1) P.d.nm∧ClAt W 0 (.slice c1 P.d.cl.length k1) P.d.cl)
def AggIs (b:Bool) (P:Orc) (v:Value) (W:World):Prop:=
 ∃ n1 m1 c1 k1,v= .agg (Orc.vals P.m P.key P.d.tb P.d.pos (.slice n1 P.d.nm.length m1) (.slice c1 P.d.cl.length k1) P.d.clash)∧(b=false→NmAt W 0 (.slice n1 P.d.nm.length m1) P.d.nm∧ClAt W 0 (.slice c1 P.d.cl.length k1) P.d.cl)
theorem TupIs.mono {b:Bool} {S:ByteArray} {P:Orc} {v:Value} {W W':World} (h:TupIs b S P v W) (hb:Below W.heap.size W W'):TupIs b S P v W':=by
 obtain⟨n1,m1,c1,k1,h1,h2⟩:=h
 exact⟨n1,m1,c1,k1,h1,fun e=>⟨owns_below (h2 e).1 hb,owns_below (h2 e).2 hb⟩⟩
theorem AggIs.mono {b:Bool} {P:Orc} {v:Value} {W W':World} (h:AggIs b P v W) (hb:Below W.heap.size W W'):AggIs b P v W':=by
 obtain⟨n1,m1,c1,k1,h1,h2⟩:=h
 exact⟨n1,m1,c1,k1,h1,fun e=>⟨owns_below (h2 e).1 hb,owns_below (h2 e).2 hb⟩⟩
theorem TupIs.late {S:ByteArray} {P:Orc} {v:Value} {W:World} (W':World) (h:TupIs false S P v W):TupIs true S P v W':=by
 obtain⟨n1,m1,c1,k1,h1,_⟩:=h
 exact⟨n1,m1,c1,k1,h1,fun e=>by cases e⟩
theorem AggIs.late {P:Orc} {v:Value} {W:World} (W':World) (h:AggIs false P v W):AggIs true P v W':=by
 obtain⟨n1,m1,c1,k1,h1,_⟩:=h
 exact⟨n1,m1,c1,k1,h1,fun e=>by cases e⟩
theorem owns_other {W:World} {B g:Nat} {e T:TypeId} {s n:Nat} {v:Value} {xs:List Value} {cs:Array Value} (h:W.ownsRow B e s v n xs) (hr:Row W g T cs) (hT:T≠e):∀ k,v.ownBlock=some k→k≠g:=by
 rintro k hk rfl
 rcases h.2 with ⟨rfl,_⟩ | ⟨b,cap,cur,rfl,_,hg,_⟩
 · cases hk
 · injection hk with hk
   subst hk
   rw [hr] at hg
   injection hg with hg
   injection hg with _ hg
   exact hT hg
def put7 (W:World) (g:Nat) (v:Nat→Value):World:=
 ((((((W.setCell ⟨g,0,none⟩ (v 0)).setCell ⟨g,1,none⟩ (v 1)).setCell ⟨g,2,none⟩ (v 2)).setCell ⟨g,3,none⟩ (v 3)).setCell ⟨g,4,none⟩ (v 4)).setCell ⟨g,5,none⟩ (v 5)).setCell ⟨g,6,none⟩ (v 6)
theorem row_put7 {W:World} {g:Nat} {T:TypeId} {cs:Array Value} {v:Nat→Value} (hr:Row W g T cs) (h7:cs.size=7):Row (put7 W g v) g T #[v 0,v 1,v 2,v 3,v 4,v 5,v 6]:=by
 unfold put7
 generalize v 0=v0
 generalize v 1=v1
 generalize v 2=v2
 generalize v 3=v3
 generalize v 4=v4
 generalize v 5=v5
 generalize v 6=v6
 obtain⟨l⟩:=cs
 match l,h7 with
 | [a0,a1,a2,a3,a4,a5,a6],_=>
   have r0:Row _ g T #[a0,a1,a2,a3,a4,a5,a6]:=hr
   have r1:Row _ g T #[v0,a1,a2,a3,a4,a5,a6]:=r0.store 0 v0
   have r2:Row _ g T #[v0,v1,a2,a3,a4,a5,a6]:=r1.store 1 v1
   have r3:Row _ g T #[v0,v1,v2,a3,a4,a5,a6]:=r2.store 2 v2
   have r4:Row _ g T #[v0,v1,v2,v3,a4,a5,a6]:=r3.store 3 v3
   have r5:Row _ g T #[v0,v1,v2,v3,v4,a5,a6]:=r4.store 4 v4
   have r6:Row _ g T #[v0,v1,v2,v3,v4,v5,a6]:=r5.store 5 v5
   exact r6.store 6 v6
theorem Orc.ask_step [Sha.Words] {o:Orc} (hg:o.Good) (q:ByteArray) (hq:q.size≤100) (hl:o.d.nm.length≠2000) (hp:o.m=2→o.d.pos+16≤o.d.tb.size):
 (o.ask q).Good∧(o.wayL q).1.size=16∧(q,(o.wayL q).1)∈(o.ask q).d.nm∧(o.ask q).d.tb=o.d.tb∧(o.ask q).d.cl=o.d.cl∧
  (((o.ask q).d.nm=o.d.nm∧(o.ask q).d.pos=o.d.pos)∨((o.ask q).d.nm=o.d.nm++[(q,(o.wayL q).1)]∧(o.ask q).d.pos=o.d.pos+o.cost 16)):=by
 refine⟨ask_good hg hq hl,?_⟩
 rcases wayL_cases hg q hl hp with ⟨s,hs,h⟩ | ⟨_,s,hs,_,h⟩
 · unfold ask
   rw [h]
   exact⟨(hg.d.nm _ hs).2,hs,rfl,rfl,.inl ⟨rfl,rfl⟩⟩
 · unfold ask
   rw [h]
   exact⟨hs,List.mem_append_right _ (List.mem_singleton.2 rfl),rfl,rfl,.inr ⟨rfl,rfl⟩⟩
theorem Orc.put_step [Sha.Words] {o:Orc} (hg:o.Good) (l t:ByteArray) (hlb:l.size=16) (ht:t.size=24) (hl:o.d.cl.length≠2000) (hp:o.m=2→o.d.pos+40≤o.d.tb.size):
 (o.put l t).Good∧(o.wayC l t).1.size=40∧(l,t,(o.wayC l t).1)∈(o.put l t).d.cl∧(o.put l t).d.tb=o.d.tb∧(o.put l t).d.nm=o.d.nm∧
  (((o.put l t).d.cl=o.d.cl∧(o.put l t).d.pos=o.d.pos)∨((o.put l t).d.cl=o.d.cl++[(l,t,(o.wayC l t).1)]∧(o.put l t).d.pos=o.d.pos+o.cost 40∧(o.m=1→(o.wayC l t).1=box o.key l t))):=by
 refine⟨put_good hg hlb ht hl hp,?_⟩
 rcases wayC_cases hg l t ht hl hp with ⟨c,hc,h⟩ | ⟨_,c,hc,hb,h⟩
 · unfold put
   rw [h]
   exact⟨(hg.d.cl _ hc).2.2,hc,rfl,rfl,.inl ⟨rfl,rfl⟩⟩
 · unfold put
   rw [h]
   exact⟨hc,List.mem_append_right _ (List.mem_singleton.2 rfl),rfl,rfl,.inr ⟨rfl,rfl,hb⟩⟩
namespace Pln
structure Pst where
 word:ByteArray
 ep:Nat
 ct:Nat
 kind:Nat
 id:Nat
namespace Pst
structure Good (p:Pst):Prop where
 word:p.word.size≤20
 ep:p.ep≤1000000
 ct:p.ct≤1000000
 kind:p.kind≤2
 id:p.id≤1073741824
def cells (p:Pst):List Value:=[.string p.word,.int .i64 (p.ep:Int),.int .i64 (p.ct:Int),.int .i64 (p.kind:Int),.int .i64 (p.id:Int)]
def q (p:Pst):ByteArray:=asked p.word p.ep p.ct
def tx (p:Pst):ByteArray:=cellB p.kind p.id
theorem tx_size (p:Pst):p.tx.size=24:=cellB_size _ _
theorem Good.q {p:Pst} (h:p.Good):p.q.size≤100:=by
 unfold Pst.q
 rw [asked_size]
 have:=h.word
 omega
end Pst
def lb [Sha.Words] (o:Orc) (p:Pst):ByteArray:=(o.wayL p.q).1
def ce [Sha.Words] (o:Orc) (p:Pst):ByteArray:=((o.ask p.q).wayC (lb o p) p.tx).1
def one [Sha.Words] (o:Orc) (p:Pst):Orc:=(o.ask p.q).put (lb o p) p.tx
def all [Sha.Words] (o:Orc) (l:List Pst):Orc:=l.foldl one o
def prs [Sha.Words]:Orc→List Pst→List (Pst × ByteArray)
 | _,[]=>[]
 | o,p::l=>(p,lb o p)::prs (one o p) l
def ces [Sha.Words]:Orc→List Pst→List ByteArray
 | _,[]=>[]
 | o,p::l=>ce o p::ces (one o p) l
def asks [Sha.Words] (o:Orc) (l:List Pst):Orc:=l.foldl (fun o p=>o.ask p.q) o
def als [Sha.Words]:Orc→List Pst→List (Pst × ByteArray)
 | _,[]=>[]
 | o,p::l=>(p,lb o p)::als (o.ask p.q) l
def Fit [Sha.Words] (o:Orc) (p:Pst):Prop:=p.Good∧o.d.nm.length≠2000∧(o.m=2→o.d.pos+16≤o.d.tb.size)
def Fit2 [Sha.Words] (o:Orc) (p:Pst):Prop:=Fit o p∧o.d.cl.length≠2000∧(o.m=2→(o.ask p.q).d.pos+40≤o.d.tb.size)
def Fits [Sha.Words]:Orc→List Pst→Prop
 | _,[]=>True
 | o,p::l=>Fit2 o p∧Fits (one o p) l
def FitsA [Sha.Words]:Orc→List Pst→Prop
 | _,[]=>True
 | o,p::l=>Fit o p∧FitsA (o.ask p.q) l
theorem prs_fst [Sha.Words]:∀(o:Orc) (l:List Pst),(prs o l).map (·.1)=l
 | _,[]=>rfl
 | o,p::l=>by rw [prs,List.map_cons,prs_fst]
theorem als_fst [Sha.Words]:∀(o:Orc) (l:List Pst),(als o l).map (·.1)=l
 | _,[]=>rfl
 | o,p::l=>by rw [als,List.map_cons,als_fst]
theorem ces_length [Sha.Words]:∀(o:Orc) (l:List Pst),(ces o l).length=l.length
 | _,[]=>rfl
 | o,p::l=>by rw [ces,List.length_cons,List.length_cons,ces_length]
theorem prs_at [Sha.Words]:∀ {o:Orc} {l:List Pst} {pre:List (Pst × ByteArray)} {x:Pst × ByteArray} {rest:List (Pst × ByteArray)},prs o l=pre++x::rest→
 l=pre.map (·.1)++x.1::rest.map (·.1)∧x.2=lb (all o (pre.map (·.1))) x.1
 | _,[],[],_,_,h=>by cases h
 | _,[],_::_,_,_,h=>by cases h
 | o,p::l,[],x,rest,h=>by
   rw [prs,List.nil_append] at h
   injection h with h1 h2
   subst h1
   rw [← h2,prs_fst]
   exact⟨rfl,rfl⟩
 | o,p::l,y::pre,x,rest,h=>by
   rw [prs,List.cons_append] at h
   injection h with h1 h2
   subst h1
   have:=prs_at h2
   exact⟨by rw [List.map_cons,List.cons_append,← this.1],this.2⟩
theorem als_at [Sha.Words]:∀ {o:Orc} {l:List Pst} {pre:List (Pst × ByteArray)} {x:Pst × ByteArray} {rest:List (Pst × ByteArray)},als o l=pre++x::rest→
 l=pre.map (·.1)++x.1::rest.map (·.1)∧x.2=lb (asks o (pre.map (·.1))) x.1
 | _,[],[],_,_,h=>by cases h
 | _,[],_::_,_,_,h=>by cases h
 | o,p::l,[],x,rest,h=>by
   rw [als,List.nil_append] at h
   injection h with h1 h2
   subst h1
   rw [← h2,als_fst]
   exact⟨rfl,rfl⟩
 | o,p::l,y::pre,x,rest,h=>by
   rw [als,List.cons_append] at h
   injection h with h1 h2
   subst h1
   have:=als_at h2
   exact⟨by rw [List.map_cons,List.cons_append,← this.1],this.2⟩
theorem all_snoc [Sha.Words] (o:Orc) (l:List Pst) (p:Pst):all o (l++[p])=one (all o l) p:=by
 unfold all
 rw [List.foldl_append]
 rfl
theorem asks_snoc [Sha.Words] (o:Orc) (l:List Pst) (p:Pst):asks o (l++[p])=(asks o l).ask p.q:=by
 unfold asks
 rw [List.foldl_append]
 rfl
theorem prs_append [Sha.Words]:∀(o:Orc) (l k:List Pst),prs o (l++k)=prs o l++prs (all o l) k
 | _,[],_=>rfl
 | o,p::l,k=>by
   rw [List.cons_append,prs,prs,prs_append,List.cons_append]
   rfl
theorem ces_append [Sha.Words]:∀(o:Orc) (l k:List Pst),ces o (l++k)=ces o l++ces (all o l) k
 | _,[],_=>rfl
 | o,p::l,k=>by
   rw [List.cons_append,ces,ces,ces_append,List.cons_append]
   rfl
theorem fits_at [Sha.Words]:∀ {o:Orc} {l k:List Pst} {p:Pst},Fits o (l++p::k)→Fit2 (all o l) p∧Fits (one (all o l) p) k
 | _,[],_,_,h=>h
 | o,y::_,_,_,h=>fits_at (o:=one o y) h.2
theorem fitsA_at [Sha.Words]:∀ {o:Orc} {l k:List Pst} {p:Pst},FitsA o (l++p::k)→Fit (asks o l) p∧FitsA ((asks o l).ask p.q) k
 | _,[],_,_,h=>h
 | o,y::_,_,_,h=>fitsA_at (o:=o.ask y.q) h.2
theorem one_good [Sha.Words] {o:Orc} {p:Pst} (hg:o.Good) (h:Fit2 o p):(o.ask p.q).Good∧(one o p).Good∧(lb o p).size=16∧(ce o p).size=40:=by
 have h1:=Orc.ask_step hg p.q h.1.1.q h.1.2.1 h.1.2.2
 have h2:=Orc.put_step h1.1 (lb o p) p.tx h1.2.1 p.tx_size (by rw [h1.2.2.2.2.1];exact h.2.1) (by rw [h1.2.2.2.1];exact h.2.2)
 exact⟨h1.1,h2.1,h1.2.1,h2.2.1⟩
theorem all_good [Sha.Words]:∀ {o:Orc} {l:List Pst},o.Good→Fits o l→(all o l).Good
 | _,[],hg,_=>hg
 | o,p::_,hg,h=>all_good (o:=one o p) (one_good hg h.1).2.1 h.2
theorem fits_take [Sha.Words]:∀ {o:Orc} {l k:List Pst},Fits o (l++k)→Fits o l∧Fits (all o l) k
 | _,[],_,h=>⟨trivial,h⟩
 | o,y::l,k,h=>by
   have:=fits_take (o:=one o y) (l:=l) (k:=k) h.2
   exact⟨⟨h.1,this.1⟩,this.2⟩
theorem fitsA_take [Sha.Words]:∀ {o:Orc} {l k:List Pst},FitsA o (l++k)→FitsA o l∧FitsA (asks o l) k
 | _,[],_,h=>⟨trivial,h⟩
 | o,y::l,k,h=>by
   have:=fitsA_take (o:=o.ask y.q) (l:=l) (k:=k) h.2
   exact⟨⟨h.1,this.1⟩,this.2⟩
theorem asks_good [Sha.Words]:∀ {o:Orc} {l:List Pst},o.Good→FitsA o l→(asks o l).Good
 | _,[],hg,_=>hg
 | o,p::_,hg,h=>asks_good (o:=o.ask p.q) (Orc.ask_step hg p.q h.1.1.q h.1.2.1 h.1.2.2).1 h.2
theorem prs_size [Sha.Words]:∀ {o:Orc} {l:List Pst},o.Good→Fits o l→∀ x∈prs o l,x.2.size=16
 | _,[],_,_,x,hx=>by cases hx
 | o,p::l,hg,h,x,hx=>by
   rw [prs] at hx
   rcases List.mem_cons.1 hx with rfl | hx
   · exact(one_good hg h.1).2.2.1
   · exact prs_size (one_good hg h.1).2.1 h.2 x hx
theorem ces_size [Sha.Words]:∀ {o:Orc} {l:List Pst},o.Good→Fits o l→∀ x∈ces o l,x.size=40
 | _,[],_,_,x,hx=>by cases hx
 | o,p::l,hg,h,x,hx=>by
   rw [ces] at hx
   rcases List.mem_cons.1 hx with rfl | hx
   · exact(one_good hg h.1).2.2.2
   · exact ces_size (one_good hg h.1).2.1 h.2 x hx
end Pln
theorem ownPln_any (m:Int) (key tb:ByteArray) (p:Nat) (nv cv:Value) (b:Bool) (d:Idl) (hn:d.nm.length≤100000) (hc:d.cl.length≤100000) (w:World) (hN:NmAt w 0 nv d.nm) (hC:ClAt w 0 cv d.cl):
 Calls Tryz.prog 43 #[.agg (Orc.vals m key tb p nv cv b)] w fun e w'=>∃ nv' cv',e= .returned (.agg (Orc.vals m key tb p nv' cv' b))∧NmAt w' w.heap.size nv' d.nm∧ClAt w' w.heap.size cv' d.cl∧Below w.heap.size w w':=by
 unfold Orc.vals
 obtain⟨p0,q0,hb0,hz0⟩:=box2 w #[.int .i64 m,.string key,.string tb,.int .i64 (p:Int),nv,cv,.bool b] #[.int .i64 0,.string ⟨#[]⟩,.string ⟨#[]⟩,.int .i64 0,.slice none 0 0,.slice none 0 0,.bool false] 34 34
 have hCn:=fun w1 (hb:Below w.heap.size w w1)=>cloneNm_any d.nm nv w1 (owns_below hN hb) hn
 have hCc:=fun w1 (hb:Below w.heap.size w w1)=>cloneCl_any d.cl cv w1 (owns_below hC hb) hc
 have HCn:=Lib.hid hCn
 have HCc:=Lib.hid hCc
 clear hCn hCc hN hC
 go_enter Tryz.func43,Tryz.ntmps43
 go_upto_region 1 with fail
 obtain⟨W0,hW0⟩:∃ W0,(w.alloc (.cells #[.int .i64 m,.string key,.string tb,.int .i64 (p:Int),nv,cv,.bool b] 34)).alloc (.cells #[.int .i64 0,.string ⟨#[]⟩,.string ⟨#[]⟩,.int .i64 0,.slice none 0 0,.slice none 0 0,.bool false] 34)=W0:=⟨_,rfl⟩
 rw [hW0] at p0 q0 hb0 hz0 ⊢
 clear hW0
 have hbd:Below w.heap.size w W0.drew:=hb0.drew
 have hpd:Row W0.drew w.heap.size 34 #[.int .i64 m,.string key,.string tb,.int .i64 (p:Int),nv,cv,.bool b]:=p0.drew
 have hqd:Row W0.drew (w.heap.size+1) 34 #[.int .i64 0,.string ⟨#[]⟩,.string ⟨#[]⟩,.int .i64 0,.slice none 0 0,.slice none 0 0,.bool false]:=q0.drew
 have c2:W0.cell? ⟨w.heap.size,4,none⟩=some nv:=p0.cell 4
 have c3:W0.cell? ⟨w.heap.size,5,none⟩=some cv:=p0.cell 5
 have f2:=p0.frozen 4
 have f3:=p0.frozen 5
 go_cut [2] from 3 to 14 (fun v wx=>v= .pointer (some ⟨w.heap.size+1,0,none⟩)∧OwnAt9 w w.heap.size m key tb p b d wx)
 case first=>
  have hmix:Tryz.prog.follows .mixedOrders=true:=by kernel_rfl
  go_region_with (first
   | (go_at_call 75
      first
       | (refine(HCn.out _ hbd).mono ?_;rintro e wa ⟨v1,rfl,hn1,hb1⟩;obtain⟨a1,k1,rfl⟩:=slice_of hn1
          have hbA:Below w.heap.size w wa:=hbd.trans (hb1.mono hbd.size)
          have hpA:=hpd.below hb1 hpd.lt
          have hqA:=hqd.below hb1 hqd.lt
          have a2:wa.cell? ⟨w.heap.size,4,none⟩=some nv:=hpA.cell 4
          have a3:wa.cell? ⟨w.heap.size,5,none⟩=some cv:=hpA.cell 5
          have af2:=hpA.frozen 4
          have af3:=hpA.frozen 5)
       | (refine(HCn.out _ hbB).mono ?_;rintro e wa ⟨v1,rfl,hn1,hb1⟩;obtain⟨a1,k1,rfl⟩:=slice_of hn1
          have hbA:Below w.heap.size w wa:=hbB.trans (hb1.mono hbB.size)
          have hpA:=hpB.below hb1 hpB.lt
          have hqA:=hqB.below hb1 hqB.lt
          have hcA:=owns_below hcB hb1
          have a2:wa.cell? ⟨w.heap.size,4,none⟩=some nv:=hpA.cell 4
          have a3:wa.cell? ⟨w.heap.size,5,none⟩=some cv:=hpA.cell 5
          have af2:=hpA.frozen 4
          have af3:=hpA.frozen 5))
   | (go_at_call 76
      first
       | (refine(HCc.out _ hbd).mono ?_;rintro e wb ⟨v2,rfl,hcB,hb2⟩;obtain⟨a2',k2,rfl⟩:=slice_of hcB
          have hbB:Below w.heap.size w wb:=hbd.trans (hb2.mono hbd.size)
          have hpB:=hpd.below hb2 hpd.lt
          have hqB:=hqd.below hb2 hqd.lt
          have b2:wb.cell? ⟨w.heap.size,4,none⟩=some nv:=hpB.cell 4
          have b3:wb.cell? ⟨w.heap.size,5,none⟩=some cv:=hpB.cell 5
          have bf2:=hpB.frozen 4
          have bf3:=hpB.frozen 5)
       | (refine(HCc.out _ hbA).mono ?_;rintro e wb ⟨v2,rfl,hcB,hb2⟩;obtain⟨a2',k2,rfl⟩:=slice_of hcB
          have hbB:Below w.heap.size w wb:=hbA.trans (hb2.mono hbA.size)
          have hpB:=hpA.below hb2 hpA.lt
          have hqB:=hqA.below hb2 hqA.lt
          have hnB:=owns_below hn1 hb2
          have b2:wb.cell? ⟨w.heap.size,4,none⟩=some nv:=hpB.cell 4
          have b3:wb.cell? ⟨w.heap.size,5,none⟩=some cv:=hpB.cell 5
          have bf2:=hpB.frozen 4
          have bf3:=hpB.frozen 5)))
  all_goals
   go_wp2
   go_meet
   refine⟨rfl,_,_,(hpB.store 4 _).store 5 _,(hqB.other (a:=⟨w.heap.size,4,none⟩) (by simp) _).other (a:=⟨w.heap.size,5,none⟩) (by simp) _,?_,?_,(hbB.setCell (p:=⟨w.heap.size,4,none⟩) (Nat.le_refl _) _).setCell (p:=⟨w.heap.size,5,none⟩) (Nat.le_refl _) _⟩
   · exact ownsRow_weak (ownsRow_setCell_below (a:=⟨w.heap.size,5,none⟩) (ownsRow_setCell_below (a:=⟨w.heap.size,4,none⟩) hnB (by show w.heap.size<W0.heap.size;omega) _) (by show w.heap.size<W0.heap.size;omega) _) (by show w.heap.size+2≤W0.heap.size;omega)
   · have hwa2:w.heap.size+2≤wa.heap.size:=by have:=hqA.lt;omega
     have hwa:w.heap.size<wa.heap.size:=hpA.lt
     exact ownsRow_weak (ownsRow_setCell_below (a:=⟨w.heap.size,5,none⟩) (ownsRow_setCell_below (a:=⟨w.heap.size,4,none⟩) hcB (by show w.heap.size<wa.heap.size;exact hwa) _) (by show w.heap.size<wa.heap.size;exact hwa) _) hwa2
 case rest=>
  obtain⟨rfl,nv',cv',hp,hq,hn',hc',hb'⟩:=hcut
  obtain⟨a1,k1,rfl⟩:=slice_of hn'
  obtain⟨a2,k2,rfl⟩:=slice_of hc'
  clear c2 c3 f2 f3 hbd hpd hqd p0 q0 hb0 hz0 HCn HCc
  have c0:=hp.cell 0
  change World.cell? _ _=some _ at c0
  have c1:=hp.cell 1
  change World.cell? _ _=some _ at c1
  have c2:=hp.cell 2
  change World.cell? _ _=some _ at c2
  have c3:=hp.cell 3
  change World.cell? _ _=some _ at c3
  have c4:=hp.cell 4
  change World.cell? _ _=some _ at c4
  have c5:=hp.cell 5
  change World.cell? _ _=some _ at c5
  have c6:=hp.cell 6
  change World.cell? _ _=some _ at c6
  have e0:=hq.cell 0
  change World.cell? _ _=some _ at e0
  have e1:=hq.cell 1
  change World.cell? _ _=some _ at e1
  have e2:=hq.cell 2
  change World.cell? _ _=some _ at e2
  have e3:=hq.cell 3
  change World.cell? _ _=some _ at e3
  have e4:=hq.cell 4
  change World.cell? _ _=some _ at e4
  have e5:=hq.cell 5
  change World.cell? _ _=some _ at e5
  have e6:=hq.cell 6
  change World.cell? _ _=some _ at e6
  have f0:=hq.frozen 0
  have f1:=hq.frozen 1
  have f2:=hq.frozen 2
  have f3:=hq.frozen 3
  have f4:=hq.frozen 4
  have f5:=hq.frozen 5
  have f6:=hq.frozen 6
  have Hq:=Lib.hid hq
  have Hn':=Lib.hid hn'
  have Hc':=Lib.hid hc'
  have Hb':=Lib.hid hb'
  clear hp hq hn' hc' hb'
  go_wp2
  refine bodyPost_ret (results_cell_row rfl _ _ (w.heap.size+1) 34 #[.int .i64 m,.string key,.string tb,.int .i64 (p:Int),.slice a1 d.nm.length k1,.slice a2 d.cl.length k2,.bool b] (0,0) _ rfl (((((((Hq.out.store 0 _).store 1 _).store 2 _).store 3 _).store 4 _).store 5 _).store 6 _) Tryz.underlying34 rfl (by kernel_rfl)) rfl ⟨_,_,rfl,?_,?_,?_⟩
  · exact ownsRow_weak (ownsRow_setCell_below (a:=⟨w.heap.size+1,6,none⟩) (ownsRow_setCell_below (a:=⟨w.heap.size+1,5,none⟩) (ownsRow_setCell_below (a:=⟨w.heap.size+1,4,none⟩) (ownsRow_setCell_below (a:=⟨w.heap.size+1,3,none⟩) (ownsRow_setCell_below (a:=⟨w.heap.size+1,2,none⟩) (ownsRow_setCell_below (a:=⟨w.heap.size+1,1,none⟩) (ownsRow_setCell_below (a:=⟨w.heap.size+1,0,none⟩) Hn'.out (Nat.lt_succ_self _) _) (Nat.lt_succ_self _) _) (Nat.lt_succ_self _) _) (Nat.lt_succ_self _) _) (Nat.lt_succ_self _) _) (Nat.lt_succ_self _) _) (Nat.lt_succ_self _) _) (by omega)
  · exact ownsRow_weak (ownsRow_setCell_below (a:=⟨w.heap.size+1,6,none⟩) (ownsRow_setCell_below (a:=⟨w.heap.size+1,5,none⟩) (ownsRow_setCell_below (a:=⟨w.heap.size+1,4,none⟩) (ownsRow_setCell_below (a:=⟨w.heap.size+1,3,none⟩) (ownsRow_setCell_below (a:=⟨w.heap.size+1,2,none⟩) (ownsRow_setCell_below (a:=⟨w.heap.size+1,1,none⟩) (ownsRow_setCell_below (a:=⟨w.heap.size+1,0,none⟩) Hc'.out (Nat.lt_succ_self _) _) (Nat.lt_succ_self _) _) (Nat.lt_succ_self _) _) (Nat.lt_succ_self _) _) (Nat.lt_succ_self _) _) (Nat.lt_succ_self _) _) (Nat.lt_succ_self _) _) (by omega)
  · exact(Below.setCell (Below.setCell (Below.setCell (Below.setCell (Below.setCell (Below.setCell (Below.setCell Hb'.out (p:=⟨w.heap.size+1,0,none⟩) (Nat.le_succ _) _) (p:=⟨w.heap.size+1,1,none⟩) (Nat.le_succ _) _) (p:=⟨w.heap.size+1,2,none⟩) (Nat.le_succ _) _) (p:=⟨w.heap.size+1,3,none⟩) (Nat.le_succ _) _) (p:=⟨w.heap.size+1,4,none⟩) (Nat.le_succ _) _) (p:=⟨w.heap.size+1,5,none⟩) (Nat.le_succ _) _) (p:=⟨w.heap.size+1,6,none⟩) (Nat.le_succ _) _)
def StrAt (W:World) (B:Nat) (v:Value) (l:List ByteArray):Prop:=W.ownsRow B 9 1 v l.length (l.map .string)
theorem str_apart {W:World} {B:Nat} {v u:Value} {a b:ByteArray} {l k:List ByteArray} (h1:StrAt W B v (a::l)) (h2:StrAt W B u (b::k)) (hne:a.size≠b.size):∀ g,v.ownBlock=some g→u.ownBlock≠some g:=by
 rcases ownsRow_cases h1 (by decide) with ⟨_,h,_⟩ | ⟨g1,cap1,rfl,_,_,_,hc1⟩
 · cases h
 rcases ownsRow_cases h2 (by decide) with ⟨_,h,_⟩ | ⟨g2,cap2,rfl,_,_,_,hc2⟩
 · cases h
 intro g e1 e2
 injection e1 with e1
 injection e2 with e2
 dsimp only at e1 e2
 have x:=hc1 0 (.string a) rfl
 have y:=hc2 0 (.string b) rfl
 rw [e1] at x
 rw [e2,x] at y
 injection y with y
 injection y with y
 exact hne (by rw [y])
theorem str_apart2 {W:World} {B:Nat} {v u:Value} {l k:List ByteArray} (h1:StrAt W B v l) (h2:StrAt W B u k) (hl:∀ a∈l,a.size≠16) (hk:∀ a∈k,a.size=16) (h0:l=[]→v= .slice none 0 0) (h0':k=[]→u= .slice none 0 0):
 ∀ g,v.ownBlock=some g→u.ownBlock≠some g:=by
 rcases l with _ | ⟨a,l⟩
 · intro g e
   rw [h0 rfl] at e
   cases e
 rcases k with _ | ⟨b,k⟩
 · intro g _ e
   rw [h0' rfl] at e
   cases e
 · refine str_apart h1 h2 fun e=>hl a List.mem_cons_self ?_
   rw [e]
   exact hk b List.mem_cons_self
theorem infoStr:(Tryz.prog.info? 9).map (fun i=>(i.zero,i.size,i.bytes))=some (some (.string ⟨#[]⟩),1,16):=by kernel_rfl
theorem str_snoc {W:World} {B n:Nat} {v:Value} {l:List ByteArray} {q:ByteArray} (h:W.ownsRow B 9 1 v n (l.map .string++[.string q])) (hn:n=l.length+1):StrAt W B v (l++[q]):=by
 unfold StrAt
 rw [List.length_append,List.map_append]
 subst hn
 exact h
theorem row_put7_other {W:World} {g g':Nat} {T:TypeId} {cs:Array Value} (h:Row W g' T cs) (hne:g'≠g) (f:Nat→Value):Row (put7 W g f) g' T cs:=by
 unfold put7
 exact((((((h.other (a:=⟨g,0,none⟩) hne _).other (a:=⟨g,1,none⟩) hne _).other (a:=⟨g,2,none⟩) hne _).other (a:=⟨g,3,none⟩) hne _).other (a:=⟨g,4,none⟩) hne _).other (a:=⟨g,5,none⟩) hne _).other (a:=⟨g,6,none⟩) hne _
namespace Kp
end Kp
namespace Pln
def askV (o:Orc) (nv cv:Value):Array Value:=#[.int .i64 o.m,.string o.key,.string o.d.tb,.int .i64 (o.d.pos:Int),nv,cv,.bool o.d.clash,.int .i64 0]
def AskHeld (W:World) (g:Nat) (o:Orc):Prop:=
 ∃ n1 m1 c1 k1,Row W g 94 (askV o (.slice n1 o.d.nm.length m1) (.slice c1 o.d.cl.length k1))∧NmAt W 0 (.slice n1 o.d.nm.length m1) o.d.nm∧ClAt W 0 (.slice c1 o.d.cl.length k1) o.d.cl
theorem AskHeld.lt {W:World} {g:Nat} {o:Orc} (h:AskHeld W g o):g<W.heap.size:=by
 obtain⟨_,_,_,_,h1,_,_⟩:=h
 exact h1.lt
theorem AskHeld.below {W W':World} {g:Nat} {o:Orc} (h:AskHeld W g o) (hb:Below W.heap.size W W'):AskHeld W' g o:=by
 obtain⟨n1,m1,c1,k1,h1,h2,h3⟩:=h
 exact⟨n1,m1,c1,k1,h1.below hb h1.lt,owns_below h2 hb,owns_below h3 hb⟩
theorem owns_loop {W:World} {B n s:Nat} {e:TypeId} {v:Value} {xs:List Value} {i:Nat} {r:Loop} (h:W.ownsRow B e s v n xs) (hl:W.heap[i]? =some (.loop r)):∀ k,v.ownBlock=some k→k≠i:=by
 rintro k hk rfl
 rcases h.2 with ⟨rfl,_⟩ | ⟨b,cap,cur,rfl,_,hg,_⟩
 · cases hk
 · injection hk with hk
   subst hk
   rw [hl] at hg
   cases hg
theorem AskHeld.loop {W:World} {g:Nat} {o:Orc} (h:AskHeld W g o) {i:Nat} {r r':Loop} (hl:W.heap[i]? =some (.loop r)):AskHeld (W.putObj i (.loop r')) g o:=by
 obtain⟨n1,m1,c1,k1,h1,h2,h3⟩:=h
 have hk:Keep (fun k=>k≠i) W (W.putObj i (.loop r')):=(Keep.refl _ _).putObj (fun h=>absurd rfl h) _
 have hg:g≠i:=by
  rintro rfl
  rw [h1] at hl
  cases hl
 exact⟨n1,m1,c1,k1,h1.keep hk hg,owns_keep h2 hk (owns_loop h2 hl),owns_keep h3 hk (owns_loop h3 hl)⟩
theorem AskHeld.keep {W W':World} {g:Nat} {o:Orc} {S:Nat→Prop} (h:AskHeld W g o) (hk:Keep S W W') (hg:S g) (hs:∀ k T cs z,W.heap[k]? =some (.cells cs T z)→(T=133∨T=136)→S k):AskHeld W' g o:=by
 obtain⟨n1,m1,c1,k1,h1,h2,h3⟩:=h
 refine⟨n1,m1,c1,k1,h1.keep hk hg,owns_keep h2 hk fun k hk2=> ?_,owns_keep h3 hk fun k hk2=> ?_⟩
 · rcases h2.2 with ⟨e,_⟩ | ⟨b,cap,cur,e,_,hb,_⟩
   · rw [e] at hk2
     cases hk2
   · rw [e] at hk2
     injection hk2 with hk2
     subst hk2
     exact hs _ _ _ _ hb (.inl rfl)
 · rcases h3.2 with ⟨e,_⟩ | ⟨b,cap,cur,e,_,hb,_⟩
   · rw [e] at hk2
     cases hk2
   · rw [e] at hk2
     injection hk2 with hk2
     subst hk2
     exact hs _ _ _ _ hb (.inr rfl)
def put8 (W:World) (g:Nat) (v:Nat→Value):World:=(put7 W g v).setCell ⟨g,7,none⟩ (v 7)
theorem keep_put8 (W:World) (g:Nat) (v:Nat→Value):Keep (fun k=>k≠g) W (put8 W g v):=by
 unfold put8 put7
 have hx:∀ o,((⟨g,o,none⟩:Addr).block≠g→W.heap.size≤(⟨g,o,none⟩:Addr).block):=fun o h=>absurd rfl h
 exact((((((((Keep.refl _ W).setCell (hx 0) _).setCell (hx 1) _).setCell (hx 2) _).setCell (hx 3) _).setCell (hx 4) _).setCell (hx 5) _).setCell (hx 6) _).setCell (hx 7) _
theorem row_put8 {W:World} {g:Nat} {T:TypeId} {cs:Array Value} {v:Nat→Value} (hr:Row W g T cs) (h8:cs.size=8):Row (put8 W g v) g T #[v 0,v 1,v 2,v 3,v 4,v 5,v 6,v 7]:=by
 unfold put8 put7
 generalize v 0=v0
 generalize v 1=v1
 generalize v 2=v2
 generalize v 3=v3
 generalize v 4=v4
 generalize v 5=v5
 generalize v 6=v6
 generalize v 7=v7
 obtain⟨l⟩:=cs
 match l,h8 with
 | [a0,a1,a2,a3,a4,a5,a6,a7],_=>
   have r0:Row _ g T #[a0,a1,a2,a3,a4,a5,a6,a7]:=hr
   have r1:Row _ g T #[v0,a1,a2,a3,a4,a5,a6,a7]:=r0.store 0 v0
   have r2:Row _ g T #[v0,v1,a2,a3,a4,a5,a6,a7]:=r1.store 1 v1
   have r3:Row _ g T #[v0,v1,v2,a3,a4,a5,a6,a7]:=r2.store 2 v2
   have r4:Row _ g T #[v0,v1,v2,v3,a4,a5,a6,a7]:=r3.store 3 v3
   have r5:Row _ g T #[v0,v1,v2,v3,v4,a5,a6,a7]:=r4.store 4 v4
   have r6:Row _ g T #[v0,v1,v2,v3,v4,v5,a6,a7]:=r5.store 5 v5
   have r7:Row _ g T #[v0,v1,v2,v3,v4,v5,v6,a7]:=r6.store 6 v6
   exact r7.store 7 v7
theorem held_put8 {W:World} {g:Nat} {P:Orc} {cs:Array Value} {n1 c1:Option Addr} {m1 k1:Nat} (hr:Row W g 94 cs) (h8:cs.size=8)
 (hn:NmAt W 0 (.slice n1 P.d.nm.length m1) P.d.nm) (hc:ClAt W 0 (.slice c1 P.d.cl.length k1) P.d.cl):
 AskHeld (put8 W g fun i=>(askV P (.slice n1 P.d.nm.length m1) (.slice c1 P.d.cl.length k1)).getD i undef) g P:=by
 have hno:=owns_other hn hr (by decide)
 have hco:=owns_other hc hr (by decide)
 have hk:=keep_put8 W g fun i=>(askV P (.slice n1 P.d.nm.length m1) (.slice c1 P.d.cl.length k1)).getD i undef
 exact⟨n1,m1,c1,k1,row_put8 hr h8,owns_keep hn hk hno,owns_keep hc hk hco⟩
theorem keep_put7 (W:World) (g:Nat) (v:Nat→Value):Keep (fun k=>k≠g) W (put7 W g v):=by
 unfold put7
 have hx:∀ o,((⟨g,o,none⟩:Addr).block≠g→W.heap.size≤(⟨g,o,none⟩:Addr).block):=fun o h=>absurd rfl h
 exact(((((((Keep.refl _ W).setCell (hx 0) _).setCell (hx 1) _).setCell (hx 2) _).setCell (hx 3) _).setCell (hx 4) _).setCell (hx 5) _).setCell (hx 6) _
theorem row8_put7 {W:World} {g:Nat} {T:TypeId} {a0 a1 a2 a3 a4 a5 a6 a7:Value} {v:Nat→Value} (hr:Row W g T #[a0,a1,a2,a3,a4,a5,a6,a7]):Row (put7 W g v) g T #[v 0,v 1,v 2,v 3,v 4,v 5,v 6,a7]:=by
 unfold put7
 generalize v 0=v0
 generalize v 1=v1
 generalize v 2=v2
 generalize v 3=v3
 generalize v 4=v4
 generalize v 5=v5
 generalize v 6=v6
 have r1:Row _ g T #[v0,a1,a2,a3,a4,a5,a6,a7]:=hr.store 0 v0
 have r2:Row _ g T #[v0,v1,a2,a3,a4,a5,a6,a7]:=r1.store 1 v1
 have r3:Row _ g T #[v0,v1,v2,a3,a4,a5,a6,a7]:=r2.store 2 v2
 have r4:Row _ g T #[v0,v1,v2,v3,a4,a5,a6,a7]:=r3.store 3 v3
 have r5:Row _ g T #[v0,v1,v2,v3,v4,a5,a6,a7]:=r4.store 4 v4
 have r6:Row _ g T #[v0,v1,v2,v3,v4,v5,a6,a7]:=r5.store 5 v5
 exact r6.store 6 v6
theorem held_put7 {W:World} {g:Nat} {P:Orc} {a0 a1 a2 a3 a4 a5 a6 a7:Value} {n1 c1:Option Addr} {m1 k1:Nat} (hr:Row W g 94 #[a0,a1,a2,a3,a4,a5,a6,a7]) (h8:a7= .int .i64 0)
 (hn:NmAt W 0 (.slice n1 P.d.nm.length m1) P.d.nm) (hc:ClAt W 0 (.slice c1 P.d.cl.length k1) P.d.cl):
 AskHeld (put7 W g fun i=>(Orc.vals P.m P.key P.d.tb P.d.pos (.slice n1 P.d.nm.length m1) (.slice c1 P.d.cl.length k1) P.d.clash).getD i undef) g P:=by
 subst h8
 have hno:=owns_other hn hr (by decide)
 have hco:=owns_other hc hr (by decide)
 have hk:=keep_put7 W g fun i=>(Orc.vals P.m P.key P.d.tb P.d.pos (.slice n1 P.d.nm.length m1) (.slice c1 P.d.cl.length k1) P.d.clash).getD i undef
 exact⟨n1,m1,c1,k1,row8_put7 hr,owns_keep hn hk hno,owns_keep hc hk hco⟩
def PostsAt (W:World) (v:Value) (l:List Pst):Prop:=∃ ao cap,v= .slice ao l.length cap∧l.length≤maxLen∧∀ i p,l[i]? =some p→∃ b o,ao=some ⟨b,o,none⟩∧∀ j u,p.cells[j]? =some u→W.cell? ⟨b,o+i*5+j,none⟩=some u
theorem PostsAt.keep {W W':World} {v:Value} {l:List Pst} {S:Nat→Prop} (h:PostsAt W v l) (hk:Keep S W W') (hS:∀ k,k<W.heap.size→S k):PostsAt W' v l:=by
 obtain⟨ao,cap,hv,hl,hc⟩:=h
 refine⟨ao,cap,hv,hl,fun i p hp=> ?_⟩
 obtain⟨b,o,ha,h1⟩:=hc i p hp
 refine⟨b,o,ha,fun j u hu=> ?_⟩
 have h2:=h1 j u hu
 exact hk.cell (p:=⟨b,o+i*5+j,none⟩) (hS _ (lt_of_cell h2)) h2
theorem PostsAt.below {W W':World} {v:Value} {l:List Pst} (h:PostsAt W v l) (hb:Below W.heap.size W W'):PostsAt W' v l:=h.keep (Keep.below (S:=fun _=>True) hb) fun _ _=>trivial
def encP (x:Pst × ByteArray):Array Value:=#[.agg x.1.cells.toArray,.string x.2]
end Pln
theorem cellOf_any [Sha.Words] (P:Orc) (hg:P.Good) (p:Pln.Pst) (hp:p.Good) (lb:ByteArray) (hlb:lb.size=16) (hl:P.d.cl.length≠2000) (hpos:P.m=2→P.d.pos+40≤P.d.tb.size) (ga:Nat) (w:World) (hR:Sha.RoundIn w) (h:Pln.AskHeld w ga P):
 Calls Tryz.prog 45 #[.pointer (some ⟨ga,0,none⟩),.agg p.cells.toArray,.string lb] w fun e w'=>e= .returned (.tuple #[.string (P.wayC lb p.tx).1,.bool true])∧Pln.AskHeld w' ga (P.put lb p.tx)∧Keep (fun k=>k≠ga) w w':=by
 have hT:=fun W=>planText_any p.kind p.id hp.kind hp.id p.word (p.ep:Int) (p.ct:Int) W
 change ∀ W,Calls _ _ _ W fun e w'=>e= .returned (.tuple #[.string p.tx,.int .i64 0])∧Below W.heap.size W w' at hT
 have hC:=fun nv cv W hR hN hC=>oracleCell_all P hg nv cv lb p.tx hlb p.tx_size hl hpos W hR hN hC
 obtain⟨Q,hQ⟩:∃ Q,P.put lb p.tx=Q:=⟨_,rfl⟩
 obtain⟨s,hs⟩:∃ s,(P.wayC lb p.tx).1=s:=⟨_,rfl⟩
 rw [hQ,hs] at hC ⊢
 obtain⟨n1,m1,c1,k1,ra,hN,hCl⟩:=h
 unfold Orc.agg Orc.vals at hC
 unfold Pln.askV at ra
 obtain⟨tx,htx⟩:∃ tx,p.tx=tx:=⟨_,rfl⟩
 rw [htx] at hT hC
 have hgl:=ra.lt
 have hb1:Below w.heap.size w (w.alloc (.cells #[.string p.word,.int .i64 (p.ep:Int),.int .i64 (p.ct:Int),.int .i64 (p.kind:Int),.int .i64 (p.id:Int)] 27)):=(Below.refl _ w).alloc (Nat.le_refl _) _
 have ra1:=ra.below hb1 hgl
 have hN1:=owns_below hN hb1
 have hC1:=owns_below hCl hb1
 have hR1:=hR.below hb1
 have HT:=Lib.hid hT
 have HC:=Lib.hid hC
 have Hb1:=Lib.hid hb1
 have Hra1:=Lib.hid ra1
 have HN1:=Lib.hid hN1
 have HC1:=Lib.hid hC1
 have HR1:=Lib.hid hR1
 unfold Pln.Pst.cells
 clear hT hC hb1 ra1 hN1 hC1 hR1 ra hN hCl hR hQ hs htx hl hpos hg hp hlb
 go_enter Tryz.func45,Tryz.ntmps45
 go_wp2_with fail
 refine(HT.out _).mono ?_
 rintro e w2 ⟨rfl,hb2⟩
 have ra2:=Hra1.out.below hb2 Hra1.out.lt
 have hN2:=owns_below HN1.out hb2
 have hC2:=owns_below HC1.out hb2
 have hR2:=HR1.out.below hb2
 have hb02:=Hb1.out.trans (hb2.mono Hb1.out.size)
 have hcall:=HC.out _ _ w2 hR2 hN2 hC2
 have z0:=ra2.cell 0
 change World.cell? _ _=some _ at z0
 have z1:=ra2.cell 1
 change World.cell? _ _=some _ at z1
 have z2:=ra2.cell 2
 change World.cell? _ _=some _ at z2
 have z3:=ra2.cell 3
 change World.cell? _ _=some _ at z3
 have z4:=ra2.cell 4
 change World.cell? _ _=some _ at z4
 have z5:=ra2.cell 5
 change World.cell? _ _=some _ at z5
 have z6:=ra2.cell 6
 change World.cell? _ _=some _ at z6
 have z7:=ra2.cell 7
 change World.cell? _ _=some _ at z7
 have Hra2:=Lib.hid ra2
 have Hb02:=Lib.hid hb02
 have Hcall:=Lib.hid hcall
 clear ra2 hN2 hC2 hR2 hb02 hb2 hcall Hra1 HN1 HC1 HR1 HC HT
 go_wp2_with fail
 refine Hcall.out.mono ?_
 rintro e w3 ⟨nv2,cv2,rfl,hN3,hC3,hb3⟩
 obtain⟨n2,m2,rfl⟩:=slice_of hN3
 obtain⟨c2,k2,rfl⟩:=slice_of hC3
 have ra3:=Hra2.out.below hb3 Hra2.out.lt
 have hh:=Pln.held_put8 (P:=Q) ra3 rfl (ownsRow_weak hN3 (Nat.zero_le _)) (ownsRow_weak hC3 (Nat.zero_le _))
 have hk3:Keep (fun k=>k≠ga) w w3:=(Keep.below (S:=fun k=>k≠ga) (Hb02.out.trans (hb3.mono Hb02.out.size)))
 have hk4:=hk3.trans (Pln.keep_put8 w3 ga fun i=>(Pln.askV Q (.slice n2 Q.d.nm.length m2) (.slice c2 Q.d.cl.length k2)).getD i undef)
 clear z0 z1 z2 z3 z4 z5 z6 z7
 have z0:=ra3.cell 0
 change World.cell? _ _=some _ at z0
 have f0:=ra3.frozen 0
 have z1:=ra3.cell 1
 change World.cell? _ _=some _ at z1
 have f1:=ra3.frozen 1
 have z2:=ra3.cell 2
 change World.cell? _ _=some _ at z2
 have f2:=ra3.frozen 2
 have z3:=ra3.cell 3
 change World.cell? _ _=some _ at z3
 have f3:=ra3.frozen 3
 have z4:=ra3.cell 4
 change World.cell? _ _=some _ at z4
 have f4:=ra3.frozen 4
 have z5:=ra3.cell 5
 change World.cell? _ _=some _ at z5
 have f5:=ra3.frozen 5
 have z6:=ra3.cell 6
 change World.cell? _ _=some _ at z6
 have f6:=ra3.frozen 6
 have z7:=ra3.cell 7
 change World.cell? _ _=some _ at z7
 have f7:=ra3.frozen 7
 have Hh:=Lib.hid hh
 have Hk4:=Lib.hid hk4
 clear hh hk4 hk3 ra3 hN3 hC3 hb3 Hcall Hb02 Hra2
 go_wp2
 go_ret2
 exact⟨rfl,Hh.out,Hk4.out⟩
end Go.Proofs.YtpnbkfboneabaaaGreat
