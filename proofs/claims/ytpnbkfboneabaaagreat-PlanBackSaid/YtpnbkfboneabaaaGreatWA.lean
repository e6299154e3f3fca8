import Derived.Test.YtpnbkfboneabaaaGreatGG
import Derived.Deep.Slices
import Derived.WideKeyPair
import Derived.Test.YtpnbkfboneabaaaGreatDigCK
set_option maxRecDepth 100000
namespace Go.Proofs.YtpnbkfboneabaaaGreat
open Go.ChangeShapes Go.WideShapes Go.ChangeAt Go.RowKit
end Go.Proofs.YtpnbkfboneabaaaGreat
namespace Go.Proofs.YtpnbkfboneabaaaGreat
open Go.ChangeShapes Go.WideShapes Go.ChangeAt Go.RowKit Go.WideMaps
def IntsIn (v:Value) (w:World):Prop:=
 v= .slice none 0 0∨∃(a:Addr) (len cap:Nat) (Z:Nat→Int),v= .slice (some a) len cap∧len≤cap∧cap≤maxLen∧∀ i,i<len→w.cell? (a.add i)=some (.int .i64 (Z i))∧ -9223372036854775808≤Z i∧Z i≤9223372036854775807
end Go.Proofs.YtpnbkfboneabaaaGreat
namespace Go.Proofs.YtpnbkfboneabaaaGreat
open Go.RowKit
def Sha.num:Value→Int
 | .int _ n=>n
 | _=>0
theorem Sha.cell_word {P:Program} {w:World} {r:Reach} {b:Nat} {t:TypeId} {v:Value} (ht:P.underlying t=some (.int .u32)) (h:Cell.ok P w r b t v):∃ n,v= .int .u32 n:=by
 unfold Cell.ok at h
 rw [ht] at h
 cases v <;> simp at h
 case int k n=>exact⟨n,by rw [h.1]⟩
theorem Sha.words_of {W:World} (h:W.ShapedOpen Tryz.prog):∃ l:List Int,∀ i,i<64→W.cell? ⟨0,i,none⟩=some (.int .u32 (l.getD i 0)):=by
 obtain⟨cs,hh,hs,hr⟩:=h.1 0 (Array.replicate 64 (.int .u32 0)) 240 (of_decide_eq_true (by kernel_rfl)) (by kernel_rfl)
 obtain⟨ts,hts,_,hall⟩:=hr (by kernel_rfl)
 have e:Tryz.prog.cellTypes Tryz.prog.depth 240=some (List.replicate 64 203):=by kernel_rfl
 rw [e] at hts
 cases hts
 refine⟨cs.toList.map Sha.num,fun i hi=> ?_⟩
 have h1:i<cs.size:=by rw [hs,Array.size_replicate];exact hi
 obtain⟨u,hu,hok⟩:=hall i cs[i] (Array.getElem?_eq_getElem h1)
 obtain rfl:203=u:=by
  rw [List.getElem?_replicate,List.length_replicate,Nat.mod_eq_of_lt hi,if_pos hi] at hu
  exact Option.some.inj hu
 have hcell:W.cell? ⟨0,i,none⟩=some cs[i]:=by simp [World.cell?,hh,h1]
 rw [hcell]
 obtain⟨n,hn⟩:=Sha.cell_word Tryz.underlying203 hok
 have hg:(cs.toList.map Sha.num).getD i 0=Sha.num cs[i]:=by
  rw [List.getD_eq_getElem?_getD,List.getElem?_map,Array.getElem?_toList,Array.getElem?_eq_getElem h1]
  rfl
 rw [hg,hn]
 rfl
end Go.Proofs.YtpnbkfboneabaaaGreat
