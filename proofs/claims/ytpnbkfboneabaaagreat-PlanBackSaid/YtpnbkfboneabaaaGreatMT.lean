import Derived.Test.YtpnbkfboneabaaaGreatGA
import Derived.Lib.SlicesCompact
import Derived.Lib.SlKept
import Derived.Lib.SliceRun
import Derived.Laws.IdiomCopy
import Derived.Shelf.Abstract
import Derived.Shelf.Sort.Plain
import Derived.Shelf.Slices.In.SortNone
import Derived.Shelf.SlIterI.Sorted
import Derived.Shelf.SlIterI.Nil
import Derived.Shelf.Slices.CompactI
import Derived.Test.YtpnbkfboneabaaaGreatRG
import Derived.Test.YtpnbkfboneabaaaGreatIC
set_option maxRecDepth 100000
set_option maxHeartbeats 4000000
namespace Go.Proofs.YtpnbkfboneabaaaGreat
def Rise (l:List Int):Prop:=l.Pairwise (· <·)
theorem Rise.nil:Rise []:=List.Pairwise.nil
theorem rise_ext:∀ {a b:List Int},Rise a→Rise b→(∀ n,n∈a ↔ n∈b)→a=b
 | [],[],_,_,_=>rfl
 | [],y::b,_,_,h=>absurd ((h y).2 List.mem_cons_self) List.not_mem_nil
 | x::a,[],_,_,h=>absurd ((h x).1 List.mem_cons_self) List.not_mem_nil
 | x::a,y::b,ha,hb,h=>by
   have ha2:=List.pairwise_cons.1 ha
   have hb2:=List.pairwise_cons.1 hb
   have hxy:x=y:=by
    rcases List.mem_cons.1 ((h x).1 List.mem_cons_self) with hx | hx
    · exact hx
    · rcases List.mem_cons.1 ((h y).2 List.mem_cons_self) with hy | hy
      · exact hy.symm
      · have h1:=hb2.1 x hx
        have h2:=ha2.1 y hy
        omega
   subst hxy
   rw [rise_ext ha2.2 hb2.2 fun n=> ?_]
   constructor
   · intro hn
     have h1:=ha2.1 n hn
     rcases List.mem_cons.1 ((h n).1 (List.mem_cons_of_mem _ hn)) with h2 | h2
     · omega
     · exact h2
   · intro hn
     have h1:=hb2.1 n hn
     rcases List.mem_cons.1 ((h n).2 (List.mem_cons_of_mem _ hn)) with h2 | h2
     · omega
     · exact h2
theorem Rise.filter {l:List Int} (h:Rise l) (p:Int→Bool):Rise (l.filter p):=List.Pairwise.filter p h
theorem Rise.append {a b:List Int} (ha:Rise a) (hb:Rise b) (h:∀ x∈a,∀ y∈b,x<y):Rise (a++b):=List.pairwise_append.2 ⟨ha,hb,h⟩
theorem compact_upTo {d:Array Int} (hs:∀ i j,i<j→j<d.size→d[i]! ≤d[j]!):∀ m,m≤d.size→Rise (Lib.compactUpTo d m)∧(∀ n,n∈Lib.compactUpTo d m ↔ ∃ j,j<m∧d[j]! =n)
 | 0,_=>⟨Rise.nil,fun n=>⟨fun h=>absurd h List.not_mem_nil,fun⟨j,h,_⟩=>absurd h (by omega)⟩⟩
 | m+1,hm=>by
   obtain⟨h1,h2⟩:=compact_upTo hs m (by omega)
   rw [Lib.compactUpTo_succ]
   by_cases hk:m=0∨d[m]! ≠d[m-1]!
   · have hkk:Lib.keeps d m=true:=by simp only [Lib.keeps,decide_eq_true_eq];exact hk
     rw [if_pos hkk]
     refine⟨h1.append (List.pairwise_singleton _ _) ?_,fun n=> ?_⟩
     · intro x hx y hy
       rw [List.mem_singleton] at hy
       subst hy
       obtain⟨j,hj,rfl⟩:=(h2 x).1 hx
       have hle:d[j]! ≤d[m]! :=hs j m hj (by omega)
       rcases hk with hk | hk
       · omega
       · have h3:d[m-1]! ≤d[m]! :=hs (m-1) m (by omega) (by omega)
         have h4:d[j]! ≤d[m-1]! :=by
          by_cases he:j=m-1
          · rw [he];omega
          · exact hs j (m-1) (by omega) (by omega)
         omega
     · rw [List.mem_append,h2,List.mem_singleton]
       constructor
       · rintro (⟨j,hj,h⟩ | rfl)
         · exact⟨j,by omega,h⟩
         · exact⟨m,by omega,rfl⟩
       · rintro ⟨j,hj,h⟩
         by_cases he:j=m
         · subst he
           exact .inr h.symm
         · exact .inl ⟨j,by omega,h⟩
   · have hkk:Lib.keeps d m=false:=by simp only [Lib.keeps,decide_eq_false_iff_not];exact hk
     have hm0:m≠0:=fun h=>hk (.inl h)
     have heq:d[m]! =d[m-1]! :=Decidable.byContradiction fun h=>hk (.inr h)
     rw [hkk,if_neg (by decide),List.append_nil]
     refine⟨h1,fun n=> ?_⟩
     rw [h2]
     constructor
     · rintro ⟨j,hj,h⟩
       exact⟨j,by omega,h⟩
     · rintro ⟨j,hj,h⟩
       by_cases he:j=m
       · subst he
         exact⟨j-1,by omega,by rw [← heq];exact h⟩
       · exact⟨j,by omega,h⟩
def ups (l:List Int):List Int:=Lib.compact (l.mergeSort fun x y=>decide (x≤y))
theorem ups_spec (l:List Int):Rise (ups l)∧∀ n,n∈ups l ↔ n∈l:=by
 have hp:=List.mergeSort_perm l (fun x y=>decide (x≤y))
 have hw:(l.mergeSort fun x y=>decide (x≤y)).Pairwise (fun x y:Int=>x≤y):=by
  have:=List.pairwise_mergeSort (le:=fun x y:Int=>decide (x≤y)) (fun a b c h1 h2=>by simp only [decide_eq_true_eq] at *;omega) (fun a b=>by simp only [Bool.or_eq_true,decide_eq_true_eq];omega) l
  exact this.imp fun h=>of_decide_eq_true h
 unfold ups Lib.compact
 generalize (l.mergeSort fun x y=>decide (x≤y))=s at*
 have hg:∀ j,j<s.length→s.toArray[j]! =s[j]! :=fun j hj=>by simp
 have hs:∀ i j,i<j→j<s.toArray.size→s.toArray[i]! ≤s.toArray[j]! :=by
  intro i j hij hj
  rw [List.size_toArray] at hj
  have h1:=List.pairwise_iff_getElem.1 hw i j (by omega) hj hij
  simpa [getElem!_pos,hj,(by omega:i<s.length)] using h1
 obtain⟨h1,h2⟩:=compact_upTo hs s.length (by simp)
 refine⟨h1,fun n=> ?_⟩
 rw [h2,← hp.mem_iff]
 constructor
 · rintro ⟨j,hj,rfl⟩
   have:s.toArray[j]! =s[j]:=by simp [hj]
   rw [this]
   exact List.getElem_mem hj
 · intro h
   obtain⟨j,hj,rfl⟩:=List.mem_iff_getElem.1 h
   exact⟨j,hj,by simp [hj]⟩
def without (l:List Int) (n:Int):List Int:=l.filter fun x=>decide (x≠n)
theorem mem_without {l:List Int} {n x:Int}:x∈without l n ↔ x∈l∧x≠n:=by
 unfold without
 rw [List.mem_filter,decide_eq_true_eq]
theorem without_rise {l:List Int} (h:Rise l) (n:Int):Rise (without l n):=h.filter _
def withN (l:List Int) (n:Int):List Int:=ups (n::l)
theorem mem_withN {l:List Int} {n x:Int}:x∈withN l n ↔ x=n∨x∈l:=by
 unfold withN
 rw [(ups_spec _).2,List.mem_cons]
theorem withN_rise (l:List Int) (n:Int):Rise (withN l n):=(ups_spec _).1
def meetL (ls:List (List Int)):List Int:=match ls with
 | []=>[]
 | a::r=>(ups a).filter fun n=>(a::r).all fun l=>l.contains n
theorem meetL_rise (ls:List (List Int)):Rise (meetL ls):=by
 cases ls with
 | nil=>exact Rise.nil
 | cons a r=>exact((ups_spec a).1).filter _
theorem mem_meetL {ls:List (List Int)} (h:ls≠[]) {n:Int}:n∈meetL ls ↔ ∀ l∈ls,n∈l:=by
 cases ls with
 | nil=>exact absurd rfl h
 | cons a r=>
   unfold meetL
   dsimp only
   rw [List.mem_filter,(ups_spec a).2,List.all_eq_true]
   constructor
   · rintro ⟨_,h⟩ l hl
     have:=h l hl
     simpa using this
   · intro h
     exact⟨h a List.mem_cons_self,fun l hl=>by simpa using h l hl⟩
end Go.Proofs.YtpnbkfboneabaaaGreat
namespace Go.Proofs.YtpnbkfboneabaaaGreat
open Go.RowKit
def I64 (z:Int):Prop:= -9223372036854775808≤z∧z≤9223372036854775807
def IntsAt (W:World) (v:Value) (xs:List Int):Prop:=∃ ao cap,v= .slice ao xs.length cap∧xs.length≤maxLen∧∀ i x,xs[i]? =some x→∃ a,ao=some a∧W.cell? (a.add i)=some (.int .i64 x)
def ListsAt (W:World) (v:Value) (ls:List (List Int)):Prop:=∃ ao cap,v= .slice ao ls.length cap∧ls.length≤maxLen∧∀ i l,ls[i]? =some l→∃ a u,ao=some a∧W.cell? (a.add i)=some u∧IntsAt W u l
theorem lt_of_cell {W:World} {p:Addr} {v:Value} (h:W.cell? p=some v):p.block<W.heap.size:=by
 refine Decidable.byContradiction fun hn=> ?_
 unfold World.cell? at h
 rw [Array.getElem?_eq_none (by omega)] at h
 cases h
theorem IntsAt.keep {W W':World} {v:Value} {xs:List Int} {S:Nat→Prop} (h:IntsAt W v xs) (hk:Keep S W W') (hS:∀ k,k<W.heap.size→S k):IntsAt W' v xs:=by
 obtain⟨ao,cap,hv,hl,hc⟩:=h
 refine⟨ao,cap,hv,hl,fun i x hx=> ?_⟩
 obtain⟨a,ha,h1⟩:=hc i x hx
 exact⟨a,ha,hk.cell (p:=a.add i) (hS _ (lt_of_cell h1)) h1⟩
theorem IntsAt.below {W W':World} {v:Value} {xs:List Int} (h:IntsAt W v xs) (hb:Below W.heap.size W W'):IntsAt W' v xs:=h.keep (Keep.below (S:=fun _=>True) hb) fun _ _=>trivial
theorem ListsAt.keep {W W':World} {v:Value} {ls:List (List Int)} {S:Nat→Prop} (h:ListsAt W v ls) (hk:Keep S W W') (hS:∀ k,k<W.heap.size→S k):ListsAt W' v ls:=by
 obtain⟨ao,cap,hv,hl,hc⟩:=h
 refine⟨ao,cap,hv,hl,fun i l hx=> ?_⟩
 obtain⟨a,u,ha,h1,h2⟩:=hc i l hx
 exact⟨a,u,ha,hk.cell (p:=a.add i) (hS _ (lt_of_cell h1)) h1,h2.keep hk hS⟩
theorem ListsAt.below {W W':World} {v:Value} {ls:List (List Int)} (h:ListsAt W v ls) (hb:Below W.heap.size W W'):ListsAt W' v ls:=h.keep (Keep.below (S:=fun _=>True) hb) fun _ _=>trivial
theorem IntsAt.nil (W:World) (ao:Option Addr) (cap:Nat):IntsAt W (.slice ao 0 cap) []:=⟨ao,cap,rfl,Nat.zero_le _,fun i x h=>by simp at h⟩
theorem indexI_any (v:Value) (xs:List Int) (n:Int) (w:World) (h:IntsAt w v xs):
 Calls Tryz.prog 91 #[v,.int .i64 n] w fun e w'=>(∃ k:Int,e= .returned (.int .i64 k)∧decide (0≤k)=decide (n∈xs))∧w'=w:=by
 obtain⟨ao,cap,rfl,hlen,hcell⟩:=h
 have Hc:=Lib.hid hcell
 have hlen64:(xs.length:Int)≤9223372036854775807:=by unfold maxLen at hlen;omega
 clear hcell hlen
 go_enter Tryz.func91,Tryz.ntmps91
 go_wp2
 go_loopw [5,8] (fun _ vi wr=>∃ i:Nat,i≤xs.length∧vi= .int .i64 (i:Int)∧(∀ j x,j<i→xs[j]? =some x→x≠n)∧wr=w) (fun _ vi _=>xs.length-(intOf vi).toNat)
 case atStart=>exact⟨0,Nat.zero_le _,rfl,fun j x hj=>by omega,rfl⟩
 case round=>
  obtain⟨i,hi,rfl,hno,rfl⟩:=hrel
  have Hno:=Lib.hid hno
  clear hno
  by_cases hlt:i<xs.length
  · obtain⟨x,hx⟩:∃ x,xs[i]? =some x:=⟨_,List.getElem?_eq_getElem hlt⟩
    obtain⟨a,rfl,hz⟩:=Hc.out i x hx
    have Hx:=Lib.hid hx
    clear hx
    have hlt':(i:Int)<(xs.length:Int):=by omega
    by_cases he:n=x
    · subst he
      have hm:n∈xs:=List.mem_of_getElem? Hx.out
      go_wp2
      go_ret
      exact⟨⟨_,rfl,by rw [decide_eq_true hm,decide_eq_true (by omega)]⟩,rfl⟩
    · go_wp2
      go_roundw
      case rel=>
       refine⟨i+1,by omega,rfl,fun j y hj hy=> ?_,trivial⟩
       by_cases hji:j=i
       · subst hji
         rw [Hx.out] at hy
         cases hy
         exact fun h=>he h.symm
       · exact Hno.out j y (by omega) hy
      case measure=>simp [intOf];omega
  · obtain rfl:i=xs.length:=by omega
    have hm:n ∉ xs:=fun hm=>by
     obtain⟨j,hj,hx⟩:=List.mem_iff_getElem.1 hm
     exact Hno.out j _ hj (List.getElem?_eq_getElem hj) hx
    go_wp2
    go_ret
    exact⟨⟨-1,rfl,by rw [decide_eq_false hm];rfl⟩,rfl⟩
theorem containsI_any (v:Value) (xs:List Int) (n:Int) (w:World) (h:IntsAt w v xs):
 Calls Tryz.prog 61 #[v,.int .i64 n] w fun e w'=>e= .returned (.bool (decide (n∈xs)))∧w'=w:=by
 have hi:=indexI_any v xs n w h
 go_enter Tryz.func61,Tryz.ntmps61
 go_wp2_with (go_at_call 91;refine hi.mono ?_;rintro e w1 ⟨⟨k,rfl,hk⟩,rfl⟩)
 all_goals
  go_ret
  exact⟨by rw [← hk];simp [*],rfl⟩
theorem lacks1_any (v:Value) (xs:List Int) (n:Int) (bn:Nat) (w:World) (h:IntsAt w v xs) (hn:w.cell? ⟨bn,0,none⟩=some (.int .i64 n)):
 Calls Tryz.prog 60 #[v,.pointer (some ⟨bn,0,none⟩)] w fun e w'=>e= .returned (.bool (!decide (n∈xs)))∧w'=w:=by
 have hi:=containsI_any v xs n w h
 go_enter Tryz.func60,Tryz.ntmps60
 go_wp2_with (go_at_call 61;refine hi.mono ?_;rintro e w1 ⟨rfl,rfl⟩)
 all_goals
  go_ret
  exact⟨by simp [*],rfl⟩
theorem indexL_any (v:Value) (ls:List (List Int)) (n:Int) (bn:Nat) (w:World) (h:ListsAt w v ls) (hn:w.cell? ⟨bn,0,none⟩=some (.int .i64 n)):
 Calls Tryz.prog 90 #[v,.func (.func 60) #[] #[.pointer (some ⟨bn,0,none⟩)]] w fun e w'=>(∃ k:Int,e= .returned (.int .i64 k)∧decide (0≤k)= !decide (∀ l∈ls,n∈l))∧w'=w:=by
 obtain⟨ao,cap,rfl,hlen,hcell⟩:=h
 have Hc:=Lib.hid hcell
 have hlen64:(ls.length:Int)≤9223372036854775807:=by unfold maxLen at hlen;omega
 clear hcell hlen
 go_enter Tryz.func90,Tryz.ntmps90
 go_wp2
 go_loopw [5,8] (fun _ vi wr=>∃ i:Nat,i≤ls.length∧vi= .int .i64 (i:Int)∧(∀ j x,j<i→ls[j]? =some x→n∈x)∧wr=w) (fun _ vi _=>ls.length-(intOf vi).toNat)
 case atStart=>exact⟨0,Nat.zero_le _,rfl,fun j x hj=>by omega,rfl⟩
 case round=>
  obtain⟨i,hi,rfl,hno,rfl⟩:=hrel
  have Hno:=Lib.hid hno
  clear hno
  by_cases hlt:i<ls.length
  · obtain⟨x,hx⟩:∃ x,ls[i]? =some x:=⟨_,List.getElem?_eq_getElem hlt⟩
    obtain⟨a,u,rfl,hz,hu⟩:=Hc.out i x hx
    have Hx:=Lib.hid hx
    have HP:=Lib.hid (lacks1_any u x n bn wr hu hn)
    clear hx hu
    have hlt':(i:Int)<(ls.length:Int):=by omega
    by_cases he:n∈x
    · rw [decide_eq_true he,Bool.not_true] at HP
      go_wp2_with (go_at_call 60;refine HP.out.mono ?_;rintro e w1 ⟨rfl,rfl⟩)
      go_roundw
      case rel=>
       refine⟨i+1,by omega,rfl,fun j y hj hy=> ?_,trivial⟩
       by_cases hji:j=i
       · subst hji
         rw [Hx.out] at hy
         cases hy
         exact he
       · exact Hno.out j y (by omega) hy
      case measure=>simp [intOf];omega
    · rw [decide_eq_false he,Bool.not_false] at HP
      have hm:¬ ∀ l∈ls,n∈l:=fun h=>he (h x (List.mem_of_getElem? Hx.out))
      go_wp2_with (go_at_call 60;refine HP.out.mono ?_;rintro e w1 ⟨rfl,rfl⟩)
      go_ret
      exact⟨⟨_,rfl,by rw [decide_eq_false hm,decide_eq_true (by omega)];rfl⟩,rfl⟩
  · obtain rfl:i=ls.length:=by omega
    have hm:∀ l∈ls,n∈l:=fun l hl=>by
     obtain⟨j,hj,hx⟩:=List.mem_iff_getElem.1 hl
     exact Hno.out j _ hj ((List.getElem?_eq_getElem hj).trans (congrArg some hx))
    go_wp2
    go_ret
    exact⟨⟨-1,rfl,by rw [decide_eq_true hm];rfl⟩,rfl⟩
theorem containsL_any (v:Value) (ls:List (List Int)) (n:Int) (bn:Nat) (w:World) (h:ListsAt w v ls) (hn:w.cell? ⟨bn,0,none⟩=some (.int .i64 n)):
 Calls Tryz.prog 59 #[v,.func (.func 60) #[] #[.pointer (some ⟨bn,0,none⟩)]] w fun e w'=>e= .returned (.bool (!decide (∀ l∈ls,n∈l)))∧w'=w:=by
 have hi:=indexL_any v ls n bn w h hn
 go_enter Tryz.func59,Tryz.ntmps59
 go_wp2_with (go_at_call 90;refine hi.mono ?_;rintro e w1 ⟨⟨k,rfl,hk⟩,rfl⟩)
 all_goals
  go_ret
  exact⟨by rw [← hk];simp [*],rfl⟩
theorem lacks_any (v:Value) (ls:List (List Int)) (n:Int) (bl:Nat) (w:World) (h:ListsAt w v ls) (hl:w.cell? ⟨bl,0,none⟩=some v):
 Calls Tryz.prog 58 #[.int .i64 n,.pointer (some ⟨bl,0,none⟩)] w fun e w'=>e= .returned (.bool (!decide (∀ l∈ls,n∈l)))∧Below w.heap.size w w':=by
 have hb:Below w.heap.size w (w.alloc (.cells #[.int .i64 n] 3)):=(Below.refl _ w).alloc (Nat.le_refl _) _
 have hi:=containsL_any v ls n w.heap.size (w.alloc (.cells #[.int .i64 n] 3)) (h.below hb) ((Row.new w 3 #[.int .i64 n]).cell 0)
 have hlt:bl<w.heap.size:=lt_of_cell hl
 have hne:bl≠w.heap.size:=by omega
 go_enter Tryz.func58,Tryz.ntmps58
 go_wp2_with (go_at_call 59;refine hi.mono ?_;rintro e w1 ⟨rfl,rfl⟩)
 all_goals
  go_ret
  exact⟨rfl,hb⟩
end Go.Proofs.YtpnbkfboneabaaaGreat
namespace Go.Proofs.YtpnbkfboneabaaaGreat
open Go.RowKit Go.Sort
def PredK (gf:Nat) (lb:Array Value) (p:Int→Bool) (g:Nat) (w:World):Prop:=
 ∀(n:Int) (W:World),Keep (fun k=>k≠g) w W→Calls Tryz.prog gf (#[.int .i64 n]++lb) W fun e w'=>e= .returned (.bool (p n))∧Below W.heap.size W w'
theorem holds_keep {W W':World} {g:Nat} {d:Array Int} {S:Nat→Prop} (h:Holds (Value.int .i64) W g 0 d) (hk:Keep S W W') (hS:S g):Holds (Value.int .i64) W' g 0 d:=fun j hj=>by
 obtain⟨h1,h2⟩:=h j hj
 exact⟨hk.cell (p:=⟨g,0+j,none⟩) hS h1,(hk.frozen (p:=⟨g,0+j,none⟩) hS h1).trans h2⟩
theorem holds_set {W:World} {g:Nat} {d:Array Int} (h:Holds (Value.int .i64) W g 0 d) (i:Nat) (x:Int) (hi:i<d.size):Holds (Value.int .i64) (W.setCell ⟨g,i,none⟩ (.int .i64 x)) g 0 (d.setIfInBounds i x):=by
 intro j hj
 rw [Array.size_setIfInBounds] at hj
 obtain⟨h1,h2⟩:=h j hj
 rw [Nat.zero_add] at h1 h2 ⊢
 have hfz:(W.setCell ⟨g,i,none⟩ (.int .i64 x)).frozen? ⟨g,j,none⟩=false:=by
  have:=World.frozen?_setCells g [.int .i64 x] i W ⟨g,j,none⟩
  exact this.trans h2
 refine⟨?_,hfz⟩
 by_cases hji:j=i
 · subst hji
   rw [getElem!_set_same d j x hj]
   have:=World.cell?_setCells_in g [.int .i64 x] j W (fun t ht=>by
    have ht0:t=0:=by simpa using ht
    subst ht0
    rw [Nat.add_zero,h1]
    rfl) 0 (by simp)
   exact this
 · rw [getElem!_set_other d i j x hji]
   exact(World.cell?_setCells_out g [.int .i64 x] i W ⟨g,j,none⟩ (fun _ _=>by simp;omega)).trans h1
theorem holds_cells {W:World} {g:Nat} {d:Array Int} (h:Holds (Value.int .i64) W g 0 d) {j:Nat} (hj:j<d.size):W.cell? ⟨g,j,none⟩=some (.int .i64 d[j]!)∧W.frozen? ⟨g,j,none⟩=false:=by
 have:=h j hj
 rwa [Nat.zero_add] at this
theorem keep_setCells {S:Nat→Prop} {g:Nat} (hg:¬ S g):∀(vs:List Value) (o:Nat) {a w:World},Keep S a w→Keep S a (w.setCells g o vs)
 | [],_,_,_,h=>h
 | v::vs,o,_a,_w,h=>keep_setCells hg vs (o+1) (h.setCell (p:=⟨g,o,none⟩) (fun hs=>absurd hs hg) v)
theorem indexF_any (gf:Nat) (lb:Array Value) (eg:∀ args w,(callFunc gf args).run Tryz.prog w= .ok (.enter gf args) w) (p:Int→Bool) (g cap:Nat) (d:Array Int) (w:World) (hp:PredK gf lb p g w) (hH:Holds (Value.int .i64) w g 0 d) (hsz:d.size≤9223372036854775807) (_hcap:d.size≤cap):
 Calls Tryz.prog 92 #[.slice (some ⟨g,0,none⟩) d.size cap,.func (.func gf) #[] lb] w fun e w'=>((e= .returned (.int .i64 (-1))∧∀ j,j<d.size→p d[j]! =false)∨∃ k:Nat,k<d.size∧e= .returned (.int .i64 (k:Int))∧p d[k]! =true∧∀ j,j<k→p d[j]! =false)∧Below w.heap.size w w':=by
 have hsz':(d.size:Int)≤9223372036854775807:=by omega
 have HP:=Lib.hid hp
 have HH:=Lib.hid hH
 clear hp hH
 go_enter Tryz.func92,Tryz.ntmps92
 go_wp2
 go_loopw [5,8] (fun _ vi wr=>∃ i:Nat,i≤d.size∧vi= .int .i64 (i:Int)∧(∀ j,j<i→p d[j]! =false)∧Below w.heap.size w wr) (fun _ vi _=>d.size-(intOf vi).toNat)
 case atStart=>exact⟨0,Nat.zero_le _,rfl,fun j hj=>by omega,Below.refl _ _⟩
 case round=>
  obtain⟨i,hi,rfl,hno,hb⟩:=hrel
  have Hno:=Lib.hid hno
  have Hb:=Lib.hid hb
  clear hno
  by_cases hlt:i<d.size
  · have hlt':(i:Int)<(d.size:Int):=by omega
    obtain⟨hc,hf⟩:=holds_cells (holds_keep HH.out (Keep.below (S:=fun _=>True) hb) trivial) hlt
    have hcall:=HP.out d[i]! wr ((Keep.below hb).mono fun _ _ _=>trivial)
    obtain⟨u,hu⟩:∃ u,d[i]! =u:=⟨_,rfl⟩
    rw [hu] at hc hcall
    have Hu:=Lib.hid hu
    clear hu hb
    cases hq:p u with
    | true=>
      rw [hq] at hcall
      go_wp2_with (go_at_fn gf;refine hcall.mono ?_;rintro e w1 ⟨rfl,hb1⟩)
      go_ret
      exact⟨.inr ⟨i,hlt,rfl,by rw [Hu.out];exact hq,Hno.out⟩,below_seq Hb.out hb1⟩
    | false=>
      rw [hq] at hcall
      go_wp2_with (go_at_fn gf;refine hcall.mono ?_;rintro e w1 ⟨rfl,hb1⟩)
      have hb2:=Lib.hid (below_seq Hb.out hb1)
      clear hb1
      go_roundw
      case rel=>
       refine⟨i+1,by omega,rfl,fun j hj=> ?_,hb2.out⟩
       by_cases hji:j=i
       · subst hji
         rw [Hu.out]
         exact hq
       · exact Hno.out j (by omega)
      case measure=>simp [intOf];omega
  · obtain rfl:i=d.size:=by omega
    clear hb
    go_wp2
    go_ret
    exact⟨.inl ⟨rfl,Hno.out⟩,Hb.out⟩
theorem deleteF_any (gf:Nat) (lb:Array Value) (eg:∀ args w,(callFunc gf args).run Tryz.prog w= .ok (.enter gf args) w) (p:Int→Bool) (g cap:Nat) (d:Array Int) (w:World) (hp:PredK gf lb p g w) (hH:Holds (Value.int .i64) w g 0 d) (hsz:d.size≤maxLen) (hcap:d.size≤cap):
 Calls Tryz.prog 62 #[.slice (some ⟨g,0,none⟩) d.size cap,.func (.func gf) #[] lb] w fun e w'=>(∃ v,e= .returned v∧IntsAt w' v (d.toList.filter fun x=> !p x))∧Keep (fun k=>k≠g) w w':=by
 have hsz':(d.size:Int)≤9223372036854775807:=by unfold maxLen at hsz;omega
 have hIF:=indexF_any gf lb eg p g cap d w hp hH (by omega) hcap
 have HIF:=Lib.hid hIF
 have HP:=Lib.hid hp
 have HH:=Lib.hid hH
 have Hsz:=Lib.hid hsz
 clear hIF hp hH hsz
 go_enter Tryz.func62,Tryz.ntmps62
 go_wp2_with fail
 refine HIF.out.mono ?_
 rintro e w1 ⟨hcase,hb1⟩
 have hH1:=holds_keep HH.out (Keep.below (S:=fun _=>True) hb1) trivial
 have Hb1:=Lib.hid hb1
 have HH1:=Lib.hid hH1
 clear HH HIF hb1 hH1
 rcases hcase with ⟨rfl,hall⟩ | ⟨k0,hk0,rfl,ht,hall⟩
 · have hfil:(d.toList.filter fun x=> !p x)=d.toList:=by
    rw [List.filter_eq_self]
    intro x hx
    obtain⟨j,hj,rfl⟩:=List.mem_iff_getElem.1 hx
    have hj':j<d.size:=by simpa using hj
    have h1:=hall j hj'
    rw [getElem!_pos d j hj'] at h1
    simpa using h1
   have Hfil:=Lib.hid hfil
   clear hall hfil
   go_wp2
   go_ret
   rw [Hfil.out]
   refine⟨⟨_,rfl,⟨some ⟨g,0,none⟩,cap,by simp,by simpa using Hsz.out,fun i x hx=>⟨⟨g,0,none⟩,rfl,?_⟩⟩⟩,(Keep.below Hb1.out).mono fun _ _ _=>trivial⟩
   rw [Addr.add_mid,Nat.zero_add]
   have hi:i<d.size:=by have:=(List.getElem?_eq_some_iff.1 hx).1;simpa using this
   rw [(holds_cells HH1.out hi).1,getElem!_pos d i hi]
   have:d.toList[i]? =some d[i]:=by simp [hi]
   rw [this] at hx
   rw [Option.some.inj hx]
 · obtain⟨kp,HK⟩:∃ kp:Nat→Bool,Hid (kp=fun j=> !p d[j]!):=⟨_,Lib.hid rfl⟩
   have hfil:(d.toList.filter fun x=> !p x)=Lib.keptUpTo kp d d.size:=by rw [HK.out];exact(Lib.keptUpTo_filter (fun x=> !p x) d).symm
   have Hfil:=Lib.hid hfil
   have hst:Lib.KeptInv kp d (k0+1) k0 d:=Lib.KeptInv.start (fun j hj=>by rw [HK.out];show(!p d[j]!)=true;rw [hall j hj];rfl) (by rw [HK.out];show(!p d[k0]!)=false;rw [ht];rfl)
   have Hst:=Lib.hid hst
   have hne1:((k0:Int) == -1)=false:=beq_eq_false_iff_ne.2 (by omega)
   have hk0':(k0:Int)<(d.size:Int):=by omega
   have Hk0:=Lib.hid hk0
   clear hfil hst hall ht hk0
   go_wp2
   go_loopw [5,6,7] (fun v5 v6 _ wr=>∃(i j:Nat) (dk:Array Int),v5= .int .i64 (i:Int)∧v6= .int .i64 (j:Int)∧j≤d.size∧Lib.KeptInv kp d j i dk∧Holds (Value.int .i64) wr g 0 dk∧Keep (fun k=>k≠g) w wr) (fun _ v6 _ _=>d.size-(intOf v6).toNat)
   case atStart=>exact⟨k0,k0+1,d,rfl,by simp,by have:=Hk0.out;omega,Hst.out,HH1.out,(Keep.below Hb1.out).mono fun _ _ _=>trivial⟩
   case round=>
    obtain⟨i,j,dk,rfl,rfl,hjd,hI,hHk,hkw⟩:=hrel
    have hij:=hI.lt
    have hds:=hI.size
    have HI:=Lib.hid hI
    have HHk:=Lib.hid hHk
    have Hkw:=Lib.hid hkw
    by_cases hlt:j<d.size
    · have hlt':(j:Int)<(d.size:Int):=by omega
      have hilt':(i:Int)<(d.size:Int):=by omega
      obtain⟨cj,_⟩:=holds_cells hHk (show j<dk.size by omega)
      rw [hI.high j (by omega)] at cj
      have hcall:=HP.out d[j]! wr hkw
      obtain⟨u,hu⟩:∃ u,d[j]! =u:=⟨_,rfl⟩
      rw [hu] at cj hcall
      have Hu:=Lib.hid hu
      have Hds:=Lib.hid hds
      clear hu hI hHk hkw hds
      cases hq:p u with
      | true=>
        rw [hq] at hcall
        go_wp2_with (go_at_fn gf;refine hcall.mono ?_;rintro e w2 ⟨rfl,hb2⟩)
        have hnx:Lib.KeptInv kp d (j+1) i dk∧Holds (Value.int .i64) w2 g 0 dk∧Keep (fun k=>k≠g) w w2:=⟨HI.out.skip (by rw [HK.out];show(!p d[j]!)=false;rw [Hu.out,hq];rfl),holds_keep HHk.out (Keep.below (S:=fun _=>True) hb2) trivial,Hkw.out.trans ((Keep.below hb2).mono fun _ _ _=>trivial)⟩
        have Hnx:=Lib.hid hnx
        clear hnx hb2
        go_roundw
        case rel=>exact⟨i,j+1,dk,rfl,by simp,by omega,Hnx.out⟩
        case measure=>simp [intOf];omega
      | false=>
        rw [hq] at hcall
        go_wp2_with fail
        refine hcall.mono ?_
        rintro e w2 ⟨rfl,hb2⟩
        have hH2:=holds_keep HHk.out (Keep.below (S:=fun _=>True) hb2) trivial
        obtain⟨ci,fi⟩:=holds_cells hH2 (show i<dk.size by have:=Hds.out;omega)
        have hI2:=HI.out.keep hlt (by rw [HK.out];show(!p d[j]!)=true;rw [Hu.out,hq];rfl)
        rw [Hu.out] at hI2
        have hnx:Lib.KeptInv kp d (j+1) (i+1) (dk.setIfInBounds i u)∧Holds (Value.int .i64) (w2.setCell ⟨g,i,none⟩ (.int .i64 u)) g 0 (dk.setIfInBounds i u)∧Keep (fun k=>k≠g) w (w2.setCell ⟨g,i,none⟩ (.int .i64 u)):=⟨hI2,holds_set hH2 i u (by have:=Hds.out;omega),(Hkw.out.trans ((Keep.below hb2).mono fun _ _ _=>trivial)).setCell (p:=⟨g,i,none⟩) (fun h=>absurd rfl h) _⟩
        have Hnx:=Lib.hid hnx
        generalize dk[i]! =old at ci
        clear hnx hI2 hH2 hb2
        go_wp2
        go_roundw
        case rel=>exact⟨i+1,j+1,dk.setIfInBounds i u,by simp,by simp,by omega,Hnx.out⟩
        case measure=>simp [intOf];omega
    · obtain rfl:j=d.size:=by omega
      have hcl:∀ ty,(Builtin.clear_ #[60] ty #[.slice (some ⟨g,i,none⟩) (d.size-i) (cap-i)]).run Tryz.prog wr= .ok (.tuple #[]) (wr.setCells g i (List.replicate (d.size-i) (.int .i64 0))):=
       fun ty=>Lib.run_clear_slice wr _ _ ty _ Tryz.underlying60 (Tryz.zeroValue3) rfl rfl g i _ _ (by omega) (fun t ht=>by rw [(holds_cells hHk (show i+t<dk.size by omega)).1];rfl) (fun t ht=>(holds_cells hHk (show i+t<dk.size by omega)).2)
      have hres:IntsAt (wr.setCells g i (List.replicate (d.size-i) (.int .i64 0))) (.slice (some ⟨g,0,none⟩) i cap) (Lib.keptUpTo kp d d.size):=by
       refine⟨some ⟨g,0,none⟩,cap,by rw [hI.len],by rw [hI.len];have:=Hsz.out;omega,fun t x hx=>⟨⟨g,0,none⟩,rfl,?_⟩⟩
       have ht:t<i:=by have:=(List.getElem?_eq_some_iff.1 hx).1;rw [hI.len] at this;exact this
       rw [hI.low t ht] at hx
       rw [Addr.add_mid,Nat.zero_add,World.cell?_setCells_out g _ i wr ⟨g,t,none⟩ (fun _ _=> .inl ht),(holds_cells hHk (show t<dk.size by omega)).1,Option.some.inj hx]
      have hkk:=keep_setCells (S:=fun k=>k≠g) (g:=g) (fun h=>h rfl) (List.replicate (d.size-i) (.int .i64 0)) i hkw
      have Hres:=Lib.hid hres
      have Hkk:=Lib.hid hkk
      clear hI hHk hkw hres hkk
      go_wp2
      go_ret
      rw [Hfil.out]
      exact⟨⟨_,rfl,Hres.out⟩,Hkk.out⟩
end Go.Proofs.YtpnbkfboneabaaaGreat
namespace Go.Proofs.YtpnbkfboneabaaaGreat
open Go.RowKit
def sortIRen:Go.Shelf.Ren:=⟨fun | 125=>117 | 128=>142 | 129=>143 | 189=>84 | 215=>152 | 216=>139 | 257=>116 | 294=>133 | 295=>134 | 296=>135 | 297=>136 | 298=>137 | 299=>138 | 300=>140 | 301=>141 | 328=>147 | 329=>148 | 330=>149 | 331=>150 | 332=>151 | 343=>161 | n=>n,fun | 0=>0 | 3=>3 | 4=>4 | 5=>5 | 9=>9 | 28=>60 | 46=>89 | 51=>203 | 53=>205 | 131=>200 | 182=>195 | 183=>196 | 218=>209 | 222=>213 | 228=>226 | 229=>227 | n=>n,fun n=>n⟩
theorem sortILay:Lays.n189 Tryz.prog sortIRen:={
 mixed:=by kernel_rfl
 f125:=Tryz.func117.trans (congrArg some (by kernel_rfl))
 f128:=Tryz.func142.trans (congrArg some (by kernel_rfl))
 f129:=Tryz.func143.trans (congrArg some (by kernel_rfl))
 f189:=Tryz.func84.trans (congrArg some (by kernel_rfl))
 f215:=Tryz.func152.trans (congrArg some (by kernel_rfl))
 f216:=Tryz.func139.trans (congrArg some (by kernel_rfl))
 f257:=Tryz.func116.trans (congrArg some (by kernel_rfl))
 f294:=Tryz.func133.trans (congrArg some (by kernel_rfl))
 f295:=Tryz.func134.trans (congrArg some (by kernel_rfl))
 f296:=Tryz.func135.trans (congrArg some (by kernel_rfl))
 f297:=Tryz.func136.trans (congrArg some (by kernel_rfl))
 f298:=Tryz.func137.trans (congrArg some (by kernel_rfl))
 f299:=Tryz.func138.trans (congrArg some (by kernel_rfl))
 f300:=Tryz.func140.trans (congrArg some (by kernel_rfl))
 f301:=Tryz.func141.trans (congrArg some (by kernel_rfl))
 f328:=Tryz.func147.trans (congrArg some (by kernel_rfl))
 f329:=Tryz.func148.trans (congrArg some (by kernel_rfl))
 f330:=Tryz.func149.trans (congrArg some (by kernel_rfl))
 f331:=Tryz.func150.trans (congrArg some (by kernel_rfl))
 f332:=Tryz.func151.trans (congrArg some (by kernel_rfl))
 f343:=Tryz.func161.trans (congrArg some (by kernel_rfl))
 t0:=Tryz.underlying0
 a0:=Tryz.isAgg0
 z0:=Tryz.sizeOf0
 v0:=Tryz.zeroValue0
 t3:=Tryz.underlying3
 a3:=Tryz.isAgg3
 z3:=Tryz.sizeOf3
 v3:=Tryz.zeroValue3
 t4:=Tryz.underlying4
 a4:=Tryz.isAgg4
 z4:=Tryz.sizeOf4
 v4:=Tryz.zeroValue4
 t5:=Tryz.underlying5
 a5:=Tryz.isAgg5
 z5:=Tryz.sizeOf5
 v5:=Tryz.zeroValue5
 t9:=Tryz.underlying9
 a9:=Tryz.isAgg9
 z9:=Tryz.sizeOf9
 v9:=Tryz.zeroValue9
 t28:=Tryz.underlying60
 a28:=Tryz.isAgg60
 z28:=Tryz.sizeOf60
 v28:=Tryz.zeroValue60
 t46:=Tryz.underlying89
 a46:=Tryz.isAgg89
 z46:=Tryz.sizeOf89
 v46:=Tryz.zeroValue89
 t51:=Tryz.underlying203
 a51:=Tryz.isAgg203
 z51:=Tryz.sizeOf203
 v51:=Tryz.zeroValue203
 t53:=Tryz.underlying205
 a53:=Tryz.isAgg205
 z53:=Tryz.sizeOf205
 v53:=Tryz.zeroValue205
 t131:=Tryz.underlying200
 a131:=Tryz.isAgg200
 z131:=Tryz.sizeOf200
 v131:=Tryz.zeroValue200
 t182:=Tryz.underlying195
 a182:=Tryz.isAgg195
 z182:=Tryz.sizeOf195
 v182:=Tryz.zeroValue195
 t183:=Tryz.underlying196
 a183:=Tryz.isAgg196
 z183:=Tryz.sizeOf196
 v183:=Tryz.zeroValue196
 t218:=Tryz.underlying209
 a218:=Tryz.isAgg209
 z218:=Tryz.sizeOf209
 v218:=Tryz.zeroValue209
 t222:=Tryz.underlying213
 a222:=Tryz.isAgg213
 z222:=Tryz.sizeOf213
 v222:=Tryz.zeroValue213
 t228:=Tryz.underlying226
 a228:=Tryz.isAgg226
 z228:=Tryz.sizeOf226
 v228:=Tryz.zeroValue226
 t229:=Tryz.underlying227
 a229:=Tryz.isAgg227
 z229:=Tryz.sizeOf227
 v229:=Tryz.zeroValue227 }
def compIRen:Go.Shelf.Ren:=⟨fun | 20=>63 | n=>n,fun | 0=>0 | 3=>3 | 4=>4 | 22=>60 | n=>n,fun n=>n⟩
theorem compILay:Lays2.n20 Tryz.prog compIRen:={
 mixed:=by kernel_rfl
 f20:=Tryz.func63.trans (congrArg some (by kernel_rfl))
 t0:=Tryz.underlying0
 a0:=Tryz.isAgg0
 z0:=Tryz.sizeOf0
 v0:=Tryz.zeroValue0
 t3:=Tryz.underlying3
 a3:=Tryz.isAgg3
 z3:=Tryz.sizeOf3
 v3:=Tryz.zeroValue3
 t4:=Tryz.underlying4
 a4:=Tryz.isAgg4
 z4:=Tryz.sizeOf4
 v4:=Tryz.zeroValue4
 t22:=Tryz.underlying60
 a22:=Tryz.isAgg60
 z22:=Tryz.sizeOf60
 v22:=Tryz.zeroValue60
 i3:=by kernel_rfl }
def sortedIRen:Go.Shelf.Ren:=⟨fun | 6=>50 | 8=>83 | 11=>115 | 9=>84 | n=>n,fun | 0=>0 | 24=>60 | 26=>3 | 28=>106 | 33=>117 | n=>n,fun n=>n⟩
theorem sortedILay:SlLaysZI.n6 Tryz.prog sortedIRen:={
 mixed:=by kernel_rfl
 f6:=⟨Tryz.f50.name,by decide,Tryz.func50.trans (congrArg some (by kernel_rfl))⟩
 f8:=⟨Tryz.f83.name,by decide,Tryz.func83.trans (congrArg some (by kernel_rfl))⟩
 f11:=⟨Tryz.f115.name,by decide,Tryz.func115.trans (congrArg some (by kernel_rfl))⟩
 t0:=Tryz.underlying0
 a0:=Tryz.isAgg0
 z0:=Tryz.sizeOf0
 v0:=Tryz.zeroValue0
 t24:=Tryz.underlying60
 a24:=Tryz.isAgg60
 z24:=Tryz.sizeOf60
 v24:=Tryz.zeroValue60
 t26:=Tryz.underlying3
 a26:=Tryz.isAgg3
 z26:=Tryz.sizeOf3
 v26:=Tryz.zeroValue3
 t28:=Tryz.underlying106
 a28:=Tryz.isAgg106
 z28:=Tryz.sizeOf106
 v28:=Tryz.zeroValue106
 i26:=by kernel_rfl }
def keysIRen:Go.Shelf.Ren:=⟨fun | 7=>51 | 10=>85 | n=>n,fun | 0=>0 | 3=>103 | 4=>4 | 23=>101 | 26=>3 | 27=>105 | 28=>106 | 33=>117 | n=>n,fun n=>n⟩
theorem keysILay:SlLaysZI.n7 Tryz.prog keysIRen:={
 mixed:=by kernel_rfl
 f7:=⟨Tryz.f51.name,by decide,Tryz.func51.trans (congrArg some (by kernel_rfl))⟩
 f10:=⟨Tryz.f85.name,by decide,Tryz.func85.trans (congrArg some (by kernel_rfl))⟩
 t0:=Tryz.underlying0
 a0:=Tryz.isAgg0
 z0:=Tryz.sizeOf0
 v0:=Tryz.zeroValue0
 t4:=Tryz.underlying4
 a4:=Tryz.isAgg4
 z4:=Tryz.sizeOf4
 v4:=Tryz.zeroValue4
 t23:=Tryz.underlying101
 a23:=Tryz.isAgg101
 z23:=Tryz.sizeOf101
 v23:=Tryz.zeroValue101
 t26:=Tryz.underlying3
 a26:=Tryz.isAgg3
 z26:=Tryz.sizeOf3
 v26:=Tryz.zeroValue3
 t27:=Tryz.underlying105
 a27:=Tryz.isAgg105
 z27:=Tryz.sizeOf105
 v27:=Tryz.zeroValue105
 t28:=Tryz.underlying106
 a28:=Tryz.isAgg106
 z28:=Tryz.sizeOf106
 v28:=Tryz.zeroValue106
 t33:=Tryz.underlying117
 a33:=Tryz.isAgg117
 z33:=Tryz.sizeOf117
 v33:=Tryz.zeroValue117 }
end Go.Proofs.YtpnbkfboneabaaaGreat
namespace Go.Proofs.YtpnbkfboneabaaaGreat
open Go.RowKit Go.Sort
theorem infoInt:(Tryz.prog.info? 3).map (fun i=>(i.zero,i.size,i.bytes))=some (some (.int .i64 0),1,8):=by kernel_rfl
def encI (x:Int):Array Value:=#[.int .i64 x]
theorem IntsAt.own {W:World} {B n:Nat} {v:Value} {xs:List Int} (h:W.ownsRow B 3 1 v n (xs.map (Value.int .i64))) (hn:n=xs.length):IntsAt W v xs:=by
 subst hn
 rcases ownsRow_cases h (by decide) with ⟨rfl,h1,_⟩ | ⟨g,cap,rfl,_,_,hm,hc⟩
 · have:=List.eq_nil_of_length_eq_zero h1
   subst this
   exact IntsAt.nil _ _ _
 · refine⟨_,cap,rfl,by omega,fun i x hx=>⟨⟨g,0,none⟩,rfl,?_⟩⟩
   rw [Addr.add_mid,Nat.zero_add]
   exact hc i _ (by rw [List.getElem?_map,hx];rfl)
theorem values1_seq (v:Value) (xs:List Int) (bx:Nat) (w0:World) (hbx:w0.cell? ⟨bx,0,none⟩=some v) (h:IntsAt w0 v xs) (w:World) (hk0:Keep (fun k=>k<w0.heap.size) w0 w):
 SeqG Tryz.prog 89 #[.pointer (some ⟨bx,0,none⟩)] encI xs (fun _=>False) (fun k=>k<w0.heap.size) (fun _ _=>True) (fun _ _ _=>True) w:=by
 intro lp J W hW hz hJ hY hJ0 _
 obtain⟨h0,hh0⟩:∃ h0,w0.heap.size=h0:=⟨_,rfl⟩
 have hbl:=lt_of_cell hbx
 have hkW:=hk0.trans hW
 have hint:=h.keep hkW (fun _ h=>h)
 have hcb:=hkW.cell (p:=⟨bx,0,none⟩) hbl hbx
 obtain⟨ao,cap,rfl,hlen,hcell⟩:=h
 have hlen64:(xs.length:Int)≤9223372036854775807:=by unfold maxLen at hlen;omega
 have hst:∃ i:Nat,i≤xs.length∧Value.int .i64 0= .int .i64 (i:Int)∧J (xs.take i) W∧Keep (fun k=>k<w0.heap.size) w0 W:=⟨0,Nat.zero_le _,rfl,by rw [List.take_zero];exact hJ0,hkW⟩
 have HJ:=Lib.hid hJ
 have HY:=Lib.hid hY
 have Hst:=Lib.hid hst
 have Hc:=Lib.hid hcell
 clear hJ hY hst hcell hJ0 hW hz hkW hint hk0 hbx hlen
 refine(callsIn_wide (n:=9)).1 ?_
 refine callsIn_of_wp Tryz.func89 rfl trivial ?_ rfl
 simp only [Tryz.ntmps89,List.size_toArray,List.length_cons,List.length_nil,Nat.reduceAdd,Nat.reduceSub,Array.replicate_succ,Array.replicate_zero,List.push_toArray,List.append_toArray,List.nil_append,List.cons_append]
 gi_wp2
 gi_loopw [7] (fun vi wr=>∃ i:Nat,i≤xs.length∧vi= .int .i64 (i:Int)∧J (xs.take i) wr∧Keep (fun k=>k<w0.heap.size) w0 wr) (fun vi _=>xs.length-(intOf vi).toNat)
 case atStart=>exact Hst.out
 case round=>
  clear Hst
  obtain⟨i,hi,rfl,hj,hk⟩:=hrel
  by_cases hlt:i<xs.length
  · obtain⟨x,hx⟩:∃ x,xs[i]? =some x:=⟨_,List.getElem?_eq_getElem hlt⟩
    obtain⟨a,rfl,hz0⟩:=Hc.out i x hx
    have hz:=hk.cell (p:=a.add i) (lt_of_cell hz0) hz0
    have hlt':(i:Int)<(xs.length:Int):=by omega
    have hY1:=HY.out _ _ _ (take_at hx) wr hj trivial
    obtain⟨fn,tmps,assign,body,hy,hR⟩:=hY1
    dsimp only [encI] at hy
    have Hk:=Lib.hid hk
    have Hft:=Lib.hid (take_one hx)
    clear hj hk hz0 hx
    gi_wp2
    refine(hR 8).mono ?_
    rintro e W3 ⟨rfl,hj4,_,hk4⟩
    have hnx:∃ i':Nat,i'≤xs.length∧Value.int .i64 ((i:Int)+1)= .int .i64 (i':Int)∧J (xs.take i') W3∧Keep (fun k=>k<w0.heap.size) w0 W3:=⟨i+1,by omega,rfl,by rw [Hft.out];exact hj4,Hk.out.trans hk4⟩
    have Hnx:=Lib.hid hnx
    clear hnx hj4 hk4 hy hR
    gi_wp2
    go_roundw
    all_goals first | exact Hnx.out | (simp [intOf];omega)
  · obtain rfl:i=xs.length:=by omega
    rw [List.take_length] at hj
    have Hj:=Lib.hid hj
    clear hj hk
    gi_wp2
    exact⟨rfl,_,results_none rfl _ _ _,⟨_,rfl⟩,Hj.out,trivial⟩
structure ApAt (bx:Nat) (w0:World) (pre:List Int) (W:World):Prop where
 s:∃ v,Row W bx 60 #[v]∧W.ownsRow (bx+3) 3 1 v pre.length (pre.map (Value.int .i64))∧(pre=[]→v= .slice none 0 0)
 k:Keep (fun k=>k<bx) w0 W
theorem ApAt.keep {bx:Nat} {w0:World} {pre:List Int} {W W':World} {S:Nat→Prop} (h:ApAt bx w0 pre W) (hk:Keep S W W') (hS:∀ k,k<bx+1∨bx+3≤k→S k):ApAt bx w0 pre W':=by
 obtain⟨v,h1,h2,h3⟩:=h.s
 exact⟨⟨v,h1.keep hk (hS _ (by omega)),owns_keep h2 hk (fun k hk2=>hS k (.inr (h2.lt k hk2).1)),h3⟩,h.k.trans (hk.mono fun k hk2 _=>hS k (.inl (by omega)))⟩
attribute [local go_sem] Oper.semAt_some
theorem appendSeq_any (gf:Nat) (lb:Array Value) (eg:∀ args w,(callFunc gf args).run Tryz.prog w= .ok (.enter gf args) w) (xs:List Int) (hlen:xs.length≤1000000) (w:World)
 (hseq:∀ W,Keep (fun k=>k<w.heap.size) w W→SeqG Tryz.prog gf lb encI xs (fun _=>False) (fun k=>k<w.heap.size) (fun _ _=>True) (fun _ _ _=>True) W):
 Calls Tryz.prog 115 #[.slice none 0 0,.func (.func gf) #[] lb] w fun e w'=>∃ v,e= .returned v∧w'.ownsRow w.heap.size 3 1 v xs.length (xs.map (Value.int .i64))∧Below w.heap.size w w':=by
 obtain⟨h0,hh0⟩:∃ h0,w.heap.size=h0:=⟨_,rfl⟩
 obtain⟨i0,hi0,hz0,hz1,hz2⟩:=info_parts infoInt
 have HI:=Lib.hid (And.intro hi0 (And.intro hz0 (And.intro hz1 hz2)))
 rw [hh0] at hseq ⊢
 have Hseq:=Lib.hid hseq
 clear hseq hi0 hz0 hz1 hz2
 refine(callsIn_wide (n:=9)).1 ?_
 refine callsIn_of_wp_marks Tryz.func115 rfl trivial ?_ rfl
 simp only [Tryz.ntmps115,List.size_toArray,List.length_cons,List.length_nil,Nat.reduceAdd,Nat.reduceSub,Array.replicate_succ,Array.replicate_zero,List.push_toArray,List.append_toArray,List.nil_append,List.cons_append]
 gi_wp2
 obtain⟨w2,hw2⟩:∃ w2,w.alloc (.cells #[.slice none 0 0] 60)=w2:=⟨_,rfl⟩
 have hz2:w2.heap.size=h0+1:=by rw [← hw2,← hh0];simp
 have hk2:Keep (fun _=>True) w w2:=by rw [← hw2];exact(Keep.refl _ _).alloc _
 have hat:ApAt h0 w [] w2:=by
  refine⟨⟨_,?_,World.ownsRow_nil _ _ _ 1,fun _=>rfl⟩,hk2.mono fun _ _ _=>trivial⟩
  rw [← hw2,← hh0]
  exact Row.new w _ _
 have Hat:=Lib.hid hat
 have Hk2:=Lib.hid hk2
 rw [hw2]
 clear hat hk2 hw2
 refine wp_rangeI (n:=9) (gf:=gf) (lb:=lb) rfl eg (Hseq.out w2 (Hk2.out.mono fun _ _ _=>trivial)) (fun _ h=>h.elim) (fun k (hk:k<h0)=>by omega) (fun _ _ _ _ _ _ _=>trivial) (fun _ _ _ _ _ _ _ _=>trivial) (fun _ _=>trivial) (fun _=>rfl) (fun k=>h0≤k∧k≠h0+1∧k≠h0+2) (fun k (hk:h0≤k∧k≠h0+1∧k≠h0+2)=>⟨by omega,fun(h:k<h0)=>by omega⟩)
  (ApAt h0 w) (fun s A B hs hk=>hs.keep hk (fun k hk=>⟨fun h=>h,by omega,by omega⟩)) Hat.out ?body ?done
 case done=>
  rintro W hat _ hz hK
  obtain⟨v,hrow,hown,_⟩:=hat.s
  have c0:=hrow.cell 0
  change World.cell? _ _=some _ at c0
  have HK:=Lib.hid hK
  have Hk:=Lib.hid hat.k
  have Hown:=Lib.hid hown
  rw [hz2] at HK
  clear hK hat hrow hown
  gi_wp2
  rw [hz2]
  refine⟨by simp,.inl ⟨_,_,rfl,run_takeDeferred HK.out,?_⟩⟩
  have hkg:Keep (fun k=>¬ k=h0+1) W (W.putObj (h0+1) (.deferred none)):=(Keep.refl _ _).putObj (fun h=>absurd rfl h) _
  refine⟨v,?_,⟨v,rfl,ownsRow_weak (owns_keep Hown.out hkg (fun k hk2=>by have:=(Hown.out.lt k hk2).1;omega)) (by omega),?_⟩⟩
  · simp [results,Tryz.results115,go_sem]
  · have hb:=(Hk.out.trans (hkg.mono fun k (hk:k<h0) _=>by omega)).toBelow (fun k hk=>by omega)
    rwa [hh0] at hb
 case body=>
  intro lp pre x rest W hxs hz hi _
  have Hi:=Lib.hid hi
  have Hxs:=Lib.hid hxs
  clear hi hxs
  dsimp only [encI]
  gi_wp2
  refine⟨Keep.refl _ _,trivial,fun W3 hk hzz _=> ?_⟩
  have hi3:=Hi.out.keep hk (fun k hk=>by omega)
  have hzW:h0+3≤W3.heap.size:=by rw [hzz];omega
  obtain⟨v,hrow,hown,hnil⟩:=hi3.s
  have c0:W3.cell? ⟨h0,0,none⟩=some v:=hrow.cell 0
  have f0:=hrow.frozen 0
  have hlt:=hrow.lt
  have hne:h0≠W3.heap.size:=by omega
  have hlp:pre.length+1≤xs.length:=by
   have:=congrArg List.length Hxs.out
   rw [List.length_append,List.length_cons] at this
   omega
  have Hlp:=Lib.hid hlp
  have Hown:=Lib.hid hown
  have Hrow:=Lib.hid hrow
  have Hk3:=Lib.hid hi3.k
  have HzW:=Lib.hid hzW
  clear hi3 hown hrow hlp hk hzz hz hzW
  gi_wp2_with (gi_at_builtin;refine wpListIn_append_own _ rfl _ _ 60 rfl (h0+3) 3 i0 _ 1 8 Tryz.underlying60 HI.out.1 HI.out.2.1 HI.out.2.2.1 HI.out.2.2.2 rfl (by decide) _ _ _ rfl (Hown.out.alloc _) ⟨W3.heap.size,0,none⟩ 1 1 [.int .i64 x] rfl rfl ?a2 (by simp [Value.oneCell']) ?a3 ?a4 ?a5 ?_)
  case a2=>intro j u hu;rw [Addr.add_mid,Nat.zero_add,(Row.new W3 3 #[.int .i64 x]).cell j];simpa using hu
  case a3=>have:=Hlp.out;unfold maxLen;omega
  case a4=>have:=Hlp.out;omega
  case a5=>rw [World.size_alloc];have:=HzW.out;omega
  intro v' w6 hown6 hgr _
  obtain⟨a6,k6,rfl⟩:=slice_of hown6
  have hg6:=keep_grown hgr
  have hr6:=(Hrow.out.alloc (.cells #[.int .i64 x] 3)).keep hg6 (fun e=>by have:=(Hown.out.lt _ e).1;omega)
  have hk36:Keep (fun k=>¬ (h0≤k∧k≠h0+1∧k≠h0+2)) W3 w6:=((Keep.refl _ W3).alloc _).trans (hg6.mono fun k (hk:¬ (h0≤k∧k≠h0+1∧k≠h0+2)) _ e=>by have:=(Hown.out.lt _ e).1;omega)
  have c6:w6.cell? ⟨h0,0,none⟩=some v:=hr6.cell 0
  have f6:=hr6.frozen 0
  have hk37:=hk36.setCell (p:=⟨h0,0,none⟩) (fun h=>absurd (show h0≤h0∧h0≠h0+1∧h0≠h0+2 by omega) h) (.slice a6 (pre.length+1) k6)
  have hk67:Keep (fun k=>k≠h0) w6 (w6.setCell ⟨h0,0,none⟩ (.slice a6 (pre.length+1) k6)):=(Keep.refl _ _).setCell (p:=⟨h0,0,none⟩) (fun h=>absurd rfl h) _
  have hnx:ApAt h0 w (pre++[x]) (w6.setCell ⟨h0,0,none⟩ (.slice a6 (pre.length+1) k6)):=by
   refine⟨⟨_,hr6.store 0 _,?_,fun e=>by simp at e⟩,Hk3.out.trans (hk37.mono fun k (hk:k<h0) _=>by omega)⟩
   rw [List.length_append,List.map_append]
   exact owns_keep hown6 hk67 (fun k hk2 e=>by have:=(hown6.lt k hk2).1;omega)
  have Hnx:=Lib.hid hnx
  have Hk37:=Lib.hid hk37
  clear hnx hk37 hk67 hk36 hr6 hg6 hgr hown6
  gi_wp2
  exact⟨Hk37.out,Hnx.out,trivial⟩
theorem collect_any (gf:Nat) (lb:Array Value) (eg:∀ args w,(callFunc gf args).run Tryz.prog w= .ok (.enter gf args) w) (xs:List Int) (hlen:xs.length≤1000000) (w:World)
 (hseq:∀ W,Keep (fun k=>k<w.heap.size) w W→SeqG Tryz.prog gf lb encI xs (fun _=>False) (fun k=>k<w.heap.size) (fun _ _=>True) (fun _ _ _=>True) W):
 Calls Tryz.prog 83 #[.func (.func gf) #[] lb] w fun e w'=>∃ v,e= .returned v∧w'.ownsRow w.heap.size 3 1 v xs.length (xs.map (Value.int .i64))∧Below w.heap.size w w':=by
 have hA:=appendSeq_any gf lb eg xs hlen w hseq
 go_enter Tryz.func83,Tryz.ntmps83
 go_wp2_with (go_at_call 115;refine hA.mono ?_;rintro e w1 ⟨v,rfl,hown,hb⟩)
 go_ret
 exact⟨v,rfl,hown,hb⟩
theorem sorted_any (gf:Nat) (lb:Array Value) (eg:∀ args w,(callFunc gf args).run Tryz.prog w= .ok (.enter gf args) w) (xs:List Int) (hlen:xs.length≤1000000) (w:World)
 (hseq:∀ W,Keep (fun k=>k<w.heap.size) w W→SeqG Tryz.prog gf lb encI xs (fun _=>False) (fun k=>k<w.heap.size) (fun _ _=>True) (fun _ _ _=>True) W):
 Calls Tryz.prog 50 #[.func (.func gf) #[] lb] w fun e w'=>∃ v,e= .returned v∧w'.ownsRow w.heap.size 3 1 v xs.length ((xs.mergeSort fun x y=>decide (x≤y)).map (Value.int .i64))∧Below w.heap.size w w':=by
 have hA:=collect_any gf lb eg xs hlen w hseq
 go_enter Tryz.func50,Tryz.ntmps50
 go_wp2_with fail
 refine hA.mono ?_
 rintro e W ⟨v,rfl,hown,hb⟩
 rcases hown.2 with ⟨rfl,hz⟩ | ⟨gb,cap,cur,rfl,hbase,hgb,r1,r2,r3,r4⟩
 · have hs:=Any.slices_Sort_int_none sortILay none 0 W
   change Calls Tryz.prog 84 _ _ _ at hs
   have hxs:xs=[]:=List.eq_nil_of_length_eq_zero hz
   subst hxs
   have Hown:=Lib.hid hown
   have Hb:=Lib.hid hb
   clear hown hb hz
   go_wp2_with (go_at_call 84;refine hs.mono ?_;rintro e w' ⟨rfl,rfl⟩)
   go_ret
   exact⟨_,rfl,by simpa using Hown.out,Hb.out⟩
 · have hH:Holds (Value.int .i64) W gb 0 xs.toArray:=holds_of_block_i hgb (by simpa using r4)
   have hgl:gb<W.heap.size:=(Array.getElem?_eq_some_iff.1 hgb).1
   have hs:=Any.slices_Sort_int sortILay gb 0 cap xs W hH hgl (by omega)
   change Calls Tryz.prog 84 _ _ _ at hs
   have Hgb:=Lib.hid hgb
   have Hown:=Lib.hid hown
   have Hb:=Lib.hid hb
   have Hr:=Lib.hid (And.intro r1 (And.intro r2 r3))
   clear hH hown hb r1 r2 r3 r4 hgb
   go_wp2_with (go_at_call 84;refine hs.mono ?_;rintro e w' ⟨rfl,nn,os,rfl⟩)
   go_ret
   exact⟨_,rfl,ownsRow_sorted_i (by simp) hbase Hgb.out Hr.out.1 Hr.out.2.1 Hr.out.2.2,Hb.out.grown (grownBy_sorted_i _) Hb.out.size (fun j hj=>by cases hj;exact hbase)⟩
end Go.Proofs.YtpnbkfboneabaaaGreat
namespace Go.Proofs.YtpnbkfboneabaaaGreat
open Go.RowKit Go.Sort
theorem valuesI_any (ao:Option Addr) (n c:Nat) (w:World):
 Calls Tryz.prog 57 #[.slice ao n c] w fun e w'=>e= .returned (.func (.func 89) #[] #[.pointer (some ⟨w.heap.size,0,none⟩)])∧w'=w.alloc (.cells #[.slice ao n c] 60):=by
 go_enter Tryz.func57,Tryz.ntmps57
 go_wp2
 go_ret
 exact⟨rfl,rfl⟩
theorem deleteF_none (fv:Value) (ao:Option Addr) (cap:Nat) (w:World):
 Calls Tryz.prog 62 #[.slice ao 0 cap,fv] w fun e w'=>e= .returned (.slice ao 0 cap)∧w'=w:=by
 have hI:Calls Tryz.prog 92 #[.slice ao 0 cap,fv] w fun e w'=>e= .returned (.int .i64 (-1))∧w'=w:=by
  go_enter Tryz.func92,Tryz.ntmps92
  go_wp2
  go_loopw [5,8] (fun _ vi wr=>vi= .int .i64 0∧wr=w) (fun _ vi _=>0)
  case atStart=>exact⟨rfl,rfl⟩
  case round=>
   obtain⟨rfl,rfl⟩:=hrel
   go_wp2
   go_ret
   exact⟨rfl,rfl⟩
 go_enter Tryz.func62,Tryz.ntmps62
 go_wp2_with (go_at_call 92;refine hI.mono ?_;rintro e w1 ⟨rfl,rfl⟩)
 go_ret
 exact⟨rfl,rfl⟩
theorem compactI_any (g cap:Nat) (zs:List Int) (w:World) (hH:Holds (Value.int .i64) w g 0 zs.toArray) (hsz:zs.length≤maxLen) (hcap:zs.length≤cap):
 Calls Tryz.prog 63 #[.slice (some ⟨g,0,none⟩) zs.length cap] w fun e w'=>e= .returned (.slice (some ⟨g,0,none⟩) (Lib.compact zs).length cap)∧Holds (Value.int .i64) w' g 0 (Lib.compact zs).toArray∧(Lib.compact zs).length≤zs.length∧Keep (fun k=>k≠g) w w':=by
 have h:=Any.slices_Compact_int compILay g 0 cap zs w hH (by unfold maxLen at hsz;omega) hcap
 change Calls Tryz.prog 63 _ _ _ at h
 refine h.mono ?_
 rintro e w' ⟨rfl,q,rfl⟩
 have hlen:(Lib.compact zs).length≤zs.length:=by
  unfold Lib.compact Lib.compactUpTo
  rw [List.length_map]
  exact Nat.le_trans (List.length_filter_le _ _) (by simp)
 refine⟨rfl,fun j hj=> ?_,hlen,?_⟩
 · have hj':j<(Lib.compact zs).length:=by simpa using hj
   have h1:=holds_putRow (Value.int .i64) _ g 0 zs.toArray (Lib.compact zs++List.replicate (zs.length-(Lib.compact zs).length) 0).toArray (holds_ahead (Value.int .i64) w q g 0 zs.toArray hH) (by simp;omega) j (by simp;omega)
   have h2:(Lib.compact zs++List.replicate (zs.length-(Lib.compact zs).length) 0).toArray[j]! =(Lib.compact zs).toArray[j]! :=by
    rw [getElem!_pos _ j (by simp;omega),getElem!_pos _ j (by simpa using hj')]
    simp [List.getElem_append_left,hj']
   rw [h2] at h1
   exact h1
 · have hg:=grownBy_sorted_i (w:=w) (g:=g) (n:=q) (os:=#[]) (Lib.compact zs++List.replicate (zs.length-(Lib.compact zs).length) 0).toArray
   rw [grow_empty] at hg
   exact(keep_grown (v:= .slice (some ⟨g,0,none⟩) 0 0) hg).mono fun k (hk:k≠g) _ h=>hk (by injection h with h;exact h.symm)
theorem filter_meet (a:List Int) (r:List (List Int)):((ups a).filter fun x=> !(!decide (∀ l∈a::r,x∈l)))=meetL (a::r):=by
 unfold meetL
 refine List.filter_congr fun x _=> ?_
 rw [Bool.not_not]
 by_cases h:∀ l∈a::r,x∈l
 · rw [decide_eq_true h]
   symm
   rw [List.all_eq_true]
   exact fun l hl=>by simpa using h l hl
 · rw [decide_eq_false h]
   symm
   rw [Bool.eq_false_iff]
   intro hc
   rw [List.all_eq_true] at hc
   exact h fun l hl=>by simpa using hc l hl
theorem meet_any (v:Value) (ls:List (List Int)) (w:World) (h:ListsAt w v ls) (hlen:∀ l∈ls,l.length≤1000000):
 Calls Tryz.prog 32 #[v] w fun e w'=>(∃ v',e= .returned v'∧IntsAt w' v' (meetL ls))∧Below w.heap.size w w':=by
 have hA:=h
 obtain⟨ao,cap,rfl,hl,hc⟩:=h
 cases ls with
 | nil=>
   have hb:Below w.heap.size w (w.alloc (.cells #[.slice ao 0 cap] 65)):=(Below.refl _ w).alloc (Nat.le_refl _) _
   go_enter Tryz.func32,Tryz.ntmps32
   go_wp2
   go_ret
   exact⟨⟨_,rfl,IntsAt.nil _ _ _⟩,hb⟩
 | cons a r=>
   obtain⟨ad,u,rfl,hu0,hu⟩:=hc 0 a rfl
   have hal:=hlen a List.mem_cons_self
   obtain⟨n,hn⟩:∃ n,(a::r).length=n:=⟨_,rfl⟩
   have hn0:¬ (n:Int)=0:=by rw [← hn];simp;omega
   have hn1:0<n:=by rw [← hn];simp
   have hadd:ad.add 0=ad:=rfl
   rw [hn] at hA hl ⊢
   have hn63:(n:Int)≤9223372036854775807:=by unfold maxLen at hl;omega
   have hb1:Below w.heap.size w (w.alloc (.cells #[.slice (some ad) n cap] 65)):=(Below.refl _ w).alloc (Nat.le_refl _) _
   rw [hadd] at hu0
   have hadl:ad.block<w.heap.size:=lt_of_cell (p:=ad) hu0
   have hadn:ad.block≠w.heap.size:=by omega
   obtain⟨uo,uc,rfl⟩:∃ uo uc,u= .slice uo a.length uc:=by obtain⟨uo,uc,h,_⟩:=hu;exact⟨uo,uc,h⟩
   have HA:=Lib.hid hA
   have Hu:=Lib.hid hu
   have Hl:=Lib.hid hl
   have Hb1:=Lib.hid hb1
   have Hcell:=Lib.hid ((Row.new w 65 #[.slice (some ad) n cap]).cell 0)
   clear hA hl hb1 hc hlen hn
   go_enter Tryz.func32,Tryz.ntmps32
   go_wp2_with (go_at_call 57;refine(valuesI_any _ _ _ _).mono ?_;rintro e w1 ⟨rfl,rfl⟩)
   obtain⟨W2,hW2⟩:∃ W2,(w.alloc (.cells #[.slice (some ad) n cap] 65)).alloc (.cells #[.slice uo a.length uc] 60)=W2:=⟨_,rfl⟩
   have hb2:Below w.heap.size w W2:=by rw [← hW2];exact Hb1.out.alloc Hb1.out.size _
   have hz2:W2.heap.size=w.heap.size+2:=by rw [← hW2];simp
   have hbx:W2.cell? ⟨w.heap.size+1,0,none⟩=some (.slice uo a.length uc):=by
    have:=(Row.new (w.alloc (.cells #[.slice (some ad) n cap] 65)) 60 #[.slice uo a.length uc]).cell 0
    rw [World.size_alloc,hW2] at this
    exact this
   have hbl:W2.cell? ⟨w.heap.size,0,none⟩=some (.slice (some ad) n cap):=by
    have:=cell_below ((Below.refl _ _).alloc (Nat.le_refl _) (.cells #[.slice uo a.length uc] 60)) Hcell.out
    rwa [hW2] at this
   have hu2:=Hu.out.below hb2
   have hS:=sorted_any 89 #[.pointer (some ⟨w.heap.size+1,0,none⟩)] (enters_of Tryz.func89 (by kernel_rfl) rfl) a hal W2 (fun W hk=>values1_seq (.slice uo a.length uc) a (w.heap.size+1) W2 hbx hu2 W hk)
   have HS:=Lib.hid hS
   have Hb2:=Lib.hid hb2
   have Hbl:=Lib.hid hbl
   have Hz2:=Lib.hid hz2
   rw [hW2]
   clear hS hb2 hbl hbx hu2 hz2 hW2 Hcell Hb1 Hu hu hu0 hadd hadn hadl
   refine HS.out.mono ?_
   rintro e w3 ⟨v3,rfl,hown,hb3⟩
   have hbl3:=cell_below hb3 Hbl.out
   have Hbl3:=Lib.hid hbl3
   have Hb3:=Lib.hid (Hb2.out.trans (hb3.mono Hb2.out.size))
   have hms:(a.mergeSort fun x y=>decide (x≤y)).length=a.length:=List.length_mergeSort ..
   have hpred:∀(g:Nat) (W0:World),w.heap.size+2≤g→Keep (fun k=>k≠g) w3 W0→PredK 58 #[.pointer (some ⟨w.heap.size,0,none⟩)] (fun x=> !decide (∀ l∈a::r,x∈l)) g W0:=by
    intro g W0 hg hk0 x W hk
    have hkk:=hk0.trans hk
    have hkw:Keep (fun k=>k<w.heap.size) w W:=((Keep.below (S:=fun _=>True) (Hb3.out.mono (Nat.le_refl _))).mono fun _ _ _=>trivial).trans (hkk.mono fun k (h:k<w.heap.size) _=>by omega)
    exact lacks_any _ (a::r) x w.heap.size W (HA.out.keep hkw fun _ h=>h) (hkk.cell (p:=⟨w.heap.size,0,none⟩) (show w.heap.size≠g by omega) Hbl3.out)
   have hz2:=Hz2.out
   rcases hown.2 with ⟨rfl,hz⟩ | ⟨g,c,cur,rfl,hbase,hgb,r1,r2,r3,r4⟩
   · have ha0:a=[]:=List.eq_nil_of_length_eq_zero hz
     subst ha0
     have hC:=fun W=>Any.slices_Compact_int_empty compILay none 0 W
     change ∀ W,Calls Tryz.prog 63 _ _ _ at hC
     have hm0:meetL ([]::r)=[]:=by simp [meetL,ups,Lib.compact,Lib.compactUpTo]
     have Hm0:=Lib.hid hm0
     clear hpred hown hm0 hb3
     go_wp2_with (first
      | (go_at_call 63;refine(hC _).mono ?_;rintro e w' ⟨rfl,rfl⟩)
      | (go_at_call 62;refine(deleteF_none _ _ _ _).mono ?_;rintro e w' ⟨rfl,rfl⟩))
     go_ret
     exact⟨⟨_,rfl,by rw [Hm0.out];exact IntsAt.nil _ _ _⟩,Hb3.out⟩
   · have hH:Holds (Value.int .i64) w3 g 0 (a.mergeSort fun x y=>decide (x≤y)).toArray:=holds_of_block_i hgb (by rw [hms];simpa using r4)
     have hC:=compactI_any g c (a.mergeSort fun x y=>decide (x≤y)) w3 hH (by rw [hms];unfold maxLen;omega) (by rw [hms];omega)
     rw [hms] at hC
     have hg2:w.heap.size+2≤g:=by omega
     have hac:a.length≤c:=r1
     have HC:=Lib.hid hC
     have Hp:=Lib.hid hpred
     clear hC hpred hH hown hgb r1 r2 r3 r4 hbase hz2
     go_wp2_with fail
     refine HC.out.mono ?_
     rintro e w4 ⟨rfl,hH4,hl4,hk4⟩
     have hD:=deleteF_any 58 #[.pointer (some ⟨w.heap.size,0,none⟩)] (enters_of Tryz.func58 (by kernel_rfl) rfl) (fun x=> !decide (∀ l∈a::r,x∈l)) g c (Lib.compact (a.mergeSort fun x y=>decide (x≤y))).toArray w4 (Hp.out g w4 hg2 hk4) hH4 (by simp;unfold maxLen;omega) (by simp;omega)
     have hfm:(Lib.compact (a.mergeSort fun x y=>decide (x≤y))).toArray.toList.filter (fun x=> !(!decide (∀ l∈a::r,x∈l)))=meetL (a::r):=filter_meet a r
     rw [hfm,List.size_toArray] at hD
     have HD:=Lib.hid hD
     have Hb4:=Lib.hid (hk4)
     clear hD hfm hH4 hk4 Hp
     go_wp2_with fail
     refine HD.out.mono ?_
     rintro e w5 ⟨⟨v5,rfl,hres⟩,hk5⟩
     have hb5:Below w.heap.size w w5:=(((Keep.below (S:=fun k=>k<w.heap.size) (Hb3.out.mono (Nat.le_refl _)))).trans ((Hb4.out.trans hk5).mono fun k (h:k<w.heap.size) _=>by omega)).toBelow fun _ h=>h
     have Hres:=Lib.hid hres
     have Hb5:=Lib.hid hb5
     clear hres hb5 hk5 hb3
     go_wp2
     go_ret
     exact⟨⟨v5,rfl,Hres.out⟩,Hb5.out⟩
end Go.Proofs.YtpnbkfboneabaaaGreat
