import Derived.Lib.SliceRun
import Derived.Lib.CutLaws
import Derived.Lib.Strings
import Derived.Maps.RangeRun
import Derived.Test.YtjhogocabcdjbabGreatDoorB1
set_option linter.unusedSimpArgs false
set_option linter.unusedVariables false
/- names: what Drop answers; two lists of the same names -/
namespace WB
open Go Go.RowKit
theorem KO.eqSn {P:Program} {ops:Array Oper} {d:Bool} {Q:Exit→Act→World→Prop} {n:Nat} {D:List Deferred} {w0:World} {G:Env} {L:List HP} {l:List (Kd×Oper)} {k:Kd}
 {t:Nat} {ty T T' E:TypeId} {pos:String} {af:Array Edge} {x:Operand} {a:Option Addr} {len cap:Nat}
  (hx:ev G x=some (.slice a len cap)) (hT:P.underlying T=some (.slice E)) (ht:Nat.blt t n=true) (h:KO P ops d Q n D w0 ((t,.bool a.isNone)::G) L l):
  KO P ops d Q n D w0 G L ((k,⟨some t,.binOp .eql T x (.const (.slice none 0 0)) T',ty,pos,af,none⟩)::l):=
 KO.val (fun a' w ha=>by
  simp only[execOp,ha.eval hx,show a'.eval (.const (.slice none 0 0))=.slice none 0 0 from rfl]
  simp[go_sem,Lib.run_eql_slice_nil w T E a len cap 0 0 hT]) ht h
end WB
namespace WB
open Go
theorem List.set_getElem_of {α:Type} {l:List α} {i:Nat} {x:α} (h:l[i]? =some x):l.set i x=l:=by
 obtain⟨hi,rfl⟩:=List.getElem?_eq_some_iff.1 h
 exact List.set_getElem_self hi
def dropErr (l:List Nm) (s:ByteArray):Int:=if hitB l s (srchN l s)=true then 0 else 7
def dropNm (l:List Nm) (s:ByteArray):List Nm:=if hitB l s (srchN l s)=true then l.eraseIdx (srchN l s)else l
theorem dropNm_len (l:List Nm) (s:ByteArray):(dropNm l s).length≤l.length:=by
 unfold dropNm
 split
 ·rw[List.length_eraseIdx];split<;>omega
 ·exact Nat.le_refl _
end WB
namespace WB
open Go
def ofNm (l:List Nm) (s:ByteArray):Nm:=(lk l s).getD ⟨⟨#[]⟩,⟨#[]⟩,0⟩
def mayErr (l:List Nm) (x:Nm):Int:=if rightNm x=false then 1 else if lk l x.name=none∧20≤l.length then 12 else 0
def lkLocal (l:List Nm) (s:ByteArray):Bool:=match lk l s with|some x=>decide (x.tgt=⟨#[]⟩)|none=>false
def lkI (l:List Nm) (s:ByteArray):Option Nat:=l.findIdx? fun x=>decide (x.name=s)
def lkDropE (l:List Nm) (s:ByteArray):Int:=match lkI l s with|some _=>0|none=>7
def lkDrop (l:List Nm) (s:ByteArray):List Nm:=match lkI l s with|some k=>l.eraseIdx k|none=>l
def lkSet (l:List Nm) (x:Nm):List Nm:=if mayErr l x=0 then lkDrop l x.name++[x]else l
theorem emptyB_eq (s:ByteArray):emptyB s=decide (s=⟨#[]⟩):=by
 unfold emptyB
 rw[Bool.eq_iff_iff,decide_eq_true_eq,List.isEmpty_iff,ByteArray.toList_eq]
 constructor
 ·intro h
  apply ByteArray.ext;apply Array.ext';simpa using h
 ·rintro rfl;rfl
theorem lk_idx {l:List Nm} {s:ByteArray} {k:Nat} {y:Nm} (hy:l[k]? =some y) (h:y.name=s) (hall:∀(j:Nat) z,j<k→l[j]? =some z→z.name≠s):lkI l s=some k:=by
 unfold lkI
 obtain⟨hk,rfl⟩:=List.getElem?_eq_some_iff.1 hy
 rw[List.findIdx?_eq_some_iff_getElem]
 refine⟨hk,by simpa using h,fun j hj=>?_⟩
 have :=hall j l[j] hj (List.getElem?_eq_getElem _)
 simp[this]
end WB
namespace WB
open Go
instance decMemB (s:ByteArray) (l:List ByteArray):Decidable (s∈l):=decidable_of_iff ((l.any fun u=>decide (u=s))=true) (by simp)
def resR (l:List Nm):Nat→List ByteArray→ByteArray→ByteArray×Int×Int
 |0,_,_=>(⟨#[]⟩,0,11)
 |n+1,seen,s=>if s∈seen then(⟨#[]⟩,0,11)else match lk l s with
  |none=>(⟨#[]⟩,0,7)
  |some x=>if x.tgt=⟨#[]⟩then(s,-1,0)else if 0≤x.house then(x.tgt,x.house,0)else resR l n (s::seen) x.tgt
structure NRel (l rl:List Nm):Prop where
 sorted:Sorted l
 perm:rl.Perm l
theorem find_nodup {l:List Nm} (h:(l.map Nm.name).Nodup) {x:Nm} (hx:x∈l):lk l x.name=some x:=by
 induction l with
 |nil=>cases hx
 |cons a l ih=>
  rw[List.map_cons,List.nodup_cons]at h
  rw[lk_cons]
  rcases List.mem_cons.1 hx with rfl|hx
  ·rw[if_pos rfl]
  ·rw[if_neg (fun e:a.name=x.name=>h.1 (e▸List.mem_map_of_mem (f:=Nm.name) hx))]
   exact ih h.2 hx
theorem lk_perm {l m:List Nm} (hp:m.Perm l) (hn:(l.map Nm.name).Nodup) (s:ByteArray):lk m s=lk l s:=by
 have hn2:(m.map Nm.name).Nodup:=(hp.map Nm.name).nodup_iff.2 hn
 cases h:lk l s with
 |some x=>
  obtain⟨h1,rfl⟩:=lk_some h
  exact find_nodup hn2 (hp.mem_iff.2 h1)
 |none=>
  cases h2:lk m s with
  |none=>rfl
  |some x=>
   obtain⟨h1,rfl⟩:=lk_some h2
   rw[find_nodup hn (hp.mem_iff.1 h1)]at h;cases h
theorem NRel.nodup {l rl:List Nm} (h:NRel l rl):(l.map Nm.name).Nodup:=sorted_nodup h.sorted
theorem NRel.rnodup {l rl:List Nm} (h:NRel l rl):(rl.map Nm.name).Nodup:=(h.perm.map Nm.name).nodup_iff.2 h.nodup
theorem NRel.lk {l rl:List Nm} (h:NRel l rl) (s:ByteArray):lk rl s=look l s:=by rw[lk_perm h.perm h.nodup,look_sorted h.sorted]
theorem NRel.len {l rl:List Nm} (h:NRel l rl):rl.length=l.length:=h.perm.length_eq
theorem look_hit (l:List Nm) (s:ByteArray):look l s=none↔hitB l s (srchN l s)=false:=by
 unfold look
 cases hitB l s (srchN l s)<;>simp
theorem NRel.may {l rl:List Nm} (h:NRel l rl) (x:Nm):mayErr rl x=setErr l x:=by
 unfold mayErr setErr
 rw[h.lk,h.len]
 cases h1:rightNm x with
 |false=>simp
 |true=>
  simp only[Bool.true_eq_false,if_false]
  cases h2:hitB l x.name (srchN l x.name)with
  |false=>simp[(look_hit l x.name).2 h2]
  |true=>rw[if_neg (fun e=>by rw[(look_hit l x.name).1 e.1]at h2;cases h2)];simp
theorem lkDrop_filter {l:List Nm} (hn:(l.map Nm.name).Nodup) (s:ByteArray):lkDrop l s=l.filter fun x=> !decide (x.name=s):=by
 induction l with
 |nil=>rfl
 |cons a l ih=>
  rw[List.map_cons,List.nodup_cons]at hn
  unfold lkDrop lkI
  rw[List.findIdx?_cons]
  by_cases e:a.name=s
  ·subst e
   simp only[decide_true,if_true,List.eraseIdx_cons_zero,List.filter_cons,Bool.not_true,Bool.false_eq_true,if_false]
   symm
   rw[List.filter_eq_self]
   intro x hx
   have :x.name≠a.name:=fun e=>hn.1 (e▸List.mem_map_of_mem (f:=Nm.name) hx)
   simp[this]
  ·have :=ih hn.2
   unfold lkDrop lkI at this
   simp only[e,decide_false,Bool.false_eq_true,if_false,List.filter_cons,Bool.not_false,if_true]
   rw[←this]
   cases h:List.findIdx? (fun x:Nm=>decide (x.name=s)) l<;>simp
theorem dropNm_filter {l:List Nm} (h:Sorted l) (s:ByteArray):dropNm l s=l.filter fun x=> !decide (x.name=s):=by
 unfold dropNm
 cases hh:hitB l s (srchN l s)with
 |false=>
  simp only[Bool.false_eq_true,if_false]
  symm
  rw[List.filter_eq_self]
  intro x hx
  have h1:=(look_hit l s).2 hh
  rw[look_sorted h]at h1
  unfold WB.lk at h1
  have :=List.find?_eq_none.1 h1 x hx
  simpa using this
 |true=>
  simp only[if_true]
  have hlt:=hit_lt hh
  have he:cmpN (nmAt l (srchN l s)).name s=0:=by unfold hitB at hh;rw[Bool.and_eq_true]at hh;simpa using hh.2
  have hn:=cmpN_eq he
  rw[←lkDrop_filter (sorted_nodup h) s]
  unfold lkDrop
  have hi:lkI l s=some (srchN l s):=by
   refine lk_idx (y:=nmAt l (srchN l s)) (by simp[nmAt,List.getD_eq_getElem?_getD,hlt]) hn fun j z hj hz hzn=>?_
   obtain⟨hjl,rfl⟩:=List.getElem?_eq_some_iff.1 hz
   have :=List.pairwise_iff_getElem.1 h j (srchN l s) hjl hlt hj
   rw[hzn]at this
   have e2:l[srchN l s]=nmAt l (srchN l s):=by simp[nmAt,List.getD_eq_getElem?_getD,hlt]
   rw[e2,hn,cmpN_self]at this
   omega
  rw[hi]
theorem NRel.drop {l rl:List Nm} (h:NRel l rl) (s:ByteArray):NRel (dropNm l s) (lkDrop rl s):=by
 rw[dropNm_filter h.sorted,lkDrop_filter h.rnodup]
 exact⟨List.Pairwise.sublist List.filter_sublist h.sorted,h.perm.filter _⟩
theorem insN_perm (x:Nm):∀{l:List Nm},Sorted l→(l.filter (fun y=> !decide (y.name=x.name))++[x]).Perm (insN x l):=by
 intro l h
 have h1:(insN x l).filter (fun y=> !decide (y.name=x.name))=l.filter (fun y=> !decide (y.name=x.name)):=by
  refine sorted_ext (List.Pairwise.sublist List.filter_sublist (insN_sorted h)) (List.Pairwise.sublist List.filter_sublist h) fun s=>?_
  have key:∀m:List Nm,WB.lk (m.filter fun y=> !decide (y.name=x.name)) s=if s=x.name then none else WB.lk m s:=fun m=>by
   induction m with
   |nil=>by_cases e:s=x.name<;>simp[WB.lk]
   |cons a m ih=>
    rw[List.filter_cons]
    by_cases e:a.name=x.name
    ·simp only[e,decide_true,Bool.not_true,Bool.false_eq_true,if_false]
     rw[ih,lk_cons]
     by_cases e2:s=x.name
     ·simp[e2]
     ·rw[if_neg e2,if_neg e2,if_neg (fun e3=>e2 (e3.symm.trans e))]
    ·simp only[e,decide_false,Bool.not_false,if_true]
     rw[lk_cons,lk_cons,ih]
     by_cases e2:s=x.name
     ·subst e2;simp[e]
     ·simp[e2]
  rw[key,key,lk_insN]
  by_cases e:s=x.name
  ·simp[e]
  ·rw[if_neg e,if_neg e,if_neg (fun e2=>e e2.symm)]
 have hx:x∈insN x l:=(lk_some (show WB.lk (insN x l) x.name=some x by rw[lk_insN,if_pos rfl])).1
 have hnd:=sorted_nodup (insN_sorted (x:=x) h)
 rw[←h1]
 generalize insN x l=m at *
 clear h1
 induction m with
 |nil=>cases hx
 |cons a m ih=>
  rw[List.map_cons,List.nodup_cons]at hnd
  rw[List.filter_cons]
  by_cases e:a.name=x.name
  ·have hax:a=x:=by
    rcases List.mem_cons.1 hx with rfl|hx
    ·rfl
    ·exact absurd (e▸List.mem_map_of_mem (f:=Nm.name) hx) hnd.1
   subst hax
   simp only[decide_true,Bool.not_true,Bool.false_eq_true,if_false]
   rw[List.filter_eq_self.2]
   ·exact List.perm_append_comm
   ·intro y hy
    have :y.name≠a.name:=fun e=>hnd.1 (e▸List.mem_map_of_mem (f:=Nm.name) hy)
    simp[this]
  ·simp only[e,decide_false,Bool.not_false,if_true,List.cons_append]
   rcases List.mem_cons.1 hx with rfl|hx
   ·exact absurd rfl e
   ·exact(ih hx hnd.2).cons a
theorem NRel.set {l rl:List Nm} (h:NRel l rl) (x:Nm):NRel (setNm l x) (lkSet rl x):=by
 unfold lkSet
 rw[h.may]
 by_cases h0:setErr l x=0
 ·rw[if_pos h0]
  have hr:rightNm x=true:=by
   cases hr:rightNm x with
   |true=>rfl
   |false=>unfold setErr at h0;rw[if_pos hr]at h0;cases h0
  have e1:setNm l x=insN x l:=by
   rw[←put_insN]
   unfold setErr at h0
   unfold setNm
   rw[if_neg (by simp[hr])]at h0 ⊢
   by_cases h2:hitB l x.name (srchN l x.name)=true
   ·rw[if_pos h2,if_pos h2]
   ·rw[if_neg h2]at h0 ⊢
    rw[if_neg h2]
    by_cases h3:20≤l.length
    ·rw[if_pos h3]at h0;cases h0
    ·rw[if_neg h3]
  rw[e1]
  refine⟨insN_sorted h.sorted,?_⟩
  rw[lkDrop_filter h.rnodup]
  exact((h.perm.filter _).append_right _).trans (insN_perm x h.sorted)
 ·rw[if_neg h0]
  have e1:setNm l x=l:=by
   unfold setErr at h0
   unfold setNm
   by_cases hr:rightNm x=false
   ·rw[if_pos hr]
   ·rw[if_neg hr]at h0 ⊢
    by_cases h2:hitB l x.name (srchN l x.name)=true
    ·rw[if_pos h2]at h0;exact absurd rfl h0
    ·rw[if_neg h2]at h0 ⊢
     by_cases h3:20≤l.length
     ·rw[if_pos h3]
     ·rw[if_neg h3]at h0;exact absurd rfl h0
  rw[e1];exact h
end WB
namespace WB
deriving instance DecidableEq for Nm
end WB
/- queues: bounds that outlive whatever is done -/
namespace WB
open Go
structure QB (n:Nat) (q:Qu):Prop where
 ord:q.l.Pairwise QOrd
 lines:∀e∈q.l,0≤e.line∧e.line<q.next
 pris:∀e∈q.l,0≤e.m.pri∧e.m.pri≤9
 len:q.l.length≤n
 next:0≤q.next∧q.next≤n
 ids:∀e∈q.l,0≤e.m.id∧e.m.id≤1099511627776
section
variable {n:Nat} {q:Qu} {m:Ms} {u:Int}
theorem QB.nil:QB n ⟨[],0⟩:=⟨.nil,(fun _ h=>by cases h),(fun _ h=>by cases h),by simp,Y47,(fun _ h=>by cases h)⟩
theorem QB.le (h:QB n q) {k:Nat} (hk:n≤k):QB k q:=⟨h.ord,h.lines,h.pris,Nat.le_trans h.len hk,(by have :=h.next;omega),h.ids⟩
theorem QB.cmp (h:QB n q) (m:Ms) (u:Int) {e:It} (he:e∈q.l):cmpIt e (qitem q m u)<0↔m.pri≤e.m.pri:=by
 have :=h.lines e he
 unfold cmpIt compI qitem
 dsimp only
 split<;>omega
theorem QB.ok (h:QB n q) (hn:n<100000):QuOk q:=by
 have hl2:=h.len
 refine⟨by omega,fun e he=>?_,⟨h.next.1,by have :=h.next;omega⟩,fun m u i j a b hij ha hb hlt=>?_⟩
 ·have h1:=h.pris e he;have h2:=h.lines e he;have h3:=h.next
  unfold smallIt small;omega
 ·have ma:=List.mem_of_getElem? ha
  have mb:=List.mem_of_getElem? hb
  rw[h.cmp m u ma]
  rw[h.cmp m u mb]at hlt
  rcases Nat.lt_or_ge i j with hlt2|hge
  ·obtain⟨hi,rfl⟩:=List.getElem?_eq_some_iff.1 ha
   obtain⟨hj,rfl⟩:=List.getElem?_eq_some_iff.1 hb
   have :=List.pairwise_iff_getElem.1 h.ord i j hi hj hlt2
   unfold QOrd at this
   omega
  ·obtain rfl:i=j:=by omega
   rw[ha]at hb;cases hb;exact hlt
theorem QB.push (h:QB n q) (m:Ms) (u:Int):(qpush q m u).l=q.l.filter (fun e=>decide (m.pri≤e.m.pri))++qitem q m u::q.l.filter (fun e=> !decide (m.pri≤e.m.pri)):=by
 have hc:(q.l.takeWhile fun e=>decide (cmpIt e (qitem q m u)<0))=q.l.takeWhile fun e=>decide (m.pri≤e.m.pri):=by
  have :∀l:List It,(∀e∈l,e∈q.l)→(l.takeWhile fun e=>decide (cmpIt e (qitem q m u)<0))=l.takeWhile fun e=>decide (m.pri≤e.m.pri):=by
   intro l
   induction l with
   |nil=>intro _;rfl
   |cons a l ih=>
    intro hl
    have e1:decide (cmpIt a (qitem q m u)<0)=decide (m.pri≤a.m.pri):=decide_eq_decide.2 (h.cmp m u (hl a (by simp)))
    simp only[List.takeWhile_cons,e1,ih fun e he=>hl e (by simp[he])]
  exact this q.l fun _ h=>h
 obtain⟨t1,t2⟩:=take_len_while (fun e:It=>decide (m.pri≤e.m.pri)) q.l
 obtain⟨f1,f2⟩:=take_while_filter (p:=fun e:It=>decide (m.pri≤e.m.pri)) (l:=q.l) (h.ord.imp fun {x y} hxy hy=>by
  unfold QOrd at hxy;simp at hy ⊢;omega)
 unfold qpush srchIt
 dsimp only
 rw[hc,t1,t2,f1,f2]
theorem QB.pushed (h:QB n q) (hp:0≤m.pri∧m.pri≤9) (hi:0≤m.id∧m.id≤1099511627776) (u:Int):QB (n+1) (qpush q m u):=by
 have hl2:∀e∈(qpush q m u).l,e=qitem q m u∨e∈q.l:=fun e he=>by
  rw[h.push]at he
  simp only[List.mem_append,List.mem_cons,List.mem_filter]at he
  rcases he with⟨a,_⟩|a|⟨a,_⟩
  ·exact .inr a
  ·exact .inl a
  ·exact .inr a
 have hnx:(qpush q m u).next=q.next+1:=rfl
 refine⟨?_,fun e he=>?_,fun e he=>?_,?_,(by have :=h.next;rw[hnx];omega),fun e he=>?_⟩
 ·rw[h.push,List.pairwise_append,List.pairwise_cons]
  refine⟨h.ord.sublist List.filter_sublist,⟨fun e he=>?_,h.ord.sublist List.filter_sublist⟩,fun a ha b hb=>?_⟩
  ·obtain⟨h1,h2⟩:=List.mem_filter.1 he
   simp at h2
   left;unfold qitem;dsimp only;omega
  ·obtain⟨h1,h2⟩:=List.mem_filter.1 ha
   have i1:=h.lines a h1
   simp at h2
   rcases List.mem_cons.1 hb with rfl|hb
   ·unfold QOrd qitem;dsimp only;omega
   ·obtain⟨h3,h4⟩:=List.mem_filter.1 hb
    simp at h4
    left;omega
 ·rw[hnx]
  rcases hl2 e he with rfl|h1
  ·have :=h.next;unfold qitem;dsimp only;omega
  ·have :=h.lines e h1;omega
 ·rcases hl2 e he with rfl|h1
  ·exact hp
  ·exact h.pris e h1
 ·have :=h.len
  unfold qpush
  dsimp only
  have h2:=srchIt_le q.l (qitem q m u)
  simp;omega
 ·rcases hl2 e he with rfl|h1
  ·exact hi
  ·exact h.ids e h1
theorem QB.part (h:QB n q) {ql:List It} (hs:(ql.map ml).Sublist (q.l.map ml)):QB n ⟨ql,q.next⟩:=by
 have hm:∀e∈ql,∃e'∈q.l,e'.m=e.m∧e'.line=e.line:=fun e he=>by
  obtain⟨e',h1,h2⟩:=List.mem_map.1 (hs.subset (List.mem_map_of_mem (f:=ml) he))
  exact⟨e',h1,by simpa[ml]using h2⟩
 refine⟨?_,fun e he=>?_,fun e he=>?_,?_,h.next,fun e he=>?_⟩
 ·have h1:(q.l.map ml).Pairwise fun x y=>y.1.pri<x.1.pri∨(x.1.pri=y.1.pri∧x.2<y.2):=List.pairwise_map.2 h.ord
  have h2:=h1.sublist hs
  rw[List.pairwise_map]at h2
  exact h2
 ·obtain⟨e',h1,_,h2⟩:=hm e he;rw[←h2];exact h.lines e' h1
 ·obtain⟨e',h1,h2,_⟩:=hm e he;rw[←h2];exact h.pris e' h1
 ·have :=hs.length_le;have :=h.len;simp at *;omega
 ·obtain⟨e',h1,h2,_⟩:=hm e he;rw[←h2];exact h.ids e' h1
theorem QB.take (h:QB n q) (id:Int):QB n (qtake q id):=by
 unfold qtake
 split
 ·exact h
 ·exact h.part ((List.eraseIdx_sublist _ _).map _)
theorem set_ml {l:List It} {k:Nat} {x:It} (h:∀e,l[k]? =some e→ml x=ml e):(l.set k x).map ml=l.map ml:=by
 apply List.ext_getElem?
 intro j
 rw[List.getElem?_map,List.getElem?_map,List.getElem?_set]
 by_cases e:k=j
 ·subst e
  rw[if_pos rfl]
  by_cases hk:k<l.length
  ·rw[if_pos hk,Option.map_some,List.getElem?_eq_getElem hk,Option.map_some,h _ (List.getElem?_eq_getElem hk)]
  ·rw[if_neg hk,List.getElem?_eq_none (by omega)]
 ·rw[if_neg e]
theorem QB.get (h:QB n q) (u:Int):QB n (qget q u):=by
 unfold qget
 split
 ·exact h
 ·split
  ·exact h.part ((List.eraseIdx_sublist _ _).map _)
  ·refine h.part ?_
   rw[set_ml fun e he=>by rw[itAt_of he];rfl]
   exact .refl _
theorem QB.ends (h:QB n q) (u:Int) (b:Bool):QB n (qends q u b):=by
 unfold qends
 split
 ·exact h
 ·refine h.part ?_
  rw[List.map_map,show ml∘freeIt u=ml from rfl]
  exact List.filter_sublist.map _
theorem QB.put (h:QB n q) (m:Ms) (u:Int):QB (n+1) (qput q m u):=by
 unfold qput
 split
 ·rename_i h0
  unfold qputE at h0
  cases hr:msRight m with
  |false=>rw[if_pos hr]at h0;cases h0
  |true=>
   have h1:=msRight_parts hr
   exact h.pushed ⟨h1.2.2.1,h1.2.2.2.1⟩ ⟨h1.1,h1.2.1⟩ u
 ·exact h.le (Nat.le_succ n)
end
end WB
/- the house: numbers of 64 bits, rules; sealed texts; the disk -/
namespace WB
open Go Go.RowKit
def xorI (a c:Int):Int:=IntKind.u64.wrap ((BitVec.ofInt 64 a^^^BitVec.ofInt 64 c).toNat:Nat)
def mulI (a c:Int):Int:=IntKind.u64.wrap (a *c)
theorem wrap_u64 (n:Int):0≤IntKind.u64.wrap n∧IntKind.u64.wrap n≤18446744073709551615:=by
 have e:IntKind.u64.wrap n=n%18446744073709551616:=by simp[IntKind.wrap,IntKind.bits,IntKind.signed]
 rw[e];omega
section
variable {P:Program} {ops:Array Oper} {d:Bool} {Q:Exit→Act→World→Prop} {n:Nat} {D:List Deferred} {w0:World} {G:Env} {L R:List HP} {l:List (Kd×Oper)} {k:Kd}
 {t:Nat} {op:Op} {ty T T' E:TypeId} {pos:String} {af:Array Edge} {x y z:Operand} {a c r:Int} {kk yk:IntKind}
theorem KO.xorU (hx:ev G x=some (.int .u64 a)) (hy:ev G y=some (.int .u64 c)) (ht:Nat.blt t n=true) (h:KO P ops d Q n D w0 ((t,.int .u64 (xorI a c))::G) L l):
 KO P ops d Q n D w0 G L ((k,⟨some t,.binOp .xor T x y T',ty,pos,af,none⟩)::l):=
 KO.val (fun a' w ha=>by simp[execOp,ha.eval hx,ha.eval hy,eqGuard_at_int,binOp_xor,Op.intBits,xorI];rfl) ht h
theorem KO.mulU (hx:ev G x=some (.int .u64 a)) (hy:ev G y=some (.int .u64 c)) (ht:Nat.blt t n=true) (h:KO P ops d Q n D w0 ((t,.int .u64 (mulI a c))::G) L l):
 KO P ops d Q n D w0 G L ((k,⟨some t,.binOp .mul T x y T',ty,pos,af,none⟩)::l):=
 KO.val (fun a' w ha=>by simp[execOp,ha.eval hx,ha.eval hy,eqGuard_at_int,binOp_mul,Op.intArith,mulI]) ht h
theorem KO.eqPn {ad:Addr} (hx:ev G x=some (.pointer (some ad))) (hT:P.underlying T=some (.pointer E)) (ht:Nat.blt t n=true) (h:KO P ops d Q n D w0 ((t,.bool false)::G) L l):
 KO P ops d Q n D w0 G L ((k,⟨some t,.binOp .eql T x (.const (.pointer none)) T',ty,pos,af,none⟩)::l):=
 KO.val (fun a w ha=>by
  simp only[execOp,ha.eval hx,show a.eval (.const (.pointer none))=.pointer none from rfl]
  simp[go_sem,hT]) ht h
theorem KO.eqP0 (hx:ev G x=some (.pointer none)) (hT:P.underlying T=some (.pointer E)) (ht:Nat.blt t n=true) (h:KO P ops d Q n D w0 ((t,.bool true)::G) L l):
 KO P ops d Q n D w0 G L ((k,⟨some t,.binOp .eql T x (.const (.pointer none)) T',ty,pos,af,none⟩)::l):=
 KO.val (fun a w ha=>by
  simp only[execOp,ha.eval hx,show a.eval (.const (.pointer none))=.pointer none from rfl]
  simp[go_sem,hT]) ht h
theorem KO.shr3 (hx:ev G x=some (.int .u64 a)) (hy:ev G y=some (.int yk 3)) (ht:Nat.blt t n=true) (h:KO P ops d Q n D w0 ((t,.int .u64 (a/8))::G) L l):
 KO P ops d Q n D w0 G L ((k,⟨some t,.binOp .shr T x y T',ty,pos,af,none⟩)::l):=
 KO.val (fun a' w ha=>by simp[execOp,ha.eval hx,ha.eval hy,eqGuard_at_int,binOp_shr,shift_shr_u64]) ht h
theorem KO.b2u (hx:ev G x=some (.int .u8 a)) (hs:(P.underlying T).isSome=true) (hd:P.underlying T'=some (.int .u64)) (h0:0≤a∧a≤18446744073709551615) (ht:Nat.blt t n=true) (h:KO P ops d Q n D w0 ((t,.int .u64 a)::G) L l):
 KO P ops d Q n D w0 G L ((k,⟨some t,.convert T T' x,ty,pos,af,none⟩)::l):=
 KO.val (fun a' w ha=>by
  have :=run_convert_int (P:=P) w T T' .u8 a hs Y25
  simp[Program.intKind,hd,wrapU h0.1 h0.2]at this
  simp[execOp,ha.eval hx,this]) ht h
theorem KO.min2 {ts:Array TypeId} (hx:ev G x=some (.int .i64 a)) (hy:ev G y=some (.int .i64 c)) (hr:min a c=r) (ht:Nat.blt t n=true) (h:KO P ops d Q n D w0 ((t,.int .i64 r)::G) L l):
 KO P ops d Q n D w0 G L ((k,⟨some t,.call ⟨.builtin .min,#[x,y],ts⟩,ty,pos,af,none⟩)::l):=
 KO.val (fun a' w ha=>by
  subst hr
  simp[execOp,resolve,invoke,builtin,ha.eval hx,ha.eval hy,Builtin.min_,Builtin.min2]
  rw[Int.min_def];split<;>split<;>first|rfl|omega) ht h
theorem KO.div (hx:ev G x=some (.int .i64 a)) (hy:ev G y=some (.int .i64 c)) (hc:0<c) (ha0:0≤a) (ha1:a≤9223372036854775807) (ht:Nat.blt t n=true) (h:KO P ops d Q n D w0 ((t,.int .i64 (a/c))::G) L l):
 KO P ops d Q n D w0 G L ((k,⟨some t,.binOp .quo T x y T',ty,pos,af,none⟩)::l):=
 KO.val (fun a' w ha=>by
  have e:a.tdiv c=a/c:=Int.tdiv_eq_ediv_of_nonneg ha0
  have h1:0≤a/c:=Int.ediv_nonneg ha0 (by omega)
  have h2:a/c≤a:=Int.ediv_le_self _ ha0
  have h3:c≠0:=by omega
  simp[execOp,ha.eval hx,ha.eval hy,eqGuard_at_int,binOp_quo,Op.intDiv,h3,e,wrapI (by omega : -9223372036854775808≤a/c) (by omega)]) ht h
theorem KO.rem (hx:ev G x=some (.int .i64 a)) (hy:ev G y=some (.int .i64 c)) (hc:0<c) (ha0:0≤a) (ht:Nat.blt t n=true) (h:KO P ops d Q n D w0 ((t,.int .i64 (a%c))::G) L l):
 KO P ops d Q n D w0 G L ((k,⟨some t,.binOp .rem T x y T',ty,pos,af,none⟩)::l):=
 KO.val (fun a' w ha=>by
  have e:a.tmod c=a%c:=Int.tmod_eq_emod_of_nonneg ha0
  have h3:c≠0:=by omega
  simp[execOp,ha.eval hx,ha.eval hy,eqGuard_at_int,binOp_rem,Op.intDiv,h3,e]) ht h
end
def noB (c:UInt8) (s:ByteArray):Prop:= ∀b∈s.data.toList,b≠c
theorem noB_app {c:UInt8} {a b:ByteArray} (ha:noB c a) (hb:noB c b):noB c (a++b):=fun x hx=>by
 rw[show(a++b).data.toList=a.data.toList++b.data.toList by simp]at hx
 rcases List.mem_append.1 hx with h|h
 ·exact ha x h
 ·exact hb x h
def cutB (c:UInt8) (s:ByteArray):ByteArray×ByteArray×Bool:=(toB (Lib.cut s.data.toList [c]).1,toB (Lib.cut s.data.toList [c]).2.1,(Lib.cut s.data.toList [c]).2.2)
def chr1 (c:UInt8):ByteArray:=⟨#[c]⟩
def sumF (n:Int) (b:UInt8):Int:=mulI (xorI n (b.toNat:Nat)) 1099511628211
def sumL (l:List UInt8):Int:=l.foldl sumF 14695981039346656037
def sumS (s:ByteArray):Int:=sumL s.data.toList/8
theorem sumL_bound (l:List UInt8):0≤sumL l∧sumL l≤18446744073709551615:=by
 unfold sumL
 rcases List.eq_nil_or_concat l with rfl|⟨r,b,rfl⟩
 ·decide
 ·rw[List.concat_eq_append,List.foldl_append];exact wrap_u64 _
theorem sumS_bound (s:ByteArray):0≤sumS s∧sumS s≤2305843009213693951:=by
 have :=sumL_bound s.data.toList
 unfold sumS;omega
def sealT (k:Int) (s:ByteArray):ByteArray:=itoaS k++chr1 124++s
def sealS (k:Int) (s:ByteArray):ByteArray:=sealT k s++chr1 124++itoaS (sumS (sealT k s))
def openS (k:Int) (t:ByteArray):Option ByteArray:=match pcs 124 t with
 |[_,w,_]=>if sealS k w=t then some w else none
 |_=>none
structure Dk where
 places:List ByteArray
 cut:Bool
 left:Int
def dkNew:Dk:=⟨List.replicate 300 ⟨#[]⟩,false,0⟩
def dkCut (D:Dk) (n:Int):Dk:={D with cut:=decide (0≤n),left:=max n 0}
def dkTorn (s:ByteArray) (torn:Int):ByteArray:=s.extract 0 (min torn ((s.size:Int)-1)).toNat
def dkOff (D:Dk):Bool:=D.cut&&decide (D.left=0)
def dkWrite (D:Dk) (k:Nat) (s:ByteArray) (torn:Int):Dk:=
 if dkOff D=true then(if 0≤torn then {D with places:=D.places.set k (dkTorn s torn)}else D)else {D with left:=D.left-1,places:=D.places.set k s}
def dkErr (D:Dk):Int:=if dkOff D=true then 14 else 0
end WB
/- house: sum, sealed, opened; the disk -/
namespace Go.Proofs.YtjhogocabcdjbabGreatDoor
open Go Go.RowKit WB
theorem sum_e (w0:World) (L:List HP) (s:ByteArray) (hs:s.size≤1000000):KE Tryz.prog 232 #[.string s] w0 L (fun u M=>u=.int .i64 (sumS s)∧M=L):=by
 refine KE.mk (n:=21) Tryz.func232 rfl Tryz.ntmps232 (by simp) ?_
 intro w hw
 refine Z3 ?_
 refine Z135 ?_
 refine Z28 ?_
 refine KO.lenS rfl Tryz.underlying9 rfl ?_
 refine Z119 ?_
 refine K.loop (fun k:Nat=>[(0,.string s),(3,.int .u64 (sumL (s.data.toList.take k))),(6,.int .i64 (s.size:Nat)),(7,.int .i64 (k:Nat))]) (fun _=>[]) (fun k=>k≤s.size) (fun k=>s.size-k) 0
  (Nat.zero_le _) ⟨rfl,rfl,rfl,rfl,trivial⟩ (fun _ h=>h) ?_
 rintro k hk
 refine Z111 ?_
 refine K.condD rfl (fun h=>?_) (fun h=>?_)
 ·obtain⟨b,hb,hb2⟩:∃e,s[k]? =some e∧s.data.toList[k]? =some e:=⟨s[k]'(by omega),by simp,by simp[ByteArray.getElem_eq_getElem_data]⟩
  refine Z229 ?_
  refine Z83 ?_
  refine Z8 ?_
  refine Z34 ?_
  refine KO.idxStr rfl rfl Tryz.underlying9 Y68 Y63 rfl ?_
  refine KO.b2u rfl (by rw[Tryz.underlying5];rfl) Tryz.underlying224 (by have :=b.toNat_lt;omega) rfl ?_
  refine KO.xorU rfl rfl rfl ?_
  refine KO.mulU rfl rfl rfl ?_
  refine Z234 ?_
  refine KQ.round (k+1) (by omega) (by omega) ⟨rfl,?_,rfl,rfl,trivial⟩ (fun _ h=>h)
  simp only[envAt]
  rw[take_succ_some hb2]
  unfold sumL
  rw[List.foldl_append];rfl
 ·refine Z9 ?_
  have hkk:k=s.size:=by omega
  subst hkk
  have hb:=sumL_bound s.data.toList
  have e1:s.data.toList.take s.size=s.data.toList:=List.take_of_length_le (by simp)
  rw[e1]
  refine Z8 ?_
  refine KO.shr3 rfl rfl rfl ?_
  refine KO.u2i rfl (by rw[Tryz.underlying224];rfl) Tryz.underlying3 (by omega) rfl ?_
  refine Z33 ?_
  refine KQ.ret1 rfl rfl (fun w' hs=>⟨_,_,rfl,⟨rfl,rfl⟩,hw.below_step hs.below,hs.below⟩)
theorem sealed_e (w0:World) (L:List HP) (k:Int) (s:ByteArray) (hk:intB k) (hs:s.size≤900000) (hT:Tab w0):KE Tryz.prog 134 #[.int .i64 k,.string s] w0 L (fun u M=>u=.string (sealS k s)∧M=L):=by
 refine KE.mk (n:=17) Tryz.func134 rfl Tryz.ntmps134 (by simp) ?_
 intro w hw
 have hT:=hT.ext (Ext.of_below hw.below)
 have h1:=itoaS_size hk
 have h2:=sumS_bound (sealT k s)
 have h3:=itoaS_size (n:=sumS (sealT k s)) ⟨by omega,by omega⟩
 have hb1:(⟨#[124]⟩:ByteArray).size=1:=rfl
 have hb2:(chr1 124).size=1:=rfl
 have hc1:(itoaS k++⟨#[124]⟩:ByteArray).size=(itoaS k).size+1:=by rw[ByteArray.size_append,hb1]
 have hc2:(sealT k s++⟨#[124]⟩:ByteArray).size=(sealT k s).size+1:=by rw[ByteArray.size_append,hb1]
 have h4:(sealT k s).size≤900022:=by unfold sealT;simp only[ByteArray.size_append];omega
 refine Z150 ?_
 refine KO.ce (cp:=[]) rfl rfl rfl Tryz.call59 rfl (itoa_e w _ k hT hk) ?_;rintro v' L' ⟨rfl,rfl⟩
 refine Z121 ?_
 refine Z1 ?_
 refine Z121 ?_
 refine Z21 ?_
 rw[show itoaS k++⟨#[124]⟩++s=sealT k s from rfl]
 refine Z8 ?_
 refine Z121 ?_
 refine Z1 ?_
 refine KO.ce (cp:=[]) rfl rfl rfl Tryz.call232 rfl (sum_e w _ _ (by omega)) ?_;rintro v' L' ⟨rfl,rfl⟩
 refine KO.ce (cp:=[]) rfl rfl rfl Tryz.call59 rfl (itoa_e w _ _ hT ⟨by omega,by omega⟩) ?_;rintro v' L' ⟨rfl,rfl⟩
 refine Z121 ?_
 refine Z33 ?_
 refine KQ.ret1 rfl rfl (fun w' hs=>⟨_,_,rfl,⟨rfl,rfl⟩,hw.below_step hs.below,hs.below⟩)
theorem opened_e (w0:World) (L:List HP) (k:Int) (t:ByteArray) (hk:intB k) (ht:t.size≤800000) (hT:Tab w0) (hM:Lim w0):
 KE Tryz.prog 52 #[.int .i64 k,.string t] w0 L (fun u M=>u=.tuple #[.string ((openS k t).getD ⟨#[]⟩),.bool (openS k t).isSome]∧M=L):=by
 refine KE.mk (n:=24) Tryz.func52 rfl Tryz.ntmps52 (by simp) ?_
 intro w hw
 have hT:=hT.ext (Ext.of_below hw.below)
 have hM:=hM.ext (Ext.of_below hw.below)
 have hsz:∀p∈pcs 124 t,p.size≤t.size:=fun p hp=>pcs_size hp
 refine Z230 ?_
 refine Z28 ?_
 refine KO.ce (cp:=[]) rfl rfl rfl Tryz.call133 rfl (split_e w _ t 124 (by omega) hM) ?_;rintro v' L' ⟨bq,rfl,rfl⟩
 refine Z21 ?_
 have hno:(∀a b c,pcs 124 t≠[a,b,c])→openS k t=none:=fun h=>by
  unfold openS
  split
  ·rename_i a b c e;exact absurd e (h a b c)
  ·rfl
 by_cases h3:(pcs 124 t).length=3
 ·obtain⟨wa,wb,wc,he⟩:∃a b c,pcs 124 t=[a,b,c]:=by
   match h:pcs 124 t,h3 with
   |[a,b,c],_=>exact⟨a,b,c,rfl⟩
  rw[he]
  have hwb:wb.size≤800000:=by have :=hsz wb (by rw[he];simp);omega
  by_cases hse:sealS k wb=t
  ·have ho:openS k t=some wb:=by unfold openS;rw[he];simp[hse]
   rw[ho]
   refine Z8 ?_
   refine Z91 ?_
   refine Z65 ?_
   refine Z1 ?_
   refine KO.on rfl rfl (by simp) ?_;refine KO.idx0 (i:=1) rfl rfl Tryz.runUnderlying115 Tryz.sizeOf9 rfl (by simp) rfl ?_
   refine KO.on rfl rfl (by simp) ?_;refine KO.ldE0 (i:=1) (sz:=1) (cf:=strC) (e:=wb) rfl rfl Tryz.isAgg9 Y21 (fun _=>rfl) rfl Y68 Y68 rfl ?_
   refine KO.on rfl rfl (by simp) ?_;refine KO.ce (cp:=[]) rfl rfl rfl Tryz.call134 rfl (sealed_e w _ k wb hk (by omega) hT) ?_;rintro v' L' ⟨rfl,rfl⟩
   refine Z57 ?_
   refine Z264 ?_
   refine Z319 ?_
   refine K.condF rfl (by simp[hse]) ?_
   refine Z273 ?_
   refine Z58 ?_
   refine Z192 ?_
   refine KQ.ret2 rfl rfl rfl (fun w' hs=>⟨_,_,rfl,⟨rfl,rfl⟩,hw.below_step hs.below,hs.below⟩)
  ·have ho:openS k t=none:=by unfold openS;rw[he];simp[hse]
   rw[ho]
   refine Z8 ?_
   refine Z91 ?_
   refine Z65 ?_
   refine Z1 ?_
   refine KO.on rfl rfl (by simp) ?_;refine KO.idx0 (i:=1) rfl rfl Tryz.runUnderlying115 Tryz.sizeOf9 rfl (by simp) rfl ?_
   refine KO.on rfl rfl (by simp) ?_;refine KO.ldE0 (i:=1) (sz:=1) (cf:=strC) (e:=wb) rfl rfl Tryz.isAgg9 Y21 (fun _=>rfl) rfl Y68 Y68 rfl ?_
   refine KO.on rfl rfl (by simp) ?_;refine KO.ce (cp:=[]) rfl rfl rfl Tryz.call134 rfl (sealed_e w _ k wb hk (by omega) hT) ?_;rintro v' L' ⟨rfl,rfl⟩
   refine Z57 ?_
   refine Z264 ?_
   refine Z319 ?_
   refine K.condT rfl (by simp[hse]) ?_
   refine Z230 ?_
   refine Z59 ?_
   refine KQ.ret2 rfl rfl rfl (fun w' hs=>⟨_,_,rfl,⟨rfl,rfl⟩,hw.below_step hs.below,hs.below⟩)
 ·have ho:openS k t=none:=hno fun a b c e=>h3 (by rw[e];rfl)
  rw[ho]
  have h3i:¬(((pcs 124 t).length:Nat):Int)=3:=by omega
  refine Z8 ?_
  refine Z91 ?_
  refine Z202 ?_
  refine Z103 ?_
  refine Z279 ?_
  refine K.condT rfl (by simp[h3i]) ?_
  refine Z230 ?_
  refine Z59 ?_
  refine KQ.ret2 rfl rfl rfl (fun w' hs=>⟨_,_,rfl,⟨rfl,rfl⟩,hw.below_step hs.below,hs.below⟩)
def dkC (D:Dk):List Value:=D.places.map Value.string++[.bool D.cut,.int .i64 D.left]
def dkP (b:Nat) (D:Dk):HP:=blk b (.cells (dkC D).toArray 28 (0,0))
theorem dkC_len {D:Dk} (h:D.places.length=300):(dkC D).length=302:=by simp[dkC,h]
theorem dkC_cut {D:Dk} (h:D.places.length=300):(dkC D)[300]? =some (.bool D.cut):=by
 unfold dkC;rw[List.getElem?_append_right (by simp[h])];simp[h]
theorem dkC_left {D:Dk} (h:D.places.length=300):(dkC D)[301]? =some (.int .i64 D.left):=by
 unfold dkC;rw[List.getElem?_append_right (by simp[h])];simp[h]
theorem dkC_place {D:Dk} {k:Nat} {s:ByteArray} (h:D.places[k]? =some s):(dkC D)[k]? =some (.string s):=by
 have hk:=(List.getElem?_eq_some_iff.1 h).1
 unfold dkC;rw[List.getElem?_append_left (by simpa using hk),List.getElem?_map,h];rfl
theorem dkC_setP {D:Dk} {k:Nat} (s:ByteArray) (hk:k<D.places.length):(dkC D).set k (.string s)=dkC {D with places:=D.places.set k s}:=by
 unfold dkC;rw[List.set_append_left _ _ (by simpa using hk),List.map_set]
theorem dkC_setL {D:Dk} (h:D.places.length=300) (n:Int):(dkC D).set 301 (.int .i64 n)=dkC {D with left:=n}:=by
 unfold dkC;rw[List.set_append_right _ _ (by simp[h])];simp[h]
theorem dkC_setC {D:Dk} (h:D.places.length=300) (c:Bool):(dkC D).set 300 (.bool c)=dkC {D with cut:=c}:=by
 unfold dkC;rw[List.set_append_right _ _ (by simp[h])];simp[h]
theorem write_c (w0:World) (L:List HP) (b k:Nat) (D:Dk) (s:ByteArray) (torn:Int) (h3:D.places.length=300) (hk:k<300) (hl: -4000000000000000000≤D.left∧D.left≤9223372036854775807) (hs:0<s.size∧s.size≤1000000):
 KC Tryz.prog 156 #[.pointer (some ⟨b,0,none⟩),.int .i64 (k:Nat),.string s,.int .i64 torn] w0 (dkP b D::L) (fun u M=>u=errV 70 (dkErr D)∧M=dkP b (dkWrite D k s torn)::L):=by
 refine KC.mk (n:=48) Tryz.func156 rfl Tryz.ntmps156 (by simp) ?_
 refine Z280 ?_
 have hoff:dkOff D=(D.cut&&decide (D.left=0)):=rfl
 cases hcut:D.cut with
 |false=>
  have ho:dkOff D=false:=by rw[hoff,hcut];rfl
  refine Z120 ?_
  refine Z156 ?_
  refine Z96 ?_
  refine Z42 ?_
  refine Z27 ?_
  refine Z162 ?_
  refine Z120 ?_
  refine Z173 ?_
  refine KO.ldAt (i:=301) rfl rfl Tryz.isAgg3 .head rfl (dkC_left h3) rfl ?_
  refine Z201 ?_
  refine Z49 ?_
  refine Z173 ?_
  refine KO.stAt (i:=301) rfl rfl rfl Y68 Y45 rfl .head rfl Y33 ?_;rw[dkC_setL h3]
  refine Z0 ?_
  refine Z72 ?_
  refine Z26 ?_
  refine Z164 ?_
  refine KO.stAt (i:=k) rfl rfl rfl Y68 Y46 rfl .head Y31 Y26 ?_;rw[dkC_setP _ (by exact(by omega :k<D.places.length))]
  refine Z183 ?_
  refine KQ.ret1 rfl rfl (fun w' hs=>⟨_,_,rfl,⟨?_,rfl⟩,?_⟩)
  ·unfold dkErr;rw[if_neg (by simp[ho])];rfl
  ·unfold dkWrite;rw[if_neg (by simp[ho])];exact hs
 |true=>
  by_cases hl0:D.left=0
  ·have ho:dkOff D=true:=by rw[hoff,hcut,hl0];rfl
   refine Z120 ?_
   refine Z156 ?_
   refine Z65 ?_
   refine Z49 ?_
   refine KO.on rfl rfl rfl ?_;refine KO.fo0 (off:=301) rfl Tryz.runUnderlying28 rfl rfl Tryz.sizeOf3 rfl ?_
   refine KO.on rfl rfl rfl ?_;refine KO.ldAt (i:=301) rfl rfl Tryz.isAgg3 .head rfl (by rw[dkC_left h3,hl0]) rfl ?_
   refine Z287 ?_
   refine Z168 ?_
   refine Z117 ?_
   refine Z77 ?_
   refine Z2 ?_
   refine K.condD rfl (fun h5=>?_) (fun h5=>?_)
   ·(skip)
    refine K.draw [.pure,.pure,.pure,.pure,.pure,.pure,.pure,.pure,.pure,.pure,.pure,.pure,.write] [0,1,2,3,4,5,6,7,8,9,10,11,12] Y62 Y62 ?_
    refine Z34 ?_
    refine Z125 ?_
    refine KO.lenS rfl Tryz.underlying9 rfl ?_
    refine Z201 ?_
    refine KO.min2 rfl rfl rfl rfl ?_
    refine KO.strTo (i:=(min torn ((s.size:Int)-1)).toNat) rfl rfl Tryz.underlying9 (by omega) (by omega) rfl ?_
    refine Z49 ?_
    refine Z164 ?_
    refine KO.stAt (i:=k) rfl rfl rfl Y68 Y46 rfl .head Y31 Y33 ?_;rw[dkC_setP _ (by omega)]
    refine Z248 ?_
    refine Z30 ?_
    refine Z4 ?_
    refine KQ.ret1 rfl rfl (fun w' hs=>⟨_,_,rfl,⟨?_,rfl⟩,?_⟩)
    ·unfold dkErr;rw[if_pos ho];rfl
    ·unfold dkWrite dkP
     rw[if_pos ho,if_pos (by omega)]
     exact hs
   ·refine Z250 ?_
    refine Z30 ?_
    refine Z4 ?_
    refine KQ.ret1 rfl rfl (fun w' hs=>⟨_,_,rfl,⟨?_,rfl⟩,?_⟩)
    ·unfold dkErr;rw[if_pos ho];rfl
    ·unfold dkWrite
     rw[if_pos ho,if_neg (by omega)]
     exact hs
  ·have ho:dkOff D=false:=by rw[hoff,hcut];simpa using hl0
   refine Z120 ?_
   refine Z156 ?_
   refine Z65 ?_
   refine Z49 ?_
   refine KO.on rfl rfl rfl ?_;refine KO.fo0 (off:=301) rfl Tryz.runUnderlying28 rfl rfl Tryz.sizeOf3 rfl ?_
   refine KO.on rfl rfl rfl ?_;refine KO.ldAt (i:=301) rfl rfl Tryz.isAgg3 .head rfl (dkC_left h3) rfl ?_
   refine Z287 ?_
   refine Z45 ?_
   refine Z2 ?_
   refine K.condF rfl (by simpa using hl0) ?_
   refine Z6 ?_
   refine Z120 ?_
   refine Z173 ?_
   refine KO.ldAt (i:=301) rfl rfl Tryz.isAgg3 .head rfl (dkC_left h3) rfl ?_
   refine Z201 ?_
   refine Z49 ?_
   refine Z173 ?_
   refine KO.stAt (i:=301) rfl rfl rfl Y68 Y45 rfl .head rfl Y33 ?_;rw[dkC_setL h3]
   refine Z0 ?_
   refine Z72 ?_
   refine Z26 ?_
   refine Z164 ?_
   refine KO.stAt (i:=k) rfl rfl rfl Y68 Y46 rfl .head Y31 Y26 ?_;rw[dkC_setP _ (by exact(by omega :k<D.places.length))]
   refine Z183 ?_
   refine KQ.ret1 rfl rfl (fun w' hs=>⟨_,_,rfl,⟨?_,rfl⟩,?_⟩)
   ·unfold dkErr;rw[if_neg (by simp[ho])];rfl
   ·unfold dkWrite;rw[if_neg (by simp[ho])];exact hs
theorem cut_c (w0:World) (L:List HP) (b:Nat) (D:Dk) (n:Int) (h3:D.places.length=300):
 KC Tryz.prog 18 #[.pointer (some ⟨b,0,none⟩),.int .i64 n] w0 (dkP b D::L) (fun u M=>u=.tuple #[]∧M=dkP b (dkCut D n)::L):=by
 refine KC.mk (n:=14) Tryz.func18 rfl Tryz.ntmps18 (by simp) ?_
 refine Z8 ?_
 refine Z34 ?_
 refine Z77 ?_
 refine Z1 ?_
 refine KO.max2 rfl rfl rfl rfl ?_
 refine Z49 ?_
 refine KO.fo0 (off:=300) rfl Tryz.runUnderlying28 rfl rfl Tryz.sizeOf4 rfl ?_
 refine KO.stAt (i:=300) rfl rfl rfl Y68 (by exact Tryz.sizeOf4) rfl .head rfl Y33 ?_;rw[dkC_setC h3]
 refine Z49 ?_
 refine Z173 ?_
 refine KO.stAt (i:=301) rfl rfl rfl Y68 Y45 rfl .head rfl Y26 ?_;rw[dkC_setL (by exact h3)]
 refine KO.nil ?_
 refine KQ.end0 rfl (fun w' hs=>⟨_,_,rfl,⟨rfl,rfl⟩,hs⟩)
end Go.Proofs.YtjhogocabcdjbabGreatDoor
/- slices.Insert of one value. -/
namespace Go.Proofs.YtjhogocabcdjbabGreatDoor
open Go Go.RowKit WB
theorem nmInfo:(Tryz.prog.info? 75).map (fun i=>(i.zero,i.size,i.bytes))=some (some (Value.agg #[.string ⟨#[]⟩,.string ⟨#[]⟩,.int .i64 0]),3,40):=by kernel_rfl
set_option maxHeartbeats 1000000 in
theorem ins_end (w w0:World) (L:List HP) (v:Value) (n:Nat) (xs vs:List Value) (bv:Nat) (h:St w0 (osl 75 3 v n xs::blk bv (.cells vs.toArray 75 (0,0))::L) w)
 (hv:vs.length=3) (h1:∀u∈vs,u.oneCell'=true) (hn:n<1000000):
 Calls Tryz.prog 268 #[v,.int .i64 n,.slice (some ⟨bv,0,none⟩) 1 1] w fun e w'=> ∃v',e=.returned v'∧St w0 (osl 75 3 v' (n+1) (xs++vs)::L) w':=by
 obtain⟨i0,hi,hz0,hz1,hz2⟩:=info_parts nmInfo
 have hnews:HasCells w ⟨bv,0,none⟩ vs:=by
  have h2:=h.pick (.tail .head)
  exact h2.hasCells fun j u hj=>by simpa using hj
 obtain⟨v',w1,hr,hst⟩:=append_st (P:=Tryz.prog) 86 86 75 i0 _ 3 40 Tryz.underlying86 hi hz0 hz1 hz2 rfl h ⟨bv,0,none⟩ 1 1 vs (by rw[hv]) hnews h1 Y35 (by omega)
 have HR:=Lib.hid hr
 have HS:=Lib.hid hst
 have hcase:v=.slice none 0 0∧n=0∨∃g cap,v=.slice (some ⟨g,0,none⟩) n cap∧n≤cap:=by
  rcases h.osl_cases with⟨h1,h2,_⟩|⟨g,cap,_,h1,h2,_⟩
  ·exact .inl ⟨h1,h2⟩
  ·exact .inr ⟨g,cap,h1,h2⟩
 clear h hr hst hnews hi hz0 hz1 hz2
 rcases hcase with⟨rfl,rfl⟩|⟨g,cap,rfl,hnc⟩
 ·go_enter Tryz.func268,Tryz.ntmps268
  go_wp2_with (at_builtin;refine Lib.wpList_append_run _ rfl _ _ _ _ rfl _ _ rfl rfl _ _ HR.out ?_)
  go_ret
  exact⟨_,rfl,HS.out.swap2.drop⟩
 ·have hE:((n:Int)==(n:Int))=true:=by simp
  by_cases hcn:cap=n
  ·have hcn':n=cap:=hcn.symm
   subst hcn'
   go_enter Tryz.func268,Tryz.ntmps268
   go_wp2_with (at_builtin;refine Lib.wpList_append_run _ rfl _ _ _ _ rfl _ _ rfl rfl _ _ HR.out ?_)
   go_ret
   exact⟨_,rfl,HS.out.swap2.drop⟩
  ·go_enter Tryz.func268,Tryz.ntmps268
   go_wp2_with (at_builtin;refine Lib.wpList_append_run _ rfl _ _ _ _ rfl _ _ rfl rfl _ _ HR.out ?_)
   go_ret
   exact⟨_,rfl,HS.out.swap2.drop⟩
end Go.Proofs.YtjhogocabcdjbabGreatDoor
/- slices.Insert of one value, not at the end. -/
namespace Go.Proofs.YtjhogocabcdjbabGreatDoor
open Go Go.RowKit WB
set_option maxHeartbeats 2000000 in
set_option maxRecDepth 100000 in
theorem ins_room (w w0:World) (L:List HP) (g n cap k:Nat) (xs vs:List Value) (bv:Nat) (h:St w0 (osl 75 3 (.slice (some ⟨g,0,none⟩) n cap) n xs::blk bv (.cells vs.toArray 75 (0,0))::L) w)
 (hv:vs.length=3) (h1:∀u∈vs,u.oneCell'=true) (hx1:∀u∈xs,u.oneCell'=true) (hn:n<1000000) (hk:k<n) (hroom:n+1≤cap):
 Calls Tryz.prog 268 #[.slice (some ⟨g,0,none⟩) n cap,.int .i64 k,.slice (some ⟨bv,0,none⟩) 1 1] w fun e w'=> ∃v',e=.returned v'∧St w0 (osl 75 3 v' (n+1) (xs.take (k *3)++vs++xs.drop (k *3))::L) w':=by
 obtain⟨i0,hi,hz0,hz1,hz2⟩:=info_parts nmInfo
 rcases h.osl_cases with⟨hc,_⟩|⟨g',cap',cur,hc,hnc,hcm,hcs,htake,hxl,hblk⟩
 ·simp at hc
 ·simp only[Value.slice.injEq,Option.some.injEq,Addr.mk.injEq,and_true,true_and]at hc
  obtain⟨rfl,rfl⟩:=hc
  have hov:∀o n c o' n' c',(callFunc 361 #[.slice (some ⟨bv,o,none⟩) n c,.slice (some ⟨g,o',none⟩) n' c']).run Tryz.prog w=.ok (.value (.bool false)) w:=fun o n c o' n' c'=>by
   rw[run_callFunc_extern Tryz.func361 Y62 Y62 Y62 (e:=Extern.SlicesOverlaps.overlaps #[86,86] #[4]) Y62,
    overlaps_no 86 4 75 i0 Tryz.underlying86 hi hblk.swap2 o n c o' n' c' (by rw[hcs];omega)]
   rfl
  have HB:=Lib.hid hblk
  have hne:((k:Int)==(n:Int))=false:=by simp;omega
  have hcap:cap<9223372036854775808:=by unfold maxLen at hcm;omega
  have hsz:(cur.toList.take (n *3)).length=n *3:=by simp;omega
  have hcl:cur.toList.length=cap *3:=by simpa using hcs
  have hmin:Nat.min (n+1-k) (n-k)=n-k:=Nat.min_eq_right (by omega)
  have hm1:∀u∈(cur.toList.take (n *3)).drop (k *3),u.oneCell'=true:=fun u hu=>hx1 u (htake▸List.mem_of_mem_drop hu)
  have hl1:((cur.toList.take (n *3)).drop (k *3)).length=Nat.min (n+1-k) (n-k)*i0.size:=by
   rw[List.length_drop,hsz,hz1,hmin,Nat.sub_mul]
  have hc1:=run_copy_any (P:=Tryz.prog) w.drew 86 86 3 75 i0 g ((k+1)*3) (n-k) (cap-(k+1)) ⟨g,k *3,none⟩ (n+1-k) (cap-k) cur 75 _ Tryz.underlying86 hi hblk.drew.look.2 hl1
   (hblk.drew.hasCells fun j u hj=>by
    rw[List.getElem?_drop,List.getElem?_take]at hj
    split at hj
    ·simpa using hj
    ·simp at hj) (by rw[hl1,hz1,hmin,hcs];omega) hm1
  have hs1:=hblk.drew.setRow (c':=(cur.toList.take ((k+1)*3)++(cur.toList.take (n *3)).drop (k *3)++cur.toList.drop ((k+1)*3+((cur.toList.take (n *3)).drop (k *3)).length)).toArray)
  have hlen1:((cur.toList.take (n *3)).drop (k *3)).length=n *3-k *3:=by rw[List.length_drop,hsz]
  generalize hC1:cur.toList.take ((k+1)*3)++(cur.toList.take (n *3)).drop (k *3)++cur.toList.drop ((k+1)*3+((cur.toList.take (n *3)).drop (k *3)).length)=C1 at hc1 hs1
  have hC1l:C1.length=cap *3:=by rw[←hC1];simp only[List.length_append,List.length_take,hlen1,List.length_drop,hcl];omega
  have hc2:=run_copy_any (P:=Tryz.prog) (w.drew.setRow g C1.toArray) 86 86 3 75 i0 g (k *3) (n+1-k) (cap-k) ⟨bv,0,none⟩ 1 1 C1.toArray 75 vs Tryz.underlying86 hi hs1.look.2
   Y9 (hs1.drop.hasCells fun j u hj=>by simpa using hj) (by rw[hv];simp[hC1l];omega) h1
  have hs2:=hs1.setRow (c':=(C1.take (k *3)++vs++C1.drop (k *3+vs.length)).toArray)
  have hmin2:Nat.min 1 (n+1-k)=1:=Nat.min_eq_left (by omega)
  rw[hmin2]at hc2
  rw[hmin]at hc1
  have hfin:((C1.take (k *3)++vs++C1.drop (k *3+vs.length)).toArray).toList.take ((n+1)*3)=xs.take (k *3)++vs++xs.drop (k *3):=by
   have :=take_drop_splice cur.toList vs (k *3) 3 (n *3) (cap *3) (by omega) hv (by omega) hcl
   simp only[htake]at this
   rw[hv]
   have e:(k+1)*3=k *3+3:=by omega
   have e2:(n+1)*3=n *3+3:=by omega
   have e3:(k *3+3+(n *3-k *3))=n *3+3:=by omega
   rw[htake,e,show(xs.drop (k *3)).length=n *3-k *3 by rw[List.length_drop,hxl],e3]at hC1
   rw[←hC1,e2]
   exact this
  have hout:=hs2.osl_mk (n:=n+1) (size:=3) (cap:=cap) hroom hcm (by simp[hC1l,hv];omega) hfin
  generalize C1.take (k *3)++vs++C1.drop (k *3+vs.length)=C2 at hc2 hout hs2 hfin
  have HC1:=Lib.hid hc1
  have HC2:=Lib.hid hc2
  have HO:=Lib.hid hout
  clear h hblk hcm hi hz0 hz1 hz2 hcs htake hxl hx1 h1 hv hc1 hc2 hout hs1 hs2 hfin hC1 hlen1 hl1 hm1 hcl hsz hmin hmin2 hC1l
  go_enter Tryz.func268,Tryz.ntmps268
  go_wp2_with fail
  refine wp_region_ord [.pure,.pure,.pure,.pure,.pure,.pure,.pure,.pure,.write] [0,1,2,3,4,5,6,7,8] Y62 Y62 ?_
  simp only[List.map_cons,List.map_nil,item,List.getD_cons_zero,List.getD_cons_succ]
  repeat((with_reducible refine vcL_pure (v:=?_) (a':=?_) ?_ ?_ ?_ ?_);rotate_left 2;(rfl);((intro w';go_simp;(try(go_bits;(try go_simp);(try(go_bits;(try go_simp)))));(repeat(first|rewrite [if_pos (by omega)]|rewrite [if_neg (by omega)])))<;>rfl);(go_simp;rfl))
  refine vcL_writeVal (a':=?_) (v:=?_) (w':=?_) rfl ?_ ?_ ?_
  rotate_left 3
  ·rw[exec_copy2 _ _ _ _ rfl (.slice (some ⟨g,(k+1)*3,none⟩) (n-k) (cap-(k+1))) (.slice (some ⟨g,k *3,none⟩) (n+1-k) (cap-k)) rfl rfl HC1.out]
  ·go_simp;rfl
  refine vcL_nil ?_
  go_wp2_with (refine wpL_copy rfl _ _ _ _ rfl (.slice (some ⟨g,k *3,none⟩) (n+1-k) (cap-k)) (.slice (some ⟨bv,0,none⟩) 1 1) rfl rfl HC2.out ?_;intro K hK;go_simp)
  go_ret
  exact⟨_,rfl,HO.out.swap2.drop⟩
end Go.Proofs.YtjhogocabcdjbabGreatDoor
/- slices.Insert of one value, not at the end, no room. -/
namespace Go.Proofs.YtjhogocabcdjbabGreatDoor
open Go Go.RowKit WB
set_option maxHeartbeats 2000000 in
set_option maxRecDepth 100000 in
theorem ins_grow (w w0:World) (L:List HP) (g n k:Nat) (cap:Nat) (xs vs:List Value) (bv:Nat) (h:St w0 (osl 75 3 (.slice (some ⟨g,0,none⟩) n cap) n xs::blk bv (.cells vs.toArray 75 (0,0))::L) w)
 (hv:vs.length=3) (h1:∀u∈vs,u.oneCell'=true) (hx1:∀u∈xs,u.oneCell'=true) (hn:n<1000000) (hk:k<n) (hroom:cap<n+1):
 Calls Tryz.prog 268 #[.slice (some ⟨g,0,none⟩) n cap,.int .i64 k,.slice (some ⟨bv,0,none⟩) 1 1] w fun e w'=> ∃v',e=.returned v'∧St w0 (osl 75 3 v' (n+1) (xs.take (k *3)++vs++xs.drop (k *3))::L) w':=by
 obtain⟨i0,hi,hz0,hz1,hz2⟩:=info_parts nmInfo
 rcases h.osl_cases with⟨hc,_⟩|⟨g',cap',cur,hc,hnc,hcm,hcs,htake,hxl,hblk⟩
 ·simp at hc
 ·simp only[Value.slice.injEq,Option.some.injEq,Addr.mk.injEq,and_true,true_and]at hc
  obtain⟨rfl,rfl⟩:=hc
  have hcn:cap=n:=by omega
  have hne:((k:Int)==(n:Int))=false:=by simp;omega
  have hcl:cur.toList.length=cap *3:=by simpa using hcs
  have hxk:(xs.take (k *3)).length=k *3:=by rw[List.length_take,hxl];omega
  have hcell:∀(j:Nat) (u:Value),xs[j]? =some u→cur[j]? =some u:=fun j u hj=>by
   rw[←htake,List.getElem?_take]at hj
   split at hj
   ·simpa using hj
   ·simp at hj
  have hr:=run_append_zeros (P:=Tryz.prog) w 86 3 86 75 i0 _ .i64 .i64 Tryz.underlying86 Tryz.underlying3 hi hz0 ⟨g,0,none⟩ k cap (xs.take (k *3)) (by rw[hxk,hz1])
   (hblk.hasCells fun j u hj=>by
    rw[List.getElem?_take]at hj
    split at hj
    ·rw[Nat.zero_add];exact hcell j u hj
    ·simp at hj) (n+1-k) (by omega) (by rw[hz1];omega) (by omega) (by omega) (by rw[hz2];exact growslice_fits (by omega) (by omega)) (by rw[hz2];omega)
  have hge:=grownCap_ge w (k+(n+1-k)) cap 75
  have hle:=grownCap_le_maxLen w (k+(n+1-k)) cap 75 Y35
  have hs0:=hblk.drew.alloc (.cells ((xs.take (k *3)).toArray++Builtin.zeroCells (Value.agg #[.string ⟨#[]⟩,.string ⟨#[]⟩,.int .i64 0]).cells (n+1-k)++Builtin.zeroCells (Value.agg #[.string ⟨#[]⟩,.string ⟨#[]⟩,.int .i64 0]).cells (grownCap w (k+(n+1-k)) cap 75-(k+(n+1-k)))) 75)
  have hzl:∀q,(Builtin.zeroCells (Value.agg #[.string ⟨#[]⟩,.string ⟨#[]⟩,.int .i64 0]).cells q).size=q *3:=fun q=>by rw[size_zeroCells];rfl
  generalize hW:w.drew.alloc (.cells ((xs.take (k *3)).toArray++Builtin.zeroCells (Value.agg #[.string ⟨#[]⟩,.string ⟨#[]⟩,.int .i64 0]).cells (n+1-k)++Builtin.zeroCells (Value.agg #[.string ⟨#[]⟩,.string ⟨#[]⟩,.int .i64 0]).cells (grownCap w (k+(n+1-k)) cap 75-(k+(n+1-k)))) 75)=W at hr hs0
  clear hW
  generalize hcp:grownCap w (k+(n+1-k)) cap 75=cp at hr hs0 hge hle
  clear hcp
  have e1:k+(n+1-k)=n+1:=by omega
  rw[e1]at hr hge
  generalize hB:w.heap.size=B at hr
  have hB':w.drew.heap.size=B:=hB
  rw[hB']at hs0
  clear hB hB'
  generalize hZ:Builtin.zeroCells (Value.agg #[.string ⟨#[]⟩,.string ⟨#[]⟩,.int .i64 0]).cells (n+1-k)++Builtin.zeroCells (Value.agg #[.string ⟨#[]⟩,.string ⟨#[]⟩,.int .i64 0]).cells (cp-(k+(n+1-k)))=Z at hs0
  have hZl:Z.toList.length=(cp-k)*3:=by
   rw[←hZ];simp only[Array.length_toList,Array.size_append,hzl];omega
  have hC0:((xs.take (k *3)).toArray++Builtin.zeroCells (Value.agg #[.string ⟨#[]⟩,.string ⟨#[]⟩,.int .i64 0]).cells (n+1-k)++Builtin.zeroCells (Value.agg #[.string ⟨#[]⟩,.string ⟨#[]⟩,.int .i64 0]).cells (cp-(k+(n+1-k))))=(xs.take (k *3)++Z.toList).toArray:=by
   rw[←hZ];apply Array.ext';simp
  rw[hC0]at hs0
  clear hC0 hZ hzl
  have hs0':=hs0
  generalize hC0:xs.take (k *3)++Z.toList=C0 at hs0
  have hC0l:C0.length=cp *3:=by rw[←hC0,List.length_append,hxk,hZl];omega
  have hmin1:Nat.min 1 (n+1-k)=1:=Nat.min_eq_left (by omega)
  have hbv:St w0 (blk bv (.cells vs.toArray 75 (0,0))::blk B (.cells C0.toArray 75 (0,0))::blk g (.cells cur 75 (0,0))::L) W:=hs0.pick (.tail (.tail .head))
  have hc1:=run_copy_any (P:=Tryz.prog) W 86 86 3 75 i0 B (k *3) (n+1-k) (cp-k) ⟨bv,0,none⟩ 1 1 C0.toArray 75 vs Tryz.underlying86 hi hs0.look.2
   (by rw[hv,hz1,hmin1,Nat.one_mul]) (hbv.hasCells fun j u hj=>by simpa using hj) (by rw[hv];simp[hC0l];omega) h1
  have hs1:=hs0.setRow (c':=(C0.take (k *3)++vs++C0.drop (k *3+vs.length)).toArray)
  rw[hmin1]at hc1
  generalize hC1:C0.take (k *3)++vs++C0.drop (k *3+vs.length)=C1 at hc1 hs1
  have hC1l:C1.length=cp *3:=by rw[←hC1];simp only[List.length_append,List.length_take,List.length_drop,hC0l,hv];omega
  generalize hW1:W.setRow B C1.toArray=W1 at hc1 hs1
  clear hW1
  have hdl:(xs.drop (k *3)).length=(n-k)*3:=by rw[List.length_drop,hxl];omega
  have hmin2:Nat.min (n-k) (n-k)=n-k:=Nat.min_self _
  have hg1:St w0 (blk g (.cells cur 75 (0,0))::blk B (.cells C1.toArray 75 (0,0))::blk bv (.cells vs.toArray 75 (0,0))::L) W1.drew:=(hs1.pick (.tail .head)).drew
  have hc2:=run_copy_any (P:=Tryz.prog) W1.drew 86 86 3 75 i0 B ((k+1)*3) (n-k) (cp-(k+1)) ⟨g,k *3,none⟩ (n-k) (cap-k) C1.toArray 75 (xs.drop (k *3)) Tryz.underlying86 hi hs1.drew.look.2
   (by rw[hdl,hz1,hmin2]) (hg1.hasCells fun j u hj=>by rw[List.getElem?_drop]at hj;exact hcell _ u hj) (by rw[hdl];simp[hC1l];omega) (fun u hu=>hx1 u (List.mem_of_mem_drop hu))
  have hs2:=hs1.drew.setRow (c':=(C1.take ((k+1)*3)++xs.drop (k *3)++C1.drop ((k+1)*3+(xs.drop (k *3)).length)).toArray)
  rw[hmin2]at hc2
  have hfin:((C1.take ((k+1)*3)++xs.drop (k *3)++C1.drop ((k+1)*3+(xs.drop (k *3)).length)).toArray).toList.take ((n+1)*3)=xs.take (k *3)++vs++xs.drop (k *3):=by
   have :=grow_splice (xs.take (k *3)) Z.toList vs (xs.drop (k *3)) (k *3) 3 ((n-k)*3) hxk hv hdl
   simp only[hC0]at this
   rw[hv]at hC1
   rw[hC1]at this
   rw[hdl,show(k+1)*3=k *3+3 by omega,show(n+1)*3=k *3+3+(n-k)*3 by omega]
   exact this
  have hlen2:(C1.take ((k+1)*3)++xs.drop (k *3)++C1.drop ((k+1)*3+(xs.drop (k *3)).length)).length=cp *3:=by
   simp only[List.length_append,List.length_take,List.length_drop,hC1l,hxl];omega
  generalize C1.take ((k+1)*3)++xs.drop (k *3)++C1.drop ((k+1)*3+(xs.drop (k *3)).length)=C2 at hc2 hs2 hfin hlen2
  have hout:=hs2.osl_mk (n:=n+1) (size:=3) (cap:=cp) hge hle (by simpa using hlen2) hfin
  have e9:((n+1-k:Nat):Int)=(n:Int)+1-k:=by omega
  rw[e9]at hr
  clear e9
  have HR:=Lib.hid hr
  have HC1:=Lib.hid hc1
  have HC2:=Lib.hid hc2
  have HO:=Lib.hid hout
  have hcp2:cp<9223372036854775808:=by unfold maxLen at hle;omega
  clear h hblk hcm hi hz0 hz1 hz2 hcs htake hxl hx1 h1 hv hc1 hc2 hout hs0 hs0' hs1 hs2 hfin hlen2 hC0 hC0l hC1 hC1l hr hg1 hbv hdl hxk hcl hcell hZl hmin1 hmin2 hle e1 hcn
  go_enter Tryz.func268,Tryz.ntmps268
  go_wp2_with (first|(at_builtin;refine Lib.wpList_append_run _ rfl _ _ _ _ rfl _ _ rfl rfl _ _ HR.out ?_)|(refine wpL_copy rfl _ _ _ _ rfl (.slice (some ⟨B,k *3,none⟩) (n+1-k) (cp-k)) (.slice (some ⟨bv,0,none⟩) 1 1) rfl rfl HC1.out ?_;intro K hK;go_simp))
  refine wp_region_ord [.pure,.pure,.pure,.pure,.pure,.pure,.pure,.pure,.write] [0,1,2,3,4,5,6,7,8] Y62 Y62 ?_
  simp only[List.map_cons,List.map_nil,item,List.getD_cons_zero,List.getD_cons_succ]
  repeat((with_reducible refine vcL_pure (v:=?_) (a':=?_) ?_ ?_ ?_ ?_);rotate_left 2;(rfl);((intro w';go_simp;(try(go_bits;(try go_simp);(try(go_bits;(try go_simp)))));(repeat(first|rewrite [if_pos (by omega)]|rewrite [if_neg (by omega)])))<;>rfl);(go_simp;rfl))
  refine vcL_writeVal (a':=?_) (v:=?_) (w':=?_) rfl ?_ ?_ ?_
  rotate_left 3
  ·rw[exec_copy2 _ _ _ _ rfl (.slice (some ⟨B,(k+1)*3,none⟩) (n-k) (cp-(k+1))) (.slice (some ⟨g,k *3,none⟩) (n-k) (cap-k)) rfl rfl HC2.out]
  ·go_simp;rfl
  refine vcL_nil ?_
  go_wp2_with fail
  go_ret
  exact⟨_,rfl,HO.out.pick (.tail .head) |>.drop.pick (.tail .head) |>.drop⟩
end Go.Proofs.YtjhogocabcdjbabGreatDoor
/- names.Set. -/
namespace Go.Proofs.YtjhogocabcdjbabGreatDoor
open Go Go.RowKit WB
theorem ins_any (w w0:World) (L:List HP) (v:Value) (l:List Nm) (x:Nm) (k bv n:Nat) (hn:n=l.length) (h:St w0 (osl 75 3 v n (nmCells l)::blk bv (.cells x.cells.toArray 75 (0,0))::L) w)
 (hk:k≤l.length) (hn2:l.length<1000000):
 Calls Tryz.prog 268 #[v,.int .i64 k,.slice (some ⟨bv,0,none⟩) 1 1] w fun e w'=> ∃v',e=.returned v'∧St w0 (osl 75 3 v' (l.length+1) (nmCells (l.take k++x::l.drop k))::L) w':=by
 subst hn
 by_cases hkn:k=l.length
 ·subst hkn
  have :=ins_end w w0 L v l.length (nmCells l) x.cells bv h rfl x.cells_one hn2
  refine this.mono ?_
  rintro e w' ⟨v',he,hs⟩
  refine⟨v',he,?_⟩
  rw[show nmCells (l.take l.length++x::l.drop l.length)=nmCells l++x.cells by simp[nmCells]]
  exact hs
 ·have hlt:k<l.length:=by omega
  rcases h.osl_cases with⟨_,hz,_⟩|⟨g,cap,cur,rfl,hnc,_⟩
  ·omega
  ·rw[←nmCells_insert l x k hk]
   by_cases hr:l.length+1≤cap
   ·exact ins_room w w0 L g l.length cap k (nmCells l) x.cells bv h rfl x.cells_one (nmCells_one l) hn2 hlt hr
   ·exact ins_grow w w0 L g l.length k cap (nmCells l) x.cells bv h rfl x.cells_one (nmCells_one l) hn2 hlt (by omega)
theorem right_is (x:Nm) (b:Bool) (w:World) (h1:x.name.size≤maxLen) (h2:x.tgt.size≤maxLen) (hb:rightNm x=b):
 Calls Tryz.prog 267 #[.agg x.cells.toArray] w fun e w'=>e=.returned (.bool b)∧Below w.heap.size w w':=by
 rw[←hb];exact right_any x w h1 h2
set_option maxHeartbeats 1000000 in
theorem set_bad (b off:Nat) (c:Array Value) (T:TypeId) (v:Value) (l:List Nm) (x:Nm) (w w0:World) (L:List HP)
 (h:St w0 (blk b (.cells c T (0,0))::osl 75 3 v l.length (nmCells l)::L) w) (hr:rightNm x=false) (h1:x.name.size≤maxLen) (h2:x.tgt.size≤maxLen):
 Calls Tryz.prog 170 #[.pointer (some ⟨b,off,none⟩),.agg x.cells.toArray] w fun e w'=>e=.returned (.iface 70 (.int .i64 1))∧
  St w0 (blk b (.cells c T (0,0))::osl 75 3 v l.length (nmCells l)::L) w':=by
 have HC:=Lib.hid (fun w=>right_is x false w h1 h2 hr)
 have hs0:=h.alloc (.cells x.cells.toArray 75)
 have HS:=Lib.hid hs0
 clear h h1 h2 hr hs0
 obtain⟨a,t,n⟩:=x
 simp only[Nm.cells]at HC HS ⊢
 go_enter Tryz.func170,Tryz.ntmps170
 go_wp2_with fail
 refine(HC.out _).mono ?_
 rintro e w1 ⟨rfl,hb1⟩
 have HS1:=Lib.hid (HS.out.below_step hb1)
 clear hb1
 go_wp2_with fail
 go_ret
 exact⟨rfl,HS1.out.drop⟩
end Go.Proofs.YtjhogocabcdjbabGreatDoor
/- names.Set, of what may be. -/
namespace Go.Proofs.YtjhogocabcdjbabGreatDoor
open Go Go.RowKit WB
set_option maxHeartbeats 1000000 in
theorem set_full (b off:Nat) (c:Array Value) (T:TypeId) (v:Value) (l:List Nm) (x:Nm) (w w0:World) (L:List HP)
 (h:St w0 (blk b (.cells c T (0,0))::osl 75 3 v l.length (nmCells l)::L) w) (hc:c[off]? =some v) (hr:rightNm x=true) (h1:x.name.size≤maxLen) (h2:x.tgt.size≤maxLen)
 (hm:Mono l x.name) (hl:20≤l.length) (hl2:l.length<1000000) (hit:hitB l x.name (srchN l x.name)=false):
 Calls Tryz.prog 170 #[.pointer (some ⟨b,off,none⟩),.agg x.cells.toArray] w fun e w'=>e=.returned (.iface 70 (.int .i64 12))∧
  St w0 (blk b (.cells c T (0,0))::osl 75 3 v l.length (nmCells l)::L) w':=by
 have HC:=Lib.hid (fun w=>right_is x true w h1 h2 hr)
 have hs0:=h.alloc (.cells x.cells.toArray 75)
 have HS:=Lib.hid hs0
 have HF:=Lib.hid (fun(w:World) (h:St w0 (blk b (.cells c T (0,0))::osl 75 3 v l.length (nmCells l)::L) w)=>find_any b off c T (0,0) v l x.name w w0 L h hc hl2 hm)
 have HK:=Lib.hid (fun k (hk:Srch l x.name k)=>srch_eq hk)
 have HI:=Lib.hid hit
 have hv:∃a cap,v=.slice a l.length cap:=by
  rcases h.drop.osl_cases with⟨hv,hz,_⟩|⟨g,cap,_,hv,_⟩
  ·exact⟨none,0,by rw[hv,hz]⟩
  ·exact⟨_,_,hv⟩
 obtain⟨a,cap,rfl⟩:=hv
 have HCC:=Lib.hid hc
 clear h h1 h2 hr hs0 hm hit hc
 generalize hN:l.length=n at *
 have HN:=Lib.hid hN
 clear hN
 obtain⟨nm,t,hs⟩:=x
 simp only[Nm.cells]at HC HS HF HK HI ⊢
 go_enter Tryz.func170,Tryz.ntmps170
 go_wp2_with fail
 refine(HC.out _).mono ?_
 rintro e w1 ⟨rfl,hb1⟩
 have HS1:=Lib.hid (HS.out.below_step hb1)
 have c0:=HS1.out.cell (off:=0) rfl
 clear hb1
 go_wp2_with fail
 refine(HF.out _ HS1.out.drop).mono ?_
 rintro e w2 ⟨k,hk,rfl,hb2⟩
 have HS2:=Lib.hid (HS1.out.below_step hb2)
 rw[HK.out k hk,HI.out]
 clear hb2 c0 hk
 have c1:w2.cell? ⟨b,off,none⟩=some (.slice a n cap):=HS2.out.cellP (.tail .head) HCC.out
 go_wp2_with fail
 go_ret
 exact⟨rfl,HS2.out.drop⟩
set_option maxHeartbeats 2000000 in
set_option maxRecDepth 100000 in
theorem set_hit (b off:Nat) (c:Array Value) (T:TypeId) (v:Value) (l:List Nm) (x:Nm) (w w0:World) (L:List HP)
 (h:St w0 (blk b (.cells c T (0,0))::osl 75 3 v l.length (nmCells l)::L) w) (hc:c[off]? =some v) (hr:rightNm x=true) (h1:x.name.size≤maxLen) (h2:x.tgt.size≤maxLen)
 (hm:Mono l x.name) (hl2:l.length<1000000) (hit:hitB l x.name (srchN l x.name)=true):
 Calls Tryz.prog 170 #[.pointer (some ⟨b,off,none⟩),.agg x.cells.toArray] w fun e w'=>e=.returned .nilIface∧
  St w0 (blk b (.cells c T (0,0))::osl 75 3 v l.length (nmCells (l.set (srchN l x.name) x))::L) w':=by
 have HC:=Lib.hid (fun w=>right_is x true w h1 h2 hr)
 have hs0:=h.alloc (.cells x.cells.toArray 75)
 have HS:=Lib.hid hs0
 have HF:=Lib.hid (fun(w:World) (h:St w0 (blk b (.cells c T (0,0))::osl 75 3 v l.length (nmCells l)::L) w)=>find_any b off c T (0,0) v l x.name w w0 L h hc hl2 hm)
 have HK:=Lib.hid (fun k (hk:Srch l x.name k)=>srch_eq hk)
 have HI:=Lib.hid hit
 have hklt:srchN l x.name<l.length:=by
  unfold hitB at hit
  rw[Bool.and_eq_true]at hit
  simpa using hit.1
 have HSET:=Lib.hid (nmCells_set l x (srchN l x.name) hklt)
 have hv:∃g cap,v=.slice (some ⟨g,0,none⟩) l.length cap:=by
  rcases h.drop.osl_cases with⟨hv,hz,_⟩|⟨g,cap,_,hv,_⟩
  ·omega
  ·exact⟨_,_,hv⟩
 obtain⟨g,cap,rfl⟩:=hv
 have HCC:=Lib.hid hc
 clear h h1 h2 hr hs0 hm hit hc
 generalize hN:l.length=n at *
 have HN:=Lib.hid hN
 clear hN
 obtain⟨nm,t,hs⟩:=x
 simp only[Nm.cells]at HC HS HF HK HI HSET hklt ⊢
 generalize hK:srchN l nm=k0 at *
 clear hK
 go_enter Tryz.func170,Tryz.ntmps170
 go_wp2_with fail
 refine(HC.out _).mono ?_
 rintro e w1 ⟨rfl,hb1⟩
 have HS1:=Lib.hid (HS.out.below_step hb1)
 have c0:=HS1.out.cell (off:=0) rfl
 clear hb1
 go_wp2_with fail
 refine(HF.out _ HS1.out.drop).mono ?_
 rintro e w2 ⟨k,hk,rfl,hb2⟩
 have HS2:=Lib.hid (HS1.out.below_step hb2)
 obtain rfl:=HK.out k hk
 rw[HI.out]
 clear hb2 c0 hk
 have c1:w2.cell? ⟨b,off,none⟩=some (.slice (some ⟨g,0,none⟩) n cap):=HS2.out.cellP (.tail .head) HCC.out
 have c2:HasCells w2 ⟨w.heap.size,0,none⟩ [.string nm,.string t,.int .i64 hs]:=HS2.out.hasCells fun j u hj=>by simpa using hj
 obtain⟨w3,hw3,hs3⟩:∃w3,(storeVar 75 ⟨g,k *3,none⟩ (.agg #[.string nm,.string t,.int .i64 hs])).run Tryz.prog w2.drew=.ok () w3∧
  St w0 (blk b (.cells c T (0,0))::osl 75 3 (.slice (some ⟨g,0,none⟩) n cap) n (nmCells (l.set k ⟨nm,t,hs⟩))::L) w3:=by
  have h4:=(HS2.out.drop.pick (.tail .head)).drew
  rcases h4.osl_cases with⟨hc,_⟩|⟨g',cap',cur,hc,hnc,hcm,hcs,htake,hxl,hblk⟩
  ·simp at hc
  ·simp only[Value.slice.injEq,Option.some.injEq,Addr.mk.injEq,and_true,true_and]at hc
   obtain⟨rfl,rfl⟩:=hc
   refine⟨_,run_store_row hblk (by simp[Value.cells]) (by simp[Value.cells];omega) (by simp[Value.cells];exact⟨rfl,rfl,rfl⟩),?_⟩
   refine((hblk.setRow).osl_mk hnc hcm ?_ ?_).swap2
   ·simp[Value.cells];omega
   ·rw[←HSET.out,←htake]
    exact splice_take cur.toList [.string nm,.string t,.int .i64 hs] (k *3) 3 (n *3) rfl (by omega) Y61
 have HW3:=Lib.hid hw3
 have HS3:=Lib.hid hs3
 clear hw3 hs3
 go_wp2_with fail
 refine wp_region_ord [.pure,.pure,.pure,.read,.pure,.read,.pure,.write] [0,1,2,3,4,5,6,7] Y62 Y62 ?_
 simp only[List.map_cons,List.map_nil,item,List.getD_cons_zero,List.getD_cons_succ]
 repeat((with_reducible refine vcL_pure (v:=?_) (a':=?_) ?_ ?_ ?_ ?_);rotate_left 2;(rfl);((intro w';go_simp;(try(go_bits;(try go_simp);(try(go_bits;(try go_simp)))));((skip)))<;>rfl);(go_simp;rfl))
 refine vcL_ld1 (a':=?_) (v:=.slice (some ⟨g,0,none⟩) n cap) (ad:=⟨b,off,none⟩) rfl rfl (fun _=>by simp) c1 ?_ ?_
 rotate_left 1
 ·go_simp;rfl
 repeat((with_reducible refine vcL_pure (v:=?_) (a':=?_) ?_ ?_ ?_ ?_);rotate_left 2;(rfl);((intro w';go_simp;(try(go_bits;(try go_simp);(try(go_bits;(try go_simp)))));((skip)))<;>rfl);(go_simp;rfl))
 refine vcL_ldn (a':=?_) (cs:=[.string nm,.string t,.int .i64 hs]) (ad:=⟨w.heap.size,0,none⟩) rfl rfl (fun _=>by simp) (fun _=>by simp) c2 ?_ ?_
 rotate_left 1
 ·go_simp;rfl
 repeat((with_reducible refine vcL_pure (v:=?_) (a':=?_) ?_ ?_ ?_ ?_);rotate_left 2;(rfl);((intro w';go_simp;(try(go_bits;(try go_simp);(try(go_bits;(try go_simp)))));((skip)))<;>rfl);(go_simp;rfl))
 refine vcL_writeSkip (a':=?_) (w':=w3) rfl ?_ ?_ ?_
 rotate_left 1
 ·exact exec_store rfl rfl HW3.out
 ·go_simp;rfl
 refine vcL_nil ?_
 clear c1 c2
 go_wp2_with fail
 go_ret
 exact⟨rfl,HS3.out⟩
end Go.Proofs.YtjhogocabcdjbabGreatDoor
/- names.Set, of a new name. -/
namespace Go.Proofs.YtjhogocabcdjbabGreatDoor
open Go Go.RowKit WB
set_option maxHeartbeats 4000000 in
set_option maxRecDepth 100000 in
theorem set_new (b off:Nat) (c:Array Value) (T:TypeId) (v:Value) (l:List Nm) (x:Nm) (w w0:World) (L:List HP)
 (h:St w0 (blk b (.cells c T (0,0))::osl 75 3 v l.length (nmCells l)::L) w) (hc:c[off]? =some v) (hr:rightNm x=true) (h1:x.name.size≤maxLen) (h2:x.tgt.size≤maxLen)
 (hm:Mono l x.name) (hl:l.length<20) (hit:hitB l x.name (srchN l x.name)=false):
 Calls Tryz.prog 170 #[.pointer (some ⟨b,off,none⟩),.agg x.cells.toArray] w fun e w'=>e=.returned .nilIface∧
  ∃v',St w0 (blk b (.cells (c.setIfInBounds off v') T (0,0))::osl 75 3 v' (l.length+1) (nmCells (l.take (srchN l x.name)++x::l.drop (srchN l x.name)))::L) w':=by
 have HC:=Lib.hid (fun w=>right_is x true w h1 h2 hr)
 have hs0:=h.alloc (.cells x.cells.toArray 75)
 have HS:=Lib.hid hs0
 have HF:=Lib.hid (fun(w:World) (h:St w0 (blk b (.cells c T (0,0))::osl 75 3 v l.length (nmCells l)::L) w)=>find_any b off c T (0,0) v l x.name w w0 L h hc (by omega) hm)
 have HK:=Lib.hid (fun k (hk:Srch l x.name k)=>srch_eq hk)
 have HI:=Lib.hid hit
 have hkle:srchN l x.name≤l.length:=takeWhile_len_le _ _
 have HINS:=Lib.hid (fun(w:World) (bv:Nat) (L':List HP) (h:St w0 (osl 75 3 v l.length (nmCells l)::blk bv (.cells x.cells.toArray 75 (0,0))::L') w)=>ins_any w w0 L' v l x (srchN l x.name) bv l.length rfl h hkle (by omega))
 have hv:∃a cap,v=.slice a l.length cap:=by
  rcases h.drop.osl_cases with⟨hv,hz,_⟩|⟨g,cap,_,hv,_⟩
  ·exact⟨none,0,by rw[hv,hz]⟩
  ·exact⟨_,_,hv⟩
 obtain⟨sa,cap,rfl⟩:=hv
 have HCC:=Lib.hid hc
 have hoff:off<c.size:=(Array.getElem?_eq_some_iff.1 hc).1
 clear h h1 h2 hr hs0 hm hit hc
 obtain⟨nm,t,hs⟩:=x
 simp only[Nm.cells]at HC HS HF HK HI HINS hkle ⊢
 generalize hK:srchN l nm=k0 at *
 generalize hN:l.length=n at HF HINS HS HCC hkle hl ⊢
 clear hK
 go_enter Tryz.func170,Tryz.ntmps170
 go_wp2_with fail
 refine(HC.out _).mono ?_
 rintro e w1 ⟨rfl,hb1⟩
 have HS1:=Lib.hid (HS.out.below_step hb1)
 have c0:=HS1.out.cell (off:=0) rfl
 clear hb1
 go_wp2_with fail
 refine(HF.out _ HS1.out.drop).mono ?_
 rintro e w2 ⟨k,hk,rfl,hb2⟩
 have HS2:=Lib.hid (HS1.out.below_step hb2)
 obtain rfl:=HK.out k hk
 rw[HI.out]
 clear hb2 c0 hk
 have c1:w2.cell? ⟨b,off,none⟩=some (.slice sa n cap):=HS2.out.cellP (.tail .head) HCC.out
 have c2:HasCells w2 ⟨w.heap.size,0,none⟩ [.string nm,.string t,.int .i64 hs]:=HS2.out.hasCells fun j u hj=>by simpa using hj
 go_wp2_with fail
 refine wp_region_ord [.pure,.pure,.pure,.pure,.read,.pure,.read,.keep,.write,.pure,.pure,.write] [0,1,2,3,4,5,6,9,10,7,8,11] Y62 Y62 ?_
 simp only[List.map_cons,List.map_nil,item,List.getD_cons_zero,List.getD_cons_succ]
 repeat((with_reducible refine vcL_pure (v:=?_) (a':=?_) ?_ ?_ ?_ ?_);rotate_left 2;(rfl);((intro w';go_simp;(try(go_bits;(try go_simp);(try(go_bits;(try go_simp)))));((skip)))<;>rfl);(go_simp;rfl))
 refine vcL_ld1 (a':=?_) (v:=.slice sa n cap) (ad:=⟨b,off,none⟩) rfl rfl (fun _=>by simp) c1 ?_ ?_
 rotate_left 1
 ·go_simp;rfl
 repeat((with_reducible refine vcL_pure (v:=?_) (a':=?_) ?_ ?_ ?_ ?_);rotate_left 2;(rfl);((intro w';go_simp;(try(go_bits;(try go_simp);(try(go_bits;(try go_simp)))));((skip)))<;>rfl);(go_simp;rfl))
 refine vcL_ldn (a':=?_) (cs:=[.string nm,.string t,.int .i64 hs]) (ad:=⟨w.heap.size,0,none⟩) rfl rfl (fun _=>by simp) (fun _=>by simp) c2 ?_ ?_
 rotate_left 1
 ·go_simp;rfl
 repeat((with_reducible refine vcL_pure (v:=?_) (a':=?_) ?_ ?_ ?_ ?_);rotate_left 2;(rfl);((intro w';go_simp;(try(go_bits;(try go_simp);(try(go_bits;(try go_simp)))));((skip)))<;>rfl);(go_simp;rfl))
 refine vcL_keepRun (a':=?_) (v:=.slice (some ⟨w2.heap.size,0,none⟩) 1 1) (w':=(w2.alloc (.cells #[.string nm,.string t,.int .i64 hs] 75)).drew) rfl ?_ ?_ ?_ ?_
 rotate_left 1
 ·go_simp
 ·exact Ext.alloc w2 _
 ·go_simp;rfl
 have hs3:=HS2.out.alloc (.cells #[.string nm,.string t,.int .i64 hs] 75)
 have hs4:St w0 (osl 75 3 (.slice sa n cap) n (nmCells l)::blk w2.heap.size (.cells [Value.string nm,Value.string t,Value.int .i64 hs].toArray 75 (0,0))::blk w.heap.size (.cells #[.string nm,.string t,.int .i64 hs] 75)::blk b (.cells c T (0,0))::L)
  (w2.alloc (.cells #[.string nm,.string t,.int .i64 hs] 75)).drew:=(hs3.pick (.tail (.tail (.tail .head)))).drew
 refine vcL_writeCall rfl (f:=268) (args:=#[.slice sa n cap,.int .i64 k,.slice (some ⟨w2.heap.size,0,none⟩) 1 1]) (w':=(w2.alloc (.cells #[.string nm,.string t,.int .i64 hs] 75)).drew) ?_ (HINS.out _ _ _ hs4) ?_
 ·go_simp
 rintro e w3 ⟨v',rfl,hs5⟩
 refine⟨v',rfl,?_⟩
 have hv':∃sa' n' cap',v'=.slice sa' n' cap':=by
  rcases hs5.osl_cases with⟨hv,_⟩|⟨g,cap,_,hv,_⟩
  ·exact⟨_,_,_,hv⟩
  ·exact⟨_,_,_,hv⟩
 obtain⟨sa',n',cap',rfl⟩:=hv'
 have hb6:St w0 (blk b (.cells c T (0,0))::osl 75 3 (.slice sa' n' cap') (n+1) (nmCells (l.take k++⟨nm,t,hs⟩::l.drop k))::blk w.heap.size (.cells #[.string nm,.string t,.int .i64 hs] 75)::L) w3:=hs5.pick (.tail (.tail .head))
 have hst:=run_store_row (P:=Tryz.prog) (T:=86) (off:=off) (v:=.slice sa' n' cap') hb6 (by simp[Value.cells]) (by simp[Value.cells];omega) (by simp[Value.cells];rfl)
 have hs7:=hb6.setRow (c':=(c.toList.take off++(Value.slice sa' n' cap').cells.toList++c.toList.drop (off+(Value.slice sa' n' cap').cells.toList.length)).toArray)
 have e7:(c.toList.take off++(Value.slice sa' n' cap').cells.toList++c.toList.drop (off+(Value.slice sa' n' cap').cells.toList.length)).toArray=c.setIfInBounds off (.slice sa' n' cap'):=setRow_one hoff
 rw[e7]at hst hs7
 refine vcL_writeSkip (a':=?_) (w':=w3.setRow b (c.setIfInBounds off (.slice sa' n' cap'))) rfl ?_ ?_ ?_
 rotate_left 1
 ·exact exec_store rfl rfl hst
 ·go_simp;rfl
 have HS7:=Lib.hid (hs7.pick (.tail (.tail .head))).drop
 clear hs3 hs4 hs5 hb6 hs7 hst e7 c1 c2
 refine vcL_nil ?_
 go_wp2_with fail
 go_ret
 exact⟨rfl,_,HS7.out⟩
end Go.Proofs.YtjhogocabcdjbabGreatDoor
/- names: Set, Local. -/
namespace Go.Proofs.YtjhogocabcdjbabGreatDoor
open Go Go.RowKit WB
theorem set_any (b off:Nat) (c:Array Value) (T:TypeId) (v:Value) (l:List Nm) (x:Nm) (w w0:World) (L:List HP)
 (h:St w0 (blk b (.cells c T (0,0))::osl 75 3 v l.length (nmCells l)::L) w) (hc:c[off]? =some v) (h1:x.name.size≤maxLen) (h2:x.tgt.size≤maxLen)
 (hm:Mono l x.name) (hl:l.length≤20):
 Calls Tryz.prog 170 #[.pointer (some ⟨b,off,none⟩),.agg x.cells.toArray] w fun e w'=>e=.returned (errV 70 (setErr l x))∧
  ∃v',St w0 (blk b (.cells (c.setIfInBounds off v') T (0,0))::osl 75 3 v' (setNm l x).length (nmCells (setNm l x))::L) w':=by
 cases hr:rightNm x with
 |false=>
  refine(set_bad b off c T v l x w w0 L h hr h1 h2).mono ?_
  rintro e w' ⟨rfl,hs⟩
  refine⟨by simp[errV,setErr,hr],v,?_⟩
  rw[set_same hc];simp only[setNm,hr,if_true];exact hs
 |true=>
  cases hit:hitB l x.name (srchN l x.name)with
  |true=>
   refine(set_hit b off c T v l x w w0 L h hc hr h1 h2 hm (by omega) hit).mono ?_
   rintro e w' ⟨rfl,hs⟩
   refine⟨by simp[errV,setErr,hr,hit],v,?_⟩
   rw[set_same hc];simp only[setNm,hr,hit,if_true,Bool.true_eq_false,if_false,List.length_set];exact hs
  |false=>
   by_cases hf:20≤l.length
   ·refine(set_full b off c T v l x w w0 L h hc hr h1 h2 hm hf (by omega) hit).mono ?_
    rintro e w' ⟨rfl,hs⟩
    refine⟨by simp[errV,setErr,hr,hit,hf],v,?_⟩
    rw[set_same hc];simp only[setNm,hr,hit,hf,if_true,Bool.true_eq_false,Bool.false_eq_true,if_false];exact hs
   ·refine(set_new b off c T v l x w w0 L h hc hr h1 h2 hm (by omega) hit).mono ?_
    rintro e w' ⟨rfl,v',hs⟩
    refine⟨by simp[errV,setErr,hr,hit,hf],v',?_⟩
    have hk:srchN l x.name≤l.length:=takeWhile_len_le _ _
    have e1:setNm l x=l.take (srchN l x.name)++x::l.drop (srchN l x.name):=by simp[setNm,hr,hit,hf]
    rw[e1,show(l.take (srchN l x.name)++x::l.drop (srchN l x.name)).length=l.length+1 by simp;omega]
    exact hs
set_option maxHeartbeats 1000000 in
theorem local_any (b off:Nat) (c:Array Value) (T:TypeId) (v:Value) (l:List Nm) (s:ByteArray) (w w0:World) (L:List HP)
 (h:St w0 (blk b (.cells c T (0,0))::osl 75 3 v l.length (nmCells l)::L) w) (hc:c[off]? =some v) (hm:Mono l s) (hl:l.length<1000000):
 Calls Tryz.prog 57 #[.pointer (some ⟨b,off,none⟩),.string s] w fun e w'=>e=.returned (.bool (localB l s))∧Below w.heap.size w w':=by
 have HF:=Lib.hid (find_any b off c T (0,0) v l s w w0 L h hc hl hm)
 have HK:=Lib.hid (fun k (hk:Srch l s k)=>srch_eq hk)
 have HS:=Lib.hid h
 have HCC:=Lib.hid hc
 cases hit:hitB l s (srchN l s)with
 |false=>
  have HI:=Lib.hid hit
  have HE:=Lib.hid (show localB l s=false by simp[localB,look_none hit])
  clear h hm hit hc
  go_enter Tryz.func57,Tryz.ntmps57
  go_wp2_with fail
  refine HF.out.mono ?_
  rintro e w2 ⟨k,hk,rfl,hb2⟩
  have HB2:=Lib.hid hb2
  rw[HK.out k hk,HI.out]
  clear hb2 hk
  go_wp2_with fail
  go_ret
  exact⟨ret_bool HE.out.symm,HB2.out⟩
 |true=>
  have hlt:=hit_lt hit
  have hv:∃g cap,v=.slice (some ⟨g,0,none⟩) l.length cap:=by
   rcases h.drop.osl_cases with⟨hv,hz,_⟩|⟨g,cap,_,hv,_⟩
   ·omega
   ·exact⟨_,_,hv⟩
  obtain⟨g,cap,rfl⟩:=hv
  have HI:=Lib.hid hit
  have HE:=Lib.hid (show localB l s=emptyB (nmAt l (srchN l s)).tgt by simp[localB,look_some hit])
  have HN:=Lib.hid (show srchN l s<l.length from hlt)
  clear h hm hit hc
  generalize hN:l.length=n at HF hlt hl
  generalize hK:srchN l s=k0 at HI HE HN HK hlt
  clear hK
  cases he:emptyB (nmAt l k0).tgt with
  |false=>
   have he1:(nmAt l k0).tgt.toList.isEmpty=false:=he
   have he2:((nmAt l k0).tgt.toList==[])=false:=by simpa[emptyB]using he
   have HE2:=Lib.hid he
   have HNN:=Lib.hid hN
   clear he hN
   go_enter Tryz.func57,Tryz.ntmps57
   go_wp2_with fail
   refine HF.out.mono ?_
   rintro e w2 ⟨k,hk,rfl,hb2⟩
   have HB2:=Lib.hid hb2
   have HS2:=Lib.hid (HS.out.below_step hb2)
   obtain rfl:=HK.out k hk
   rw[HI.out]
   clear hb2 hk
   have c1:w2.cell? ⟨b,off,none⟩=some (.slice (some ⟨g,0,none⟩) n cap):=by rw[←HNN.out];exact HS2.out.cell HCC.out
   obtain⟨d0,d1,d2⟩:=nm_cells HS2.out.drop HN.out
   go_wp2_with fail
   go_ret
   exact⟨ret_bool (by rw[HE.out,HE2.out]),HB2.out⟩
  |true=>
   have he1:(nmAt l k0).tgt.toList.isEmpty=true:=he
   have he2:(nmAt l k0).tgt.toList=[]:=by simpa[emptyB]using he
   have HE2:=Lib.hid he
   have HNN:=Lib.hid hN
   clear he hN
   go_enter Tryz.func57,Tryz.ntmps57
   go_wp2_with fail
   refine HF.out.mono ?_
   rintro e w2 ⟨k,hk,rfl,hb2⟩
   have HB2:=Lib.hid hb2
   have HS2:=Lib.hid (HS.out.below_step hb2)
   obtain rfl:=HK.out k hk
   rw[HI.out]
   clear hb2 hk
   have c1:w2.cell? ⟨b,off,none⟩=some (.slice (some ⟨g,0,none⟩) n cap):=by rw[←HNN.out];exact HS2.out.cell HCC.out
   obtain⟨d0,d1,d2⟩:=nm_cells HS2.out.drop HN.out
   go_wp2_with fail
   go_ret
   exact⟨ret_bool (by rw[HE.out,HE2.out]),HB2.out⟩
end Go.Proofs.YtjhogocabcdjbabGreatDoor
/- names.Resolve. -/
namespace Go.Proofs.YtjhogocabcdjbabGreatDoor
open Go Go.RowKit WB
def ResRel (l:List Nm) (s:ByteArray) (w:World) (x i:Value) (wr:World):Prop:=
 ∃(k:Nat) (t:ByteArray),k≤l.length+1∧x=.string t∧i=.int .i64 k∧resN l (l.length+1-k) t=resN l (l.length+1) s∧Below w.heap.size w wr
def ResPost (l:List Nm) (s:ByteArray) (w:World) (e:Ending) (w':World):Prop:=
 e=.returned (.tuple #[.string (resN l (l.length+1) s).1,.int .i64 (resN l (l.length+1) s).2.1,errV 70 (resN l (l.length+1) s).2.2])∧Below w.heap.size w w'
theorem ResPost.mk {l:List Nm} {s:ByteArray} {w w':World} {r:ByteArray×Int×Int} (h:r=resN l (l.length+1) s) (hb:Below w.heap.size w w') {v:Value} (hv:v=errV 70 r.2.2):
 ResPost l s w (.returned (.tuple #[.string r.1,.int .i64 r.2.1,v])) w':=by
 subst hv;rw[h];exact⟨rfl,hb⟩
set_option maxHeartbeats 4000000 in
set_option maxRecDepth 100000 in
theorem resolve_any (b off:Nat) (c:Array Value) (T:TypeId) (v:Value) (l:List Nm) (s:ByteArray) (w w0:World) (L:List HP)
 (h:St w0 (blk b (.cells c T (0,0))::osl 75 3 v l.length (nmCells l)::L) w) (hc:c[off]? =some v) (hm:∀s,Mono l s) (hl:l.length<1000000):
 Calls Tryz.prog 144 #[.pointer (some ⟨b,off,none⟩),.string s] w (ResPost l s w):=by
 have hv:∃sa cap,v=.slice sa l.length cap∧(0<l.length→∃g,sa=some ⟨g,0,none⟩):=by
  rcases h.drop.osl_cases with⟨hv,hz,_⟩|⟨g,cap,_,hv,_⟩
  ·exact⟨none,0,by rw[hv,hz],fun h=>by omega⟩
  ·exact⟨_,_,hv,fun _=>⟨g,rfl⟩⟩
 obtain⟨sa,cap,rfl,hsa⟩:=hv
 have HF:=Lib.hid (fun(w:World) (t:ByteArray) (h:St w0 (blk b (.cells c T (0,0))::osl 75 3 (.slice sa l.length cap) l.length (nmCells l)::L) w)=>find_any b off c T (0,0) _ l t w w0 L h hc hl (hm t))
 have HS:=Lib.hid h
 have HCC:=Lib.hid hc
 have HSA:=Lib.hid hsa
 have c0:w.cell? ⟨b,off,none⟩=some (.slice sa l.length cap):=h.cell hc
 clear h hm hc hsa
 obtain⟨n,hN⟩:∃n,l.length=n:=⟨_,rfl⟩
 rw[hN]at c0 hl
 have HN:=Lib.hid hN
 clear hN
 go_enter Tryz.func144,Tryz.ntmps144
 go_wp2_with fail
 clear c0
 go_loopw [1,16] (fun x i wr=>ResRel l s w x i wr) (fun _ i _=>(n+1-(intOf i).toNat))
 case atStart=>exact⟨0,s,by omega,rfl,rfl,rfl,Below.refl _ _⟩
 case round=>
  obtain⟨k,t,hk,rfl,rfl,hr,hbel⟩:=hrel
  rw[HN.out]at hk
  have HR:=Lib.hid hr
  have HB:=Lib.hid hbel
  have HS1:=Lib.hid (HS.out.below_step hbel)
  clear hr hbel
  by_cases hlt:k<n+1
  ·obtain⟨m,hm⟩:∃m,n+1-k=m+1:=⟨n-k,by omega⟩
   have HM:=Lib.hid (show l.length+1-k=m+1 by rw[HN.out];exact hm)
   have HM2:=Lib.hid (show l.length+1-(k+1)=m by rw[HN.out];omega)
   clear hm
   cases hit:hitB l t (srchN l t)with
   |false=>
    have HI:=Lib.hid hit
    have HE:=Lib.hid (show(⟨#[]⟩,0,7)=resN l (l.length+1) s by rw[←HR.out,HM.out,resN,look_none hit])
    clear hit
    go_wp2_with fail
    refine(HF.out _ _ HS1.out).mono ?_
    rintro e w2 ⟨k',hk',rfl,hb2⟩
    have HB2:=Lib.hid (HB.out.trans (hb2.mono HB.out.size))
    rw[srch_eq hk',HI.out]
    clear hb2 hk'
    go_wp2_with fail
    go_ret3
    exact ResPost.mk HE.out HB2.out rfl
   |true=>
    have hlt2:=hit_lt hit
    obtain⟨g,rfl⟩:=HSA.out (by omega)
    have HI:=Lib.hid hit
    have HL:=Lib.hid (look_some hit)
    have HLT:=Lib.hid hlt2
    have hlt3:srchN l t<n:=by rw[←HN.out];exact hlt2
    clear hit hlt2
    cases he:emptyB (nmAt l (srchN l t)).tgt with
    |true=>
     have HE:=Lib.hid (show(t,-1,0)=resN l (l.length+1) s by rw[←HR.out,HM.out,resN,HL.out];simp only[he,if_true])
     have he1:(nmAt l (srchN l t)).tgt.toList.isEmpty=true:=he
     have he2:(nmAt l (srchN l t)).tgt.toList=[]:=by simpa[emptyB]using he
     clear he
     generalize hK:srchN l t=k0 at *
     have HK:=Lib.hid hK
     clear hK
     go_wp2_with fail
     refine(HF.out _ _ HS1.out).mono ?_
     rintro e w2 ⟨k',hk',rfl,hb2⟩
     have HB2:=Lib.hid (HB.out.trans (hb2.mono HB.out.size))
     have HS2:=Lib.hid (HS1.out.below_step hb2)
     rw[srch_eq hk',HK.out,HI.out]
     clear hb2 hk'
     have c1:w2.cell? ⟨b,off,none⟩=some (.slice (some ⟨g,0,none⟩) n cap):=by rw[←HN.out];exact HS2.out.cell HCC.out
     obtain⟨d0,d1,d2⟩:=nm_cells HS2.out.drop HLT.out
     go_wp2_with fail
     go_ret3
     exact ResPost.mk HE.out (HB2.out.alloc HB2.out.size _) rfl
    |false=>
     have he1:(nmAt l (srchN l t)).tgt.toList.isEmpty=false:=he
     have he2:((nmAt l (srchN l t)).tgt.toList==[])=false:=by simpa[emptyB]using he
     by_cases hh:0≤(nmAt l (srchN l t)).house
     ·have HE:=Lib.hid (show((nmAt l (srchN l t)).tgt,(nmAt l (srchN l t)).house,0)=resN l (l.length+1) s by rw[←HR.out,HM.out,resN,HL.out];simp only[he,hh,if_true,Bool.false_eq_true,if_false])
      have hd:decide (0≤(nmAt l (srchN l t)).house)=true:=by simpa using hh
      clear he hh
      generalize hK:srchN l t=k0 at *
      have HK:=Lib.hid hK
      clear hK
      go_wp2_with fail
      refine(HF.out _ _ HS1.out).mono ?_
      rintro e w2 ⟨k',hk',rfl,hb2⟩
      have HB2:=Lib.hid (HB.out.trans (hb2.mono HB.out.size))
      have HS2:=Lib.hid (HS1.out.below_step hb2)
      rw[srch_eq hk',HK.out,HI.out]
      clear hb2 hk'
      have c1:w2.cell? ⟨b,off,none⟩=some (.slice (some ⟨g,0,none⟩) n cap):=by rw[←HN.out];exact HS2.out.cell HCC.out
      obtain⟨d0,d1,d2⟩:=nm_cells HS2.out.drop HLT.out
      go_wp2_with fail
      refine wp_region_ord [.pure,.read,.pure,.read,.pure,.pure,.pure] [0,1,2,3,4,5,6] Y62 Y62 ?_
      simp only[List.map_cons,List.map_nil,item,List.getD_cons_zero,List.getD_cons_succ]
      repeat((with_reducible refine vcL_pure (v:=?_) (a':=?_) ?_ ?_ ?_ ?_);rotate_left 2;(rfl);((intro w';go_simp;(try(go_bits;(try go_simp);(try(go_bits;(try go_simp)))));((skip)))<;>rfl);(go_simp;rfl))
      refine vcL_ld1 (a':=?_) (v:=.string (nmAt l k0).tgt) (ad:=⟨w2.heap.size,1,none⟩) rfl rfl (fun _=>by simp) (by simp) ?_ ?_
      rotate_left 1
      ·go_simp;rfl
      repeat((with_reducible refine vcL_pure (v:=?_) (a':=?_) ?_ ?_ ?_ ?_);rotate_left 2;(rfl);((intro w';go_simp;(try(go_bits;(try go_simp);(try(go_bits;(try go_simp)))));((skip)))<;>rfl);(go_simp;rfl))
      refine vcL_ld1 (a':=?_) (v:=.int .i64 (nmAt l k0).house) (ad:=⟨w2.heap.size,2,none⟩) rfl rfl (fun _=>by simp) (by simp) ?_ ?_
      rotate_left 1
      ·go_simp;rfl
      repeat((with_reducible refine vcL_pure (v:=?_) (a':=?_) ?_ ?_ ?_ ?_);rotate_left 2;(rfl);((intro w';go_simp;(try(go_bits;(try go_simp);(try(go_bits;(try go_simp)))));((skip)))<;>rfl);(go_simp;rfl))
      refine vcL_nil ?_
      go_wp2_with fail
      go_ret3
      exact ResPost.mk HE.out (HB2.out.alloc HB2.out.size _).drew rfl
     ·have HE:=Lib.hid (show resN l m (nmAt l (srchN l t)).tgt=resN l (l.length+1) s by rw[←HR.out,HM.out,resN,HL.out];simp only[he,hh,Bool.false_eq_true,if_false])
      have hd:decide (0≤(nmAt l (srchN l t)).house)=false:=by simpa using hh
      clear he hh
      generalize hK:srchN l t=k0 at *
      have HK:=Lib.hid hK
      clear hK
      go_wp2_with fail
      refine(HF.out _ _ HS1.out).mono ?_
      rintro e w2 ⟨k',hk',rfl,hb2⟩
      have HB2:=Lib.hid (HB.out.trans (hb2.mono HB.out.size))
      have HS2:=Lib.hid (HS1.out.below_step hb2)
      rw[srch_eq hk',HK.out,HI.out]
      clear hb2 hk'
      have c1:w2.cell? ⟨b,off,none⟩=some (.slice (some ⟨g,0,none⟩) n cap):=by rw[←HN.out];exact HS2.out.cell HCC.out
      obtain⟨d0,d1,d2⟩:=nm_cells HS2.out.drop HLT.out
      go_wp2_with fail
      go_roundw
      case rel=>exact⟨k+1,(nmAt l k0).tgt,by rw[HN.out];omega,rfl,by go_num,by rw[HM2.out];exact HE.out,HB2.out.alloc HB2.out.size _⟩
      case measure=>simp[intOf];omega
  ·obtain rfl:k=n+1:=by omega
   have HE:=Lib.hid (show(⟨#[]⟩,0,11)=resN l (l.length+1) s by rw[←HR.out,HN.out,Nat.sub_self];rfl)
   go_wp2_with fail
   go_ret3
   exact ResPost.mk HE.out HB.out rfl
end Go.Proofs.YtjhogocabcdjbabGreatDoor
/- names: the contracts in the calculus; Drop, All. -/
namespace Go.Proofs.YtjhogocabcdjbabGreatDoor
open Go Go.RowKit WB
abbrev nmS (v:Value) (l:List Nm):HP:=SL 75 3 Nm.cells v l
theorem nm_info:(Tryz.prog.info? 75).map (fun i=>(i.zero,i.size,i.bytes))=some (some (Value.agg #[.string ⟨#[]⟩,.string ⟨#[]⟩,.int .i64 0]),3,40):=by kernel_rfl
theorem nm_one (x:Nm):x.cells.all Value.oneCell'=true:=rfl
section
variable (w0:World) (L R R2:List HP) (b off:Nat) (cs:List Value) (T:TypeId) (v:Value) (l:List Nm) (s:ByteArray) (x:Nm)
theorem find_e (hp:Pick L (blk b (.cells cs.toArray T (0,0))) R) (hq:Pick R (nmS v l) R2) (hc:cs[off]? =some v) (hl:l.length<1000000) (hs:Sorted l):
 KE Tryz.prog 148 #[.pointer (some ⟨b,off,none⟩),.string s] w0 L (fun u M=>u=.tuple #[.int .i64 (srchN l s:Nat),.bool (hitB l s (srchN l s))]∧M=L):=fun w hw=>
 (find_any b off cs.toArray T (0,0) v l s w w0 R2 (hw.pick2 hp hq) (by simpa using hc) hl (hs.mono s)).mono fun e w' ⟨k,hk,he,hb⟩=>by
  obtain rfl:=srch_eq hk
  exact⟨_,_,he,⟨rfl,rfl⟩,hw.below_step hb,hb⟩
theorem local_e (hp:Pick L (blk b (.cells cs.toArray T (0,0))) R) (hq:Pick R (nmS v l) R2) (hc:cs[off]? =some v) (hl:l.length<1000000) (hs:Sorted l):
 KE Tryz.prog 57 #[.pointer (some ⟨b,off,none⟩),.string s] w0 L (fun u M=>u=.bool (localB l s)∧M=L):=fun w hw=>
 (local_any b off cs.toArray T v l s w w0 R2 (hw.pick2 hp hq) (by simpa using hc) (hs.mono s) hl).mono fun e w' ⟨he,hb⟩=>⟨_,_,he,⟨rfl,rfl⟩,hw.below_step hb,hb⟩
theorem resolve_e (hp:Pick L (blk b (.cells cs.toArray T (0,0))) R) (hq:Pick R (nmS v l) R2) (hc:cs[off]? =some v) (hl:l.length<1000000) (hs:Sorted l):
 KE Tryz.prog 144 #[.pointer (some ⟨b,off,none⟩),.string s] w0 L (fun u M=>u=.tuple #[.string (resN l (l.length+1) s).1,.int .i64 (resN l (l.length+1) s).2.1,errV 70 (resN l (l.length+1) s).2.2]∧M=L):=fun w hw=>
 (resolve_any b off cs.toArray T v l s w w0 R2 (hw.pick2 hp hq) (by simpa using hc) hs.mono hl).mono fun e w' ⟨he,hb⟩=>⟨_,_,he,⟨rfl,rfl⟩,hw.below_step hb,hb⟩
theorem nset_c (hp:Pick L (blk b (.cells cs.toArray T (0,0))) R) (hq:Pick R (nmS v l) R2) (hc:cs[off]? =some v) (h1:x.name.size≤maxLen) (h2:x.tgt.size≤maxLen) (hl:l.length≤20) (hs:Sorted l):
 KC Tryz.prog 170 #[.pointer (some ⟨b,off,none⟩),.agg x.cells.toArray] w0 L (fun u M=>u=errV 70 (setErr l x)∧∃v',M=blk b (.cells (cs.set off v').toArray T (0,0))::nmS v' (setNm l x)::R2):=fun w hw=>
 (set_any b off cs.toArray T v l x w w0 R2 (hw.pick2 hp hq) (by simpa using hc) h1 h2 (hs.mono _) hl).mono fun e w' ⟨he,v',hs'⟩=>⟨_,_,he,⟨rfl,v',rfl⟩,by
  rw[List.setIfInBounds_toArray]at hs';exact hs'⟩
end
theorem nmdel_c (w0:World) (L:List HP) (v:Value) (xs:List Nm) (k:Nat) (hk:k<xs.length) (hn:xs.length<1000000):
 KC Tryz.prog 338 #[v,.int .i64 (k:Nat),.int .i64 ((k:Int)+1)] w0 (nmS v xs::L) (fun v' L'=>L'=nmS v' (xs.eraseIdx k)::L):=by
 refine KC.pre (fun w hw=>SL_some hw hk) ?_
 rintro⟨g,cap,rfl⟩
 refine KC.pre (fun w hw=>(SL_open hw).2.1) fun hnc=>?_
 refine KC.mk (n:=33) Tryz.func338 rfl Tryz.ntmps338 (by simp) ?_
 refine Z150 ?_
 refine Z125 ?_
 refine KO.len rfl Tryz.underlying86 rfl ?_
 refine KO.cutAny (lo:=k) (hi:=k+1) (mx:=xs.length) rfl rfl rfl rfl Tryz.underlying86 Tryz.sizeOf75 rfl (by omega) rfl (by omega) (by omega) (by omega) rfl (fun q13=>?_)
 refine Z0 ?_
 refine Z72 ?_
 refine Z246 ?_
 refine K.condF rfl Y61 ?_
 refine Z273 ?_
 refine KO.len rfl Tryz.underlying86 rfl ?_
 refine Z196 ?_
 refine Z34 ?_
 refine KO.cutTo rfl rfl Tryz.underlying86 Tryz.sizeOf75 Y68 (by omega) rfl ?_
 refine Z34 ?_
 refine KO.cutFrom (lo:=k+1) rfl rfl Tryz.underlying86 Tryz.sizeOf75 (by omega) (by omega) (by omega) rfl ?_
 refine KO.move (j:=k+1) rfl rfl rfl Pick.head rfl hnc Tryz.underlying86 nm_info (fun _=>rfl) nm_one (by omega) (by omega) rfl ?_
 refine Z28 ?_
 refine Z1 ?_
 refine KO.len rfl Tryz.underlying86 rfl ?_
 refine Z1 ?_
 refine KO.cutMid (lo:=k+(xs.length-(k+1))) (hi:=xs.length) rfl rfl rfl Tryz.underlying86 Tryz.sizeOf75 rfl rfl (by omega) (by omega) rfl ?_
 refine KO.clear rfl rfl Pick.head hnc Y61 Y61 Tryz.underlying86 nm_info (fun _=>rfl) rfl rfl ?_
 refine Z348 ?_
 refine Z33 ?_
 refine KQ.ret1 rfl rfl (fun w' hs=>⟨_,_,rfl,rfl,?_⟩)
 have e:(List.take (k+(xs.length-(k+1))) (List.take k xs++List.drop (k+1) xs++List.drop (k+(xs.length-(k+1))) xs))=xs.eraseIdx k:=by
  rw[List.take_append_of_le_length Y61,List.take_of_length_le Y61,List.eraseIdx_eq_take_drop_succ]
 rw[e]at hs
 exact hs
theorem ndrop_c (w0:World) (L R R2:List HP) (b off:Nat) (cs:List Value) (T:TypeId) (v:Value) (l:List Nm) (s:ByteArray)
 (hp:Pick L (blk b (.cells cs.toArray T (0,0))) R) (hq:Pick R (nmS v l) R2) (hc:cs[off]? =some v) (hl:l.length<1000000) (hs:Sorted l):
 KC Tryz.prog 237 #[.pointer (some ⟨b,off,none⟩),.string s] w0 L (fun u M=>u=errV 70 (dropErr l s)∧∃v',M=blk b (.cells (cs.set off v').toArray T (0,0))::nmS v' (dropNm l s)::R2):=by
 refine KC.perm (L':=blk b (.cells cs.toArray T (0,0))::nmS v l::R2) (fun w hw=>hw.pick2 hp hq) ?_
 have hoff:=(List.getElem?_eq_some_iff.1 hc).1
 refine KC.mk (n:=27) Tryz.func237 rfl Tryz.ntmps237 (by simp) ?_
 refine Z352 ?_
 refine KO.ce (cp:=[]) rfl rfl rfl Tryz.call148 rfl (find_e w0 _ _ _ b off cs T v l s .head .head hc hl hs) ?_;rintro v' L' ⟨rfl,rfl⟩
 refine Z106 ?_
 refine Z70 ?_
 refine Z2 ?_
 cases hh:hitB l s (srchN l s)with
 |false=>
  have e1:dropErr l s=7:=by unfold dropErr;rw[hh];rfl
  have e2:dropNm l s=l:=by unfold dropNm;rw[hh];rfl
  refine Z275 ?_
  refine Z218 ?_
  refine KQ.ret1 rfl rfl (fun w' hs=>⟨_,_,rfl,⟨?_,v,rfl⟩,?_⟩)
  ·rw[e1];rfl
  ·rw[e2,List.set_getElem_of hc];exact hs
 |true=>
  have e1:dropErr l s=0:=by unfold dropErr;rw[hh];rfl
  have e2:dropNm l s=l.eraseIdx (srchN l s):=by unfold dropNm;rw[hh];rfl
  have hk:=hit_lt hh
  refine Z295 ?_
  refine Z6 ?_
  refine Z171 ?_
  refine Z297 ?_
  refine KO.ldAt (i:=off) rfl rfl Tryz.isAgg86 .head rfl hc rfl ?_
  refine Z34 ?_
  refine Z23 ?_
  refine KO.cl (cp:=[]) rfl rfl rfl Tryz.call338 rfl (KC.pk1 (.tail .head) (nmdel_c w0 _ v l (srchN l s) hk hl)) ?_;rintro v' L' rfl;refine KO.fact (fun _ hs=>SL_form hs) ?_;rintro⟨a',c',rfl,-⟩
  refine Z49 ?_
  refine Z297 ?_
  refine KO.stAt (i:=off) rfl rfl rfl Y68 (by exact Tryz.sizeOf86) rfl (.tail .head) rfl hoff ?_
  refine Z183 ?_
  refine KQ.ret1 rfl rfl (fun w' hs=>⟨_,_,rfl,⟨?_,.slice a' (l.eraseIdx (srchN l s)).length c',rfl⟩,?_⟩)
  ·rw[e1];rfl
  ·rw[e2];exact hs
theorem nmclone_e (w0:World) (L:List HP) (v:Value) (xs:List Nm) (hs:∀w,St w0 L w→Src w Nm.cells v xs) (hn:xs.length<1000000):
 KE Tryz.prog 266 #[v] w0 L (fun u M=>M=nmS u xs::L):=by
 refine KE.mk (n:=8) Tryz.func266 rfl Tryz.ntmps266 (by simp) ?_
 intro w hw
 obtain⟨a,cap,rfl,hn0,hc⟩:=hs w hw
 refine Z280 ?_
 cases a with
 |none=>
  obtain rfl:=hn0 rfl
  refine Z8 ?_
  refine KO.eqSn rfl Tryz.underlying86 rfl ?_
  refine Z55 ?_
  refine Z193 ?_
  refine KQ.ret1 rfl rfl (fun w' hs=>⟨_,_,rfl,rfl,SL_nil (hw.below_step hs.below),hs.below⟩)
 |some ad=>
  refine Z8 ?_
  refine KO.eqSn rfl Tryz.underlying86 rfl ?_
  refine Z162 ?_
  refine Z231 ?_
  refine KO.bs0 Nm.cells rfl Tryz.underlying86 Tryz.sizeOf75 rfl ?_;intro b5
  refine Z1 ?_
  refine KO.appS (z:=Value.agg #[.string ⟨#[]⟩,.string ⟨#[]⟩,.int .i64 0]) (sz:=3) (by':=40) (ys:=xs) rfl rfl rfl .head (fun w' hs=>Src.ext ⟨some ad,cap,rfl,hn0,hc⟩ (Ext.of_below hs.below)) Tryz.underlying86 nm_info rfl (fun _=>rfl) nm_one Y61 (by decide) rfl ?_;intro v'
  refine Z33 ?_
  refine KQ.ret1 rfl rfl (fun w' hs=>⟨_,_,rfl,rfl,?_,hs.below⟩)
  rw[List.nil_append]at hs
  exact hw.stack (M:=[nmS v' xs]) hs
theorem nall_e (w0:World) (L R R2:List HP) (b off:Nat) (cs:List Value) (T:TypeId) (v:Value) (l:List Nm)
 (hp:Pick L (blk b (.cells cs.toArray T (0,0))) R) (hq:Pick R (nmS v l) R2) (hc:cs[off]? =some v) (hl:l.length<1000000):
 KE Tryz.prog 169 #[.pointer (some ⟨b,off,none⟩)] w0 L (fun u M=>M=nmS u l::L):=by
 refine KE.mk (n:=8) Tryz.func169 rfl Tryz.ntmps169 (by simp) ?_
 intro w hw
 have hcell:w.cell? ⟨b,off,none⟩=some v:=by rw[World.cell?,(hw.lookP hp).2];simpa using hc
 have hsrc:=Src.of hq w (hw.pick hp).drop
 refine Z150 ?_
 refine Z49 ?_
 refine Z297 ?_
 refine KO.ld0 rfl rfl Tryz.isAgg86 hcell rfl ?_
 refine KO.ce (cp:=[]) rfl rfl rfl Tryz.call266 rfl (nmclone_e w _ v l (fun w' hs=>hsrc.ext (Ext.of_below hs.below)) hl) ?_;rintro v' L' rfl
 refine Z33 ?_
 refine KQ.ret1 rfl rfl (fun w' hs=>⟨_,_,rfl,rfl,hw.stack (M:=[nmS _ l]) hs,hs.below⟩)
end Go.Proofs.YtjhogocabcdjbabGreatDoor
/- the house: sealed texts are opened, torn ones are not; parts of families -/
namespace WB
open Go Go.RowKit
theorem pcs_app {c:UInt8} {a:ByteArray} (ha:noB c a) (r:ByteArray):pcs c (a++chr1 c++r)=a::pcs c r:=by
 unfold pcs chr1
 rw[show(a++⟨#[c]⟩++r).data.toList=a.data.toList++c::r.data.toList by simp,pieces_app _ ha]
 rfl
theorem pcs_free {c:UInt8} {a:ByteArray} (ha:noB c a):pcs c a=[a]:=by
 unfold pcs
 rw[pieces_free ha]
 rfl
theorem pcs_noB {c:UInt8} {s p:ByteArray} (h:p∈pcs c s):noB c p:=by
 unfold pcs at h
 obtain⟨q,hq,rfl⟩:=List.mem_map.1 h
 exact fun b hb=>pieces_mem c _ q hq b (by rw[data_toB]at hb;exact hb)
theorem itoa_noB {c:UInt8} (n:Int) (h:c.toNat≠45∧(c.toNat<48∨57<c.toNat)):noB c (itoaS n):=fun b hb e=>by
 subst e
 have :=itoa_mem b hb
 omega
theorem bar_itoa (n:Int):noB 124 (itoaS n):=itoa_noB n (by decide)
theorem sealS_eq (k:Int) (s:ByteArray):sealS k s=itoaS k++chr1 124++(s++chr1 124++itoaS (sumS (sealT k s))):=by
 unfold sealS
 rw[show sealT k s=itoaS k++chr1 124++s from rfl]
 simp only[ByteArray.append_assoc]
theorem openS_seal {k:Int} {s:ByteArray} (h:noB 124 s):openS k (sealS k s)=some s:=by
 unfold openS
 have :pcs 124 (sealS k s)=[itoaS k,s,itoaS (sumS (sealT k s))]:=by
  rw[sealS_eq,pcs_app (bar_itoa k),pcs_app h,pcs_free (bar_itoa _)]
 rw[this]
 simp
theorem openS_some {k:Int} {t w:ByteArray} (h:openS k t=some w):sealS k w=t∧noB 124 w:=by
 unfold openS at h
 split at h
 ·rename_i a b c e
  split at h
  ·rename_i e2
   simp only[Option.some.injEq]at h
   subst h
   exact⟨e2,pcs_noB (s:=t) (by rw[e];simp)⟩
  ·cases h
 ·cases h
theorem openS_torn {k:Int} {s:ByteArray} {i:Nat} (h:noB 124 s) (hi:i<(sealS k s).size):openS k ((sealS k s).extract 0 i)=none:=by
 cases ho:openS k ((sealS k s).extract 0 i)with
 |none=>rfl
 |some w=>
  obtain⟨h1,h2⟩:=openS_some ho
  have e1:sealS k s=sealS k w++(sealS k s).extract i (sealS k s).size:=by
   rw[h1]
   generalize sealS k s=u at hi
   rw[ByteArray.extract_append_extract,Nat.min_eq_left (Nat.zero_le _),Nat.max_eq_right (by omega),ByteArray.extract_zero_size]
  have p1:pcs 124 (sealS k s)=[itoaS k,s,itoaS (sumS (sealT k s))]:=by
   rw[sealS_eq,pcs_app (bar_itoa k),pcs_app h,pcs_free (bar_itoa _)]
  have p2:∃r,pcs 124 (sealS k s)=itoaS k::w::r:=by
   rw[e1,sealS_eq k w]
   rw[show itoaS k++chr1 124++(w++chr1 124++itoaS (sumS (sealT k w)))++(sealS k s).extract i (sealS k s).size=itoaS k++chr1 124++(w++chr1 124++(itoaS (sumS (sealT k w))++(sealS k s).extract i (sealS k s).size))by simp only[ByteArray.append_assoc]]
   exact⟨_,by rw[pcs_app (bar_itoa k),pcs_app h2]⟩
  obtain⟨r,p2⟩:=p2
  rw[p1]at p2
  simp only[List.cons.injEq,true_and]at p2
  have hw:w=s:=p2.1.symm
  subst hw
  have :=congrArg ByteArray.size h1
  simp at this
  omega
theorem openS_nil (k:Int):openS k ⟨#[]⟩=none:=by
 unfold openS
 rw[show pcs 124 ⟨#[]⟩=[⟨#[]⟩]from pcs_free (fun b hb=>by simp at hb)]
theorem sealS_size (k:Int) (s:ByteArray):0<(sealS k s).size:=by
 have h1:(chr1 124).size=1:=rfl
 unfold sealS
 simp only[ByteArray.size_append];omega
theorem sealS_le {k:Int} {s:ByteArray} (hk:intB k) (hs:s.size≤700000):(sealS k s).size≤700100:=by
 have h1:(chr1 124).size=1:=rfl
 have h2:=sumS_bound (sealT k s)
 have h3:=itoaS_size (n:=sumS (sealT k s)) ⟨by omega,by omega⟩
 have h4:=itoaS_size hk
 have h5:(sealT k s).size≤700022:=by unfold sealT;simp only[ByteArray.size_append];omega
 unfold sealS
 simp only[ByteArray.size_append];omega
theorem idxB_hit {c:UInt8} (r:List UInt8):∀{l:List UInt8},(∀b∈l,b≠c)→Lib.indexByte (l++c::r) c=(l.length:Nat)
 |[],_=>by simp[Lib.indexByte]
 |b::l,h=>by
  rw[List.cons_append]
  unfold Lib.indexByte
  rw[idxB_hit r fun x hx=>h x Y67]
  simp[h b (by simp)]
theorem cutB_hit {c:UInt8} {a:ByteArray} (ha:noB c a) (r:ByteArray):cutB c (a++chr1 c++r)=(a,r,true):=by
 have e:Lib.cut (a++chr1 c++r).data.toList [c]=(a.data.toList,r.data.toList,true):=by
  unfold Lib.cut chr1
  rw[Lib.index_one,show(a++⟨#[c]⟩++r).data.toList=a.data.toList++c::r.data.toList by simp,idxB_hit _ ha,if_pos (by omega)]
  rw[Int.toNat_natCast,List.take_left,List.length_singleton,←List.drop_drop,List.drop_left]
  rfl
 unfold cutB
 rw[e]
 rfl
def fam {α β:Type} (f:α→β→HP) (ps:List α) (xs:List β):HP:=seps (List.zipWith f ps xs)
section
variable {α β:Type} {f:α→β→HP} {w0 w:World} {L:List HP} {ps:List α} {xs:List β} {p:α} {x:β} {i:Nat}
theorem pick_mid {A:HP}:∀(l r:List HP),Pick (l++A::r) A (l++r)
 |[],_=>.head
 |_::l,r=>.tail (pick_mid l r)
theorem fam_list (h:St w0 (fam f ps xs::L) w):St w0 (List.zipWith f ps xs++L) w:=h.splits
theorem fam_of (h:St w0 (List.zipWith f ps xs++L) w):St w0 (fam f ps xs::L) w:=h.joins
theorem zip_split (hp:ps[i]? =some p) (hx:xs[i]? =some x):List.zipWith f ps xs=List.zipWith f (ps.take i) (xs.take i)++f p x::List.zipWith f (ps.drop (i+1)) (xs.drop (i+1)):=by
 obtain⟨h1,rfl⟩:=List.getElem?_eq_some_iff.1 hp
 obtain⟨h2,rfl⟩:=List.getElem?_eq_some_iff.1 hx
 have e1:ps=ps.take i++ps[i]::ps.drop (i+1):=by rw[←List.drop_eq_getElem_cons h1,List.take_append_drop]
 have e2:xs=xs.take i++xs[i]::xs.drop (i+1):=by rw[←List.drop_eq_getElem_cons h2,List.take_append_drop]
 conv=>lhs;rw[e1,e2]
 rw[List.zipWith_append Y61]
 rfl
theorem zip_erase (hp:i<ps.length) (hx:i<xs.length):List.zipWith f (ps.eraseIdx i) (xs.eraseIdx i)=List.zipWith f (ps.take i) (xs.take i)++List.zipWith f (ps.drop (i+1)) (xs.drop (i+1)):=by
 rw[List.eraseIdx_eq_take_drop_succ,List.eraseIdx_eq_take_drop_succ,List.zipWith_append Y61]
theorem fam_out (hp:ps[i]? =some p) (hx:xs[i]? =some x) (h:St w0 (fam f ps xs::L) w):St w0 (f p x::fam f (ps.eraseIdx i) (xs.eraseIdx i)::L) w:=by
 have h1:=fam_list h
 rw[zip_split hp hx,List.append_assoc,List.cons_append]at h1
 have h2:=h1.pick (pick_mid _ _)
 rw[←List.append_assoc,←zip_erase (List.getElem?_eq_some_iff.1 hp).1 (List.getElem?_eq_some_iff.1 hx).1]at h2
 exact h2.mapOwn fun _ hh=>sep_mono (fun _ h=>h) (fun _ h=>seps_append.1 h) hh
theorem fam_in (hp:i<ps.length) (hx:i<xs.length) (h:St w0 (f p x::fam f (ps.eraseIdx i) (xs.eraseIdx i)::L) w):St w0 (fam f (ps.set i p) (xs.set i x)::L) w:=by
 have h1:St w0 (f p x::(List.zipWith f (ps.eraseIdx i) (xs.eraseIdx i)++L)) w:=h.mapOwn fun _ hh=>sep_mono (fun _ h=>h) (fun _ h=>seps_append.2 h) hh
 refine fam_of ?_
 rw[zip_split (p:=p) (x:=x) (i:=i) (by rw[List.getElem?_set_self hp]) (by rw[List.getElem?_set_self hx]),List.append_assoc,List.cons_append]
 refine St.unpick ?_ (pick_mid _ _)
 rw[←List.append_assoc]
 rw[zip_erase hp hx]at h1
 simpa[List.take_set_of_le,List.drop_set_of_lt]using h1
theorem fam_put (hp:ps[i]? =some p) (hx:i<xs.length) (h:St w0 (f p x::fam f (ps.eraseIdx i) (xs.eraseIdx i)::L) w):St w0 (fam f ps (xs.set i x)::L) w:=by
 have h1:=fam_in (List.getElem?_eq_some_iff.1 hp).1 hx h
 have e:ps.set i p=ps:=by obtain⟨h2,rfl⟩:=List.getElem?_eq_some_iff.1 hp;exact List.set_getElem_self h2
 rwa [e]at h1
theorem fam_back (hp:ps[i]? =some p) (hx:xs[i]? =some x) (h:St w0 (f p x::fam f (ps.eraseIdx i) (xs.eraseIdx i)::L) w):St w0 (fam f ps xs::L) w:=by
 have h1:=fam_put hp (List.getElem?_eq_some_iff.1 hx).1 h
 have e:xs.set i x=xs:=by obtain⟨h2,rfl⟩:=List.getElem?_eq_some_iff.1 hx;exact List.set_getElem_self h2
 rwa [e]at h1
theorem fam_snoc (hl:ps.length=xs.length) (h:St w0 (f p x::fam f ps xs::L) w):St w0 (fam f (ps++[p]) (xs++[x])::L) w:=by
 have h1:St w0 (f p x::(List.zipWith f ps xs++L)) w:=h.mapOwn fun _ hh=>sep_mono (fun _ h=>h) (fun _ h=>seps_append.2 h) hh
 refine fam_of ?_
 rw[List.zipWith_append hl,List.append_assoc]
 exact St.unpick h1 (pick_mid _ _)
theorem fam_nil (h:St w0 L w):St w0 (fam f [] []::L) w:=h.empi
end
end WB
/- the house: its model -/
namespace WB
open Go Go.RowKit
structure Unt where
 puts:List (Ms×Int)
 gets:List (Int×ByteArray)
instance:Inhabited Unt:=⟨⟨[],[]⟩⟩
structure Ho where
 id:Int
 used:Nat
 down:Bool
 torn:Int
 next:Int
 names:List Nm
 queues:List (ByteArray×Qu)
 ways:List Qu
 units:List Unt
 batch:List (List Int)
 sent:List Int
 arrived:List Int
namespace Ho
abbrev all (H:Ho):List Qu:=H.ways++H.queues.map (·.2)
def qI (H:Ho) (s:ByteArray):Option Nat:=H.queues.findIdx? fun x=>decide (x.1=s)
def qAt (H:Ho) (i:Nat):Qu:=(H.queues.getD i (⟨#[]⟩,default)).2
def setQ (H:Ho) (i:Nat) (q:Qu):Ho:={H with queues:=H.queues.set i ((H.queues.getD i (⟨#[]⟩,default)).1,q)}
def wAt (H:Ho) (j:Nat):Qu:=H.ways.getD j default
def setW (H:Ho) (j:Nat) (q:Qu):Ho:={H with ways:=H.ways.set j q}
def uAt (H:Ho) (u:Nat):Unt:=H.units.getD u default
end Ho
structure HoX (n:Nat) (b:List (List Int)) (s a:List Int):Prop where
 bat:∀l∈b,l.length≤100000
 snt:∀x∈s,0≤x∧x≤(n:Int)
 arr:∀x∈a,0≤x∧x≤(n:Int)
theorem HoX.le {n k:Nat} {b:List (List Int)} {s a:List Int} (h:HoX n b s a) (hk:n≤k):HoX k b s a:=⟨h.bat,fun x hx=>by have :=h.snt x hx;omega,fun x hx=>by have :=h.arr x hx;omega⟩
structure HoB (n:Nat) (H:Ho):Prop where
 id:0≤H.id∧H.id<4
 used:H.used≤300
 next:0≤H.next∧H.next≤274877906945
 sorted:Sorted H.names
 nlen:H.names.length≤20
 qlen:H.queues.length≤n
 qs:∀q∈H.all,QB n q
 nodup:(H.queues.map (·.1)).Nodup
 ways:H.ways.length=4
 units:H.units.length=5
 batch:H.batch.length=4
 sent:H.sent.length=4
 arrived:H.arrived.length=4
 right:∀x∈H.names,rightNm x=true
 loc:∀x∈H.names,x.tgt=⟨#[]⟩→∃i,H.qI x.name=some i
 ext:HoX n H.batch H.sent H.arrived
def roomE (H:Ho):Int:=if H.down=true then 6 else if 300≤H.used then 4 else 0
def logE (H:Ho) (D:Dk):Int:=if roomE H≠0 then roomE H else dkErr D
def logH (H:Ho) (D:Dk):Ho:=if roomE H≠0 then H else if dkErr D≠0 then {H with down:=true}else {H with used:=H.used+1}
def logD (H:Ho) (D:Dk) (s:ByteArray):Dk:=if roomE H≠0 then D else dkWrite D H.used (sealS H.used s) H.torn
def hset (H:Ho) (x:Nm):Ho:=
 if setErr H.names x=0 then {H with names:=setNm H.names x,queues:=if x.tgt=⟨#[]⟩∧H.qI x.name=none then H.queues++[(x.name,⟨[],0⟩)]else H.queues}else H
def hsetE (H:Ho) (x:Nm):Int:=setErr H.names x
def hdrop (H:Ho) (s:ByteArray):Ho:={H with names:=dropNm H.names s}
def hdropE (H:Ho) (s:ByteArray):Int:=dropErr H.names s
def hput1 (H:Ho) (m:Ms):Option Ho:=
 let H1:={H with next:=max H.next (m.id/4+1)}
 if m.house≠H.id then some (H1.setW m.house.toNat (qpush (H.wAt m.house.toNat) m (-1)))else match H.qI m.queue with
  |none=>none
  |some i=>some (H1.setQ i (qpush (H.qAt i) m (-1)))
def hputs:Ho→List Ms→Ho×Bool
 |H,[]=>(H,true)
 |H,m::r=>match hput1 H m with
  |some H1=>hputs H1 r
  |none=>({H with next:=max H.next (m.id/4+1)},false)
def hget1 (H:Ho) (s:ByteArray):Option Ho:=match numO (cutB 32 s).1 with
 |none=>none
 |some n=>match H.qI (cutB 32 s).2.1 with
  |none=>none
  |some i=>if qtakeE (H.qAt i) n=0 then some (H.setQ i (qtake (H.qAt i) n))else none
def hgets:Ho→List ByteArray→Ho×Bool
 |H,[]=>(H,true)
 |H,s::r=>match hget1 H s with
  |some H1=>hgets H1 r
  |none=>(H,false)
def hends (H:Ho) (s:ByteArray):Ho×Bool:=
 if(cutB 47 s).2.2=false then(H,false)else match mrd (cutB 47 s).1 with
 |none=>(H,false)
 |some l=>
  if(hputs H l).2=false then(hputs H l).1|>fun H1=>(H1,false)else
  if(cutB 47 s).2.1=⟨#[]⟩then((hputs H l).1,true)else hgets (hputs H l).1 (pcs 43 (cutB 47 s).2.1)
def dash (s:ByteArray):ByteArray:=toB (Lib.trimPrefix s.data.toList [45])
def hnameR (s:ByteArray):Option Nm:=match pcs 32 s with
 |[a,b,c]=>(numO c).map fun k=>⟨a,dash b,k⟩
 |_=>none
def intsO (s:ByteArray):Option (List Int):=(pcs 32 s).mapM numO
def rightK (H:Ho) (k:Int):Bool:=decide (0≤k∧k<4∧k≠H.id)
def bcAt (H:Ho) (j:Nat):List Int:=H.batch.getD j []
def snAt (H:Ho) (j:Nat):Int:=H.sent.getD j 0
def avAt (H:Ho) (j:Nat):Int:=H.arrived.getD j 0
def hmade (H:Ho) (s:ByteArray):Ho×Bool:=match intsO s with
 |some (k::a::r)=>if rightK H k=true then({H with batch:=H.batch.set k.toNat (a::r),sent:=H.sent.set k.toNat (snAt H k.toNat+1)},true)else(H,false)
 |_=>(H,false)
def qtakes (q:Qu) (l:List Int):Qu:=l.foldl qtake q
def hknown (H:Ho) (s:ByteArray):Ho×Bool:=match intsO s with
 |some [k]=>if rightK H k=true then({H.setW k.toNat (qtakes (H.wAt k.toNat) (bcAt H k.toNat))with batch:=H.batch.set k.toNat []},true)else(H,false)
 |_=>(H,false)
def hcomes:Ho→List (Ms×ByteArray)→Ho×Bool
 |H,[]=>(H,true)
 |H,(m,t)::r=>match H.qI t with
  |none=>(H,false)
  |some i=>hcomes (H.setQ i (qpush (H.qAt i) m (-1))) r
def hcame (H:Ho) (s:ByteArray):Ho×Bool:=match pcs 47 s with
 |[a,b,c]=>match numO a,mrd b with
  |some k,some l=>if rightK H k=true then
   (if(hcomes H (l.zip (pcs 43 c))).2=true then({(hcomes H (l.zip (pcs 43 c))).1 with arrived:=H.arrived.set k.toNat (avAt H k.toNat+1)},true)else((hcomes H (l.zip (pcs 43 c))).1,false))
   else(H,false)
  |_,_=>(H,false)
 |_=>(H,false)
def hplays (H:Ho) (s:ByteArray):Ho×Bool:=
 if(cutB 58 s).1=chr1 110 then match hnameR (cutB 58 s).2.1 with
  |none=>(H,false)
  |some x=>(hset H x,decide (hsetE H x=0))
 else if(cutB 58 s).1=chr1 100 then(hdrop H (cutB 58 s).2.1,decide (hdropE H (cutB 58 s).2.1=0))
 else if(cutB 58 s).1=chr1 117 then hends H (cutB 58 s).2.1
 else if(cutB 58 s).1=chr1 98 then hmade H (cutB 58 s).2.1
 else if(cutB 58 s).1=chr1 97 then hknown H (cutB 58 s).2.1
 else if(cutB 58 s).1=chr1 114 then hcame H (cutB 58 s).2.1
 else(H,false)
def mEnt (qs:List (ByteArray×Qu)) (ps:List Nat):List (ByteArray×Value):=List.zipWith (fun x p=>(x.1,Value.pointer (some ⟨p,0,none⟩))) qs ps
theorem mEnt_get:∀(qs:List (ByteArray×Qu)) (ps:List Nat) (s:ByteArray),ps.length=qs.length→
 getK (mEnt qs ps) s=(qs.findIdx? fun x=>decide (x.1=s)).bind fun i=>(ps[i]?).map fun p=>Value.pointer (some ⟨p,0,none⟩)
 |[],[],_,_=>rfl
 |x::qs,p::ps,s,h=>by
  have ih:=mEnt_get qs ps s Y56
  unfold mEnt at *
  rw[List.zipWith_cons_cons,getK,List.findIdx?_cons]
  by_cases e:x.1=s
  ·simp[e]
  ·simp only[e,decide_false,if_false]
   rw[ih]
   cases List.findIdx? (fun x=>decide (x.1=s)) qs<;>simp
theorem mEnt_put:∀(qs:List (ByteArray×Qu)) (ps:List Nat) (s:ByteArray) (q:Qu) (p:Nat),ps.length=qs.length→(qs.findIdx? fun x=>decide (x.1=s))=none→
 putK (mEnt qs ps) s (Value.pointer (some ⟨p,0,none⟩))=mEnt (qs++[(s,q)]) (ps++[p])
 |[],[],_,_,_,_,_=>rfl
 |x::qs,p'::ps,s,q,p,h,h2=>by
  rw[List.findIdx?_cons]at h2
  by_cases e:x.1=s
  ·simp[e]at h2
  ·simp only[e,decide_false,Bool.false_eq_true,if_false]at h2
   have ih:=mEnt_put qs ps s q p Y56 Y52
   unfold mEnt at *
   simp only[List.cons_append,List.zipWith_cons_cons]
   rw[putK]
   simp only[e,if_false]
   rw[ih]
end WB
namespace WB
open Go Go.RowKit
theorem roomE_z {H:Ho} (h:roomE H=0):H.down=false∧H.used<300:=by
 unfold roomE at h
 split at h
 ·cases h
 ·rename_i h1
  split at h
  ·cases h
  ·exact⟨by simpa using h1,by omega⟩
theorem setNm_err {l:List Nm} {x:Nm} (h:setErr l x≠0):setNm l x=l:=by
 unfold setErr at h
 unfold setNm
 split
 ·rfl
 ·rename_i h1
  rw[if_neg h1]at h
  split
  ·rename_i h2;rw[if_pos h2]at h;exact absurd rfl h
  ·rename_i h2
   rw[if_neg h2]at h
   split
   ·rfl
   ·rename_i h3;rw[if_neg h3]at h;exact absurd rfl h
def roS (T:TypeId) (v:Value) (l:List Int):HP:=ex fun c:Option (Nat×Nat×List Value×Nat)=>match c with
 |none=>pur (v=.slice none 0 0∧l=[])
 |some (g,off,cs,cap)=>sep (pur (v=.slice (some ⟨g,off,none⟩) l.length cap∧∀(i:Nat) x,l[i]? =some x→cs[off+i]? =some (Value.int .i64 x))) (blk g (.cells cs.toArray T (0,0)))
section
variable {w0 w:World} {L:List HP} {T:TypeId} {v:Value} {l:List Int}
theorem roS_nil (h:St w0 L w):St w0 (roS T (.slice none 0 0) []::L) w:=St.exi none (St.puri ⟨rfl,rfl⟩ h)
theorem roS_mk {g off cap:Nat} {cs:List Value} (hc:∀(i:Nat) x,l[i]? =some x→cs[off+i]? =some (Value.int .i64 x)) (h:St w0 (blk g (.cells cs.toArray T (0,0))::L) w):St w0 (roS T (.slice (some ⟨g,off,none⟩) l.length cap) l::L) w:=
 St.exi (some (g,off,cs,cap)) (St.join (St.puri ⟨rfl,hc⟩ h))
theorem roS_form (h:St w0 (roS T v l::L) w):∃a cap,v=.slice a l.length cap:=by
 obtain⟨c,h⟩:=h.exs
 match c,h with
 |none,h=>obtain⟨⟨rfl,rfl⟩,_⟩:=h.purs;exact⟨none,0,rfl⟩
 |some (g,off,cs,cap),h=>obtain⟨⟨rfl,_⟩,_⟩:=h.split.purs;exact⟨_,_,rfl⟩
theorem roS_rd (h:St w0 (roS T v l::L) w):RdA w 1 (fun x=>[Value.int .i64 x]) v l:=by
 obtain⟨c,h⟩:=h.exs
 match c,h with
 |none,h=>obtain⟨⟨rfl,rfl⟩,_⟩:=h.purs;exact⟨none,0,rfl,fun i x hx=>by simp at hx⟩
 |some (g,off,cs,cap),h=>
  obtain⟨⟨hv,hc⟩,h'⟩:=h.split.purs
  subst hv
  refine⟨_,_,rfl,fun i x hx=>⟨_,rfl,fun j c hj=>?_⟩⟩
  have hj0:j=0:=by
   rcases j with _|j
   ·rfl
   ·simp at hj
  subst hj0
  simp only[List.getElem?_cons_zero,Option.some.injEq]at hj
  subst hj
  have :=hc i x hx
  have h2:w.cell? ⟨g,off+i,none⟩=some (.int .i64 x):=by rw[World.cell?,h'.look.2];simpa using this
  rw[Addr.add_lit,Addr.add_lit];simpa using h2
end
end WB
/- house: where a house lies; room, logs, set, drop -/
namespace Go.Proofs.YtjhogocabcdjbabGreatDoor
open Go Go.RowKit WB
def ptrV (p:Nat):Value:=.pointer (some ⟨p,0,none⟩)
def putC (x:Ms×Int):List Value:=[.int .i64 x.1.id,.int .i64 x.1.pri,.string x.1.body,.string x.1.queue,.int .i64 x.1.house,.int .i64 x.2]
def intC (x:Int):List Value:=[.int .i64 x]
def gotC (x:Int×ByteArray):List Value:=[.int .i64 x.1,.string x.2]
def putsS (v:Value) (l:List (Ms×Int)):HP:=SL 142 6 putC v l
def getsS (v:Value) (l:List (Int×ByteArray)):HP:=SL 146 2 gotC v l
def batS (v:Value) (l:List Int):HP:=roS 3 v l
structure HoV where
 nv:Value
 mb:Nat
 ps:List Nat
 us:List (Value×Value)
 bs:List Value
structure HoVL (V:HoV) (H:Ho):Prop where
 ps:V.ps.length=4+H.queues.length
 us:V.us.length=5
 bs:V.bs.length=4
 ways:H.ways.length=4
 units:H.units.length=5
 batch:H.batch.length=4
 sent:H.sent.length=4
 arrived:H.arrived.length=4
def hoC (bd:Nat) (V:HoV) (H:Ho):List Value:=
 .int .i64 H.id::ptrV bd::.int .i64 (H.used:Nat)::.bool H.down::.int .i64 H.torn::.int .i64 H.next::V.nv::.map (some V.mb)::
  ((V.ps.take 4).map ptrV++(V.us.flatMap (fun p=>[p.1,p.2])++(V.bs++(H.sent.map (Value.int .i64)++H.arrived.map (Value.int .i64)))))
abbrev mapE (V:HoV) (H:Ho):List (ByteArray×Value):=mEnt H.queues (V.ps.drop 4)
abbrev hoX (bh bd:Nat) (V:HoV) (H:Ho) (L:List HP):List HP:=
 blk bh (.cells (hoC bd V H).toArray 133 (0,0))::nmS V.nv H.names::omapK Value.string V.mb (mapE V H)::fam quP V.ps H.all::fam putsS (V.us.map (·.1)) (H.units.map (·.puts))::fam getsS (V.us.map (·.2)) (H.units.map (·.gets))::fam batS V.bs H.batch::L
def hoP (bh bd:Nat) (H:Ho):HP:=ex fun V:HoV=>sep (pur (HoVL V H)) (seps (hoX bh bd V H []))
theorem hoP_open {w0 w:World} {bh bd:Nat} {H:Ho} {L:List HP} (h:St w0 (hoP bh bd H::L) w):∃V:{V:HoV//HoVL V H},St w0 (hoX bh bd V.1 H L) w:=by
 obtain⟨V,h⟩:=h.exs
 obtain⟨hV,h⟩:=h.split.purs
 exact⟨⟨V,hV⟩,by have :=h.splits;exact this⟩
theorem hoP_mk {w0 w:World} {bh bd:Nat} {H:Ho} {L:List HP} (V:HoV) (hV:HoVL V H) (h:St w0 (hoX bh bd V H L) w):St w0 (hoP bh bd H::L) w:=
 St.exi (F:=fun V=>sep (pur (HoVL V H)) (seps (hoX bh bd V H []))) V (St.join (St.puri hV (St.joins (L:=hoX bh bd V H []) h)))
theorem hoP_cells {w0 w:World} {bh bd:Nat} {H:Ho} {L R:List HP} (h:St w0 L w) (hp:Pick L (hoP bh bd H) R):
 ∃V,HoVL V H∧∀i v,(hoC bd V H)[i]? =some v→w.cell? ⟨bh,i,none⟩=some v:=by
 obtain⟨V,h1⟩:=hoP_open (h.pick hp)
 refine⟨V.1,V.2,fun i v hv=>?_⟩
 rw[World.cell?,h1.look.2];simpa using hv
theorem hoC_len {bd:Nat} {V:HoV} {H:Ho} (h:HoVL V H):(hoC bd V H).length=34:=by
 have e:(V.us.flatMap (fun p=>[p.1,p.2])).length=10:=by
  have :∀l:List (Value×Value),(l.flatMap (fun p=>[p.1,p.2])).length=2*l.length:=fun l=>by
   induction l with
   |nil=>rfl
   |cons a l ih=>rw[List.flatMap_cons,List.length_append,ih];simp;omega
  rw[this,h.us]
 simp[hoC,h.ps,h.bs,h.sent,h.arrived,e]
theorem room_e (w0:World) (L R:List HP) (bh bd:Nat) (H:Ho) (hp:Pick L (hoP bh bd H) R):KE Tryz.prog 155 #[ptrV bh] w0 L (fun u M=>u=errV 70 (roomE H)∧M=L):=by
 refine KE.mk (n:=16) Tryz.func155 rfl Tryz.ntmps155 (by simp) ?_
 intro w hw
 obtain⟨V,hV,hc⟩:=hoP_cells hw hp
 have hc3:=hc 3 _ rfl
 have hc2:=hc 2 _ rfl
 refine Z230 ?_
 refine Z39 ?_
 cases hd:H.down with
 |true=>
  rw[hd]at hc3
  refine Z8 ?_
  refine Z346 ?_
  refine Z7 ?_
  refine Z55 ?_
  refine Z249 ?_
  refine KQ.ret1 rfl rfl (fun w' hs=>⟨_,_,rfl,⟨?_,rfl⟩,hw.below_step hs.below,hs.below⟩)
  unfold roomE;rw[hd];rfl
 |false=>
  rw[hd]at hc3
  refine Z8 ?_
  refine Z346 ?_
  refine Z7 ?_
  refine Z63 ?_
  refine Z3 ?_
  refine Z26 ?_
  refine Z221 ?_
  refine KO.ld0 rfl rfl Tryz.isAgg3 hc2 rfl ?_
  refine Z77 ?_
  refine Z83 ?_
  refine K.condD rfl (fun h5=>?_) (fun h5=>?_)
  ·refine Z249 ?_
   refine KQ.ret1 rfl rfl (fun w' hs=>⟨_,_,rfl,⟨?_,rfl⟩,hw.below_step hs.below,hs.below⟩)
   unfold roomE;rw[hd,if_neg (by simp),if_pos (by omega)];rfl
  ·refine Z62 ?_
   refine Z105 ?_
   refine KQ.ret1 rfl rfl (fun w' hs=>⟨_,_,rfl,⟨?_,rfl⟩,hw.below_step hs.below,hs.below⟩)
   unfold roomE;rw[hd,if_neg (by simp),if_neg (by omega)];rfl
set_option maxRecDepth 100000 in
theorem hset_c (w0:World) (L:List HP) (bh bd:Nat) (H:Ho) (x:Nm) (h1:x.name.size≤maxLen) (h2:x.tgt.size≤maxLen) (hl:H.names.length≤20) (hs:Sorted H.names):
 KC Tryz.prog 137 #[ptrV bh,.agg x.cells.toArray] w0 (hoP bh bd H::L) (fun u M=>u=errV 70 (hsetE H x)∧M=hoP bh bd (hset H x)::L):=by
 obtain⟨xn,xt,xh⟩:=x
 dsimp only at h1 h2
 refine KC.mk (n:=35) Tryz.func137 rfl Tryz.ntmps137 (by simp) ?_
 refine Z53 ?_
 refine K.open' (fun _ h=>hoP_open h) ?_
 rintro⟨V,hV⟩
 dsimp only
 have hps:=hV.ps
 refine Z231 ?_
 refine KO.box rfl rfl Y68 rfl ?_;intro b3
 refine Z21 ?_
 refine K.draw [.pure,.pure,.pure,.read,.write,.pure] [0,1,2,3,4,5] Y62 Y62 ?_
 refine Z26 ?_
 refine Z98 ?_
 refine Z334 ?_
 refine KO.cl (cp:=[]) rfl rfl rfl Tryz.call170 rfl (nset_c w0 _ _ _ bh 6 (hoC bd V H) 133 V.nv H.names ⟨xn,xt,xh⟩ Y11 Y11 rfl h1 h2 hl hs) ?_;rintro v' L' ⟨rfl,v2,rfl⟩;rw[show(hoC bd V H).set 6 v2=hoC bd {V with nv:=v2} H from rfl]
 refine Z239 ?_
 refine K.condD rfl (fun h=>?_) (fun h=>?_)
 ·refine Z312 ?_
  refine KQ.ret1 rfl rfl (fun w' hs'=>⟨_,_,rfl,⟨rfl,rfl⟩,?_⟩)
  rw[show hset H ⟨xn,xt,xh⟩=H from if_neg h]
  rw[setNm_err h]at hs'
  exact hoP_mk {V with nv:=v2} ⟨hV.ps,hV.us,hV.bs,hV.ways,hV.units,hV.batch,hV.sent,hV.arrived⟩ (hs'.all Y1)
 have h0:setErr H.names ⟨xn,xt,xh⟩=0:=by simpa using h
 have he:hsetE H ⟨xn,xt,xh⟩=0:=h0
 refine Z6 ?_
 have hV2:HoVL {V with nv:=v2} {H with names:=setNm H.names ⟨xn,xt,xh⟩}:=⟨hV.ps,hV.us,hV.bs,hV.ways,hV.units,hV.batch,hV.sent,hV.arrived⟩
 have hlen4:(V.ps.drop 4).length=H.queues.length:=by rw[List.length_drop,hps];omega
 by_cases hx:xt=⟨#[]⟩
 ·cases hq:H.qI xn with
  |none=>
   have hg:getK (mapE V H) xn=none:=by rw[mEnt_get _ _ _ hlen4,show H.queues.findIdx? (fun x=>decide (x.1=xn))=none from hq];rfl
   refine Z116 ?_
   refine Z118 ?_
   refine Z266 ?_
   refine Z127 ?_
   refine Z358 ?_
   refine Z210 ?_
   refine KO.on rfl rfl Y67 ?_;refine KO.ldAt (i:=7) rfl rfl Tryz.isAgg123 Y21 rfl rfl rfl ?_
   refine Z20 ?_
   refine Z177 ?_
   refine Z20 ?_
   refine Z118 ?_
   refine KO.on rfl rfl Y67 ?_;refine KO.lkm strKey xn rfl rfl rfl Tryz.underlying123 Tryz.underlying9 Tryz.zeroValue119 Y11 rfl ?_;rw[hg]
   refine KO.on rfl rfl Y67 ?_;refine KO.eqP0 rfl Tryz.underlying119 rfl ?_
   refine Z43 ?_
   refine Z55 ?_
   refine K.draw [.pure,.pure,.pure,.read,.pure,.read,.pure,.keep,.write] [0,1,2,3,4,5,6,7,8] Y62 Y62 ?_
   refine Z26 ?_
   refine Z29 ?_
   refine Z177 ?_
   refine Z118 ?_
   refine Z245 ?_
   refine KO.box rfl rfl Y68 rfl ?_;intro b34
   refine KO.upm strKey xn rfl rfl rfl rfl Tryz.underlying123 Tryz.underlying9 Y11 ?_
   refine Z183 ?_
   refine KQ.ret1 rfl rfl (fun w' hs'=>⟨_,_,rfl,⟨by rw[he];rfl,rfl⟩,?_⟩)
   rw[show hset H ⟨xn,xt,xh⟩={H with names:=setNm H.names ⟨xn,xt,xh⟩,queues:=H.queues++[(xn,⟨[],0⟩)]}by unfold hset;rw[if_pos h0,if_pos ⟨hx,hq⟩]]
   have hm:=mEnt_put H.queues (V.ps.drop 4) xn ⟨[],0⟩ b34 hlen4 hq
   rw[hm]at hs'
   have hs2:=SL_nil (E:=243) (sz:=8) (cf:=itC) hs'
   have hs3:St w0 (quP b34 ⟨[],0⟩::fam quP V.ps H.all::blk bh (.cells (hoC bd {V with nv:=v2} H).toArray 133 (0,0))::nmS v2 (setNm H.names ⟨xn,xt,xh⟩)::omapK Value.string V.mb (mEnt (H.queues++[(xn,⟨[],0⟩)]) (V.ps.drop 4++[b34]))::fam putsS (V.us.map (·.1)) (H.units.map (·.puts))::fam getsS (V.us.map (·.2)) (H.units.map (·.gets))::fam batS V.bs H.batch::L) w':=
    quP_mk (hs2.all Y5)
   have hs4:=fam_snoc (by rw[hps];simp[hV.ways]) hs3
   have et:(V.ps++[b34]).take 4=V.ps.take 4:=by rw[List.take_append_of_le_length (by omega)]
   have ed:(V.ps++[b34]).drop 4=V.ps.drop 4++[b34]:=by rw[List.drop_append_of_le_length (by omega)]
   have ea:H.all++[(⟨[],0⟩:Qu)]=H.ways++(H.queues++[(xn,(⟨[],0⟩:Qu))]).map (·.2):=by simp
   rw[ea]at hs4
   refine hoP_mk {V with nv:=v2,ps:=V.ps++[b34]} ⟨by simp[hps];omega,hV.us,hV.bs,hV.ways,hV.units,hV.batch,hV.sent,hV.arrived⟩ ?_
   have e1:hoC bd {V with nv:=v2,ps:=V.ps++[b34]} {H with names:=setNm H.names ⟨xn,xt,xh⟩,queues:=H.queues++[(xn,⟨[],0⟩)]}=hoC bd {V with nv:=v2} H:=by unfold hoC;dsimp only;rw[et]
   unfold hoX mapE
   rw[e1]
   dsimp only
   rw[ed]
   exact hs4.all Y3
  |some i=>
   have hilt:i<H.queues.length:=(List.findIdx?_eq_some_iff_getElem.1 hq).1
   obtain⟨p,hp⟩:∃p,(V.ps.drop 4)[i]? =some p:=⟨_,List.getElem?_eq_getElem (by omega)⟩
   have hg:getK (mapE V H) xn=some (ptrV p):=by rw[mEnt_get _ _ _ hlen4,show H.queues.findIdx? (fun x=>decide (x.1=xn))=some i from hq];simp only[Option.bind_some,hp,Option.map_some];rfl
   refine Z116 ?_
   refine Z118 ?_
   refine Z266 ?_
   refine Z127 ?_
   refine Z358 ?_
   refine Z210 ?_
   refine KO.on rfl rfl Y67 ?_;refine KO.ldAt (i:=7) rfl rfl Tryz.isAgg123 Y21 rfl rfl rfl ?_
   refine Z20 ?_
   refine Z177 ?_
   refine Z20 ?_
   refine Z118 ?_
   refine KO.on rfl rfl Y67 ?_;refine KO.lkm strKey xn rfl rfl rfl Tryz.underlying123 Tryz.underlying9 Tryz.zeroValue119 Y11 rfl ?_;rw[hg]
   refine KO.on rfl rfl Y67 ?_;refine KO.eqPn rfl Tryz.underlying119 rfl ?_
   refine Z43 ?_
   refine Z162 ?_
   refine Z105 ?_
   refine KQ.ret1 rfl rfl (fun w' hs'=>⟨_,_,rfl,⟨by rw[he];rfl,rfl⟩,?_⟩)
   rw[show hset H ⟨xn,xt,xh⟩={H with names:=setNm H.names ⟨xn,xt,xh⟩}by unfold hset;rw[if_pos h0,if_neg (by rw[hq];simp)]]
   exact hoP_mk {V with nv:=v2} hV2 (hs'.all Y5)
 ·refine Z116 ?_
  refine Z118 ?_
  refine Z266 ?_
  refine Z313 ?_
  refine Z18 ?_
  refine Z48 ?_
  refine Z2 ?_
  refine K.condF rfl Y67 ?_
  refine Z6 ?_
  refine Z105 ?_
  refine KQ.ret1 rfl rfl (fun w' hs'=>⟨_,_,rfl,⟨by rw[he];rfl,rfl⟩,?_⟩)
  rw[show hset H ⟨xn,xt,xh⟩={H with names:=setNm H.names ⟨xn,xt,xh⟩}by unfold hset;rw[if_pos h0,if_neg Y67]]
  exact hoP_mk {V with nv:=v2} hV2 (hs'.all Y5)
theorem hdrop_c (w0:World) (L:List HP) (bh bd:Nat) (H:Ho) (s:ByteArray) (hl:H.names.length≤20) (hs:Sorted H.names):
 KC Tryz.prog 139 #[ptrV bh,.string s] w0 (hoP bh bd H::L) (fun u M=>u=errV 70 (hdropE H s)∧M=hoP bh bd (hdrop H s)::L):=by
 refine KC.mk (n:=14) Tryz.func139 rfl Tryz.ntmps139 (by simp) ?_
 refine Z53 ?_
 refine K.open' (fun _ h=>hoP_open h) ?_
 rintro⟨V,hV⟩
 dsimp only
 have fin:∀w' v2,St w0 (hoX bh bd {V with nv:=v2} (hdrop H s) L) w'→St w0 (hoP bh bd (hdrop H s)::L) w':=fun w' v2 h=>hoP_mk {V with nv:=v2} ⟨hV.ps,hV.us,hV.bs,hV.ways,hV.units,hV.batch,hV.sent,hV.arrived⟩ h
 refine Z231 ?_
 refine Z232 ?_
 refine Z98 ?_
 refine Z1 ?_
 refine KO.cl (cp:=[]) rfl rfl rfl Tryz.call237 rfl (ndrop_c w0 _ _ _ bh 6 (hoC bd V H) 133 V.nv H.names s Y21 Y21 rfl (by omega) hs) ?_;rintro v' L' ⟨rfl,v2,rfl⟩;rw[show(hoC bd V H).set 6 v2=hoC bd {V with nv:=v2} (hdrop H s)from rfl]
 refine Z239 ?_
 refine K.condD rfl (fun h=>?_) (fun h=>?_)
 ·refine Z312 ?_
  refine KQ.ret1 rfl rfl (fun w' hs'=>⟨_,_,rfl,⟨rfl,rfl⟩,?_⟩)
  exact fin w' v2 (hs'.all Y30)
 ·refine Z6 ?_
  refine Z105 ?_
  have he:hdropE H s=0:=by unfold hdropE;simpa using h
  refine KQ.ret1 rfl rfl (fun w' hs'=>⟨_,_,rfl,⟨by rw[he];rfl,rfl⟩,?_⟩)
  exact fin w' v2 (hs'.all Y30)
set_option maxRecDepth 100000 in
theorem logs_c (w0:World) (L:List HP) (bh bd:Nat) (H:Ho) (D:Dk) (s:ByteArray) (hT:Tab w0) (h3:D.places.length=300) (hd: -4000000000000000000≤D.left∧D.left≤9223372036854775807) (hs:s.size≤700000) (hu:H.used≤300):
 KC Tryz.prog 61 #[ptrV bh,.string s] w0 (hoP bh bd H::dkP bd D::L) (fun u M=>u=errV 70 (logE H D)∧M=hoP bh bd (logH H D)::dkP bd (logD H D s)::L):=by
 refine KC.mk (n:=44) Tryz.func61 rfl Tryz.ntmps61 (by simp) ?_
 refine Z150 ?_
 refine KO.ce (cp:=[]) rfl rfl rfl Tryz.call155 rfl (room_e w0 _ _ bh bd H .head) ?_;rintro v' L' ⟨rfl,rfl⟩
 refine Z239 ?_
 refine K.condD rfl (fun h=>?_) (fun h=>?_)
 ·refine Z312 ?_
  refine KQ.ret1 rfl rfl (fun w' hs'=>⟨_,_,rfl,⟨?_,rfl⟩,?_⟩)
  ·unfold logE;rw[if_pos h]
  ·unfold logH logD;rw[if_pos h,if_pos h];exact hs'
 have h0:roomE H=0:=by simpa using h
 have hr:=roomE_z h0
 have hsz:(sealS (H.used:Nat) s).size≤1000000:=Nat.le_trans (sealS_le ⟨by omega,by omega⟩ hs) (by decide)
 refine Z6 ?_
 refine K.open' (fun _ h=>hoP_open h) ?_
 rintro⟨V,hV⟩
 dsimp only
 refine K.draw [.pure,.pure,.pure,.read,.pure,.pure,.pure,.read,.pure,.pure,.pure,.read,.pure,.keep,.pure,.pure,.pure,.read,.write,.pure] [0,1,2,3,4,5,6,7,8,9,10,11,12,14,15,16,17,13,18,19] Y62 Y62 ?_
 refine Z26 ?_
 refine KO.fo0 (off:=1) rfl Tryz.runUnderlying133 rfl rfl Tryz.sizeOf25 rfl ?_
 refine KO.ldAt (i:=1) rfl rfl Tryz.isAgg25 Y21 rfl rfl rfl ?_
 refine Z26 ?_
 refine Z87 ?_
 refine Z26 ?_
 refine Z87 ?_
 refine Z217 ?_
 refine KO.fo0 (off:=4) rfl Tryz.runUnderlying133 rfl rfl Tryz.sizeOf3 rfl ?_
 refine KO.ldAt (i:=4) rfl rfl Tryz.isAgg3 Y21 rfl rfl rfl ?_
 refine KO.ce (cp:=[]) rfl rfl rfl Tryz.call134 rfl (sealed_e w0 _ (H.used:Nat) s ⟨by omega,by omega⟩ (by omega) hT) ?_;rintro v' L' ⟨rfl,rfl⟩
 refine KO.cl (cp:=[]) rfl rfl rfl Tryz.call156 rfl (KC.pk1 Y11 (write_c w0 _ bd H.used D (sealS (H.used:Nat) s) H.torn h3 hr.2 hd ⟨sealS_size _ _,hsz⟩)) ?_;rintro v' L' ⟨rfl,rfl⟩
 refine Z239 ?_
 refine K.condD rfl (fun h2=>?_) (fun h2=>?_)
 ·refine Z3 ?_
  refine Z26 ?_
  refine KO.fo0 (off:=3) rfl Tryz.runUnderlying133 rfl rfl Tryz.sizeOf4 rfl ?_
  refine KO.stAt (i:=3) rfl rfl rfl Y68 (by exact Tryz.sizeOf4) rfl Y11 rfl Y34 ?_;rw[show(hoC bd V H).set 3 (.bool true)=hoC bd V {H with down:=true}from rfl]
  refine Z348 ?_
  refine Z59 ?_
  refine KQ.ret1 rfl rfl (fun w' hs'=>⟨_,_,rfl,⟨?_,rfl⟩,?_⟩)
  ·unfold logE;rw[if_neg h]
  ·unfold logH logD;rw[if_neg h,if_neg h,if_pos h2]
   exact hoP_mk V ⟨hV.ps,hV.us,hV.bs,hV.ways,hV.units,hV.batch,hV.sent,hV.arrived⟩ (hs'.all Y7)
 ·refine Z6 ?_
  refine Z120 ?_
  refine Z221 ?_
  refine KO.ldAt (i:=2) rfl rfl Tryz.isAgg3 Y11 rfl rfl rfl ?_
  refine Z353 ?_
  refine Z221 ?_
  refine KO.stAt (i:=2) rfl rfl rfl Y68 Y45 rfl Y11 rfl Y34 ?_;rw[show(hoC bd V H).set 2 (.int .i64 ((H.used:Nat)+1:Int))=hoC bd V {H with used:=H.used+1}from rfl]
  refine Z183 ?_
  have h20:dkErr D=0:=by simpa using h2
  refine KQ.ret1 rfl rfl (fun w' hs'=>⟨_,_,rfl,⟨?_,rfl⟩,?_⟩)
  ·unfold logE;rw[if_neg h,h20];rfl
  ·unfold logH logD;rw[if_neg h,if_neg h,if_neg h2]
   exact hoP_mk V ⟨hV.ps,hV.us,hV.bs,hV.ways,hV.units,hV.batch,hV.sent,hV.arrived⟩ (hs'.all Y7)
end Go.Proofs.YtjhogocabcdjbabGreatDoor
/- the house: what bounds it outlives its steps -/
namespace WB
open Go Go.RowKit
theorem KC.turn {P:Program} {f:FuncId} {args:Array Value} {w0:World} {L:List HP} {R R':Value→List HP→Prop} (h:KC P f args w0 L R) (hr:∀v M,R v M→∃M',R' v M'∧∀w,St w0 M w→St w0 M' w):KC P f args w0 L R':=fun w hw=>
 (h w hw).mono fun _ _ ⟨v,M,a,b,c⟩=>by
  obtain⟨M',h1,h2⟩:=hr v M b
  exact⟨v,M',a,h1,h2 _ c⟩
theorem KC.famC {α β:Type} {f:α→β→HP} {P:Program} {g:FuncId} {args:Array Value} {w0:World} {L R:List HP} {ps:List α} {xs:List β} {p:α} {x y:β} {i:Nat} {φ:Value→Prop}
 (hp:ps[i]? =some p) (hx:xs[i]? =some x) (pk:Pick L (fam f ps xs) R) (h:∀L,KC P g args w0 (f p x::L) (fun u M=>φ u∧M=f p y::L)):
 KC P g args w0 L (fun u M=>φ u∧M=fam f ps (xs.set i y)::R):=
 KC.perm (L':=f p x::fam f (ps.eraseIdx i) (xs.eraseIdx i)::R) (fun w hw=>fam_out hp hx (hw.pick pk)) (KC.turn (h _) (by
  rintro v M ⟨h1,rfl⟩
  exact⟨_,⟨h1,rfl⟩,fun w hw=>fam_put hp (List.getElem?_eq_some_iff.1 hx).1 hw⟩))
theorem KE.famE0 {α β:Type} {f:α→β→HP} {P:Program} {g:FuncId} {args:Array Value} {w0:World} {L R:List HP} {ps:List α} {xs:List β} {p:α} {x:β} {i:Nat} {φ:Value→Prop}
 (hp:ps[i]? =some p) (hx:xs[i]? =some x) (pk:Pick L (fam f ps xs) R) (h:∀L,KE P g args w0 (f p x::L) (fun u M=>φ u∧M=f p x::L)):
 KE P g args w0 L (fun u M=>φ u∧M=fam f ps xs::R):=
 KE.perm (L':=f p x::fam f (ps.eraseIdx i) (xs.eraseIdx i)::R) (fun w hw=>fam_out hp hx (hw.pick pk)) (KE.turn (h _) (by
  rintro v M ⟨h1,rfl⟩
  exact⟨_,⟨h1,rfl⟩,fun w hw=>fam_back hp hx hw⟩))
theorem KE.famE1 {α β:Type} {f:α→β→HP} {P:Program} {g:FuncId} {args:Array Value} {w0:World} {L R:List HP} {ps:List α} {xs:List β} {p:α} {x:β} {i:Nat} {A:Value→HP} {φ:Value→Prop}
 (hp:ps[i]? =some p) (hx:xs[i]? =some x) (pk:Pick L (fam f ps xs) R) (h:∀L,KE P g args w0 (f p x::L) (fun u M=>φ u∧M=A u::f p x::L)):
 KE P g args w0 L (fun u M=>φ u∧M=A u::fam f ps xs::R):=
 KE.perm (L':=f p x::fam f (ps.eraseIdx i) (xs.eraseIdx i)::R) (fun w hw=>fam_out hp hx (hw.pick pk)) (KE.turn (h _) (by
  rintro v M ⟨h1,rfl⟩
  exact⟨_,⟨h1,rfl⟩,fun w hw=>(fam_back hp hx (hw.all (.cons (.tail .head) (.cons (.tail .head) .refl)))).swap2⟩))
section
variable {n:Nat} {H:Ho} {q:Qu} {i j:Nat}
theorem all_q (h4:H.ways.length=4) (hi:i<H.queues.length):H.all[4+i]? =some (H.qAt i):=by
 unfold Ho.all Ho.qAt
 rw[List.getElem?_append_right (by omega),h4,Nat.add_sub_cancel_left,List.getElem?_map,List.getElem?_eq_getElem hi,List.getD_eq_getElem?_getD,List.getElem?_eq_getElem hi];rfl
theorem all_w (h4:H.ways.length=4) (hj:j<4):H.all[j]? =some (H.wAt j):=by
 unfold Ho.all Ho.wAt
 rw[List.getElem?_append_left (by omega),List.getElem?_eq_getElem (by omega),List.getD_eq_getElem?_getD,List.getElem?_eq_getElem (by omega)];rfl
theorem all_len (h4:H.ways.length=4):H.all.length=4+H.queues.length:=by unfold Ho.all;simp[h4]
theorem all_setQ (h4:H.ways.length=4) (i:Nat) (q:Qu):(H.setQ i q).all=H.all.set (4+i) q:=by
 unfold Ho.all Ho.setQ
 rw[List.map_set,List.set_append_right _ _ (by omega),h4,Nat.add_sub_cancel_left]
theorem all_setW (hj:j<H.ways.length) (q:Qu):(H.setW j q).all=H.all.set j q:=by
 unfold Ho.all Ho.setW
 rw[List.set_append_left _ _ hj]
theorem setQ_fst (i:Nat) (q:Qu):(H.setQ i q).queues.map (·.1)=H.queues.map (·.1):=by
 unfold Ho.setQ
 rw[List.map_set]
 apply List.ext_getElem?
 intro k
 rw[List.getElem?_set]
 split
 ·rename_i e;subst e
  split
  ·rename_i hk
   rw[List.length_map]at hk
   rw[List.getElem?_map,List.getElem?_eq_getElem hk,List.getD_eq_getElem?_getD,List.getElem?_eq_getElem hk];rfl
  ·rename_i hk
   rw[List.getElem?_eq_none (by omega)]
 ·rfl
theorem qI_fst (s:ByteArray):H.qI s=(H.queues.map (·.1)).findIdx? fun x=>decide (x=s):=by
 unfold Ho.qI
 rw[List.findIdx?_map];rfl
theorem qI_setQ (i:Nat) (q:Qu) (s:ByteArray):(H.setQ i q).qI s=H.qI s:=by rw[qI_fst,qI_fst,setQ_fst]
theorem mEnt_fst:∀(qs rs:List (ByteArray×Qu)) (ps:List Nat),qs.map (·.1)=rs.map (·.1)→mEnt qs ps=mEnt rs ps
 |[],[],_,_=>rfl
 |a::qs,b::rs,[],_=>rfl
 |a::qs,b::rs,p::ps,h=>by
  simp only[List.map_cons,List.cons.injEq]at h
  have ih:=mEnt_fst qs rs ps h.2
  unfold mEnt at *
  rw[List.zipWith_cons_cons,List.zipWith_cons_cons,ih,h.1]
 |[],b::rs,_,h=>by simp at h
 |a::qs,[],_,h=>by simp at h
theorem setQ_len (i:Nat) (q:Qu):(H.setQ i q).queues.length=H.queues.length:=by simp[Ho.setQ]
theorem HoB.le {k:Nat} (h:HoB n H) (hk:n≤k):HoB k H:=⟨h.id,h.used,h.next,h.sorted,h.nlen,Nat.le_trans h.qlen hk,fun q hq=>(h.qs q hq).le hk,h.nodup,h.ways,h.units,h.batch,h.sent,h.arrived,h.right,h.loc,h.ext.le hk⟩
theorem HoB.setQ (h:HoB n H) (hq:QB n q) (i:Nat):HoB n (H.setQ i q):=by
 refine⟨h.id,h.used,h.next,h.sorted,h.nlen,by rw[setQ_len];exact h.qlen,fun q' hq'=>?_,by rw[setQ_fst];exact h.nodup,h.ways,h.units,h.batch,h.sent,h.arrived,h.right,fun x hx ht=>by(rw[qI_setQ];exact h.loc x hx ht),h.ext⟩
 rw[all_setQ h.ways]at hq'
 rcases List.mem_or_eq_of_mem_set hq' with h1|rfl
 ·exact h.qs _ h1
 ·exact hq
theorem HoB.setW (h:HoB n H) (hq:QB n q) (hj:j<4):HoB n (H.setW j q):=by
 refine⟨h.id,h.used,h.next,h.sorted,h.nlen,h.qlen,fun q' hq'=>?_,h.nodup,by simp[Ho.setW,h.ways],h.units,h.batch,h.sent,h.arrived,h.right,h.loc,h.ext⟩
 rw[all_setW (by rw[h.ways];exact hj)]at hq'
 rcases List.mem_or_eq_of_mem_set hq' with h1|rfl
 ·exact h.qs _ h1
 ·exact hq
theorem HoB.qa (h:HoB n H) (hi:i<H.queues.length):QB n (H.qAt i):=h.qs _ (List.mem_of_getElem? (all_q h.ways hi))
theorem HoB.w (h:HoB n H) (hj:j<4):QB n (H.wAt j):=h.qs _ (List.mem_of_getElem? (all_w h.ways hj))
theorem HoB.nxt (h:HoB n H) {k:Int} (hk:0≤k∧k≤274877906945):HoB n {H with next:=k}:=⟨h.id,h.used,hk,h.sorted,h.nlen,h.qlen,h.qs,h.nodup,h.ways,h.units,h.batch,h.sent,h.arrived,h.right,h.loc,h.ext⟩
theorem qI_lt {s:ByteArray} (h:H.qI s=some i):i<H.queues.length∧(H.queues.getD i (⟨#[]⟩,default)).1=s:=by
 unfold Ho.qI at h
 obtain⟨h1,h2,_⟩:=List.findIdx?_eq_some_iff_getElem.1 h
 refine⟨h1,?_⟩
 rw[List.getD_eq_getElem?_getD,List.getElem?_eq_getElem h1]
 simpa using h2
theorem setNm_sub {l:List Nm} {x y:Nm} (h:y∈setNm l x):(y=x∧setErr l x=0)∨y∈l:=by
 by_cases h0:setErr l x=0
 ·unfold setNm at h
  split at h
  ·exact .inr h
  ·split at h
   ·rcases List.mem_or_eq_of_mem_set h with h|h
    ·exact .inr h
    ·exact .inl ⟨h,h0⟩
   ·split at h
    ·exact .inr h
    ·rcases List.mem_append.1 h with h|h
     ·exact .inr (List.mem_of_mem_take h)
     ·rcases List.mem_cons.1 h with h|h
      ·exact .inl ⟨h,h0⟩
      ·exact .inr (List.mem_of_mem_drop h)
 ·rw[setNm_err h0]at h;exact .inr h
theorem setErr_right {l:List Nm} {x:Nm} (h:setErr l x=0):rightNm x=true:=by
 cases hr:rightNm x with
 |true=>rfl
 |false=>unfold setErr at h;rw[if_pos hr]at h;cases h
theorem setNm_sorted {l:List Nm} (h:Sorted l) (x:Nm):Sorted (setNm l x):=((⟨h,.refl _⟩:NRel l l).set x).sorted
theorem dropNm_sorted {l:List Nm} (h:Sorted l) (s:ByteArray):Sorted (dropNm l s):=((⟨h,.refl _⟩:NRel l l).drop s).sorted
theorem qI_snoc {s t:ByteArray} {q:Qu} {i:Nat} (h:H.qI t=some i):({H with queues:=H.queues++[(s,q)]}:Ho).qI t=some i:=by
 unfold Ho.qI at *
 rw[List.findIdx?_append,h];rfl
theorem qI_new {s:ByteArray} {q:Qu} (h:H.qI s=none):({H with queues:=H.queues++[(s,q)]}:Ho).qI s=some H.queues.length:=by
 unfold Ho.qI at *
 rw[List.findIdx?_append,h];simp
theorem HoB.set (h:HoB n H) (x:Nm):HoB (n+1) (hset H x):=by
 unfold hset
 split
 ·rename_i h0
  have hl:(setNm H.names x).length≤20:=Nat.le_trans (setNm_len _ _) (by have :=h.nlen;omega)
  have hr:∀y∈setNm H.names x,rightNm y=true:=fun y hy=>by
   rcases setNm_sub hy with⟨rfl,-⟩|hy
   ·exact setErr_right h0
   ·exact h.right y hy
  by_cases hc:x.tgt=⟨#[]⟩∧H.qI x.name=none
  ·rw[if_pos hc]
   refine⟨h.id,h.used,h.next,setNm_sorted h.sorted x,hl,by have :=h.qlen;simp;omega,fun q hq=>?_,?_,h.ways,h.units,h.batch,h.sent,h.arrived,hr,fun y hy ht=>?_,h.ext.le (Nat.le_succ n)⟩
   ·simp only[Ho.all,List.map_append,List.mem_append]at hq
    rcases hq with hq|hq|hq
    ·exact(h.qs q (by simp[hq])).le (Nat.le_succ n)
    ·exact(h.qs q (by unfold Ho.all;exact List.mem_append.2 (.inr hq))).le (Nat.le_succ n)
    ·simp at hq;subst hq;exact QB.nil
   ·rw[List.map_append,List.nodup_append]
    refine⟨h.nodup,by simp,fun a ha b hb=>?_⟩
    simp at hb;subst hb
    rintro rfl
    have h2:=hc.2
    rw[qI_fst,List.findIdx?_eq_none_iff]at h2
    simpa using h2 _ ha
   ·rcases setNm_sub hy with⟨rfl,-⟩|hy
    ·exact⟨_,qI_new hc.2⟩
    ·obtain⟨i,hi⟩:=h.loc y hy ht
     exact⟨i,qI_snoc hi⟩
  ·rw[if_neg hc]
   refine⟨h.id,h.used,h.next,setNm_sorted h.sorted x,hl,Nat.le_succ_of_le h.qlen,fun q hq=>(h.qs q hq).le (Nat.le_succ n),h.nodup,h.ways,h.units,h.batch,h.sent,h.arrived,hr,fun y hy ht=>?_,h.ext.le (Nat.le_succ n)⟩
   rcases setNm_sub hy with⟨rfl,-⟩|hy
   ·cases hq:H.qI y.name with
    |none=>exact absurd ⟨ht,hq⟩ hc
    |some i=>exact⟨i,hq⟩
   ·exact h.loc y hy ht
 ·exact h.le (Nat.le_succ n)
theorem HoB.drop (h:HoB n H) (s:ByteArray):HoB n (hdrop H s):=by
 have hs:∀y∈dropNm H.names s,y∈H.names:=fun y hy=>by
  unfold dropNm at hy
  split at hy
  ·exact(List.eraseIdx_sublist _ _).subset hy
  ·exact hy
 exact⟨h.id,h.used,h.next,dropNm_sorted h.sorted s,Nat.le_trans (dropNm_len _ _) h.nlen,h.qlen,h.qs,h.nodup,h.ways,h.units,h.batch,h.sent,h.arrived,fun y hy=>h.right y (hs y hy),fun y hy=>h.loc y (hs y hy),h.ext⟩
theorem HoB.put1 (h:HoB n H) {m:Ms} {H1:Ho} (hm:msRight m=true) (hp:hput1 H m=some H1):HoB (n+1) H1:=by
 obtain⟨m1,m2,m3,m4,-,-,m7,m8⟩:=msRight_parts hm
 have hx:=h.next
 have h1:HoB n {H with next:=max H.next (m.id/4+1)}:=h.nxt ⟨by omega,by omega⟩
 unfold hput1 at hp
 dsimp only at hp
 split at hp
 ·simp only[Option.some.injEq]at hp
  subst hp
  exact(h1.le (Nat.le_succ n)).setW ((h.w (by omega)).pushed ⟨m3,m4⟩ ⟨m1,m2⟩ (-1)) (by omega)
 ·split at hp
  ·cases hp
  ·rename_i i hi
   simp only[Option.some.injEq]at hp
   subst hp
   exact(h1.le (Nat.le_succ n)).setQ ((h.qa (qI_lt hi).1).pushed ⟨m3,m4⟩ ⟨m1,m2⟩ (-1)) i
theorem HoB.puts (l:List Ms):∀{n:Nat} {H:Ho},HoB n H→(∀m∈l,msRight m=true)→HoB (n+l.length) (hputs H l).1:=by
 induction l with
 |nil=>exact fun h _=>h
 |cons m l ih=>
  intro n H h hl
  unfold hputs
  cases hp:hput1 H m with
  |none=>
   obtain⟨m1,m2,_⟩:=msRight_parts (hl m (by simp))
   have hx:=h.next
   exact(h.nxt ⟨by omega,by omega⟩).le (by simp)
  |some H1=>
   have :=ih (h.put1 (hl m (by simp)) hp) fun m hm=>hl m (by simp[hm])
   exact this.le Y61
theorem HoB.get1 (h:HoB n H) {s:ByteArray} {H1:Ho} (hp:hget1 H s=some H1):HoB n H1:=by
 unfold hget1 at hp
 split at hp
 ·cases hp
 ·split at hp
  ·cases hp
  ·rename_i k i hi
   split at hp
   ·simp only[Option.some.injEq]at hp
    subst hp
    exact h.setQ ((h.qa (qI_lt hi).1).take _) i
   ·cases hp
theorem HoB.gets (l:List ByteArray):∀{H:Ho},HoB n H→HoB n (hgets H l).1:=by
 induction l with
 |nil=>exact fun h=>h
 |cons s l ih=>
  intro H h
  unfold hgets
  cases hp:hget1 H s with
  |none=>exact h
  |some H1=>exact ih (h.get1 hp)
theorem HoB.ends {s:ByteArray} (h:HoB n H) (hr:∀l,mrd (cutB 47 s).1=some l→∀m∈l,msRight m=true) {k:Nat} (hk:∀l,mrd (cutB 47 s).1=some l→n+l.length≤k) (hk2:n≤k):HoB k (hends H s).1:=by
 unfold hends
 split
 ·exact h.le hk2
 ·split
  ·exact h.le hk2
  ·rename_i l hl
   have h1:=(h.puts l (hr l hl)).le (hk l hl)
   split
   ·exact h1
   ·split
    ·exact h1
    ·exact h1.gets _
theorem HoB.log {D:Dk} (h:HoB n H):HoB n (logH H D):=by
 unfold logH
 split
 ·exact h
 ·rename_i h0
  have h0:roomE H=0:=by simpa using h0
  split
  ·exact⟨h.id,h.used,h.next,h.sorted,h.nlen,h.qlen,h.qs,h.nodup,h.ways,h.units,h.batch,h.sent,h.arrived,h.right,h.loc,h.ext⟩
  ·exact⟨h.id,(roomE_z h0).2,h.next,h.sorted,h.nlen,h.qlen,h.qs,h.nodup,h.ways,h.units,h.batch,h.sent,h.arrived,h.right,h.loc,h.ext⟩
def wrH (H:Ho) (D:Dk) (s:ByteArray):Ho:=if logE H D=0 then(hplays (logH H D) s).1 else logH H D
theorem rightK_iff {k:Int}:rightK H k=true↔0≤k∧k<4∧k≠H.id:=by unfold rightK;simp
theorem getD_mem0 {l:List Int} {k:Nat} {n:Nat} (h:∀x∈l,0≤x∧x≤(n:Int)):0≤l.getD k 0∧l.getD k 0≤(n:Int):=by
 rw[List.getD_eq_getElem?_getD]
 cases hk:l[k]? with
 |none=>exact⟨Int.le_refl 0,by show(0:Int)≤n;omega⟩
 |some x=>exact h x (List.mem_of_getElem? hk)
theorem mapM_len {α β:Type} {f:α→Option β}:∀{l:List α} {r:List β},l.mapM f=some r→r.length=l.length
 |[],r,h=>by cases h;rfl
 |a::l,r,h=>by
  rw[List.mapM_cons]at h
  cases ha:f a with
  |none=>rw[ha]at h;cases h
  |some b=>
   rw[ha]at h
   cases hl:l.mapM f with
   |none=>rw[hl]at h;cases h
   |some r'=>rw[hl]at h;cases h;simp[mapM_len hl]
theorem intsO_len {s:ByteArray} {l:List Int} (h:intsO s=some l):l.length≤s.size+1:=by
 have :=mapM_len h
 have :=pcs_len_le 32 s
 omega
theorem HoB.made (h:HoB n H) (s:ByteArray) (hs:s.size≤90000):HoB (n+1) (hmade H s).1:=by
 unfold hmade
 split
 ·rename_i k a r hi
  split
  ·have h2:=h.le (Nat.le_succ n)
   refine⟨h2.id,h2.used,h2.next,h2.sorted,h2.nlen,h2.qlen,h2.qs,h2.nodup,h2.ways,h2.units,by simp[h.batch],by simp[h.sent],h2.arrived,h2.right,h2.loc,⟨fun l hl=>?_,fun x hx=>?_,h2.ext.arr⟩⟩
   ·rcases List.mem_or_eq_of_mem_set hl with h3|rfl
    ·exact h.ext.bat l h3
    ·have :=intsO_len hi;simp at this ⊢;omega
   ·rcases List.mem_or_eq_of_mem_set hx with h3|rfl
    ·exact h2.ext.snt x h3
    ·have :=getD_mem0 (k:=k.toNat) h.ext.snt
     unfold snAt;push_cast;omega
  ·exact h.le (Nat.le_succ n)
 ·exact h.le (Nat.le_succ n)
theorem QB.takes {q:Qu} (h:QB n q) (l:List Int):QB n (qtakes q l):=by
 unfold qtakes
 induction l generalizing q with
 |nil=>exact h
 |cons a l ih=>exact ih (h.take a)
theorem HoB.known (h:HoB n H) (s:ByteArray):HoB n (hknown H s).1:=by
 unfold hknown
 split
 ·rename_i k _
  split
  ·rename_i h1
   have h2:=rightK_iff.1 h1
   have hk4:k.toNat<4:=by omega
   have h3:=h.setW ((h.w (j:=k.toNat) hk4).takes (bcAt H k.toNat)) hk4
   exact⟨h3.id,h3.used,h3.next,h3.sorted,h3.nlen,h3.qlen,h3.qs,h3.nodup,h3.ways,h3.units,by simp[h.batch],h3.sent,h3.arrived,h3.right,h3.loc,⟨fun l hl=>by
    rcases List.mem_or_eq_of_mem_set hl with h4|rfl
    ·exact h.ext.bat l h4
    ·simp,h3.ext.snt,h3.ext.arr⟩⟩
  ·exact h
 ·exact h
theorem HoB.comes:∀(l:List (Ms×ByteArray)) {n:Nat} {H:Ho},HoB n H→(∀x∈l,(0≤x.1.pri∧x.1.pri≤9)∧0≤x.1.id∧x.1.id≤1099511627776)→HoB (n+l.length) (hcomes H l).1
 |[],_,_,h,_=>h
 |(m,t)::l,n,H,h,hp=>by
  unfold hcomes
  split
  ·exact h.le (by omega)
  ·rename_i i hi
   have h1:=(h.le (Nat.le_succ n)).setQ ((h.qa (qI_lt hi).1).pushed (hp (m,t) (by simp)).1 (hp (m,t) (by simp)).2 (-1)) i
   exact(HoB.comes l h1 fun x hx=>hp x Y67).le Y61
theorem HoB.came (h:HoB n H) (s:ByteArray) {k:Nat} (hk1:1≤k) (hk:∀l,(∃a b c,pcs 47 s=[a,b,c]∧mrd b=some l)→l.length≤k):HoB (n+k) (hcame H s).1:=by
 unfold hcame
 split
 ·rename_i a b c e
  split
  ·rename_i kk l _ hl
   have h1:=hk l ⟨a,b,c,e,hl⟩
   have hr:=badI_all (mrd_some hl).1
   have h2:=(HoB.comes (l.zip (pcs 43 c)) h fun x hx=>by
    have :=msRight_parts (hr x.1 (List.of_mem_zip hx).1)
    exact⟨⟨this.2.2.1,this.2.2.2.1⟩,this.1,this.2.1⟩).le (k:=n+k) (by rw[List.length_zip];omega)
   split
   ·split
    ·exact⟨h2.id,h2.used,h2.next,h2.sorted,h2.nlen,h2.qlen,h2.qs,h2.nodup,h2.ways,h2.units,h2.batch,h2.sent,by simp[h.arrived],h2.right,h2.loc,⟨h2.ext.bat,h2.ext.snt,fun x hx=>by
      rcases List.mem_or_eq_of_mem_set hx with h3|rfl
      ·have :=h.ext.arr x h3;omega
      ·have :=getD_mem0 (k:=kk.toNat) h.ext.arr
       unfold avAt;omega⟩⟩
    ·exact h2
   ·exact h.le (by omega)
  ·exact h.le (by omega)
 ·exact h.le (by omega)
structure RecOk (n:Nat) (s:ByteArray):Prop where
 size:s.size≤80000
 many:(cutB 58 s).1=chr1 117→∀l,mrd (cutB 47 (cutB 58 s).2.1).1=some l→l.length≤n
 come:(cutB 58 s).1=chr1 114→∀a b c l,pcs 47 (cutB 58 s).2.1=[a,b,c]→mrd b=some l→l.length≤n∧l.length≤(pcs 43 c).length
theorem cutB_size (c:UInt8) (s:ByteArray):(cutB c s).1.size≤s.size∧(cutB c s).2.1.size≤s.size:=by
 unfold cutB Lib.cut
 split
 ·simp only[toB,ba_size]
  constructor<;>simp <;>omega
 ·simp only[toB,ba_size]
  constructor<;>simp
theorem HoB.plays {k:Nat} {s:ByteArray} (h:HoB n H) (hr:RecOk k s) (hk:1≤k):HoB (n+k) (hplays H s).1:=by
 have hc:=(cutB_size 58 s).2
 have hs:=hr.size
 unfold hplays
 split
 ·split
  ·exact h.le (by omega)
  ·exact(h.set _).le (by omega)
 ·split
  ·exact(h.drop _).le (by omega)
  ·split
   ·rename_i h3
    exact h.ends (fun l hl=>badI_all (mrd_some hl).1) (fun l hl=>by have :=hr.many h3 l hl;omega) (by omega)
   ·split
    ·exact(h.made _ (by omega)).le (by omega)
    ·split
     ·exact(h.known _).le (by omega)
     ·split
      ·rename_i h6
       exact h.came _ hk fun l hl=>by
        obtain⟨a,b,c,h7,h8⟩:=hl
        exact(hr.come h6 a b c l h7 h8).1
      ·exact h.le (by omega)
end
end WB
/- house: ends -/
namespace Go.Proofs.YtjhogocabcdjbabGreatDoor
open Go Go.RowKit WB
theorem cut1_e (w0:World) (L:List HP) (s:ByteArray) (c:UInt8) (hs:s.size≤100000000) (hM:Lim w0):
 KE Tryz.prog 135 #[.string s,.string ⟨#[c]⟩] w0 L (fun u M=>u=.tuple #[.string (cutB c s).1,.string (cutB c s).2.1,.bool (cutB c s).2.2]∧M=L):=KE.of_below fun w hw=>by
 obtain⟨⟨m,hm⟩,_⟩:=hM.ext (Ext.of_below hw.below)
 refine(Tryz.strings_Cut s ⟨#[c]⟩ m w (by omega) hm).mono ?_
 rintro e w' ⟨rfl,n,rfl⟩
 exact⟨rfl,⟨rfl,rfl,rfl,Nat.le_refl _,fun _ _=>rfl⟩⟩
theorem mapE_get {V:HoV} {H:Ho} (hV:HoVL V H) (s:ByteArray):getK (mapE V H) s=(H.qI s).bind fun i=>(V.ps[4+i]?).map ptrV:=by
 have hps:=hV.ps
 rw[mEnt_get _ _ _ (by rw[List.length_drop,hps];omega)]
 unfold Ho.qI
 cases List.findIdx? (fun x=>decide (x.1=s)) H.queues with
 |none=>rfl
 |some i=>simp[List.getElem?_drop,ptrV];rfl
theorem hoP_setQ {w0 w:World} {bh bd:Nat} {H:Ho} {L:List HP} (V:HoV) (hV:HoVL V H) (i:Nat) (q:Qu)
 (h:St w0 (blk bh (.cells (hoC bd V H).toArray 133 (0,0))::nmS V.nv H.names::omapK Value.string V.mb (mapE V H)::fam quP V.ps (H.all.set (4+i) q)::fam putsS (V.us.map (·.1)) (H.units.map (·.puts))::fam getsS (V.us.map (·.2)) (H.units.map (·.gets))::fam batS V.bs H.batch::L) w):St w0 (hoP bh bd (H.setQ i q)::L) w:=by
 refine hoP_mk V ⟨by rw[setQ_len];exact hV.ps,hV.us,hV.bs,hV.ways,hV.units,hV.batch,hV.sent,hV.arrived⟩ ?_
 unfold hoX mapE
 rw[all_setQ hV.ways,mEnt_fst (H.setQ i q).queues H.queues _ (setQ_fst i q)]
 exact h
theorem hoP_setW {w0 w:World} {bh bd:Nat} {H:Ho} {L:List HP} (V:HoV) (hV:HoVL V H) (j:Nat) (hj:j<4) (q:Qu)
 (h:St w0 (blk bh (.cells (hoC bd V H).toArray 133 (0,0))::nmS V.nv H.names::omapK Value.string V.mb (mapE V H)::fam quP V.ps (H.all.set j q)::fam putsS (V.us.map (·.1)) (H.units.map (·.puts))::fam getsS (V.us.map (·.2)) (H.units.map (·.gets))::fam batS V.bs H.batch::L) w):St w0 (hoP bh bd (H.setW j q)::L) w:=by
 refine hoP_mk V ⟨hV.ps,hV.us,hV.bs,by simp[Ho.setW,hV.ways],hV.units,hV.batch,hV.sent,hV.arrived⟩ ?_
 unfold hoX
 rw[all_setW (by rw[hV.ways];exact hj)]
 exact h
theorem hoC_way {bd:Nat} {V:HoV} {H:Ho} (hV:HoVL V H) {j p:Nat} (hj:j<4) (hp:V.ps[j]? =some p):(hoC bd V H)[8+j]? =some (ptrV p):=by
 have hps:=hV.ps
 have :∀(r:List Value),((V.ps.take 4).map ptrV++r)[j]? =some (ptrV p):=fun r=>by
  rw[List.getElem?_append_left Y61,List.getElem?_map,List.getElem?_take,if_pos hj,hp];rfl
 unfold hoC
 rw[show 8+j=j+8 by omega]
 simpa using this _
theorem qtake_err {q:Qu} {id:Int} (h:qtakeE q id≠0):qtake q id=q:=by
 unfold qtakeE at h
 unfold qtake
 split
 ·rfl
 ·rename_i k hk;rw[hk]at h;exact absurd rfl h
theorem setQu_same {l:List Qu} {i:Nat} {q:Qu} (h:l[i]? =some q):l.set i q=l:=List.set_getElem_of h
set_option maxRecDepth 100000 in
set_option maxHeartbeats 2000000 in
theorem hends_c (w0:World) (L:List HP) (bh bd n:Nat) (H:Ho) (s:ByteArray) (hT:Tab w0) (hM:Lim w0) (hs:s.size≤80000) (hB:HoB n H) (hn:∀l,mrd (cutB 47 s).1=some l→n+l.length≤90000) (hn0:n≤90000):
 KC Tryz.prog 65 #[ptrV bh,.string s] w0 (hoP bh bd H::L) (fun u M=>u=.bool (hends H s).2∧M=hoP bh bd (hends H s).1::L):=by
 have hc1:=(cutB_size 47 s).1
 have hc2:=(cutB_size 47 s).2
 refine KC.mk (n:=130) Tryz.func65 rfl Tryz.ntmps65 (by simp) ?_
 refine Z150 ?_
 refine KO.ce (cp:=[]) rfl rfl rfl Tryz.call135 rfl (cut1_e w0 _ s 47 (by omega) hM) ?_;rintro v' L' ⟨rfl,rfl⟩
 refine Z47 ?_
 refine Z187 ?_
 refine Z166 ?_
 refine Z21 ?_
 cases hm:mrd (cutB 47 s).1 with
 |none=>
  have he:hends H s=(H,false):=by
   unfold hends;split
   ·rfl
   ·rw[hm]
  rw[he]
  refine Z8 ?_
  refine KO.ce (cp:=[]) rfl rfl rfl Tryz.call160 rfl (mread_e w0 _ (cutB 47 s).1 (by omega) hT hM) ?_;rintro v' L' hR;unfold MrR at hR;rw[hm]at hR;obtain⟨rfl,rfl⟩:=hR
  refine Z178 ?_
  cases hok:(cutB 47 s).2.2 with
  |false=>
   refine Z185 ?_
   refine Z96 ?_
   refine Z333 ?_
   refine KQ.ret1 rfl rfl (fun w' hs'=>⟨_,_,rfl,⟨rfl,rfl⟩,hs'⟩)
  |true=>
   refine Z205 ?_
   refine Z309 ?_
   refine Z319 ?_
   refine K.condT rfl (by simp) ?_
   refine Z193 ?_
   refine KQ.ret1 rfl rfl (fun w' hs'=>⟨_,_,rfl,⟨rfl,rfl⟩,hs'⟩)
 |some l=>
  have hl:=hn l hm
  obtain⟨hbad,_⟩:=mrd_some hm
  have hright:∀m∈l,msRight m=true:=fun m hm=>badI_all hbad m hm
  refine Z8 ?_
  refine KO.ce (cp:=[]) rfl rfl rfl Tryz.call160 rfl (mread_e w0 _ (cutB 47 s).1 (by omega) hT hM) ?_;rintro v' L' hR;unfold MrR at hR;rw[hm]at hR;obtain⟨v,rfl,rfl⟩:=hR
  refine Z178 ?_
  cases hok:(cutB 47 s).2.2 with
  |false=>
   have he:hends H s=(H,false):=by unfold hends;rw[hok];rfl
   rw[he]
   refine Z185 ?_
   refine Z96 ?_
   refine Z333 ?_
   refine KQ.ret1 rfl rfl (fun w' hs'=>⟨_,_,rfl,⟨rfl,rfl⟩,hs'.drop⟩)
  |true=>
   have he:hends H s=if(hputs H l).2=false then((hputs H l).1,false)else if(cutB 47 s).2.1=⟨#[]⟩then((hputs H l).1,true)else hgets (hputs H l).1 (pcs 43 (cutB 47 s).2.1):=by
    unfold hends;rw[hok,hm];rfl
   refine Z205 ?_
   refine Z97 ?_
   refine Z27 ?_
   refine Z224 ?_
   refine Z6 ?_
   refine K.fact (fun w hw=>SL_form (hw.pick (A:=SL 44 5 msC v l) .head)) ?_
   rintro⟨ad,cap,rfl,had⟩
   refine Z8 ?_
   refine Z285 ?_
   refine K.loop (fun p:Nat×Ho=>[(0,ptrV bh),(6,.string (cutB 47 s).2.1),(40,.slice ad l.length cap),(41,.int .i64 (l.length:Nat)),(42,.int .i64 (p.1:Nat))]) (fun p=>hoP bh bd p.2::SL 44 5 msC (.slice ad l.length cap) l::L) (fun p=>p.1≤l.length∧HoB (n+p.1) p.2∧hputs p.2 (l.drop p.1)=hputs H l) (fun p=>l.length-p.1) (0,H)
    ⟨Nat.zero_le _,hB,rfl⟩ ⟨rfl,rfl,rfl,rfl,rfl,trivial⟩ (fun _ h=>h.all Y3) ?_
   rintro⟨i,H1⟩ ⟨hi,hB1,hp1⟩
   dsimp only at hi hB1 hp1 ⊢
   refine Z111 ?_
   refine K.condD rfl (fun h=>?_) (fun h=>?_)
   ·obtain⟨m,hmi⟩:∃e,l[i]? =some e:=⟨l[i],List.getElem?_eq_getElem (by omega)⟩
    have hmr:=hright m (List.mem_of_getElem? hmi)
    obtain⟨m1,m2,m3,m4,-,-,m7,m8⟩:=msRight_parts hmr
    obtain⟨g,rfl⟩:=had (by omega)
    have hdl:l.drop i=m::l.drop (i+1):=by
     obtain⟨h1,rfl⟩:=List.getElem?_eq_some_iff.1 hmi
     exact List.drop_eq_getElem_cons h1
    rw[hdl,hputs]at hp1
    have hnx:=hB1.next
    have hm4:0≤m.id/4∧m.id/4+1≤274877906945:=by omega
    have hput:∀H2,hput1 H1 m=some H2→HoB (n+(i+1)) H2∧hputs H2 (l.drop (i+1))=hputs H l:=fun H2 h2=>⟨hB1.put1 hmr h2,by rw[h2]at hp1;exact hp1⟩
    have hno:hput1 H1 m=none→hends H s=({H1 with next:=max H1.next (m.id/4+1)},false):=fun h2=>by
     rw[h2]at hp1;simp only at hp1;rw[he,←hp1,if_pos rfl]
    clear hp1
    have hsm:small m.pri:=by unfold small;omega
    obtain⟨mi,mp,mb,mq,mh⟩:=m
    dsimp only at m1 m2 m3 m4 m7 m8 hm4 hsm hno
    refine Z145 ?_
    refine Z163 ?_
    refine KO.alloc rfl Tryz.zeroValue44 Y68 rfl ?_;intro b11
    refine Z278 ?_
    refine K.open' (fun _ h=>hoP_open (h.pick Y11)) ?_
    rintro⟨V,hV⟩
    dsimp only
    have hps:=hV.ps
    have hV1:HoVL V {H1 with next:=max H1.next (mi/4+1)}:=⟨hV.ps,hV.us,hV.bs,hV.ways,hV.units,hV.batch,hV.sent,hV.arrived⟩
    refine K.draw [.pure,.pure,.pure,.pure,.read,.pure,.read,.pure,.pure,.pure,.pure,.pure,.write] [0,1,2,3,4,5,6,7,8,9,10,11,12] Y62 Y62 ?_
    refine Z217 ?_
    refine Z174 ?_
    refine KO.ldAt (i:=5) rfl rfl Tryz.isAgg3 Y21 rfl rfl rfl ?_
    refine Z359 ?_
    refine KO.div (a:=mi) (c:=4) rfl rfl (by decide) m1 (by omega) rfl ?_
    refine Z23 ?_
    refine KO.max2 rfl rfl rfl rfl ?_
    refine Z49 ?_
    refine Z174 ?_
    refine KO.stAt (i:=5) rfl rfl rfl Y68 Y45 rfl Y21 rfl Y34 ?_;rw[show(hoC bd V H1).set 5 (.int .i64 (max H1.next (mi/4+1)))=hoC bd V {H1 with next:=max H1.next (mi/4+1)}from rfl]
    refine Z0 ?_
    have hg:=mapE_get hV mq
    obtain⟨zv,hzv⟩:∃zv,zv=(getK (mapE V H1) mq).getD (.pointer none):=⟨_,rfl⟩
    refine K.draw [.pure,.pure,.pure,.read,.pure,.read,.read,.pure] [0,1,2,3,4,5,6,7] Y62 Y62 ?_
    refine Z26 ?_
    refine Z29 ?_
    refine Z74 ?_
    refine Z118 ?_
    refine KO.lkm strKey mq rfl rfl rfl Tryz.underlying123 Tryz.underlying9 Tryz.zeroValue119 Y11 rfl ?_;rw[←hzv]
    refine Z7 ?_
    refine Z39 ?_
    refine K.draw [.pure,.read,.pure,.pure,.pure,.read,.pure,.pure] [0,1,2,3,4,5,6,7] Y62 Y62 ?_
    refine Z82 ?_
    refine Z38 ?_
    refine Z26 ?_
    refine Z115 ?_
    refine KO.ldAt (i:=0) rfl rfl Tryz.isAgg3 Y21 rfl rfl rfl ?_
    refine Z265 ?_
    refine Z83 ?_
    refine K.condD rfl (fun h11=>?_) (fun h11=>?_)
    ·have hj:mh.toNat<4:=by omega
     have hmh:mh=((mh.toNat:Nat):Int):=by omega
     obtain⟨p,hp⟩:∃p,V.ps[mh.toNat]? =some p:=⟨_,List.getElem?_eq_getElem (by omega)⟩
     have hw:=hoC_way hV1 (bd:=bd) hj hp
     have h2:hput1 H1 ⟨mi,mp,mb,mq,mh⟩=some (({H1 with next:=max H1.next (mi/4+1)}:Ho).setW mh.toNat (qpush (H1.wAt mh.toNat) ⟨mi,mp,mb,mq,mh⟩ (-1))):=by unfold hput1;exact if_pos h11
     obtain⟨h3,h4⟩:=hput _ h2
     refine K.draw [.pure,.pure,.read,.pure,.pure,.pure,.read,.read,.write] [0,1,2,3,4,5,6,7,8] Y62 Y62 ?_
     refine Z1 ?_
     refine Z82 ?_
     refine Z38 ?_
     refine Z49 ?_
     refine Z211 ?_
     refine KO.idxA (i:=mh.toNat) rfl rfl Tryz.runUnderlying126 Tryz.sizeOf119 hmh (by omega) rfl ?_
     refine KO.ldAt (i:=8+mh.toNat) rfl rfl Tryz.isAgg119 Y21 Y31 hw rfl ?_
     refine Z113 ?_
     refine KO.cl (cp:=[]) rfl rfl rfl Tryz.call147 rfl (KC.famC (φ:=fun v=>v=.tuple #[]) hp (all_w hV.ways hj) Y11 (fun L=>push_c w0 L p (H1.wAt mh.toNat) ⟨mi,mp,mb,mq,mh⟩ (-1) ((hB1.w hj).ok (by omega)) hsm)) ?_;rintro v' L' ⟨rfl,rfl⟩
     refine Z132 ?_
     refine KQ.round (i+1,_) ⟨by dsimp only;omega,h3,h4⟩ Y47 ⟨rfl,rfl,rfl,rfl,rfl,trivial⟩ (fun _ h=>?_)
     exact hoP_setW V hV1 mh.toNat hj _ (h.all Y5)
    ·have hpq:∀(o:Option Nat),H1.qI mq=o→hput1 H1 ⟨mi,mp,mb,mq,mh⟩=match o with|none=>none|some i=>some (({H1 with next:=max H1.next (mi/4+1)}:Ho).setQ i (qpush (H1.qAt i) ⟨mi,mp,mb,mq,mh⟩ (-1))):=fun o ho=>by
      unfold hput1
      dsimp only
      rw[if_neg h11,show H1.qI mq=o from ho]
      all_goals (cases o<;>rfl)
     cases hq:H1.qI mq with
     |none=>
      rw[hq]at hg
      rw[hg]at hzv
      subst hzv
      refine Z117 ?_
      refine KO.eqP0 rfl Tryz.underlying119 rfl ?_
      refine Z7 ?_
      refine Z55 ?_
      refine Z3 ?_
      refine Z146 ?_
      refine KQ.ret1 rfl rfl (fun w' hs'=>⟨_,_,rfl,⟨?_,rfl⟩,?_⟩)
      ·rw[hno (hpq _ hq)]
      ·rw[hno (hpq _ hq)]
       exact hoP_mk V hV1 (hs'.all Y5)
     |some k=>
      have hk:=(qI_lt hq).1
      obtain⟨p,hp⟩:∃p,V.ps[4+k]? =some p:=⟨_,List.getElem?_eq_getElem (by omega)⟩
      rw[hq]at hg
      simp only[Option.bind_some,hp,Option.map_some]at hg
      rw[hg]at hzv
      subst hzv
      have h2:=hpq _ hq
      obtain⟨h3,h4⟩:=hput _ h2
      refine Z117 ?_
      refine KO.eqPn rfl Tryz.underlying119 rfl ?_
      refine Z7 ?_
      refine Z63 ?_
      refine Z8 ?_
      refine Z113 ?_
      refine KO.cl (cp:=[]) rfl rfl rfl Tryz.call147 rfl (KC.famC (φ:=fun v=>v=.tuple #[]) hp (all_q hV.ways hk) Y11 (fun L=>push_c w0 L p (H1.qAt k) ⟨mi,mp,mb,mq,mh⟩ (-1) ((hB1.qa hk).ok (by omega)) hsm)) ?_;rintro v' L' ⟨rfl,rfl⟩
      refine Z132 ?_
      refine KQ.round (i+1,_) ⟨by dsimp only;omega,h3,h4⟩ Y47 ⟨rfl,rfl,rfl,rfl,rfl,trivial⟩ (fun _ h=>?_)
      exact hoP_setQ V hV1 k _ (h.all Y5)
   ·have hil:i=l.length:=by omega
    subst hil
    rw[List.drop_length,hputs]at hp1
    rw[←hp1]at he
    simp only[Bool.true_eq_false,if_false]at he
    have hB2:=hB1.le (show n+l.length≤90000 by omega)
    refine Z274 ?_
    refine Z266 ?_
    refine Z2 ?_
    refine K.condD rfl (fun h16=>?_) (fun h16=>?_)
    ·rw[if_pos h16]at he
     rw[he]
     refine Z193 ?_
     refine KQ.ret1 rfl rfl (fun w' hs'=>⟨_,_,rfl,⟨rfl,rfl⟩,hs'.all Y1⟩)
    ·rw[if_neg h16]at he
     rw[he]
     have hpz:∀x∈pcs 43 (cutB 47 s).2.1,x.size≤100000000:=fun x hx=>by have :=pcs_size hx;omega
     have hpl:(pcs 43 (cutB 47 s).2.1).length≤(cutB 47 s).2.1.size+1:=by unfold pcs;rw[List.length_map,pieces_len];have :=List.count_le_length (a:=43) (l:=(cutB 47 s).2.1.data.toList);rw[ba_size];omega
     refine Z273 ?_
     refine KO.ce (cp:=[]) rfl rfl rfl Tryz.call133 rfl (split_e w0 _ (cutB 47 s).2.1 43 (by omega) hM) ?_;rintro v' L' ⟨b92,rfl,rfl⟩
     refine Z347 ?_
     generalize hps0:pcs 43 (cutB 47 s).2.1=ws at hpz hpl
     refine K.loop (fun p:Nat×Ho=>[(0,ptrV bh),(92,.slice (some ⟨b92,0,none⟩) ws.length ws.length),(93,.int .i64 (ws.length:Nat)),(94,.int .i64 (p.1:Nat))]) (fun p=>hoP bh bd p.2::strS (.slice (some ⟨b92,0,none⟩) ws.length ws.length) ws::L) (fun p=>p.1≤ws.length∧HoB 90000 p.2∧hgets p.2 (ws.drop p.1)=hgets H1 ws) (fun p=>ws.length-p.1) (0,H1)
      ⟨Nat.zero_le _,hB2,rfl⟩ ⟨rfl,rfl,rfl,rfl,trivial⟩ (fun _ h=>h.all Y1) ?_
     rintro⟨i,H2⟩ ⟨hi2,hB3,hp2⟩
     dsimp only at hi2 hB3 hp2 ⊢
     refine Z111 ?_
     refine K.condD rfl (fun h=>?_) (fun h=>?_)
     ·obtain⟨x,hx⟩:∃e,ws[i]? =some e:=⟨ws[i],List.getElem?_eq_getElem (by omega)⟩
      have hxz:=hpz x (List.mem_of_getElem? hx)
      have hxc:=(cutB_size 32 x).1
      have hdl:ws.drop i=x::ws.drop (i+1):=by
       obtain⟨h1,rfl⟩:=List.getElem?_eq_some_iff.1 hx
       exact List.drop_eq_getElem_cons h1
      rw[hdl,hgets]at hp2
      have hget:∀H3,hget1 H2 x=some H3→HoB 90000 H3∧hgets H3 (ws.drop (i+1))=hgets H1 ws:=fun H3 h2=>⟨hB3.get1 h2,by rw[h2]at hp2;exact hp2⟩
      have hno:hget1 H2 x=none→hgets H1 ws=(H2,false):=fun h2=>by rw[h2]at hp2;exact hp2.symm
      clear hp2
      refine Z254 ?_
      refine KO.ldE0 rfl rfl Tryz.isAgg9 Y11 (fun _=>rfl) Y63 Y68 Y68 rfl ?_
      refine Z28 ?_
      refine KO.ce (cp:=[]) rfl rfl rfl Tryz.call135 rfl (cut1_e w0 _ x 32 (by omega) hM) ?_;rintro v' L' ⟨rfl,rfl⟩
      refine Z47 ?_
      refine Z187 ?_
      refine Z166 ?_
      refine Z21 ?_
      cases hnum:numO (cutB 32 x).1 with
      |none=>
       have h2:hget1 H2 x=none:=by unfold hget1;rw[hnum]
       refine Z8 ?_
       refine KO.ce (cp:=[]) rfl rfl rfl Tryz.call136 rfl (atoi_e w0 _ (cutB 32 x).1 (by omega) hM) ?_;rintro v' L' ⟨hR,rfl⟩;unfold atoiR at hR;rw[hnum]at hR;obtain⟨xx,TT,yy,rfl⟩:=hR
       refine Z178 ?_
       refine K.open' (fun _ h=>hoP_open (h.pick Y21)) ?_
       rintro⟨V,hV⟩
       dsimp only
       refine Z326 ?_
       refine KO.lkm strKey _ rfl rfl rfl Tryz.underlying123 Tryz.underlying9 Tryz.zeroValue119 Y11 rfl ?_
       refine Z28 ?_
       refine Z227 ?_
       refine Z96 ?_
       refine Z168 ?_
       refine Z3 ?_
       refine Z146 ?_
       refine KQ.ret1 rfl rfl (fun w' hs'=>⟨_,_,rfl,⟨?_,rfl⟩,?_⟩)
       ·rw[hno h2]
       ·rw[hno h2]
        exact hoP_mk V hV (hs'.all Y5)
      |some id=>
       refine Z8 ?_
       refine KO.ce (cp:=[]) rfl rfl rfl Tryz.call136 rfl (atoi_e w0 _ (cutB 32 x).1 (by omega) hM) ?_;rintro v' L' ⟨hR,rfl⟩;unfold atoiR at hR;rw[hnum]at hR;subst hR
       refine Z178 ?_
       refine K.open' (fun _ h=>hoP_open (h.pick Y21)) ?_
       rintro⟨V,hV⟩
       dsimp only
       have hg:=mapE_get hV (cutB 32 x).2.1
       have hps:=hV.ps
       cases hq:H2.qI (cutB 32 x).2.1 with
       |none=>
        have h2:hget1 H2 x=none:=by unfold hget1;rw[hnum];simp only;rw[hq]
        rw[hq]at hg
        refine Z326 ?_
        refine KO.lkm strKey (cutB 32 x).2.1 rfl rfl rfl Tryz.underlying123 Tryz.underlying9 Tryz.zeroValue119 Y11 rfl ?_;rw[hg]
        refine Z28 ?_
        refine Z97 ?_
        refine Z281 ?_
        refine KO.on rfl rfl rfl ?_;refine KO.eqP0 rfl Tryz.underlying119 rfl ?_
        refine Z27 ?_
        refine Z55 ?_
        refine Z3 ?_
        refine Z146 ?_
        refine KQ.ret1 rfl rfl (fun w' hs'=>⟨_,_,rfl,⟨?_,rfl⟩,?_⟩)
        ·rw[hno h2]
        ·rw[hno h2]
         exact hoP_mk V hV (hs'.all Y5)
       |some k=>
        have hk:=(qI_lt hq).1
        obtain⟨p,hp⟩:∃p,V.ps[4+k]? =some p:=⟨_,List.getElem?_eq_getElem (by omega)⟩
        rw[hq]at hg
        simp only[Option.bind_some,hp,Option.map_some]at hg
        have hql:=(hB3.qa hk).len
        have hge:hget1 H2 x=if qtakeE (H2.qAt k) id=0 then some (H2.setQ k (qtake (H2.qAt k) id))else none:=by unfold hget1;rw[hnum];simp only;rw[hq]
        refine Z326 ?_
        refine KO.lkm strKey (cutB 32 x).2.1 rfl rfl rfl Tryz.underlying123 Tryz.underlying9 Tryz.zeroValue119 Y11 rfl ?_;rw[hg]
        refine Z28 ?_
        refine Z97 ?_
        refine Z281 ?_
        refine KO.on rfl rfl rfl ?_;refine KO.eqPn rfl Tryz.underlying119 rfl ?_
        refine Z27 ?_
        refine Z162 ?_
        generalize htm:qtakeM (H2.qAt k) id=tm
        obtain⟨ti,tp,tb,tq,th⟩:=tm
        refine Z72 ?_
        refine KO.cl (cp:=[]) rfl rfl rfl Tryz.call161 rfl (KC.famC (φ:=fun v=>v=.tuple #[.agg (msC (qtakeM (H2.qAt k) id)).toArray,errV 70 (qtakeE (H2.qAt k) id)]) hp (all_q hV.ways hk) Y11 (fun L=>take_c w0 L p (H2.qAt k) id (by omega))) ?_;rintro v' L' ⟨rfl,rfl⟩;rw[htm]
        refine Z47 ?_
        refine KO.alloc rfl Tryz.zeroValue44 Y68 rfl ?_;intro b21
        refine Z67 ?_
        refine Z239 ?_
        refine K.condD rfl (fun h27=>?_) (fun h27=>?_)
        ·rw[if_neg h27]at hge
         refine Z3 ?_
         refine Z146 ?_
         refine KQ.ret1 rfl rfl (fun w' hs'=>⟨_,_,rfl,⟨?_,rfl⟩,?_⟩)
         ·rw[hno hge]
         ·rw[hno hge]
          rw[qtake_err h27,setQu_same (all_q hV.ways hk)]at hs'
          exact hoP_mk V hV (hs'.all Y5)
        ·have h270:qtakeE (H2.qAt k) id=0:=by simpa using h27
         rw[if_pos h270]at hge
         obtain⟨h3,h4⟩:=hget _ hge
         refine Z191 ?_
         refine KQ.round (i+1,_) ⟨by dsimp only;omega,h3,h4⟩ Y47 ⟨rfl,rfl,rfl,rfl,trivial⟩ (fun _ h=>?_)
         exact hoP_setQ V hV k _ (h.all Y5)
     ·have hil:i=ws.length:=by omega
      subst hil
      rw[List.drop_length,hgets]at hp2
      rw[←hp2]
      refine Z351 ?_
      refine KQ.ret1 rfl rfl (fun w' hs'=>⟨_,_,rfl,⟨rfl,rfl⟩,hs'.all Y1⟩)
end Go.Proofs.YtjhogocabcdjbabGreatDoor
/- a map that is gone through -/
namespace WB
open Go Go.RowKit Go.ChangeMaps Go.MapKept
section
variable {κ:Type}
structure itB (kv:κ→Value) (es:Array MapEntry) (clk:Nat) (seen:Array Nat) (m left:List (κ×Value)) (cur:Option (κ×Value)):Prop where
 esb:esB kv es.toList clk m
 left:((leftOf es seen).toList.map fun e=>(e.key,e.val))=left.map fun x=>(kv x.1,x.2)
 cur:∀x,cur=some x→∃e∈es.toList,e.key=kv x.1∧e.val=x.2∧∃s:Array Nat,seen=s.push e.born
def itK (kv:κ→Value) (b r:Nat) (m left:List (κ×Value)) (cur:Option (κ×Value)):HP:=
 ex fun es:Array MapEntry=>ex fun clk:Nat=>ex fun seen:Array Nat=>sep (pur (itB kv es clk seen m left cur)) (sep (blk b (.map es clk)) (blk r (.mapIter (some b) clk seen clk)))
variable {kv:κ→Value} {w0 w:World} {L:List HP} {P:Program} {b r:Nat} {m left:List (κ×Value)} {cur:Option (κ×Value)}
theorem itK_open (h:St w0 (itK kv b r m left cur::L) w):∃es clk seen,itB kv es clk seen m left cur∧St w0 (blk b (.map es clk)::blk r (.mapIter (some b) clk seen clk)::L) w:=by
 obtain⟨es,h⟩:=h.exs
 obtain⟨clk,h⟩:=h.exs
 obtain⟨seen,h⟩:=h.exs
 obtain⟨hi,h⟩:=h.split.purs
 exact⟨es,clk,seen,hi,h.split⟩
theorem itK_mk {es:Array MapEntry} {clk:Nat} {seen:Array Nat} (hi:itB kv es clk seen m left cur) (h:St w0 (blk b (.map es clk)::blk r (.mapIter (some b) clk seen clk)::L) w):St w0 (itK kv b r m left cur::L) w:=
 St.exi es (St.exi clk (St.exi seen (St.join (St.puri hi h.join))))
theorem itK_done (h:St w0 (itK kv b r m left cur::L) w):St w0 (omapK kv b m::L) w:=by
 obtain⟨es,clk,seen,hi,h⟩:=itK_open h
 exact St.exi es (St.exi clk (St.join (St.puri hi.esb (h.pick (.tail .head)).drop)))
theorem leftOf_nil (es:Array MapEntry):leftOf es #[]=es:=by
 unfold leftOf
 rw[Array.filter_eq_self]
 intro e _;simp
theorem itK_start (h:St w0 (omapK kv b m::L) w) {t k E:TypeId} (ht:P.underlying t=some (.map k E)):
 ∃w',(Instr.range t (.map (some b))).run P w=.ok (.pointer (some ⟨w.heap.size,0,none⟩)) w'∧Ext w w'∧St w0 (itK kv b w.heap.size m m none::L) w':=by
 obtain⟨es,h⟩:=h.exs
 obtain⟨clk,h⟩:=h.exs
 obtain⟨hr,h⟩:=h.split.purs
 refine⟨_,run_range_map w t k E b es clk ht h.look.2,Ext.alloc w _,itK_mk (es:=es) (clk:=clk) (seen:=#[]) ⟨hr,?_,fun x hx=>by cases hx⟩ (h.alloc (.mapIter (some b) clk #[] clk)).swap2⟩
 rw[leftOf_nil];exact hr.ents
theorem erase_born:∀{l:List MapEntry} {i:Nat} {e:MapEntry},(l.map (·.born)).Nodup→l[i]? =some e→l.filter (fun f=> !(f.born==e.born))=l.eraseIdx i
 |[],_,_,_,h=>by simp at h
 |a::l,0,e,hn,h=>by
  simp only[List.getElem?_cons_zero,Option.some.injEq]at h;subst h
  rw[List.map_cons,List.nodup_cons]at hn
  simp only[List.filter_cons,BEq.rfl,Bool.not_true,Bool.false_eq_true,if_false,List.eraseIdx_cons_zero]
  rw[List.filter_eq_self]
  intro f hf
  have :f.born≠a.born:=fun e=>hn.1 (List.mem_map.2 ⟨f,hf,e⟩)
  simp[this]
 |a::l,i+1,e,hn,h=>by
  simp only[List.getElem?_cons_succ]at h
  rw[List.map_cons,List.nodup_cons]at hn
  have :a.born≠e.born:=fun ee=>hn.1 (List.mem_map.2 ⟨e,List.mem_of_getElem? h,ee.symm⟩)
  simp only[List.filter_cons,List.eraseIdx_cons_succ]
  rw[if_pos (by simp[this]),erase_born hn.2 h]
theorem itK_next (h:St w0 (itK kv b r m left cur::L) w) (ty:TypeId):
 (left=[]∧(Instr.next (.pointer (some ⟨r,0,none⟩)) false ty).run P w=.ok (.tuple #[.bool false]) w)∨
 ∃(i:Nat) (x:κ×Value) (w':World),left[i]? =some x∧(Instr.next (.pointer (some ⟨r,0,none⟩)) false ty).run P w=.ok (.tuple #[.bool true,kv x.1,x.2]) w'∧St w0 (itK kv b r m (left.eraseIdx i) (some x)::L) w':=by
 obtain⟨es,clk,seen,hi,h⟩:=itK_open h
 have hb:=h.look.2
 have hr:=h.drop.look.2
 rcases run_next_at (P:=P) w ty r b clk clk seen es clk hr hb hi.esb.old (Nat.le_refl _)with⟨h0,hrun⟩|⟨e,he,w1,hw1,hrun⟩
 ·left
  refine⟨?_,hrun⟩
  have :=congrArg List.length hi.left
  simp[h0]at this
  exact List.eq_nil_of_length_eq_zero this.symm
 ·right
  obtain⟨i,hilt,hie⟩:=List.getElem_of_mem he
  have hll:(leftOf es seen).toList.length=left.length:=by have :=congrArg List.length hi.left;simpa using this
  have hmem:e∈es.toList:=by
   have :=he
   unfold leftOf at this
   rw[Array.toList_filter]at this
   exact(List.mem_filter.1 this).1
  have hx:∃x,left[i]? =some x∧e.key=kv x.1∧e.val=x.2:=by
   have hil:i<left.length:=by omega
   refine⟨left[i],List.getElem?_eq_getElem hil,?_⟩
   have :=congrArg (fun l=>l[i]?) hi.left
   simp only[List.getElem?_map,List.getElem?_eq_getElem hilt,List.getElem?_eq_getElem hil,Option.map_some,Option.some.injEq,Prod.mk.injEq]at this
   rw[hie]at this
   exact this
  obtain⟨x,hx1,hx2,hx3⟩:=hx
  have hst:St w0 (blk b (.map es clk)::blk r (.mapIter (some b) clk seen clk)::L) w1:=by
   rcases hw1 with rfl|rfl
   ·exact h
   ·exact h.drew
  refine⟨i,x,_,hx1,by rw[hrun,hx2,hx3],itK_mk (es:=es) (clk:=clk) (seen:=seen.push e.born) ⟨hi.esb,?_,fun y hy=>?_⟩ ?_⟩
  ·have h1:(leftOf es (seen.push e.born)).toList=(leftOf es seen).toList.filter fun f=> !(f.born==e.born):=by
    unfold leftOf
    rw[Array.toList_filter,Array.toList_filter,List.filter_filter]
    congr 1
    funext f
    simp only[Array.contains_push,Bool.not_or]
    exact Bool.and_comm _ _
   have hn:((leftOf es seen).toList.map (·.born)).Nodup:=by
    unfold leftOf
    rw[Array.toList_filter]
    exact(List.filter_sublist.map _).nodup hi.esb.nodup
   rw[h1,erase_born hn (i:=i) (by rw[List.getElem?_eq_getElem hilt,hie]),map_eraseIdx,map_eraseIdx,hi.left]
  ·cases hy
   exact⟨e,hmem,hx2,hx3,seen,rfl⟩
  ·refine(St.swap2 (h.swap2.upd (w':=setBlock w1 r (.mapIter (some b) clk (seen.push e.born) clk)) ?_ ?_ ?_ ?_ ?_ ?_))
   ·rcases hw1 with rfl|rfl<;>rfl
   ·rcases hw1 with rfl|rfl<;>rfl
   ·rcases hw1 with rfl|rfl<;>rfl
   ·rcases hw1 with rfl|rfl<;>simp[setBlock]
   ·have hlt:r<w.heap.size:=h.drop.lt
    rcases hw1 with rfl|rfl<;>simp[setBlock,hlt]
   ·intro k hk
    rcases hw1 with rfl|rfl
    ·simp[setBlock,Array.getElem?_setIfInBounds,Ne.symm hk]
    ·simp[setBlock,Array.getElem?_setIfInBounds,Ne.symm hk];rfl
theorem itK_entry {x:κ×Value} (h:St w0 (itK kv b r m left (some x)::L) w) {w1:World} (he:Ext w w1):
 (Instr.entry (.pointer (some ⟨r,0,none⟩))).run P w1=.ok (.tuple #[kv x.1,x.2]) w1:=by
 obtain⟨es,clk,seen,hi,h⟩:=itK_open h
 obtain⟨e,hm,h1,h2,s,rfl⟩:=hi.cur x rfl
 have hb:=h.look.2
 have hr:=h.drop.look.2
 have hb1:w1.heap[b]? =some (.map es clk):=by rw[he.2 b h.lt];exact hb
 have hr1:w1.heap[r]? =some (.mapIter (some b) clk (s.push e.born) clk):=by rw[he.2 r h.drop.lt];exact hr
 rw[run_entry_at w1 r b clk s es clk e hr1 hb1 hm hi.esb.nodup,h1,h2]
end
section
variable {κ:Type} {kv:κ→Value}
variable {P:Program} {ops:Array Oper} {d:Bool} {Q:Exit→Act→World→Prop} {n:Nat} {D:List Deferred} {w0:World} {G:Env} {L R:List HP} {l:List (Kd×Oper)} {k:Kd}
 {t:Nat} {op:Op} {ty T KT E:TypeId} {pos:String} {af:Array Edge} {x y u:Operand} {v z:Value} {b r:Nat} {m left:List (κ×Value)} {cur:Option (κ×Value)} {e:κ×Value}
theorem KO.wvP {ι:Type} (hk:(!d||k== .write)=true) {φ:ι→Value→Prop} {N:ι→List HP} (hr:∀a w,Knows n D G a→St w0 L w→∃v w' p,(execOp a.eval ⟨some t,op,ty,pos,af,none⟩).run P w=.ok (.value v) w'∧φ p v∧St w0 (N p) w') (ht:Nat.blt t n=true)
 (h:∀p v,φ p v→KO P ops d Q n D w0 ((t,v)::G) (N p) l):KO P ops d Q n D w0 G L ((k,⟨some t,op,ty,pos,af,none⟩)::l):=fun a w ha hw=>by
 obtain⟨v,w',p,hr,hp,hs⟩:=hr a w ha hw
 refine vcG_write hk rfl ?_
 unfold Oper.wp
 rw[hr]
 exact h p v hp _ w' (put_dst ha _ ht) hs
theorem KO.rng (hk:(!d||(k== .keep||k== .write))=true) (hx:ev G x=some (.map (some b))) (hT:P.underlying T=some (.map KT E)) (hp:Pick L (omapK kv b m) R) (ht:Nat.blt t n=true)
 (h:∀r,KO P ops d Q n D w0 ((t,.pointer (some ⟨r,0,none⟩))::G) (itK kv b r m m none::R) l):KO P ops d Q n D w0 G L ((k,⟨some t,.range T x,ty,pos,af,none⟩)::l):=
 KO.keepRun hk (F:=fun bb=>.pointer (some ⟨bb,0,none⟩)) (N:=fun r=>itK kv b r m m none::R) (fun a w ha hw=>by
  obtain⟨w',h1,h2,h3⟩:=itK_start (P:=P) (hw.pick hp) hT
  exact⟨w.heap.size,w',by simp[execOp,ha.eval hx,h1],h2,h3⟩) ht h
theorem KO.nxt (hk:(!d||k== .write)=true) (hx:ev G x=some (.pointer (some ⟨r,0,none⟩))) (hp:Pick L (itK kv b r m left cur) R) (ht:Nat.blt t n=true)
 (h0:left=[]→KO P ops d Q n D w0 ((t,.tuple #[.bool false])::G) (omapK kv b m::R) l)
 (h1:∀(i:Nat) (e:κ×Value),left[i]? =some e→KO P ops d Q n D w0 ((t,.tuple #[.bool true,kv e.1,e.2])::G) (itK kv b r m (left.eraseIdx i) (some e)::R) l):
 KO P ops d Q n D w0 G L ((k,⟨some t,.next x false,ty,pos,af,none⟩)::l):=
 KO.wvP (ι:=Option (Nat×(κ×Value))) hk (φ:=fun p v=>match p with|none=>left=[]∧v=.tuple #[.bool false]|some (i,e)=>left[i]? =some e∧v=.tuple #[.bool true,kv e.1,e.2])
  (N:=fun p=>match p with|none=>omapK kv b m::R|some (i,e)=>itK kv b r m (left.eraseIdx i) (some e)::R) (fun a w ha hw=>by
   rcases itK_next (P:=P) (hw.pick hp) ty with⟨g0,g1⟩|⟨i,e,w',g0,g1,g2⟩
   ·exact⟨_,w,none,by simp[execOp,ha.eval hx,g1],⟨g0,rfl⟩,itK_done (hw.pick hp)⟩
   ·exact⟨_,w',some (i,e),by simp[execOp,ha.eval hx,g1],⟨g0,rfl⟩,g2⟩) ht
  (fun p v hpv=>by
   match p,hpv with
   |none,⟨g0,g1⟩=>subst g1;exact h0 g0
   |some (i,e),⟨g0,g1⟩=>subst g1;exact h1 i e g0)
theorem KO.ent (hk:(!d||k != .pure)=true) (hx:ev G x=some (.pointer (some ⟨r,0,none⟩))) (hp:Pick L (itK kv b r m left (some e)) R) (ht:Nat.blt t n=true)
 (h:KO P ops d Q n D w0 ((t,.tuple #[kv e.1,e.2])::G) L l):KO P ops d Q n D w0 G L ((k,⟨some t,.entry x,ty,pos,af,none⟩)::l):=
 KO.rd hk (fun a w w' ha hw he=>by
  have :=itK_entry (P:=P) (hw.pick hp) he
  simp[execOp,ha.eval hx,this]) ht h
end
end WB
/- house: right, ints, made, known -/
namespace Go.Proofs.YtjhogocabcdjbabGreatDoor
open Go Go.RowKit WB
theorem hright_e (w0:World) (L R:List HP) (bh bd:Nat) (H:Ho) (k:Int) (hp:Pick L (hoP bh bd H) R):KE Tryz.prog 79 #[ptrV bh,.int .i64 k] w0 L (fun u M=>u=.bool (rightK H k)∧M=L):=by
 refine KE.mk (n:=19) Tryz.func79 rfl Tryz.ntmps79 (by simp) ?_
 intro w hw
 obtain⟨V,hV,hc⟩:=hoP_cells hw hp
 have hc0:=hc 0 _ rfl
 refine Z280 ?_
 by_cases h1:0≤k
 ·by_cases h2:k<4
  ·refine Z8 ?_
   refine Z77 ?_
   refine Z127 ?_
   refine Z31 ?_
   refine Z43 ?_
   refine Z127 ?_
   refine Z32 ?_
   refine Z358 ?_
   refine Z115 ?_
   refine KO.on rfl rfl (by simp[h2]) ?_;refine KO.ld0 rfl rfl Tryz.isAgg3 hc0 rfl ?_
   refine Z20 ?_
   refine Z265 ?_
   refine Z43 ?_
   refine Z33 ?_
   refine KQ.ret1 rfl rfl (fun w' hs=>⟨_,_,rfl,⟨?_,rfl⟩,hw.below_step hs.below,hs.below⟩)
   unfold rightK
   simp[h1,h2]
  ·refine Z8 ?_
   refine Z77 ?_
   refine Z127 ?_
   refine Z31 ?_
   refine Z43 ?_
   refine Z313 ?_
   refine Z48 ?_
   refine Z33 ?_
   refine KQ.ret1 rfl rfl (fun w' hs=>⟨_,_,rfl,⟨?_,rfl⟩,hw.below_step hs.below,hs.below⟩)
   unfold rightK
   simp[h2]
 ·refine Z8 ?_
  refine Z77 ?_
  refine Z151 ?_
  refine Z48 ?_
  refine Z179 ?_
  refine Z12 ?_
  refine Z356 ?_
  refine KQ.ret1 rfl rfl (fun w' hs=>⟨_,_,rfl,⟨?_,rfl⟩,hw.below_step hs.below,hs.below⟩)
  unfold rightK
  simp[h1]
theorem mapM_snoc {α β:Type} (f:α→Option β) (l:List α) (a:α):(l++[a]).mapM f=(l.mapM f).bind fun xs=>(f a).map fun x=>xs++[x]:=by
 rw[List.mapM_append]
 cases l.mapM f with
 |none=>rfl
 |some xs=>
  cases h:f a with
  |none=>simp[h]
  |some x=>simp[h]
theorem mapM_none {α β:Type} (f:α→Option β) {l:List α} {a:α} (h:a∈l) (hn:f a=none):l.mapM f=none:=by
 induction l with
 |nil=>cases h
 |cons b l ih=>
  rw[List.mapM_cons]
  rcases List.mem_cons.1 h with rfl|h
  ·rw[hn];rfl
  ·rw[ih h];cases f b<;>rfl
set_option maxRecDepth 100000 in
theorem ints_e (w0:World) (L:List HP) (s:ByteArray) (hs:s.size≤80000) (hM:Lim w0):
 KE Tryz.prog 238 #[.string s] w0 L (fun u M=>match intsO s with|none=>u=.tuple #[.slice none 0 0,.bool false]∧M=L|some l=> ∃v,u=.tuple #[v,.bool true]∧M=SL 3 1 intC v l::L):=by
 refine KE.mk (n:=29) Tryz.func238 rfl Tryz.ntmps238 (by simp) ?_
 intro w hw
 have hMw:Lim w:=hM.ext (Ext.of_below hw.below)
 have hws:∀x∈pcs 32 s,x.size≤80000:=fun x hx=>by have :=pcs_size hx;omega
 have hpl:(pcs 32 s).length≤100000:=by have :=pcs_len_le 32 s;omega
 refine Z230 ?_
 refine Z135 ?_
 refine Z28 ?_
 refine KO.ce (cp:=[]) rfl rfl rfl Tryz.call133 rfl (split_e w _ s 32 (by omega) hMw) ?_;rintro v' L' ⟨b10,rfl,rfl⟩
 refine Z347 ?_
 refine K.loop (fun p:Nat×List Int×Value=>[(4,p.2.2),(10,.slice (some ⟨b10,0,none⟩) (pcs 32 s).length (pcs 32 s).length),(11,.int .i64 ((pcs 32 s).length:Nat)),(12,.int .i64 (p.1:Nat))]) (fun p=>SL 3 1 intC p.2.2 p.2.1::[strS (.slice (some ⟨b10,0,none⟩) (pcs 32 s).length (pcs 32 s).length) (pcs 32 s)]) (fun p=>p.1≤(pcs 32 s).length∧((pcs 32 s).take p.1).mapM numO=some p.2.1∧p.2.1.length=p.1) (fun p=>(pcs 32 s).length-p.1) (0,[],.slice none 0 0)
  ⟨Nat.zero_le _,by rfl,rfl⟩ ⟨rfl,rfl,rfl,rfl,trivial⟩ (fun w' h=>SL_nil h) ?_
 rintro⟨i,l,v⟩ ⟨hi,hm,hl⟩
 dsimp only at hi hm hl ⊢
 refine Z111 ?_
 refine K.condD rfl (fun h=>?_) (fun h=>?_)
 ·obtain⟨x,hx⟩:∃e,(pcs 32 s)[i]? =some e:=⟨(pcs 32 s)[i],List.getElem?_eq_getElem (by omega)⟩
  have hxs:=hws x (List.mem_of_getElem? hx)
  have htk:=take_succ_some hx
  refine Z254 ?_
  refine KO.ldE0 (i:=i) (sz:=1) (cf:=strC) (e:=x) rfl rfl Tryz.isAgg9 Y11 (fun _=>rfl) hx (by simp) Y68 rfl ?_
  refine Z21 ?_
  cases hnum:numO x with
  |none=>
   have hno:intsO s=none:=mapM_none numO (List.mem_of_getElem? hx) hnum
   refine Z8 ?_
   refine KO.ce (cp:=[]) rfl rfl rfl Tryz.call136 rfl (atoi_e w _ x (by omega) hMw) ?_;rintro v' L' ⟨hR,rfl⟩;unfold atoiR at hR;rw[hnum]at hR;obtain⟨xx,TT,yy,rfl⟩:=hR
   refine Z106 ?_
   refine Z227 ?_
   refine Z55 ?_
   refine Z230 ?_
   refine Z146 ?_
   refine KQ.ret2 rfl rfl rfl (fun w' hs'=>⟨_,_,rfl,?_,hw.below_step hs'.below,hs'.below⟩)
   rw[hno];exact⟨rfl,rfl⟩
  |some k=>
   have hm2:((pcs 32 s).take (i+1)).mapM numO=some (l++[k]):=by rw[htk,mapM_snoc,hm,hnum];rfl
   refine Z8 ?_
   refine KO.ce (cp:=[]) rfl rfl rfl Tryz.call136 rfl (atoi_e w _ x (by omega) hMw) ?_;rintro v' L' ⟨hR,rfl⟩;unfold atoiR at hR;rw[hnum]at hR;subst hR
   refine Z106 ?_
   refine Z97 ?_
   refine Z63 ?_
   refine Z102 ?_
   refine Z72 ?_
   refine KO.bs1 (z:=(Value.int .i64 0)) (sz:=1) (by':=8) rfl rfl Tryz.underlying23 Y62 Y68 Y68 (by decide) (by decide) rfl ?_;intro b25
   refine KO.app (cf:=intC) (z:=Value.int .i64 0) (sz:=1) (by':=8) (xs:=l) rfl rfl rfl (.tail .head) .head Tryz.underlying23 Y62 Y68 k rfl rfl rfl (by omega) (by decide) rfl ?_;intro v26
   refine Z234 ?_
   refine KQ.round (i+1,l++[k],v26) ⟨by dsimp only;omega,hm2,by dsimp only;simp;omega⟩ Y47 ⟨rfl,rfl,rfl,rfl,trivial⟩ (fun _ h=>h.all Y23)
 ·have hie:i=(pcs 32 s).length:=by omega
  subst hie
  rw[List.take_length]at hm
  have hio:intsO s=some l:=hm
  refine Z274 ?_
  refine Z192 ?_
  refine KQ.ret2 rfl rfl rfl (fun w' hs'=>⟨_,SL 3 1 intC v l::L,rfl,?_,?_,hs'.below⟩)
  ·rw[hio];exact⟨v,rfl,rfl⟩
  ·exact hw.stack (M:=[SL 3 1 intC v l]) (hs'.all (by with_reducible repeat(first|exact PAll.nil|refine PAll.cons (by with_reducible repeat(exact Pick.head)) ?_)))
theorem flat_len (us:List (Value×Value)):(us.flatMap (fun p=>[p.1,p.2])).length=2*us.length:=by
 induction us with
 |nil=>rfl
 |cons a l ih=>rw[List.flatMap_cons,List.length_append,ih];simp;omega
theorem hoC_split (bd:Nat) (V:HoV) (H:Ho):hoC bd V H=(([.int .i64 H.id,ptrV bd,.int .i64 (H.used:Nat),.bool H.down,.int .i64 H.torn,.int .i64 H.next,V.nv,.map (some V.mb)]:List Value)++(V.ps.take 4).map ptrV)++(V.us.flatMap (fun p=>[p.1,p.2])++(V.bs++(H.sent.map (Value.int .i64)++H.arrived.map (Value.int .i64)))):=by
 unfold hoC;simp
theorem at_app {α:Type} (A R:List α) (i:Nat):(A++R)[A.length+i]? =R[i]? :=by rw[List.getElem?_append_right (by omega),Nat.add_sub_cancel_left]
theorem set_app {α:Type} (A R:List α) (i:Nat) (v:α):(A++R).set (A.length+i) v=A++R.set i v:=by rw[List.set_append_right _ _ (by omega),Nat.add_sub_cancel_left]
theorem hoC_parts (bd:Nat) {V:HoV} {H:Ho} (hV:HoVL V H):∃A:List Value,A.length=22∧∀(bs:List Value) (sn ar:List Int),hoC bd {V with bs:=bs} {H with sent:=sn,arrived:=ar}=A++(bs++(sn.map (Value.int .i64)++ar.map (Value.int .i64))):=by
 refine⟨(([.int .i64 H.id,ptrV bd,.int .i64 (H.used:Nat),.bool H.down,.int .i64 H.torn,.int .i64 H.next,V.nv,.map (some V.mb)]:List Value)++(V.ps.take 4).map ptrV)++V.us.flatMap (fun p=>[p.1,p.2]),?_,fun bs sn ar=>?_⟩
 ·have h1:=hV.ps
  simp only[List.length_append,List.length_map,List.length_take,flat_len,hV.us,List.length_cons,List.length_nil]
  omega
 ·rw[hoC_split];simp only[List.append_assoc]
theorem hoC_bat {bd:Nat} {V:HoV} {H:Ho} (hV:HoVL V H) {k:Nat} {v:Value} (h:V.bs[k]? =some v):(hoC bd V H)[22+k]? =some v∧∀u,(hoC bd V H).set (22+k) u=hoC bd {V with bs:=V.bs.set k u} H:=by
 obtain⟨A,hA,hc⟩:=hoC_parts bd hV
 have h1:=hc V.bs H.sent H.arrived
 have hk:=(List.getElem?_eq_some_iff.1 h).1
 refine⟨?_,fun u=>?_⟩
 ·rw[show hoC bd V H=_ from h1,←hA,at_app,List.getElem?_append_left hk];exact h
 ·rw[show hoC bd V H=_ from h1,←hA,set_app,List.set_append_left _ _ hk];exact(hc _ _ _).symm
theorem hoC_snt {bd:Nat} {V:HoV} {H:Ho} (hV:HoVL V H) {k:Nat} (hk:k<4):(hoC bd V H)[26+k]? =some (.int .i64 (snAt H k))∧∀u,(hoC bd V H).set (26+k) (.int .i64 u)=hoC bd V {H with sent:=H.sent.set k u}:=by
 obtain⟨A,hA,hc⟩:=hoC_parts bd hV
 have h1:=hc V.bs H.sent H.arrived
 have hs:=hV.sent
 have hb:=hV.bs
 have e1:26+k=A.length+(V.bs.length+k):=by omega
 refine⟨?_,fun u=>?_⟩
 ·rw[show hoC bd V H=_ from h1,e1,at_app,at_app,List.getElem?_append_left Y29,List.getElem?_map]
  unfold snAt
  rw[List.getD_eq_getElem?_getD,List.getElem?_eq_getElem (by omega)];rfl
 ·rw[show hoC bd V H=_ from h1,e1,set_app,set_app,List.set_append_left _ _ Y29,←List.map_set]
  exact(hc _ _ _).symm
theorem hoC_arr {bd:Nat} {V:HoV} {H:Ho} (hV:HoVL V H) {k:Nat} (hk:k<4):(hoC bd V H)[30+k]? =some (.int .i64 (avAt H k))∧∀u,(hoC bd V H).set (30+k) (.int .i64 u)=hoC bd V {H with arrived:=H.arrived.set k u}:=by
 obtain⟨A,hA,hc⟩:=hoC_parts bd hV
 have h1:=hc V.bs H.sent H.arrived
 have hs:=hV.sent
 have ha:=hV.arrived
 have hb:=hV.bs
 have e1:30+k=A.length+(V.bs.length+((H.sent.map (Value.int .i64)).length+k)):=by rw[List.length_map];omega
 refine⟨?_,fun u=>?_⟩
 ·rw[show hoC bd V H=_ from h1,e1,at_app,at_app,at_app,List.getElem?_map]
  unfold avAt
  rw[List.getD_eq_getElem?_getD,List.getElem?_eq_getElem (by omega)];rfl
 ·rw[show hoC bd V H=_ from h1,e1,set_app,set_app,set_app,←List.map_set]
  exact(hc _ _ _).symm
theorem roS_cut {w0 w:World} {L:List HP} {g cap:Nat} {a b:Int} {l:List Int} (h:St w0 (SL 3 1 intC (.slice (some ⟨g,0,none⟩) (l.length+2) cap) (a::b::l)::L) w):
 St w0 (batS (.slice (some (cutAt g 1 1 cap)) (l.length+2-1) (cap-1)) (b::l)::L) w:=by
 obtain⟨h1,h2,h3,cur,h4,h5,h6⟩:=SL_open h
 have e1:(cutAt g 1 1 cap)=⟨g,1,none⟩:=by unfold cutAt;rw[if_neg (by omega)]
 rw[e1]
 refine roS_mk (cs:=cur.toList) (cap:=cap-1) (l:=b::l) (off:=1) (fun i x hx=>?_) (by simpa using h6)
 have h7:(cur.toList.take ((a::b::l).length*1))[1+i]? =some (.int .i64 x):=by
  rw[h5]
  have h8:∀l:List Int,l.flatMap intC=l.map (Value.int .i64):=fun l=>by
   induction l with
   |nil=>rfl
   |cons x l ih=>rw[List.flatMap_cons,ih];rfl
  rw[h8,List.getElem?_map,show(1+i)=i+1 by omega,List.getElem?_cons_succ,hx];rfl
 rw[List.getElem?_take]at h7
 split at h7
 ·exact h7
 ·cases h7
set_option maxRecDepth 100000 in
theorem hmade_c (w0:World) (L:List HP) (bh bd n:Nat) (H:Ho) (s:ByteArray) (hM:Lim w0) (hB:HoB n H) (hn:n≤90000) (hs:s.size≤80000):
 KC Tryz.prog 140 #[ptrV bh,.string s] w0 (hoP bh bd H::L) (fun u M=>u=.bool (hmade H s).2∧M=hoP bh bd (hmade H s).1::L):=by
 refine KC.mk (n:=48) Tryz.func140 rfl Tryz.ntmps140 (by simp) ?_
 refine Z280 ?_
 cases hi:intsO s with
 |none=>
  have he:hmade H s=(H,false):=by unfold hmade;rw[hi]
  rw[he]
  refine Z8 ?_
  refine KO.ce (cp:=[]) rfl rfl rfl Tryz.call238 rfl (ints_e w0 _ s hs hM) ?_;rintro v' L' hR;rw[hi]at hR;obtain⟨rfl,rfl⟩:=hR
  refine Z106 ?_
  refine Z70 ?_
  refine Z131 ?_
  refine Z271 ?_
  refine Z12 ?_
  refine Z333 ?_
  refine KQ.ret1 rfl rfl (fun w' hs'=>⟨_,_,rfl,⟨rfl,rfl⟩,hs'⟩)
 |some l=>
  refine Z8 ?_
  refine KO.ce (cp:=[]) rfl rfl rfl Tryz.call238 rfl (ints_e w0 _ s hs hM) ?_;rintro v' L' hR;rw[hi]at hR;obtain⟨v,rfl,rfl⟩:=hR
  refine Z178 ?_
  refine K.fact (fun w hw=>SL_form (hw.pick (A:=SL 3 1 intC v l) .head)) ?_
  rintro⟨ad,cap,rfl,had⟩
  by_cases hl:l.length<2
  ·have he:hmade H s=(H,false):=by
    unfold hmade;rw[hi]
    match l,hl with
    |[],_=>rfl
    |[a],_=>rfl
   rw[he]
   refine Z205 ?_
   refine Z128 ?_
   refine Z57 ?_
   refine Z31 ?_
   refine Z27 ?_
   refine Z313 ?_
   refine Z279 ?_
   refine K.condT rfl (by simp[hl];try omega) ?_
   refine Z193 ?_
   refine KQ.ret1 rfl rfl (fun w' hs'=>⟨_,_,rfl,⟨rfl,rfl⟩,hs'.drop⟩)
  obtain⟨g,rfl⟩:=had (by omega)
  obtain⟨k,a,r,rfl⟩:∃k a r,l=k::a::r:=by
   match l,hl with
   |[],h=>exact absurd (by simp) h
   |[a],h=>exact absurd (by simp) h
   |k::a::r,_=>exact⟨k,a,r,rfl⟩
  have hld:∀z:Int,decide ((((z::a::r).length:Nat):Int)<2)=false:=fun z=>by rw[decide_eq_false_iff_not];simp;omega
  cases hk:rightK H k with
  |false=>
   have hld1:=hld k
   have he:hmade H s=(H,false):=by unfold hmade;rw[hi];simp[hk]
   rw[he]
   refine Z205 ?_
   refine Z128 ?_
   refine Z57 ?_
   refine Z31 ?_
   refine Z180 ?_
   refine Z1 ?_
   refine KO.on rfl rfl hld1 ?_;refine KO.idx0 (i:=0) rfl rfl Tryz.runUnderlying23 Tryz.sizeOf3 rfl (by simp) rfl ?_
   refine KO.on rfl rfl hld1 ?_;refine KO.ldE0 (i:=0) (sz:=1) (cf:=intC) (e:=k) rfl rfl Tryz.isAgg3 Y21 (fun _=>rfl) rfl Y68 Y68 rfl ?_
   refine KO.on rfl rfl hld1 ?_;refine KO.ce (cp:=[]) rfl rfl rfl Tryz.call79 rfl (hright_e w0 _ _ bh bd H k Y11) ?_;rintro v' L' ⟨rfl,rfl⟩;rw[hk]
   refine Z236 ?_
   refine Z2 ?_
   refine K.condT rfl (by simp[hld1]) ?_
   refine Z193 ?_
   refine KQ.ret1 rfl rfl (fun w' hs'=>⟨_,_,rfl,⟨rfl,rfl⟩,hs'.drop⟩)
  |true=>
   obtain⟨hk0,hk4,-⟩:=rightK_iff.1 hk
   obtain⟨j,rfl⟩:∃j:Nat,k=(j:Int):=⟨k.toNat,by omega⟩
   have hj:j<4:=by omega
   have hld1:=hld (j:Int)
   have he:hmade H s=({H with batch:=H.batch.set j (a::r),sent:=H.sent.set j (snAt H j+1)},true):=by unfold hmade;rw[hi];simp[hk]
   rw[he]
   refine Z205 ?_
   refine Z128 ?_
   refine Z57 ?_
   refine Z31 ?_
   refine Z180 ?_
   refine Z1 ?_
   refine KO.on rfl rfl hld1 ?_;refine KO.idx0 (i:=0) rfl rfl Tryz.runUnderlying23 Tryz.sizeOf3 rfl (by simp) rfl ?_
   refine KO.on rfl rfl hld1 ?_;refine KO.ldE0 (i:=0) (sz:=1) (cf:=intC) (e:=(j:Int)) rfl rfl Tryz.isAgg3 Y21 (fun _=>rfl) rfl Y68 Y68 rfl ?_
   refine KO.on rfl rfl hld1 ?_;refine KO.ce (cp:=[]) rfl rfl rfl Tryz.call79 rfl (hright_e w0 _ _ bh bd H (j:Int) Y11) ?_;rintro v' L' ⟨rfl,rfl⟩;rw[hk]
   refine Z236 ?_
   refine Z2 ?_
   refine K.condF rfl (by simp[hld1]) ?_
   refine Z6 ?_
   refine K.open' (fun _ h=>hoP_open (h.pick Y11)) ?_
   rintro⟨V,hV⟩
   dsimp only
   refine K.fact (fun w hw=>(SL_cap (hw.pick (A:=SL 3 1 intC _ _) Y11)).2) ?_
   intro hcap
   have hbs:=hV.bs
   have hbt:=hV.batch
   obtain⟨bv,hbv⟩:∃e,V.bs[j]? =some e:=⟨_,List.getElem?_eq_getElem (by omega)⟩
   obtain⟨bl,hbl⟩:∃e,H.batch[j]? =some e:=⟨_,List.getElem?_eq_getElem (by omega)⟩
   obtain⟨c1,c2⟩:=hoC_bat (bd:=bd) hV hbv
   obtain⟨hs0,hs1⟩:0≤snAt H j∧snAt H j≤(n:Int):=getD_mem0 hB.ext.snt
   obtain⟨vb,hvb⟩:∃vb,vb=Value.slice (some (cutAt g 1 1 cap)) (((j:Int)::a::r).length-1) (cap-1):=⟨_,rfl⟩
   have hV2:∀u,HoVL {V with bs:=V.bs.set j u} H:=fun u=>⟨hV.ps,hV.us,by simp[hbs],hV.ways,hV.units,hV.batch,hV.sent,hV.arrived⟩
   refine K.draw [.pure,.pure,.pure,.read,.pure,.pure,.pure,.pure,.pure,.write] [0,1,2,3,4,5,6,7,8,9] Y62 Y62 ?_
   refine Z34 ?_
   refine Z71 ?_
   refine Z1 ?_
   refine KO.cutFrom (lo:=1) rfl rfl Tryz.underlying23 Tryz.sizeOf3 rfl (by simp) (by simpa using hcap) rfl ?_;rw[←hvb]
   refine Z49 ?_
   refine Z41 ?_
   refine KO.stAt (i:=22+j) rfl rfl rfl (by rw[hvb];rfl) Y44 (by rw[hvb];rfl) Y21 Y31 Y34 ?_;rw[c2]
   refine Z0 ?_
   obtain⟨d1,d2⟩:=hoC_snt (bd:=bd) (hV2 vb) hj
   refine K.draw [.pure,.pure,.pure,.read,.pure,.pure,.pure,.read,.pure,.pure,.pure,.pure,.write] [0,1,2,3,4,5,6,7,8,9,10,11,12] Y62 Y62 ?_
   refine Z34 ?_
   refine Z71 ?_
   refine Z49 ?_
   refine Z109 ?_
   refine KO.ldAt (i:=26+j) rfl rfl Tryz.isAgg3 Y21 Y31 d1 rfl ?_
   refine Z353 ?_
   refine Z109 ?_
   refine KO.stAt (i:=26+j) rfl rfl rfl Y68 Y45 rfl Y21 Y31 (by rw[hoC_len (hV2 _)];omega) ?_;rw[d2]
   refine Z183 ?_
   refine KQ.ret1 rfl rfl (fun w' hs'=>⟨_,_,rfl,⟨rfl,rfl⟩,?_⟩)
   have h1:=roS_cut (a:=(j:Int)) (b:=a) (l:=r) (hs'.pick (A:=SL 3 1 intC (.slice (some ⟨g,0,none⟩) ((j:Int)::a::r).length cap) ((j:Int)::a::r)) Y11)
   rw[show Value.slice (some (cutAt g 1 1 cap)) (r.length+2-1) (cap-1)=vb from hvb.symm]at h1
   have h2:=fam_out hbv hbl (h1.pick (A:=fam batS V.bs H.batch) Y11)
   have h3:=fam_in (f:=batS) (ps:=V.bs) (xs:=H.batch) (i:=j) (p:=vb) (x:=a::r) (by omega) (by omega) (h2.all (M:=batS vb (a::r)::fam batS (V.bs.eraseIdx j) (H.batch.eraseIdx j)::_) Y5)
   exact hoP_mk {V with bs:=V.bs.set j vb} ⟨hV.ps,hV.us,by simp[hbs],hV.ways,hV.units,by simp[hbt],by simp[hV.sent],hV.arrived⟩ (h3.all Y7)
theorem qtakes_snoc (q:Qu) (l:List Int) (a:Int):qtakes q (l++[a])=qtake (qtakes q l) a:=by unfold qtakes;rw[List.foldl_append];rfl
theorem roS_some {w0 w:World} {L:List HP} {T:TypeId} {v:Value} {l:List Int} (hl:0<l.length) (h:St w0 (roS T v l::L) w):
 ∃c:{c:Nat×Nat×List Value×Nat//v=.slice (some ⟨c.1,c.2.1,none⟩) l.length c.2.2.2∧∀(i:Nat) x,l[i]? =some x→c.2.2.1[c.2.1+i]? =some (Value.int .i64 x)},St w0 (blk c.1.1 (.cells c.1.2.2.1.toArray T (0,0))::L) w:=by
 obtain⟨c,h⟩:=h.exs
 match c,h with
 |none,h=>obtain⟨⟨rfl,rfl⟩,_⟩:=h.purs;simp at hl
 |some (g,off,cs,cap),h=>obtain⟨h1,h2⟩:=h.split.purs;exact⟨⟨(g,off,cs,cap),h1⟩,h2⟩
set_option maxRecDepth 100000 in
theorem hknown_c (w0:World) (L:List HP) (bh bd n:Nat) (H:Ho) (s:ByteArray) (hM:Lim w0) (hB:HoB n H) (hn:n≤90000) (hs:s.size≤80000):
 KC Tryz.prog 141 #[ptrV bh,.string s] w0 (hoP bh bd H::L) (fun u M=>u=.bool (hknown H s).2∧M=hoP bh bd (hknown H s).1::L):=by
 refine KC.mk (n:=63) Tryz.func141 rfl Tryz.ntmps141 (by simp) ?_
 refine Z280 ?_
 cases hi:intsO s with
 |none=>
  have he:hknown H s=(H,false):=by unfold hknown;rw[hi]
  rw[he]
  refine Z8 ?_
  refine KO.ce (cp:=[]) rfl rfl rfl Tryz.call238 rfl (ints_e w0 _ s hs hM) ?_;rintro v' L' hR;rw[hi]at hR;obtain⟨rfl,rfl⟩:=hR
  refine Z106 ?_
  refine Z70 ?_
  refine Z131 ?_
  refine Z271 ?_
  refine Z12 ?_
  refine Z333 ?_
  refine KQ.ret1 rfl rfl (fun w' hs'=>⟨_,_,rfl,⟨rfl,rfl⟩,hs'⟩)
 |some l=>
  refine Z8 ?_
  refine KO.ce (cp:=[]) rfl rfl rfl Tryz.call238 rfl (ints_e w0 _ s hs hM) ?_;rintro v' L' hR;rw[hi]at hR;obtain⟨v,rfl,rfl⟩:=hR
  refine Z178 ?_
  refine K.fact (fun w hw=>SL_form (hw.pick (A:=SL 3 1 intC v l) .head)) ?_
  rintro⟨ad,cap,rfl,had⟩
  by_cases hl:l.length=1
  ·obtain⟨g,rfl⟩:=had (by omega)
   obtain⟨k,rfl⟩:∃k,l=[k]:=by
    match l,hl with
    |[k],_=>exact⟨k,rfl⟩
   have hld1:decide ((([k].length:Nat):Int)≠1)=false:=rfl
   cases hk:rightK H k with
   |false=>
    have he:hknown H s=(H,false):=by unfold hknown;rw[hi];simp[hk]
    rw[he]
    refine Z205 ?_
    refine Z128 ?_
    refine Z57 ?_
    refine Z265 ?_
    refine Z180 ?_
    refine Z1 ?_
    refine KO.on rfl rfl hld1 ?_;refine KO.idx0 (i:=0) rfl rfl Tryz.runUnderlying23 Tryz.sizeOf3 rfl (by simp) rfl ?_
    refine KO.on rfl rfl hld1 ?_;refine KO.ldE0 (i:=0) (sz:=1) (cf:=intC) (e:=k) rfl rfl Tryz.isAgg3 Y21 (fun _=>rfl) rfl Y68 Y68 rfl ?_
    refine KO.on rfl rfl hld1 ?_;refine KO.ce (cp:=[]) rfl rfl rfl Tryz.call79 rfl (hright_e w0 _ _ bh bd H k Y11) ?_;rintro v' L' ⟨rfl,rfl⟩;rw[hk]
    refine Z236 ?_
    refine Z55 ?_
    refine Z193 ?_
    refine KQ.ret1 rfl rfl (fun w' hs'=>⟨_,_,rfl,⟨rfl,rfl⟩,hs'.drop⟩)
   |true=>
    obtain⟨hk0,hk4,-⟩:=rightK_iff.1 hk
    obtain⟨j,rfl⟩:∃j:Nat,k=(j:Int):=⟨k.toNat,by omega⟩
    have hj:j<4:=by omega
    have he:hknown H s=({H.setW j (qtakes (H.wAt j) (bcAt H j))with batch:=H.batch.set j []},true):=by unfold hknown;rw[hi];simp[hk]
    rw[he]
    refine Z205 ?_
    refine Z128 ?_
    refine Z57 ?_
    refine Z265 ?_
    refine Z180 ?_
    refine Z1 ?_
    refine KO.on rfl rfl hld1 ?_;refine KO.idx0 (i:=0) rfl rfl Tryz.runUnderlying23 Tryz.sizeOf3 rfl (by simp) rfl ?_
    refine KO.on rfl rfl hld1 ?_;refine KO.ldE0 (i:=0) (sz:=1) (cf:=intC) (e:=(j:Int)) rfl rfl Tryz.isAgg3 Y21 (fun _=>rfl) rfl Y68 Y68 rfl ?_
    refine KO.on rfl rfl hld1 ?_;refine KO.ce (cp:=[]) rfl rfl rfl Tryz.call79 rfl (hright_e w0 _ _ bh bd H (j:Int) Y11) ?_;rintro v' L' ⟨rfl,rfl⟩;rw[hk]
    refine Z236 ?_
    refine Z162 ?_
    refine K.open' (fun _ h=>hoP_open (h.pick Y11)) ?_
    rintro⟨V,hV⟩
    dsimp only
    have hbs:=hV.bs
    have hbt:=hV.batch
    have hps:=hV.ps
    obtain⟨bv,hbv⟩:∃e,V.bs[j]? =some e:=⟨_,List.getElem?_eq_getElem (by omega)⟩
    obtain⟨bl,hbl2⟩:∃e,H.batch[j]? =some e:=⟨_,List.getElem?_eq_getElem (by omega)⟩
    have hba:bcAt H j=bl:=by unfold bcAt;rw[List.getD_eq_getElem?_getD,hbl2];rfl
    have hbll:=hB.ext.bat bl (List.mem_of_getElem? hbl2)
    rw[hba]
    obtain⟨c1,c2⟩:=hoC_bat (bd:=bd) hV hbv
    obtain⟨p,hp⟩:∃p,V.ps[j]? =some p:=⟨_,List.getElem?_eq_getElem (by omega)⟩
    have hw:=hoC_way (bd:=bd) hV hj hp
    have hqB:=hB.w hj
    have hall:=all_w hV.ways hj
    refine Z190 ?_
    refine K.fact (fun w hw=>roS_form (hw.pick (A:=batS bv bl) .head)) ?_
    rintro⟨ba,bc,rfl⟩
    refine K.draw [.pure,.pure,.pure,.read,.pure,.pure,.pure,.read,.pure,.pure] [0,1,2,3,4,5,6,7,8,9] Y62 Y62 ?_
    refine Z34 ?_
    refine Z71 ?_
    refine Z49 ?_
    refine Z141 ?_
    refine Z128 ?_
    refine Z119 ?_
    refine K.loop (fun i:Nat=>[(0,ptrV bh),(5,.slice (some ⟨g,0,none⟩) [(j:Int)].length cap),(36,.slice ba bl.length bc),(37,.int .i64 (bl.length:Nat)),(38,.int .i64 (i:Nat))])
     (fun i=>batS (.slice ba bl.length bc) bl::fam batS (V.bs.eraseIdx j) (H.batch.eraseIdx j)::SL 3 1 intC (.slice (some ⟨g,0,none⟩) [(j:Int)].length cap) [(j:Int)]::blk bh (.cells (hoC bd V H).toArray 133 (0,0))::nmS V.nv H.names::omapK Value.string V.mb (mapE V H)::fam quP V.ps (H.all.set j (qtakes (H.wAt j) (bl.take i)))::fam putsS (V.us.map (·.1)) (H.units.map (·.puts))::fam getsS (V.us.map (·.2)) (H.units.map (·.gets))::L)
     (fun i=>i≤bl.length) (fun i=>bl.length-i) 0 (Nat.zero_le _) ⟨rfl,rfl,rfl,rfl,rfl,trivial⟩ (fun w' hs'=>?_) ?_
    ·rw[show H.all.set j (qtakes (H.wAt j) (bl.take 0))=H.all from setQu_same hall]
     exact hs'.all Y7
    intro i hi2
    refine Z111 ?_
    refine K.condD rfl (fun h=>?_) (fun h=>?_)
    ·obtain⟨x,hx⟩:∃e,bl[i]? =some e:=⟨bl[i],List.getElem?_eq_getElem (by omega)⟩
     have htk:qtakes (H.wAt j) (bl.take (i+1))=qtake (qtakes (H.wAt j) (bl.take i)) x:=by rw[take_succ_some hx,qtakes_snoc]
     have hqi:=hqB.takes (bl.take i)
     have hql:=hqi.len
     have hget:(H.all.set j (qtakes (H.wAt j) (bl.take i)))[j]? =some (qtakes (H.wAt j) (bl.take i)):=List.getElem?_set_self (List.getElem?_eq_some_iff.1 hall).1
     generalize htm:qtakeM (qtakes (H.wAt j) (bl.take i)) x=tm
     obtain⟨ti,tp,tb,tq,th⟩:=tm
     refine Z10 ?_
     refine K.open' (fun w' hw'=>roS_some (by omega) (hw'.pick (A:=batS (.slice ba bl.length bc) bl) Y21)) ?_
     rintro⟨⟨gb,off,cs,bcap⟩,hv,hcs⟩
     dsimp only at hv hcs ⊢
     simp only[Value.slice.injEq,true_and]at hv
     obtain⟨rfl,rfl⟩:=hv
     refine Z231 ?_
     refine KO.idxH (i:=i) rfl rfl Tryz.runUnderlying23 Tryz.sizeOf3 rfl (by omega) rfl ?_
     refine KO.ldAt (i:=off+i) rfl rfl Tryz.isAgg3 Y21 (by rw[Addr.add_lit,Nat.mul_one]) (hcs i x hx) rfl ?_
     refine Z83 ?_
     refine K.draw [.pure,.pure,.pure,.read,.pure,.pure,.pure,.read,.pure,.write,.pure,.pure,.pure] [0,1,2,3,4,5,6,7,8,9,10,11,12] Y62 Y62 ?_
     refine Z34 ?_
     refine Z71 ?_
     refine Z49 ?_
     refine Z107 ?_
     refine KO.ldAt (i:=8+j) rfl rfl Tryz.isAgg119 Y11 Y31 hw rfl ?_
     refine Z1 ?_
     refine KO.cl (cp:=[]) rfl rfl rfl Tryz.call161 rfl (KC.famC (φ:=fun v=>v=.tuple #[.agg (msC (qtakeM (qtakes (H.wAt j) (bl.take i)) x)).toArray,errV 70 (qtakeE (qtakes (H.wAt j) (bl.take i)) x)]) hp hget Y11 (fun L=>take_c w0 L p (qtakes (H.wAt j) (bl.take i)) x (by omega))) ?_;rintro v' L' ⟨rfl,rfl⟩;rw[htm,List.set_set]
     refine Z47 ?_
     refine Z132 ?_
     refine KQ.round (i+1) (by omega) (by omega) ⟨rfl,rfl,rfl,rfl,rfl,trivial⟩ (fun w' hs'=>?_)
     rw[htk]
     have h1:St w0 (batS (.slice (some ⟨gb,off,none⟩) bl.length bc) bl::_) w':=roS_mk (T:=3) (g:=gb) (off:=off) (cap:=bc) (cs:=cs) (l:=bl) hcs (hs'.pick Y11)
     exact St.all h1 Y7
    ·obtain rfl:i=bl.length:=by omega
     rw[List.take_length]
     refine Z9 ?_
     refine K.draw [.pure,.pure,.pure,.read,.pure,.pure,.pure,.write] [0,1,2,3,4,5,6,7] Y62 Y62 ?_
     refine Z34 ?_
     refine Z71 ?_
     refine Z49 ?_
     refine Z41 ?_
     refine KO.stAt (i:=22+j) rfl rfl rfl rfl Y44 rfl Y11 Y31 Y34 ?_;rw[c2]
     refine Z183 ?_
     refine KQ.ret1 rfl rfl (fun w' hs'=>⟨_,_,rfl,⟨rfl,rfl⟩,?_⟩)
     have h3:=fam_in (f:=batS) (ps:=V.bs) (xs:=H.batch) (i:=j) (p:=.slice none 0 0) (x:=[]) (by omega) (by omega) (roS_nil (hs'.all (M:=fam batS (V.bs.eraseIdx j) (H.batch.eraseIdx j)::blk bh (.cells (hoC bd {V with bs:=V.bs.set j (.slice none 0 0)} H).toArray 133 (0,0))::nmS V.nv H.names::omapK Value.string V.mb (mapE V H)::fam quP V.ps (H.all.set j (qtakes (H.wAt j) bl))::fam putsS (V.us.map (·.1)) (H.units.map (·.puts))::fam getsS (V.us.map (·.2)) (H.units.map (·.gets))::L) Y5))
     refine hoP_mk {V with bs:=V.bs.set j (.slice none 0 0)} ⟨hV.ps,hV.us,by simp[hbs],by simp[Ho.setW,hV.ways],hV.units,by simp[hbt],hV.sent,hV.arrived⟩ ?_
     have e1:({H.setW j (qtakes (H.wAt j) bl)with batch:=H.batch.set j []}:Ho).all=H.all.set j (qtakes (H.wAt j) bl):=all_setW (by rw[hV.ways];exact hj) _
     unfold hoX
     rw[e1]
     exact h3.all Y7
  ·have he:hknown H s=(H,false):=by
    unfold hknown;rw[hi]
    match l,hl with
    |[],_=>rfl
    |[a],h=>exact absurd rfl h
    |a::b::r,_=>rfl
   rw[he]
   refine Z205 ?_
   refine Z128 ?_
   refine Z57 ?_
   refine Z265 ?_
   refine Z27 ?_
   refine Z313 ?_
   refine Z321 ?_
   refine Z193 ?_
   refine KQ.ret1 rfl rfl (fun w' hs'=>⟨_,_,rfl,⟨rfl,rfl⟩,hs'.drop⟩)
end Go.Proofs.YtjhogocabcdjbabGreatDoor
/- house: came -/
namespace Go.Proofs.YtjhogocabcdjbabGreatDoor
open Go Go.RowKit WB
set_option maxRecDepth 100000 in
set_option maxHeartbeats 1000000 in
theorem hcame_c (w0:World) (L:List HP) (bh bd n:Nat) (H:Ho) (s:ByteArray) (hT:Tab w0) (hM:Lim w0) (hs:s.size≤80000) (hB:HoB n H) (hn:n≤90000)
 (hr:∀a b c l,pcs 47 s=[a,b,c]→mrd b=some l→n+l.length≤90000∧l.length≤(pcs 43 c).length):
 KC Tryz.prog 142 #[ptrV bh,.string s] w0 (hoP bh bd H::L) (fun u M=>u=.bool (hcame H s).2∧M=hoP bh bd (hcame H s).1::L):=by
 have hws:∀x∈pcs 47 s,x.size≤80000:=fun x hx=>by have :=pcs_size hx;omega
 refine KC.mk (n:=81) Tryz.func142 rfl Tryz.ntmps142 (by simp) ?_
 refine Z150 ?_
 refine KO.ce (cp:=[]) rfl rfl rfl Tryz.call133 rfl (split_e w0 _ s 47 (by omega) hM) ?_;rintro v' L' ⟨b15,rfl,rfl⟩
 refine Z21 ?_
 by_cases h3:(pcs 47 s).length=3
 ·obtain⟨wa,wb,wc,he⟩:∃a b c,pcs 47 s=[a,b,c]:=by
   match h:pcs 47 s,h3 with
   |[a,b,c],_=>exact⟨a,b,c,rfl⟩
  have hrr:=hr wa wb wc
  rw[he]at hws ⊢
  have hza:=hws wa (by simp)
  have hzb:=hws wb (by simp)
  have hzc:=hws wc (by simp)
  refine Z8 ?_
  refine Z91 ?_
  refine Z224 ?_
  refine Z6 ?_
  have hce:hcame H s=match numO wa,mrd wb with
   |some k,some l=>if rightK H k=true then(if(hcomes H (l.zip (pcs 43 wc))).2=true then({(hcomes H (l.zip (pcs 43 wc))).1 with arrived:=H.arrived.set k.toNat (avAt H k.toNat+1)},true)else((hcomes H (l.zip (pcs 43 wc))).1,false))else(H,false)
   |_,_=>(H,false):=by unfold hcame;rw[he];try rfl
  cases hnum:numO wa with
  |none=>
   have hc2:hcame H s=(H,false):=by rw[hce,hnum]
   rw[hc2]
   refine Z8 ?_
   refine Z129 ?_
   refine KO.ce (cp:=[]) rfl rfl rfl Tryz.call136 rfl (atoi_e w0 _ wa (by omega) hM) ?_;rintro v' L' ⟨hR,rfl⟩;unfold atoiR at hR;rw[hnum]at hR;obtain⟨xx,TT,yy,rfl⟩:=hR
   refine Z178 ?_
   cases hm:mrd wb with
   |none=>
    refine Z8 ?_
    refine Z58 ?_
    refine KO.ce (cp:=[]) rfl rfl rfl Tryz.call160 rfl (mread_e w0 _ wb (by omega) hT hM) ?_;rintro v' L' hR;unfold MrR at hR;rw[hm]at hR;obtain⟨rfl,rfl⟩:=hR
    refine Z106 ?_
    refine Z227 ?_
    refine Z96 ?_
    refine Z271 ?_
    refine Z333 ?_
    refine KQ.ret1 rfl rfl (fun w' hs'=>⟨_,_,rfl,⟨rfl,rfl⟩,hs'.all Y1⟩)
   |some l=>
    refine Z8 ?_
    refine Z58 ?_
    refine KO.ce (cp:=[]) rfl rfl rfl Tryz.call160 rfl (mread_e w0 _ wb (by omega) hT hM) ?_;rintro v' L' hR;unfold MrR at hR;rw[hm]at hR;obtain⟨v,rfl,rfl⟩:=hR
    refine Z106 ?_
    refine Z227 ?_
    refine Z96 ?_
    refine Z271 ?_
    refine Z333 ?_
    refine KQ.ret1 rfl rfl (fun w' hs'=>⟨_,_,rfl,⟨rfl,rfl⟩,hs'.all Y1⟩)
  |some k=>
   cases hm:mrd wb with
   |none=>
    have hc2:hcame H s=(H,false):=by rw[hce,hnum,hm]
    rw[hc2]
    refine Z8 ?_
    refine Z129 ?_
    refine KO.ce (cp:=[]) rfl rfl rfl Tryz.call136 rfl (atoi_e w0 _ wa (by omega) hM) ?_;rintro v' L' ⟨hR,rfl⟩;unfold atoiR at hR;rw[hnum]at hR;subst hR
    refine Z106 ?_
    refine Z58 ?_
    refine KO.ce (cp:=[]) rfl rfl rfl Tryz.call160 rfl (mread_e w0 _ wb (by omega) hT hM) ?_;rintro v' L' hR;unfold MrR at hR;rw[hm]at hR;obtain⟨rfl,rfl⟩:=hR
    refine Z308 ?_
    refine Z309 ?_
    refine Z27 ?_
    refine Z179 ?_
    refine Z333 ?_
    refine KQ.ret1 rfl rfl (fun w' hs'=>⟨_,_,rfl,⟨rfl,rfl⟩,hs'.all Y1⟩)
   |some l=>
    obtain⟨hnl,hll⟩:=hrr l he hm
    have hright:∀m∈l,msRight m=true:=fun m hm2=>badI_all (mrd_some hm).1 m hm2
    refine Z8 ?_
    refine Z129 ?_
    refine KO.ce (cp:=[]) rfl rfl rfl Tryz.call136 rfl (atoi_e w0 _ wa (by omega) hM) ?_;rintro v' L' ⟨hR,rfl⟩;unfold atoiR at hR;rw[hnum]at hR;subst hR
    refine Z106 ?_
    refine Z58 ?_
    refine KO.ce (cp:=[]) rfl rfl rfl Tryz.call160 rfl (mread_e w0 _ wb (by omega) hT hM) ?_;rintro v' L' hR;unfold MrR at hR;rw[hm]at hR;obtain⟨v,rfl,rfl⟩:=hR
    refine Z178 ?_
    refine K.fact (fun w hw=>SL_form (hw.pick (A:=SL 44 5 msC v l) .head)) ?_
    rintro⟨ad,cap,rfl,had⟩
    cases hk:rightK H k with
    |false=>
     have hc2:hcame H s=(H,false):=by rw[hce,hnum,hm];simp[hk]
     rw[hc2]
     refine Z360 ?_
     refine Z299 ?_
     refine Z1 ?_
     refine KO.on rfl rfl rfl ?_;refine KO.ce (cp:=[]) rfl rfl rfl Tryz.call79 rfl (hright_e w0 _ _ bh bd H k Y11) ?_;rintro v' L' ⟨rfl,rfl⟩;rw[hk]
     refine Z236 ?_
     refine Z55 ?_
     refine Z193 ?_
     refine KQ.ret1 rfl rfl (fun w' hs'=>⟨_,_,rfl,⟨rfl,rfl⟩,hs'.all Y1⟩)
    |true=>
     obtain⟨hk0,hk4,-⟩:=rightK_iff.1 hk
     obtain⟨j,rfl⟩:∃j:Nat,k=(j:Int):=⟨k.toNat,by omega⟩
     have hj:j<4:=by omega
     have hc2:hcame H s=if(hcomes H (l.zip (pcs 43 wc))).2=true then({(hcomes H (l.zip (pcs 43 wc))).1 with arrived:=H.arrived.set j (avAt H j+1)},true)else((hcomes H (l.zip (pcs 43 wc))).1,false):=by rw[hce,hnum,hm];simp[hk]
     have hpl:=pcs_len_le 43 wc
     refine Z360 ?_
     refine Z299 ?_
     refine Z1 ?_
     refine KO.on rfl rfl rfl ?_;refine KO.ce (cp:=[]) rfl rfl rfl Tryz.call79 rfl (hright_e w0 _ _ bh bd H (j:Int) Y11) ?_;rintro v' L' ⟨rfl,rfl⟩;rw[hk]
     refine Z236 ?_
     refine Z162 ?_
     refine Z8 ?_
     refine KO.idx0 (i:=2) rfl rfl Tryz.runUnderlying115 Tryz.sizeOf9 rfl (by simp) rfl ?_
     refine Z335 ?_
     refine KO.ce (cp:=[]) rfl rfl rfl Tryz.call133 rfl (split_e w0 _ wc 43 (by omega) hM) ?_;rintro v' L' ⟨b48,rfl,rfl⟩
     refine Z28 ?_
     refine Z285 ?_
     generalize pcs 43 wc=ts at hll hc2 hpl ⊢
     have hzl:(l.zip ts).length=l.length:=by rw[List.length_zip];omega
     refine K.loop (fun p:Nat×Ho=>[(0,ptrV bh),(6,.int .i64 (j:Nat)),(10,.slice (some ⟨b48,0,none⟩) ts.length ts.length),(49,.slice ad l.length cap),(50,.int .i64 (l.length:Nat)),(51,.int .i64 (p.1:Nat))]) (fun p=>hoP bh bd p.2::strS (.slice (some ⟨b48,0,none⟩) ts.length ts.length) ts::SL 44 5 msC (.slice ad l.length cap) l::L) (fun p=>p.1≤l.length∧HoB (n+p.1) p.2∧hcomes p.2 ((l.zip ts).drop p.1)=hcomes H (l.zip ts)∧p.2.arrived=H.arrived) (fun p=>l.length-p.1) (0,H)
      ⟨Nat.zero_le _,hB,rfl,rfl⟩ ⟨rfl,rfl,rfl,rfl,rfl,rfl,trivial⟩ (fun _ h=>h.all Y1) ?_
     rintro⟨i,H1⟩ ⟨hi,hB1,hp1,ha1⟩
     dsimp only at hi hB1 hp1 ha1 ⊢
     refine Z111 ?_
     refine K.condD rfl (fun h=>?_) (fun h=>?_)
     ·obtain⟨m,hmi⟩:∃e,l[i]? =some e:=⟨l[i],List.getElem?_eq_getElem (by omega)⟩
      obtain⟨t,hti⟩:∃e,ts[i]? =some e:=⟨ts[i],List.getElem?_eq_getElem (by omega)⟩
      have hmr:=hright m (List.mem_of_getElem? hmi)
      obtain⟨m1,m2,m3,m4,-,-,m7,m8⟩:=msRight_parts hmr
      obtain⟨g,rfl⟩:=had (by omega)
      have hdl:(l.zip ts).drop i=(m,t)::(l.zip ts).drop (i+1):=by
       have hz:(l.zip ts)[i]? =some (m,t):=by rw[List.getElem?_zip_eq_some];exact⟨hmi,hti⟩
       obtain⟨h1,e⟩:=List.getElem?_eq_some_iff.1 hz
       rw[←e]
       exact List.drop_eq_getElem_cons h1
      rw[hdl,hcomes]at hp1
      have hsm:small m.pri:=by unfold small;omega
      obtain⟨mi,mp,mb,mq,mh⟩:=m
      dsimp only at m1 m2 m3 m4 m7 m8 hsm
      refine Z229 ?_
      refine Z163 ?_
      refine KO.alloc rfl Tryz.zeroValue44 Y68 rfl ?_;intro b12
      refine Z7 ?_
      refine Z278 ?_
      refine K.open' (fun _ h=>hoP_open (h.pick Y11)) ?_
      rintro⟨V,hV⟩
      dsimp only
      have hps:=hV.ps
      have hg:=mapE_get hV t
      obtain⟨zv,hzv⟩:∃zv,zv=(getK (mapE V H1) t).getD (.pointer none):=⟨_,rfl⟩
      refine K.draw [.pure,.pure,.pure,.read,.pure,.pure,.pure,.read,.read,.pure] [0,1,2,3,4,5,6,7,8,9] Y62 Y62 ?_
      refine Z26 ?_
      refine Z29 ?_
      refine Z34 ?_
      refine KO.idx0 (i:=i) rfl rfl Tryz.runUnderlying115 Tryz.sizeOf9 rfl (by omega) rfl ?_
      refine KO.ldE0 (i:=i) (sz:=1) (cf:=strC) (e:=t) rfl rfl Tryz.isAgg9 Y11 (fun _=>rfl) hti (by simp) Y68 rfl ?_
      refine KO.lkm strKey t rfl rfl rfl Tryz.underlying123 Tryz.underlying9 Tryz.zeroValue119 Y11 rfl ?_;rw[←hzv]
      refine Z21 ?_
      cases hq:H1.qI t with
      |none=>
       rw[hq]at hg hp1
       rw[hg]at hzv
       subst hzv
       dsimp only at hp1
       refine Z8 ?_
       refine KO.eqP0 rfl Tryz.underlying119 rfl ?_
       refine Z55 ?_
       refine Z3 ?_
       refine Z146 ?_
       refine KQ.ret1 rfl rfl (fun w' hs'=>⟨_,_,rfl,⟨?_,rfl⟩,?_⟩)
       ·rw[hc2,←hp1];rfl
       ·rw[hc2,←hp1]
        exact hoP_mk V hV (hs'.all Y5)
      |some q=>
       have hqk:=(qI_lt hq).1
       obtain⟨p,hp⟩:∃p,V.ps[4+q]? =some p:=⟨_,List.getElem?_eq_getElem (by omega)⟩
       rw[hq]at hg hp1
       simp only[Option.bind_some,hp,Option.map_some]at hg
       rw[hg]at hzv
       subst hzv
       dsimp only at hp1
       refine Z8 ?_
       refine KO.eqPn rfl Tryz.underlying119 rfl ?_
       refine Z63 ?_
       refine Z102 ?_
       refine Z8 ?_
       refine Z113 ?_
       refine KO.cl (cp:=[]) rfl rfl rfl Tryz.call147 rfl (KC.famC (φ:=fun v=>v=.tuple #[]) hp (all_q hV.ways hqk) Y11 (fun L=>push_c w0 L p (H1.qAt q) ⟨mi,mp,mb,mq,mh⟩ (-1) ((hB1.qa hqk).ok (by omega)) hsm)) ?_;rintro v' L' ⟨rfl,rfl⟩
       refine Z132 ?_
       refine KQ.round (i+1,H1.setQ q (qpush (H1.qAt q) ⟨mi,mp,mb,mq,mh⟩ (-1))) ⟨by dsimp only;omega,?_,hp1,ha1⟩ Y47 ⟨rfl,rfl,rfl,rfl,rfl,rfl,trivial⟩ (fun w' hs'=>?_)
       ·exact(hB1.le (Nat.le_succ _)).setQ ((hB1.qa hqk).pushed ⟨by dsimp only;omega,by dsimp only;omega⟩ ⟨by dsimp only;omega,by dsimp only;omega⟩ (-1)) q
       ·have h1:=hoP_setQ V hV q _ (L:=strS (.slice (some ⟨b48,0,none⟩) ts.length ts.length) ts::SL 44 5 msC (.slice (some ⟨g,0,none⟩) l.length cap) l::L) (hs'.all Y5)
        exact h1
     ·obtain rfl:i=l.length:=by omega
      rw[show(l.zip ts).drop l.length=[]by rw[←hzl];exact List.drop_length,hcomes]at hp1
      rw[←hp1]at hc2
      rw[hc2,if_pos rfl]
      refine Z9 ?_
      refine K.open' (fun _ h=>hoP_open (h.pick Y21)) ?_
      rintro⟨V,hV⟩
      dsimp only
      have hav2:avAt H1 j=avAt H j:=by unfold avAt;rw[ha1]
      obtain⟨d1,d2⟩:=hoC_arr (bd:=bd) hV hj
      obtain⟨ha0,ha9⟩:0≤avAt H j∧avAt H j≤(n:Int):=getD_mem0 hB.ext.arr
      rw[hav2]at d1
      refine K.draw [.pure,.pure,.pure,.pure,.pure,.read,.pure,.pure,.pure,.pure,.write] [0,1,2,3,4,5,6,7,8,9,10] Y62 Y62 ?_
      refine Z217 ?_
      refine Z207 ?_
      refine Z353 ?_
      refine Z60 ?_
      refine KO.stAt (i:=30+j) rfl rfl rfl Y68 Y45 rfl Y21 Y31 Y34 ?_;rw[d2]
      refine Z183 ?_
      refine KQ.ret1 rfl rfl (fun w' hs'=>⟨_,_,rfl,⟨rfl,rfl⟩,?_⟩)
      rw[←ha1]
      exact hoP_mk V ⟨hV.ps,hV.us,hV.bs,hV.ways,hV.units,hV.batch,hV.sent,by simp[hV.arrived]⟩ (hs'.all Y5)
 ·have hc2:hcame H s=(H,false):=by
   unfold hcame
   split
   ·rename_i a b c e;rw[e]at h3;exact absurd rfl h3
   ·rfl
  rw[hc2]
  refine Z8 ?_
  refine Z91 ?_
  refine Z2 ?_
  refine K.condT rfl Y61 ?_
  refine Z193 ?_
  refine KQ.ret1 rfl rfl (fun w' hs'=>⟨_,_,rfl,⟨rfl,rfl⟩,hs'.drop⟩)
end Go.Proofs.YtjhogocabcdjbabGreatDoor
/- house: plays (names, units), writes -/
namespace Go.Proofs.YtjhogocabcdjbabGreatDoor
open Go Go.RowKit WB
theorem trimp_e (w0:World) (L:List HP) (s:ByteArray):KE Tryz.prog 138 #[.string s,.string ⟨#[45]⟩] w0 L (fun u M=>u=.string (dash s)∧M=L):=KE.of_below fun w hw=>
 (Tryz.strings_TrimPrefix s ⟨#[45]⟩ w).mono fun e w' h=>⟨h.1,by rw[h.2];exact Below.refl _ _⟩
theorem dash_size (s:ByteArray):(dash s).size≤s.size:=by
 unfold dash Lib.trimPrefix
 split
 ·simp only[toB,ba_size];simp
 ·simp only[toB,ba_size];simp
set_option maxRecDepth 100000 in
theorem hplays_c (w0:World) (L:List HP) (bh bd n k:Nat) (H:Ho) (s:ByteArray) (hT:Tab w0) (hM:Lim w0) (hB:HoB n H) (hr:RecOk k s) (hn:n+k≤90000):
 KC Tryz.prog 53 #[ptrV bh,.string s] w0 (hoP bh bd H::L) (fun u M=>u=.bool (hplays H s).2∧M=hoP bh bd (hplays H s).1::L):=by
 have hsz:=hr.size
 have hc2:=(cutB_size 58 s).2
 have hnl:=hB.nlen
 have hso:=hB.sorted
 have hmx:(1000000:Nat)≤maxLen:=by decide
 refine KC.mk (n:=74) Tryz.func53 rfl Tryz.ntmps53 (by simp) ?_
 refine Z150 ?_
 refine KO.ce (cp:=[]) rfl rfl rfl Tryz.call135 rfl (cut1_e w0 _ s 58 (by omega) hM) ?_;rintro v' L' ⟨rfl,rfl⟩
 refine Z47 ?_
 refine Z187 ?_
 refine Z166 ?_
 refine Z28 ?_
 refine Z39 ?_
 generalize hrest:(cutB 58 s).2.1=rest at hc2
 by_cases h1:(cutB 58 s).1=chr1 110
 ·refine Z240 ?_
  refine K.condT rfl (decide_eq_true h1) ?_
  have hws:∀x∈pcs 32 rest,x.size≤80000:=fun x hx=>by have :=pcs_size hx;omega
  refine Z117 ?_
  refine KO.ce (cp:=[]) rfl rfl rfl Tryz.call133 rfl (split_e w0 _ rest 32 (by omega) hM) ?_;rintro v' L' ⟨b21,rfl,rfl⟩
  refine Z21 ?_
  by_cases h3:(pcs 32 rest).length=3
  ·obtain⟨wa,wb,wc,he⟩:∃a b c,pcs 32 rest=[a,b,c]:=by
    match h:pcs 32 rest,h3 with
    |[a,b,c],_=>exact⟨a,b,c,rfl⟩
   rw[he]at hws ⊢
   have hza:=hws wa (by simp)
   have hzb:=hws wb (by simp)
   have hzc:=hws wc (by simp)
   have hdz:=dash_size wb
   have hnr:hnameR rest=(numO wc).map fun k=>⟨wa,dash wb,k⟩:=by unfold hnameR;rw[he]
   refine Z8 ?_
   refine Z91 ?_
   refine Z224 ?_
   refine Z6 ?_
   cases hnum:numO wc with
   |none=>
    rw[hnum]at hnr
    have hpl:hplays H s=(H,false):=by unfold hplays;rw[if_pos h1,hrest,hnr];rfl
    rw[hpl]
    refine Z8 ?_
    refine Z130 ?_
    refine KO.ce (cp:=[]) rfl rfl rfl Tryz.call136 rfl (atoi_e w0 _ wc (by omega) hM) ?_;rintro v' L' ⟨hR,rfl⟩;unfold atoiR at hR;rw[hnum]at hR;obtain⟨xx,TT,yy,rfl⟩:=hR
    refine Z206 ?_
    refine Z1 ?_
    refine KO.eqIf rfl Y62 rfl ?_
    refine Z179 ?_
    refine Z12 ?_
    refine Z12 ?_
    refine Z12 ?_
    refine Z12 ?_
    refine Z27 ?_
    refine Z146 ?_
    refine KQ.ret1 rfl rfl (fun w' hs'=>⟨_,_,rfl,⟨rfl,rfl⟩,hs'.drop⟩)
   |some kk=>
    rw[hnum]at hnr
    have hpl:hplays H s=(hset H ⟨wa,dash wb,kk⟩,decide (hsetE H ⟨wa,dash wb,kk⟩=0)):=by unfold hplays;rw[if_pos h1,hrest,hnr];rfl
    rw[hpl]
    refine Z8 ?_
    refine Z130 ?_
    refine KO.ce (cp:=[]) rfl rfl rfl Tryz.call136 rfl (atoi_e w0 _ wc (by omega) hM) ?_;rintro v' L' ⟨hR,rfl⟩;unfold atoiR at hR;rw[hnum]at hR;subst hR
    refine Z206 ?_
    refine Z1 ?_
    refine KO.eqI0 rfl Y62 rfl ?_
    refine Z65 ?_
    refine Z1 ?_
    refine KO.on rfl rfl rfl ?_;refine KO.idx0 (i:=0) rfl rfl Tryz.runUnderlying115 Tryz.sizeOf9 rfl (by simp) rfl ?_
    refine KO.on rfl rfl rfl ?_;refine KO.ldE0 (i:=0) (sz:=1) (cf:=strC) (e:=wa) rfl rfl Tryz.isAgg9 Y21 (fun _=>rfl) rfl Y68 Y68 rfl ?_
    refine Z316 ?_
    refine KO.on rfl rfl rfl ?_;refine KO.idx0 (i:=1) rfl rfl Tryz.runUnderlying115 Tryz.sizeOf9 rfl (by simp) rfl ?_
    refine KO.on rfl rfl rfl ?_;refine KO.ldE0 (i:=1) (sz:=1) (cf:=strC) (e:=wb) rfl rfl Tryz.isAgg9 Y21 (fun _=>rfl) rfl Y68 Y68 rfl ?_
    refine Z316 ?_
    refine KO.on rfl rfl rfl ?_;refine KO.ce (cp:=[]) rfl rfl rfl Tryz.call138 rfl (trimp_e w0 _ wb) ?_;rintro v' L' ⟨rfl,rfl⟩
    refine Z57 ?_
    refine Z167 ?_
    refine KO.on rfl rfl rfl ?_;refine KO.cl (cp:=[]) rfl rfl rfl Tryz.call137 rfl (KC.pk1 Y11 (hset_c w0 _ bh bd H ⟨wa,dash wb,kk⟩ Y47 Y47 hnl hso)) ?_;rintro v' L' ⟨rfl,rfl⟩
    refine Z57 ?_
    refine KO.eqN rfl Y62 rfl ?_
    refine Z45 ?_
    refine Z146 ?_
    refine KQ.ret1 rfl rfl (fun w' hs'=>⟨_,_,rfl,⟨rfl,rfl⟩,hs'.all Y1⟩)
  ·have hnr:hnameR rest=none:=by
    unfold hnameR
    split
    ·rename_i a b c e;rw[e]at h3;exact absurd rfl h3
    ·rfl
   have hpl:hplays H s=(H,false):=by unfold hplays;rw[if_pos h1,hrest,hnr]
   rw[hpl]
   refine Z8 ?_
   refine Z91 ?_
   refine Z2 ?_
   refine K.condT rfl Y61 ?_
   refine Z3 ?_
   refine Z146 ?_
   refine KQ.ret1 rfl rfl (fun w' hs'=>⟨_,_,rfl,⟨rfl,rfl⟩,hs'.drop⟩)
 refine Z240 ?_
 refine K.condF rfl (decide_eq_false h1) ?_
 refine Z53 ?_
 by_cases h2:(cutB 58 s).1=chr1 100
 ·have hpl:hplays H s=(hdrop H rest,decide (hdropE H rest=0)):=by unfold hplays;rw[if_neg h1,if_pos h2,hrest]
  rw[hpl]
  refine Z240 ?_
  refine K.condT rfl (decide_eq_true h2) ?_
  refine Z214 ?_
  refine KO.cl (cp:=[]) rfl rfl rfl Tryz.call139 rfl (hdrop_c w0 _ bh bd H rest hnl hso) ?_;rintro v' L' ⟨rfl,rfl⟩
  refine KO.eqN rfl Y62 rfl ?_
  refine Z146 ?_
  refine KQ.ret1 rfl rfl (fun w' hs'=>⟨_,_,rfl,⟨rfl,rfl⟩,hs'⟩)
 refine Z240 ?_
 refine K.condF rfl (decide_eq_false h2) ?_
 refine Z53 ?_
 by_cases h4:(cutB 58 s).1=chr1 117
 ·have hpl:hplays H s=hends H rest:=by unfold hplays;rw[if_neg h1,if_neg h2,if_pos h4,hrest]
  have hmany:=hr.many h4
  rw[hrest]at hmany
  rw[hpl]
  refine Z240 ?_
  refine K.condT rfl (decide_eq_true h4) ?_
  refine Z214 ?_
  refine KO.cl (cp:=[]) rfl rfl rfl Tryz.call65 rfl (hends_c w0 _ bh bd n H rest hT hM (by omega) hB (fun l hl=>by have :=hmany l hl;omega) (by omega)) ?_;rintro v' L' ⟨rfl,rfl⟩
  refine Z146 ?_
  refine KQ.ret1 rfl rfl (fun w' hs'=>⟨_,_,rfl,⟨rfl,rfl⟩,hs'⟩)
 refine Z240 ?_
 refine K.condF rfl (decide_eq_false h4) ?_
 refine Z53 ?_
 by_cases h5:(cutB 58 s).1=chr1 98
 ·have hpl:hplays H s=hmade H rest:=by unfold hplays;rw[if_neg h1,if_neg h2,if_neg h4,if_pos h5,hrest]
  rw[hpl]
  refine Z240 ?_
  refine K.condT rfl (decide_eq_true h5) ?_
  refine Z214 ?_
  refine KO.cl (cp:=[]) rfl rfl rfl Tryz.call140 rfl (hmade_c w0 _ bh bd n H rest hM hB (by omega) (by omega)) ?_;rintro v' L' ⟨rfl,rfl⟩
  refine Z146 ?_
  refine KQ.ret1 rfl rfl (fun w' hs'=>⟨_,_,rfl,⟨rfl,rfl⟩,hs'⟩)
 refine Z240 ?_
 refine K.condF rfl (decide_eq_false h5) ?_
 refine Z53 ?_
 by_cases h6:(cutB 58 s).1=chr1 97
 ·have hpl:hplays H s=hknown H rest:=by unfold hplays;rw[if_neg h1,if_neg h2,if_neg h4,if_neg h5,if_pos h6,hrest]
  rw[hpl]
  refine Z240 ?_
  refine K.condT rfl (decide_eq_true h6) ?_
  refine Z214 ?_
  refine KO.cl (cp:=[]) rfl rfl rfl Tryz.call141 rfl (hknown_c w0 _ bh bd n H rest hM hB (by omega) (by omega)) ?_;rintro v' L' ⟨rfl,rfl⟩
  refine Z146 ?_
  refine KQ.ret1 rfl rfl (fun w' hs'=>⟨_,_,rfl,⟨rfl,rfl⟩,hs'⟩)
 refine Z240 ?_
 refine K.condF rfl (decide_eq_false h6) ?_
 refine Z53 ?_
 by_cases h7:(cutB 58 s).1=chr1 114
 ·have hpl:hplays H s=hcame H rest:=by unfold hplays;rw[if_neg h1,if_neg h2,if_neg h4,if_neg h5,if_neg h6,if_pos h7,hrest]
  have hcome:=hr.come h7
  rw[hrest]at hcome
  rw[hpl]
  refine Z240 ?_
  refine K.condT rfl (decide_eq_true h7) ?_
  refine Z214 ?_
  refine KO.cl (cp:=[]) rfl rfl rfl Tryz.call142 rfl (hcame_c w0 _ bh bd n H rest hT hM (by omega) hB (by omega) (fun a b c l h8 h9=>by have :=hcome a b c l h8 h9;exact⟨by omega,this.2⟩)) ?_;rintro v' L' ⟨rfl,rfl⟩
  refine Z146 ?_
  refine KQ.ret1 rfl rfl (fun w' hs'=>⟨_,_,rfl,⟨rfl,rfl⟩,hs'⟩)
 have hpl:hplays H s=(H,false):=by unfold hplays;rw[if_neg h1,if_neg h2,if_neg h4,if_neg h5,if_neg h6,if_neg h7]
 rw[hpl]
 refine Z240 ?_
 refine K.condF rfl (decide_eq_false h7) ?_
 refine Z62 ?_
 refine Z105 ?_
 refine KQ.ret1 rfl rfl (fun w' hs'=>⟨_,_,rfl,⟨rfl,rfl⟩,hs'⟩)
theorem hwrites_c (w0:World) (L:List HP) (bh bd n k:Nat) (H:Ho) (D:Dk) (s:ByteArray) (hT:Tab w0) (hM:Lim w0) (hB:HoB n H) (hr:RecOk k s) (hn:n+k≤90000) (h3:D.places.length=300) (hd: -4000000000000000000≤D.left∧D.left≤9223372036854775807):
 KC Tryz.prog 84 #[ptrV bh,.string s] w0 (hoP bh bd H::dkP bd D::L) (fun u M=>u=errV 70 (logE H D)∧M=hoP bh bd (wrH H D s)::dkP bd (logD H D s)::L):=by
 have hsz:=hr.size
 have hu:=hB.used
 refine KC.mk (n:=15) Tryz.func84 rfl Tryz.ntmps84 (by simp) ?_
 refine Z352 ?_
 refine KO.cl (cp:=[]) rfl rfl rfl Tryz.call61 rfl (logs_c w0 _ bh bd H D s hT h3 hd (by omega) hu) ?_;rintro v' L' ⟨rfl,rfl⟩
 refine Z239 ?_
 refine K.condD rfl (fun h=>?_) (fun h=>?_)
 ·have e:wrH H D s=logH H D:=by unfold wrH;rw[if_neg h]
  rw[e]
  refine Z312 ?_
  refine KQ.ret1 rfl rfl (fun w' hs'=>⟨_,_,rfl,⟨rfl,rfl⟩,hs'⟩)
 ·have h0:logE H D=0:=by simpa using h
  have e:wrH H D s=(hplays (logH H D) s).1:=by unfold wrH;rw[if_pos h0]
  rw[e]
  refine Z6 ?_
  refine Z72 ?_
  refine KO.cl (cp:=[]) rfl rfl rfl Tryz.call53 rfl (hplays_c w0 _ bh bd n k (logH H D) s hT hM hB.log hr hn) ?_;rintro v' L' ⟨rfl,rfl⟩
  refine Z183 ?_
  refine KQ.ret1 rfl rfl (fun w' hs'=>⟨_,_,rfl,⟨by rw[h0];rfl,rfl⟩,hs'⟩)
end Go.Proofs.YtjhogocabcdjbabGreatDoor
/- the house: records of names -/
namespace WB
open Go Go.RowKit
theorem setNm_snoc {l:List Nm} {x:Nm} (hr:rightNm x=true) (hs:∀y∈l,cmpN y.name x.name<0) (hl:l.length<20):setNm l x=l++[x]∧setErr l x=0:=by
 have hk:srchN l x.name=l.length:=by
  unfold srchN
  rw[show(l.takeWhile fun y=>decide (cmpN y.name x.name<0))=l from ?_]
  clear hl
  induction l with
  |nil=>rfl
  |cons a l ih=>
   rw[List.takeWhile_cons,if_pos (by simpa using hs a (by simp)),ih fun y hy=>hs y (by simp[hy])]
 have hh:hitB l x.name (srchN l x.name)=false:=by unfold hitB;rw[hk];simp
 constructor
 ·unfold setNm
  rw[if_neg (by simp[hr]),if_neg (by simp[hh]),if_neg (by omega),hk,List.take_length,List.drop_length]
 ·unfold setErr
  rw[if_neg (by simp[hr]),if_neg (by simp[hh]),if_neg (by omega)]
theorem set_take {l:List Nm} (hs:Sorted l) (hr:∀y∈l,rightNm y=true) (hl:l.length≤20) {k:Nat} {y:Nm} (hy:l[k]? =some y):setNm (l.take k) y=l.take (k+1):=by
 obtain⟨hk,rfl⟩:=List.getElem?_eq_some_iff.1 hy
 rw[(setNm_snoc (hr _ (List.getElem_mem hk)) (fun z hz=>?_) Y61).1,take_succ_some hy]
 obtain⟨j,hj,rfl⟩:=List.getElem_of_mem hz
 rw[List.length_take]at hj
 rw[List.getElem_take]
 exact List.pairwise_iff_getElem.1 hs j k (by omega) hk (by omega)
theorem wordB_size {s:ByteArray} (h:wordB s=true):1≤s.size∧s.size≤8:=by
 unfold wordB lettersB at h
 simp at h
 exact⟨h.1,h.2.1⟩
theorem right_word {x:Nm} (h:rightNm x=true):wordB x.name=true∧(wordB x.tgt=true∨x.tgt=⟨#[]⟩)∧ -1≤x.house∧x.house≤3:=by
 unfold rightNm at h
 simp only[Bool.and_eq_true,Bool.or_eq_true,decide_eq_true_eq]at h
 refine⟨h.1,?_,h.2.1,h.2.2.1⟩
 rcases h.2.2.2 with h1|h1
 ·exact .inl h1
 ·have :=h1.1;rw[emptyB_eq]at this;exact .inr (of_decide_eq_true this)
theorem right_sz {x:Nm} (h:rightNm x=true):x.name.size≤8∧x.tgt.size≤8:=by
 obtain⟨h1,h2,_⟩:=right_word h
 refine⟨(wordB_size h1).2,?_⟩
 rcases h2 with h2|h2
 ·exact(wordB_size h2).2
 ·rw[h2];decide
def dash1 (s:ByteArray):ByteArray:=if s=⟨#[]⟩then chr1 45 else s
def nameR (x:Nm):ByteArray:=⟨#[110,58]⟩++x.name++⟨#[32]⟩++dash1 x.tgt++⟨#[32]⟩++itoaS x.house
def deadS:ByteArray:=⟨#[100,101,97,100]⟩
theorem nameR_eq (x:Nm):nameR x=chr1 110++chr1 58++(x.name++chr1 32++(dash1 x.tgt++chr1 32++itoaS x.house)):=by
 unfold nameR
 rw[show(⟨#[110,58]⟩:ByteArray)=chr1 110++chr1 58 by decide]
 rw[show(⟨#[32]⟩:ByteArray)=chr1 32 from rfl]
 simp only[ByteArray.append_assoc]
theorem noB_chr {c d:UInt8} (h:d≠c):noB c (chr1 d):=fun b hb=>by
 simp[chr1]at hb;subst hb;exact h
theorem cutB_nameR (x:Nm):cutB 58 (nameR x)=(chr1 110,x.name++chr1 32++(dash1 x.tgt++chr1 32++itoaS x.house),true):=by
 rw[nameR_eq,cutB_hit (noB_chr (by decide))]
theorem recOk_name {x:Nm} (h:rightNm x=true):RecOk 1 (nameR x):=by
 obtain⟨h1,h2⟩:=right_sz h
 obtain⟨_,_,h5,h6⟩:=right_word h
 have h3:=itoaS_size (n:=x.house) ⟨by omega,by omega⟩
 have h4:(dash1 x.tgt).size≤8:=by
  unfold dash1;split
  ·decide
  ·omega
 have e1:(⟨#[110,58]⟩:ByteArray).size=2:=rfl
 have e2:(⟨#[32]⟩:ByteArray).size=1:=rfl
 refine⟨?_,fun hk=>?_,fun hk=>?_⟩
 ·unfold nameR;simp only[ByteArray.size_append];omega
 ·rw[cutB_nameR]at hk
  exact absurd (show chr1 110=chr1 117 from hk) (by decide)
 ·rw[cutB_nameR]at hk
  exact absurd (show chr1 110=chr1 114 from hk) (by decide)
def namePE (H:Ho) (x:Nm):Int:=if setErr H.names x≠0 then setErr H.names x else if x.name=deadS then 5 else 0
def nameE (H:Ho) (D:Dk) (x:Nm):Int:=if namePE H x≠0 then namePE H x else logE H D
def nameH (H:Ho) (D:Dk) (x:Nm):Ho:=if namePE H x≠0 then H else wrH H D (nameR x)
def nameD (H:Ho) (D:Dk) (x:Nm):Dk:=if namePE H x≠0 then D else logD H D (nameR x)
end WB
/- house: probeSet, Name -/
namespace Go.Proofs.YtjhogocabcdjbabGreatDoor
open Go Go.RowKit WB
theorem probe_c (w0:World) (L R R2:List HP) (b off:Nat) (cs:List Value) (T:TypeId) (v:Value) (l:List Nm) (x:Nm)
 (hp:Pick L (blk b (.cells cs.toArray T (0,0))) R) (hq:Pick R (nmS v l) R2) (hc:cs[off]? =some v) (hl:l.length≤20) (hs:Sorted l) (hr:∀y∈l,rightNm y=true) (h1:x.name.size≤maxLen) (h2:x.tgt.size≤maxLen):
 KC Tryz.prog 83 #[.pointer (some ⟨b,off,none⟩),.agg x.cells.toArray] w0 L (fun u M=>u=errV 70 (setErr l x)∧M=L):=by
 obtain⟨xn,xt,xh⟩:=x
 dsimp only at h1 h2
 have hmx:(1000000:Nat)≤maxLen:=by decide
 refine KC.mk (n:=20) Tryz.func83 rfl Tryz.ntmps83 (by simp) ?_
 refine Z3 ?_
 refine KO.box rfl rfl Y68 rfl ?_;intro b3
 refine Z135 ?_
 refine KO.alloc rfl Tryz.zeroValue125 Y68 rfl ?_;intro b5
 refine Z348 ?_
 refine KO.ce (cp:=[]) rfl rfl rfl Tryz.call169 rfl (nall_e w0 _ _ _ b off cs T v l (.tail (.tail hp)) (.tail (.tail hq)) hc (by omega)) ?_;rintro va L' rfl;refine KO.fact (fun w hw=>SL_form (E:=75) (sz:=3) (cf:=Nm.cells) (hw.pick .head)) ?_;rintro⟨ad,cap,rfl,had⟩
 refine KO.len rfl Tryz.underlying86 rfl ?_
 refine Z119 ?_
 refine K.loop (fun p:Nat×Value=>[(3,.pointer (some ⟨b3,0,none⟩)),(5,.pointer (some ⟨b5,0,none⟩)),(9,.slice ad l.length cap),(10,.int .i64 (l.length:Nat)),(11,.int .i64 (p.1:Nat))])
  (fun p=>blk b5 (.cells [p.2].toArray 125 (0,0))::nmS p.2 (l.take p.1)::nmS (.slice ad l.length cap) l::blk b3 (.cells [Value.string xn,.string xt,.int .i64 xh].toArray 75 (0,0))::L) (fun p=>p.1≤l.length) (fun p=>l.length-p.1) (0,.slice none 0 0)
  (Nat.zero_le _) ⟨rfl,rfl,rfl,rfl,rfl,trivial⟩ (fun _ h=>?_) ?_
 ·have h1:=SL_nil (E:=75) (sz:=3) (cf:=Nm.cells) h
  dsimp only[List.take_zero]
  exact h1.all Y7
 rintro⟨k,vm⟩ hk
 dsimp only at hk ⊢
 refine Z111 ?_
 refine K.condD rfl (fun h=>?_) (fun h=>?_)
 ·obtain⟨y,hy⟩:∃e,l[k]? =some e:=⟨l[k],List.getElem?_eq_getElem (by omega)⟩
  obtain⟨g,rfl⟩:=had (by omega)
  have hyr:=hr y (List.mem_of_getElem? hy)
  have hsz:=right_sz hyr
  have e1:=set_take hs hr hl hy
  have hst:Sorted (l.take k):=List.Pairwise.sublist (List.take_sublist _ _) hs
  obtain⟨yn,yt,yh⟩:=y
  dsimp only at hsz
  refine Z145 ?_
  refine KO.idx0 rfl rfl Tryz.runUnderlying86 Tryz.sizeOf75 Y68 (by omega) rfl ?_
  refine KO.ldEN rfl rfl Tryz.isAgg75 Tryz.sizeOf75 Y11 (fun _=>rfl) Y63 rfl ?_
  refine KO.alloc rfl Tryz.zeroValue75 Y68 rfl ?_;intro b7
  refine KO.sto0 rfl rfl rfl Y68 (by exact Tryz.sizeOf75) Y68 Y21 Y68 ?_
  refine Z2 ?_
  refine Z231 ?_
  refine Z334 ?_
  refine KO.cl (cp:=[]) rfl rfl rfl Tryz.call170 rfl (nset_c w0 _ _ _ b5 0 [vm] 125 vm (l.take k) ⟨yn,yt,yh⟩ Y11 Y11 rfl Y47 Y47 Y61 hst) ?_;rintro v' L' ⟨rfl,v2,rfl⟩;rw[e1,show[vm].set 0 v2=[v2]from rfl]
  refine Z132 ?_
  refine KQ.round (k+1,v2) Y47 Y47 ⟨rfl,rfl,rfl,rfl,rfl,trivial⟩ (fun _ h=>h.all Y1)
 ·have hkl:k=l.length:=by omega
  subst hkl
  rw[List.take_length]
  refine Z9 ?_
  refine Z231 ?_
  refine KO.ldB0 rfl rfl Tryz.isAgg75 Tryz.sizeOf75 Y11 Y68 rfl ?_
  refine KO.cl (cp:=[]) rfl rfl rfl Tryz.call170 rfl (nset_c w0 _ _ _ b5 0 [vm] 125 vm l ⟨xn,xt,xh⟩ Y21 Y21 rfl h1 h2 hl hs) ?_;rintro v' L' ⟨rfl,v2,rfl⟩
  refine Z33 ?_
  refine KQ.ret1 rfl rfl (fun w' hs'=>⟨_,_,rfl,⟨rfl,rfl⟩,hs'.all (by with_reducible repeat(first|exact PAll.refl|apply PAll.drop))⟩)
set_option maxRecDepth 100000 in
theorem hname_c (w0:World) (L:List HP) (bh bd n:Nat) (H:Ho) (D:Dk) (x:Nm) (hT:Tab w0) (hM:Lim w0) (hB:HoB n H) (hn:n+1≤90000) (h3:D.places.length=300) (hd: -4000000000000000000≤D.left∧D.left≤9223372036854775807) (h1:x.name.size≤maxLen) (h2:x.tgt.size≤maxLen):
 KC Tryz.prog 31 #[ptrV bh,.agg x.cells.toArray] w0 (hoP bh bd H::dkP bd D::L) (fun u M=>u=errV 70 (nameE H D x)∧M=hoP bh bd (nameH H D x)::dkP bd (nameD H D x)::L):=by
 have hnl:=hB.nlen
 have hso:=hB.sorted
 have hok:=fun h0:setErr H.names x=0=>setErr_right h0
 obtain⟨xn,xt,xh⟩:=x
 dsimp only at h1 h2
 refine KC.mk (n:=38) Tryz.func31 rfl Tryz.ntmps31 (by simp) ?_
 refine Z53 ?_
 refine K.open' (fun _ h=>hoP_open h) ?_
 rintro⟨V,hV⟩
 dsimp only
 refine K.fact (fun w hw=>SL_form (E:=75) (sz:=3) (cf:=Nm.cells) (v:=V.nv) (xs:=H.names) (hw.pick (A:=nmS V.nv H.names) Y11)) ?_
 rintro⟨na,nk,hnv,-⟩
 refine Z231 ?_
 refine KO.box rfl rfl Y68 rfl ?_;intro b3
 refine Z232 ?_
 refine Z98 ?_
 refine KO.ldB (us:=[V.nv]) rfl rfl Tryz.isAgg125 Tryz.sizeOf125 Y11 Y68 Y68 rfl ?_
 refine KO.alloc rfl Tryz.zeroValue125 Y68 rfl ?_;intro b5
 refine KO.sto0 (us:=[V.nv]) rfl rfl rfl (by rw[hnv];rfl) (by exact Tryz.sizeOf125) (by rw[hnv];rfl) Y21 Y68 ?_
 refine Z248 ?_
 refine KO.ldB0 rfl rfl Tryz.isAgg75 Tryz.sizeOf75 Y11 Y68 rfl ?_
 refine KO.cl (cp:=[]) rfl rfl rfl Tryz.call83 rfl (probe_c w0 _ _ _ b5 0 [V.nv] 125 V.nv H.names ⟨xn,xt,xh⟩ Y21 Y11 rfl hnl hso hB.right h1 h2) ?_;rintro v' L' ⟨rfl,rfl⟩
 refine Z239 ?_
 refine K.condD rfl (fun h=>?_) (fun h=>?_)
 ·have hpe:namePE H ⟨xn,xt,xh⟩=setErr H.names ⟨xn,xt,xh⟩:=by unfold namePE;rw[if_pos h]
  refine Z312 ?_
  refine KQ.ret1 rfl rfl (fun w' hs'=>⟨_,_,rfl,⟨?_,rfl⟩,?_⟩)
  ·unfold nameE;rw[hpe,if_pos h]
  ·unfold nameH nameD;rw[hpe,if_pos h,if_pos h]
   exact hoP_mk V hV (hs'.all Y5)
 have h0:setErr H.names ⟨xn,xt,xh⟩=0:=by simpa using h
 have hr0:=recOk_name (hok h0)
 have hsz:=right_sz (hok h0)
 obtain⟨-,-,hx1,hx2⟩:=right_word (hok h0)
 dsimp only at hsz hx1 hx2
 refine Z250 ?_
 refine Z177 ?_
 refine Z118 ?_
 refine Z266 ?_
 refine Z2 ?_
 refine K.condD rfl (fun h5=>?_) (fun h5=>?_)
 ·have hpe:namePE H ⟨xn,xt,xh⟩=5:=by unfold namePE;exact(if_neg h).trans (if_pos h5)
  refine Z218 ?_
  refine KQ.ret1 rfl rfl (fun w' hs'=>⟨_,_,rfl,⟨?_,rfl⟩,?_⟩)
  ·unfold nameE;rw[hpe];rfl
  ·unfold nameH nameD;rw[hpe,if_pos (by decide),if_pos (by decide)]
   exact hoP_mk V hV (hs'.all Y5)
 have hpe:namePE H ⟨xn,xt,xh⟩=0:=by unfold namePE;exact(if_neg h).trans (if_neg h5)
 refine Z250 ?_
 refine KO.fo0 (off:=1) rfl Tryz.runUnderlying75 rfl rfl Tryz.sizeOf9 rfl ?_
 refine Z118 ?_
 refine Z28 ?_
 refine Z266 ?_
 refine Z2 ?_
 refine K.cut (fun _:Unit=>[(0,ptrV bh),(3,.pointer (some ⟨b3,0,none⟩)),(7,.string (dash1 xt))]) (fun _=>hoP bh bd H::dkP bd D::blk b3 (.cells [Value.string xn,.string xt,.int .i64 xh].toArray 75 (0,0))::L) (fun _=>True) ?_ ?_
 ·refine K.condD rfl (fun h8=>?_) (fun h8=>?_)
  ·(skip)
   refine Z231 ?_
   refine Z144 ?_
   exact KQ.mid () trivial ⟨rfl,rfl,by unfold dash1;rw[if_pos h8];rfl,trivial⟩ (fun w' hs'=>hoP_mk V hV (hs'.all Y5))
  ·refine Z189 ?_
   exact KQ.mid () trivial ⟨rfl,rfl,by unfold dash1;rw[if_neg h8];rfl,trivial⟩ (fun w' hs'=>hoP_mk V hV (hs'.all Y5))
 ·rintro⟨⟩-
  try dsimp only
  have hi:=itoaS_size (n:=xh) ⟨by omega,by omega⟩
  have hdz:(dash1 xt).size≤8:=by
   unfold dash1;split
   ·decide
   ·omega
  have z1:(⟨#[110,58]⟩:ByteArray).size=2:=rfl
  have z2:(⟨#[32]⟩:ByteArray).size=1:=rfl
  have z3:(⟨#[110,58]⟩++xn:ByteArray).size≤10:=by simp only[ByteArray.size_append];omega
  have z4:(⟨#[110,58]⟩++xn++⟨#[32]⟩:ByteArray).size≤11:=by simp only[ByteArray.size_append];omega
  have z5:(⟨#[110,58]⟩++xn++⟨#[32]⟩++dash1 xt:ByteArray).size≤19:=by simp only[ByteArray.size_append];omega
  have z6:(⟨#[110,58]⟩++xn++⟨#[32]⟩++dash1 xt++⟨#[32]⟩:ByteArray).size≤20:=by simp only[ByteArray.size_append];omega
  refine Z53 ?_
  refine K.draw [.pure,.pure,.read,.pure,.pure,.pure,.pure,.pure,.pure,.read,.keep,.pure,.write,.pure] [0,1,2,3,4,5,6,7,8,9,10,11,12,13] Y62 Y62 ?_
  refine Z1 ?_
  refine Z177 ?_
  refine Z118 ?_
  refine Z121 ?_
  refine Z121 ?_
  refine Z1 ?_
  refine Z121 ?_
  refine Z121 ?_
  refine KO.fo0 (off:=2) rfl Tryz.runUnderlying75 rfl rfl Tryz.sizeOf3 rfl ?_
  refine Z38 ?_
  refine KO.ce (cp:=[]) rfl rfl rfl Tryz.call59 rfl (itoa_e w0 _ xh hT ⟨by omega,by omega⟩) ?_;rintro v' L' ⟨rfl,rfl⟩
  refine Z121 ?_
  refine KO.cl (cp:=[]) rfl rfl rfl Tryz.call84 rfl (hwrites_c w0 _ bh bd n 1 H D (nameR ⟨xn,xt,xh⟩) hT hM hB hr0 hn h3 hd) ?_;rintro v' L' ⟨rfl,rfl⟩
  refine Z33 ?_
  refine KQ.ret1 rfl rfl (fun w' hs'=>⟨_,_,rfl,⟨?_,rfl⟩,?_⟩)
  ·unfold nameE;rw[hpe];rfl
  ·unfold nameH nameD;rw[hpe,if_neg (by decide),if_neg (by decide)]
   exact hs'.all Y5
end Go.Proofs.YtjhogocabcdjbabGreatDoor
/- the house: Put, Get -/
namespace WB
open Go Go.RowKit
namespace Ho
def aAt (H:Ho) (j:Nat):Qu:=H.all.getD j default
def setA (H:Ho) (j:Nat) (q:Qu):Ho:=if j<4 then H.setW j q else H.setQ (j-4) q
end Ho
section
variable {n:Nat} {H:Ho} {q:Qu} {i j:Nat}
theorem setA_names (j:Nat) (q:Qu):(H.setA j q).names=H.names:=by unfold Ho.setA;split<;>rfl
theorem setA_fst (j:Nat) (q:Qu):(H.setA j q).queues.map (·.1)=H.queues.map (·.1):=by
 unfold Ho.setA;split
 ·rfl
 ·exact setQ_fst _ _
theorem setA_qlen (j:Nat) (q:Qu):(H.setA j q).queues.length=H.queues.length:=by
 have :=congrArg List.length (setA_fst (H:=H) j q);simpa using this
theorem setA_units (j:Nat) (q:Qu):(H.setA j q).units=H.units:=by unfold Ho.setA;split<;>rfl
theorem setA_batch (j:Nat) (q:Qu):(H.setA j q).batch=H.batch:=by unfold Ho.setA;split<;>rfl
theorem setA_id (j:Nat) (q:Qu):(H.setA j q).id=H.id:=by unfold Ho.setA;split<;>rfl
theorem setA_used (j:Nat) (q:Qu):(H.setA j q).used=H.used:=by unfold Ho.setA;split<;>rfl
theorem setA_down (j:Nat) (q:Qu):(H.setA j q).down=H.down:=by unfold Ho.setA;split<;>rfl
theorem setA_torn (j:Nat) (q:Qu):(H.setA j q).torn=H.torn:=by unfold Ho.setA;split<;>rfl
theorem setA_sent (j:Nat) (q:Qu):(H.setA j q).sent=H.sent:=by unfold Ho.setA;split<;>rfl
theorem setA_arrived (j:Nat) (q:Qu):(H.setA j q).arrived=H.arrived:=by unfold Ho.setA;split<;>rfl
theorem setA_wlen (j:Nat) (q:Qu):(H.setA j q).ways.length=H.ways.length:=by unfold Ho.setA;split<;>simp[Ho.setW,Ho.setQ]
theorem all_setA (h4:H.ways.length=4) (j:Nat) (q:Qu):(H.setA j q).all=H.all.set j q:=by
 unfold Ho.setA
 split
 ·exact all_setW (by omega) q
 ·rw[all_setQ h4,show 4+(j-4)=j by omega]
theorem all_a (hj:j<H.all.length):H.all[j]? =some (H.aAt j):=by
 unfold Ho.aAt
 rw[List.getD_eq_getElem?_getD,List.getElem?_eq_getElem hj];rfl
theorem aAt_w (h4:H.ways.length=4) (hj:j<4):H.aAt j=H.wAt j:=by
 have h1:=all_w h4 hj
 have h2:H.all[j]? =some (H.aAt j):=all_a (by rw[all_len h4];omega)
 rw[h1]at h2;exact(Option.some.inj h2).symm
theorem HoB.a (h:HoB n H) (hj:j<H.all.length):QB n (H.aAt j):=h.qs _ (List.mem_of_getElem? (all_a hj))
theorem HoB.setA (h:HoB n H) (hq:QB n q) (j:Nat):HoB n (H.setA j q):=by
 unfold Ho.setA
 split
 ·exact h.setW hq Y63
 ·exact h.setQ hq _
end
theorem KQ.ret4 {P:Program} {fn:Func} {R:Ending→World→Prop} {n:Nat} {w0:World} {G:Env} {L:List HP} {v1 v2 v3 v4:Value} {t1 t2 t3 t4:Nat} (hr:fn.results=#[.tmp t1,.tmp t2,.tmp t3,.tmp t4]) (h1:envAt G t1=some v1) (h2:envAt G t2=some v2) (h3:envAt G t3=some v3) (h4:envAt G t4=some v4)
 (h:∀w,St w0 L w→R (.returned (.tuple #[v1,v2,v3,v4])) w):KQ (bodyPost P fn R) .ret n [] w0 G L:=
 KQ.fin (fun a w ha _=>by simp[results,hr,Array.getD_eq_getD_getElem?,ha.get _ _ h1,ha.get _ _ h2,ha.get _ _ h3,ha.get _ _ h4]) h
def plR (H:Ho) (s:ByteArray):ByteArray×Int×Int:=
 if(resN H.names (H.names.length+1) s).2.2≠0 then(⟨#[]⟩,0,(resN H.names (H.names.length+1) s).2.2)
 else if(resN H.names (H.names.length+1) s).2.1<0∨(resN H.names (H.names.length+1) s).2.1=H.id then
  if localB H.names (resN H.names (H.names.length+1) s).1=false then(⟨#[]⟩,0,7)else((resN H.names (H.names.length+1) s).1,-1,0)
 else((resN H.names (H.names.length+1) s).1,(resN H.names (H.names.length+1) s).2.1,0)
def plJ (H:Ho) (s:ByteArray):Nat:=if(plR H s).2.1<0 then 4+(H.qI (plR H s).1).getD 0 else(plR H s).2.1.toNat
theorem resN_house {l:List Nm}:∀{n:Nat} {s t:ByteArray} {k:Int},resN l n s=(t,k,0)→k= -1∨∃x∈l,x.house=k∧0≤k
 |0,s,t,k,h=>by simp[resN]at h
 |n+1,s,t,k,h=>by
  rw[resN]at h
  split at h
  ·simp at h
  ·rename_i x hx
   split at h
   ·simp at h;exact .inl h.2.symm
   ·split at h
    ·rename_i h2
     simp at h
     refine .inr ⟨x,?_,h.2,h.2▸h2⟩
     unfold look at hx
     split at hx
     ·rename_i h3
      simp only[Option.some.injEq]at hx
      subst hx
      unfold nmAt
      have :=hit_lt h3
      rw[List.getD_eq_getElem?_getD,List.getElem?_eq_getElem this]
      exact List.getElem_mem this
     ·cases hx
    ·exact resN_house h
theorem local_q {n:Nat} {H:Ho} (hB:HoB n H) {s:ByteArray} (h:localB H.names s=true):∃i,H.qI s=some i:=by
 unfold localB at h
 cases hl:look H.names s with
 |none=>rw[hl]at h;cases h
 |some x=>
  rw[hl]at h
  rw[look_sorted hB.sorted]at hl
  obtain⟨h1,h2⟩:=lk_some hl
  obtain⟨i,hi⟩:=hB.loc x h1 (by simp only[emptyB_eq]at h;exact of_decide_eq_true h)
  exact⟨i,by rw[←h2];exact hi⟩
theorem plJ_lt {n:Nat} {H:Ho} (hB:HoB n H) {s:ByteArray} (h:(plR H s).2.2=0):plJ H s<H.all.length∧((plR H s).2.1<0→(plR H s).2.1= -1∧∃i,H.qI (plR H s).1=some i∧plJ H s=4+i)∧(¬(plR H s).2.1<0→plJ H s<4∧(plR H s).2.1=((plJ H s:Nat):Int)):=by
 rw[all_len hB.ways]
 unfold plJ
 unfold plR at h ⊢
 split
 ·rename_i h1;rw[if_pos h1]at h;exact absurd h h1
 ·rename_i h1
  rw[if_neg h1]at h
  have h10:(resN H.names (H.names.length+1) s).2.2=0:=by simpa using h1
  generalize hr:resN H.names (H.names.length+1) s=r at *
  obtain⟨t,k,e⟩:=r
  dsimp only at h h10 ⊢
  subst h10
  split
  ·rename_i h2
   rw[if_pos h2]at h
   split
   ·rename_i h3;rw[if_pos h3]at h;cases h
   ·rename_i h3
    obtain⟨i,hi⟩:=local_q hB (s:=t) (by simpa using h3)
    have :=(qI_lt hi).1
    dsimp only
    rw[if_pos (by decide)]
    refine⟨by rw[hi];simp;omega,fun _=>⟨rfl,i,hi,by rw[hi];rfl⟩,fun h=>absurd (by decide) h⟩
  ·rename_i h2
   dsimp only
   have h3:¬k<0:=fun h=>h2 (.inl h)
   rw[if_neg h3]
   rcases resN_house hr with h4|⟨x,hx,hk,h0⟩
   ·omega
   ·obtain⟨-,-,-,h5⟩:=right_word (hB.right x hx)
    exact⟨by omega,fun h=>absurd h h3,fun _=>⟨by omega,by omega⟩⟩
theorem look_nm {l:List Nm} {s:ByteArray} {x:Nm} (h:look l s=some x):x∈l∧x.name=s:=by
 unfold look at h
 split at h
 ·rename_i h3
  simp only[Option.some.injEq]at h
  subst h
  have :=hit_lt h3
  refine⟨?_,?_⟩
  ·unfold nmAt
   rw[List.getD_eq_getElem?_getD,List.getElem?_eq_getElem this]
   exact List.getElem_mem this
  ·unfold hitB at h3
   rw[Bool.and_eq_true]at h3
   exact cmpN_eq (by simpa using h3.2)
 ·cases h
theorem resN_word {l:List Nm} (hr:∀x∈l,rightNm x=true):∀{n:Nat} {s t:ByteArray} {k:Int},resN l n s=(t,k,0)→wordB t=true
 |0,s,t,k,h=>by simp[resN]at h
 |n+1,s,t,k,h=>by
  rw[resN]at h
  split at h
  ·simp at h
  ·rename_i x hx
   obtain⟨h1,h2⟩:=look_nm hx
   obtain⟨w1,w2,-,-⟩:=right_word (hr x h1)
   split at h
   ·simp at h;rw[←h.1,←h2];exact w1
   ·rename_i he
    split at h
    ·simp at h
     rw[←h.1]
     rcases w2 with w2|w2
     ·exact w2
     ·exact absurd (by rw[emptyB_eq,w2];rfl) he
    ·exact resN_word hr h
theorem plR_word {n:Nat} {H:Ho} (hB:HoB n H) {s:ByteArray} (h:(plR H s).2.2=0):wordB (plR H s).1=true:=by
 unfold plR at h ⊢
 split
 ·rename_i h1;rw[if_pos h1]at h;exact absurd h h1
 ·rename_i h1
  rw[if_neg h1]at h
  have h10:(resN H.names (H.names.length+1) s).2.2=0:=by simpa using h1
  generalize hr:resN H.names (H.names.length+1) s=r at *
  obtain⟨t,k,e⟩:=r
  dsimp only at h h10 ⊢
  subst h10
  have :=resN_word hB.right hr
  split
  ·rename_i h2
   rw[if_pos h2]at h
   split
   ·rename_i h3;rw[if_pos h3]at h;cases h
   ·exact this
  ·exact this
def putM (H:Ho) (s:ByteArray) (pri:Int) (body:ByteArray):Ms:=⟨H.next *4+H.id,pri,body,(plR H s).1,if(plR H s).2.1<0 then H.id else(plR H s).2.1⟩
def putE (H:Ho) (u:Int) (s:ByteArray) (pri:Int) (body:ByteArray):Int:=
 if u<0∨5≤u then 2 else if(pri<0∨9<pri)∨bodyB body=false then 1 else if(plR H s).2.2≠0 then(plR H s).2.2 else if H.down=true then 6
 else qputE (H.aAt (plJ H s)) (putM H s pri body)
def putU (H:Ho) (u:Nat) (x:Unt):Ho:={H with units:=H.units.set u x}
def putH (H:Ho) (u:Int) (s:ByteArray) (pri:Int) (body:ByteArray):Ho:=
 if putE H u s pri body=0 then
  putU {H.setA (plJ H s) (qput (H.aAt (plJ H s)) (putM H s pri body) u)with next:=H.next+1} u.toNat ⟨(H.uAt u.toNat).puts++[(putM H s pri body,(plR H s).2.1)],(H.uAt u.toNat).gets⟩
 else H
def putI (H:Ho) (u:Int) (s:ByteArray) (pri:Int) (body:ByteArray):Int:=if putE H u s pri body=0 then(putM H s pri body).id else 0
def getE (H:Ho) (u:Int) (s:ByteArray):Int:=
 if u<0∨5≤u then 2 else match H.qI s with
 |none=>7
 |some i=>if s≠deadS∧localB H.names s=false then 7 else if H.down=true then 6 else qgetE (H.qAt i)
def getM (H:Ho) (u:Int) (s:ByteArray):Ms:=if getE H u s=0 then qgetM (H.qAt ((H.qI s).getD 0))else zeroMs
def getH (H:Ho) (u:Int) (s:ByteArray):Ho:=
 if getE H u s=0 then putU (H.setQ ((H.qI s).getD 0) (qget (H.qAt ((H.qI s).getD 0)) u)) u.toNat ⟨(H.uAt u.toNat).puts,(H.uAt u.toNat).gets++[((qgetM (H.qAt ((H.qI s).getD 0))).id,s)]⟩else H
theorem HoB.putU {n:Nat} {H:Ho} (h:HoB n H) (u:Nat) (x:Unt):HoB n (putU H u x):=⟨h.id,h.used,h.next,h.sorted,h.nlen,h.qlen,h.qs,h.nodup,h.ways,by simp[WB.putU,h.units],h.batch,h.sent,h.arrived,h.right,h.loc,h.ext⟩
theorem HoB.put {n:Nat} {H:Ho} (h:HoB n H) (u:Int) (s:ByteArray) (pri:Int) (body:ByteArray):HoB (n+1) (putH H u s pri body):=by
 unfold putH
 split
 ·rename_i h0
  unfold putE at h0
  split at h0
  ·cases h0
  ·split at h0
   ·cases h0
   ·split at h0
    ·exact absurd h0 Y63
    ·rename_i h1
     split at h0
     ·cases h0
     ·have hj:=(plJ_lt h (s:=s) Y53).1
      have hn:H.next+1≤274877906945:=by
       unfold qputE at h0
       cases hr:msRight (putM H s pri body)with
       |false=>rw[if_pos hr]at h0;cases h0
       |true=>
        have h2:=(msRight_parts hr).2.1
        have :=h.id
        unfold putM at h2;dsimp only at h2;omega
      have hx:=h.next
      exact HoB.putU (((h.le (Nat.le_succ n)).setA ((h.a hj).put _ u) _).nxt ⟨by omega,hn⟩) _ _
 ·exact h.le (Nat.le_succ n)
theorem HoB.get {n:Nat} {H:Ho} (h:HoB n H) (u:Int) (s:ByteArray):HoB n (getH H u s):=by
 unfold getH
 split
 ·rename_i h0
  unfold getE at h0
  split at h0
  ·cases h0
  ·cases hq:H.qI s with
   |none=>rw[hq]at h0;cases h0
   |some i=>exact HoB.putU (h.setQ ((h.qa (qI_lt hq).1).get u) _) _ _
 ·exact h
end WB
