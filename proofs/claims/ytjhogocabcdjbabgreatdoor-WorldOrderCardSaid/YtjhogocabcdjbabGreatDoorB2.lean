import Derived.Lib.SliceRun
import Derived.Lib.CutLaws
import Derived.Lib.Strings
import Derived.Maps.RangeRun
import Derived.Test.YtjhogocabcdjbabGreatDoorB1
set_option linter.unusedSimpArgs false
set_option linter.unusedVariables false
set_option maxRecDepth 100000
set_option maxHeartbeats 8000000
namespace WB
open Go Go.RowKit
theorem KO.ab3{P:Program}{ops:Array Oper}{d:Bool}{Q:Exit->Act->World->Prop}{n:Nat}{D:List Deferred}{w0:World}{G:Env}{L:List HP}{l:List (Kd×Oper)}{k:Kd}{t:Nat}{ty T T' E:TypeId}{pos:String}{af:Array Edge}{x:Operand}{a:Option Addr}{len cap:Nat}(hx:ev G x=some (.slice a len cap))(hT:P.underlying T=some (.slice E))(ht:Nat.blt t n=true)(h:KO P ops d Q n D w0 ((t,.bool a.isNone)::G) L l):
  KO P ops d Q n D w0 G L ((k,⟨some t,.binOp .eql T x (.const (.slice none 0 0)) T',ty,pos,af,none⟩)::l):=
 KO.val (fun a' w ha=>by
  simp only[execOp,ha.eval hx,show a'.eval (.const (.slice none 0 0))=.slice none 0 0 from rfl]
  simp[go_sem,Lib.run_eql_slice_nil w T E a len cap 0 0 hT]) ht h
open Go
theorem List.ig{α:Type}{l:List α}{i:Nat}{x:α}(h:l[i]? =some x):l.set i x=l:=by
 obtain⟨hi,rfl⟩:=au.1 h
 exact List.set_getElem_self hi
def r6 (l:List Nm) (s:ak):Int:=if fy l s (bR l s)=true then 0 else 7
def j_ (l:List Nm) (s:ak):List Nm:=if fy l s (bR l s)=true then l.eraseIdx (bR l s)else l
theorem Je(l:List Nm)(s:ak):(j_ l s).length<=l.length:=by
 unfold j_
 split
 ·rw[List.length_eraseIdx];split<;>omega
 ·exact aD _
def aje (l:List Nm) (s:ak):Nm:=(lk l s).getD ⟨⟨#[]⟩,⟨#[]⟩,0⟩
def Iy (l:List Nm) (x:Nm):Int:=if cy x=false then 1 else if lk l x.name=none/\20<=l.length then 12 else 0
def ac9 (l:List Nm) (s:ak):Bool:=match lk l s with|some x=>decide (x.kr=⟨#[]⟩)|none=>false
def Wl (l:List Nm) (s:ak):Option Nat:=l.findIdx? fun x=>decide (x.name=s)
def ac_ (l:List Nm) (s:ak):Int:=match Wl l s with|some _=>0|none=>7
def wA (l:List Nm) (s:ak):List Nm:=match Wl l s with|some k=>l.eraseIdx k|none=>l
def UT (l:List Nm) (x:Nm):List Nm:=if Iy l x=0 then wA l x.name++[x]else l
theorem wY(s:ak):jb s=decide (s=⟨#[]⟩):=by
 unfold jb
 rw[Bool.eq_iff_iff,decide_eq_true_eq,List.isEmpty_iff,ByteArray.toList_eq]
 constructor
 ·intro h
  apply ByteArray.ext;apply Array.ext';simpa using h
 ·rintro rfl;rfl
theorem Wj{l:List Nm}{s:ak}{k:Nat}{y:Nm}(hy:l[k]? =some y)(h:y.name=s)(fw:∀(j:Nat) z,j<k->l[j]? =some z->z.name≠s):Wl l s=some k:=by
 unfold Wl
 obtain⟨hk,rfl⟩:=au.1 hy
 rw[List.findIdx?_eq_some_iff_getElem]
 refine⟨hk,by simpa using h,fun j hj=>?_⟩
 have :=fw j l[j] hj (ao _)
 simp[this]
instance adK (s:ak) (l:List ak):Decidable (s∈l):=decidable_of_iff ((l.any fun u=>decide (u=s))=true) aj
def aes (l:List Nm):Nat->List ak->ak->ak×Int×Int
 |0,_,_=>(⟨#[]⟩,0,11)
 |n+1,seen,s=>if s∈seen then(⟨#[]⟩,0,11)else match lk l s with
  |none=>(⟨#[]⟩,0,7)
  |some x=>if x.kr=⟨#[]⟩then(s,-1,0)else if 0<=x.cq then(x.kr,x.cq,0)else aes l n (s::seen) x.kr
structure qJ (l rl:List Nm):Prop where
 sorted:en l
 perm:rl.Perm l
theorem Aw{l:List Nm}(h:(l.map Nm.name).Nodup){x:Nm}(hx:x∈l):lk l x.name=some x:=by
 induction l with
 |nil=>cases hx
 |cons a l ih=>
  rw[aL,bI]at h
  rw[fb]
  rcases aF.1 hx with rfl|hx
  ·rw[if_pos rfl]
  ·rw[if_neg (fun e:a.name=x.name=>h.1 (e▸List.mem_map_of_mem (f:=Nm.name) hx))]
   exact ih h.2 hx
theorem SC{l m:List Nm}(hp:m.Perm l)(hn:(l.map Nm.name).Nodup)(s:ak):lk m s=lk l s:=by
 have Cw:(m.map Nm.name).Nodup:=(hp.map Nm.name).nodup_iff.2 hn
 cases h:lk l s with
 |some x=>
  obtain⟨h1,rfl⟩:=rU h
  exact Aw Cw (hp.mem_iff.2 h1)
 |none=>
  cases h2:lk m s with
  |none=>rfl
  |some x=>
   obtain⟨h1,rfl⟩:=rU h2
   rw[Aw hn (hp.mem_iff.1 h1)]at h;cases h
theorem qJ.nodup{l rl:List Nm}(h:qJ l rl):(l.map Nm.name).Nodup:=pE h.sorted
theorem qJ.NS{l rl:List Nm}(h:qJ l rl):(rl.map Nm.name).Nodup:=(h.perm.map Nm.name).nodup_iff.2 h.nodup
theorem qJ.lk{l rl:List Nm}(h:qJ l rl)(s:ak):lk rl s=look l s:=by rw[SC h.perm h.nodup,nY h.sorted]
theorem qJ.len{l rl:List Nm}(h:qJ l rl):rl.length=l.length:=h.perm.length_eq
theorem zW(l:List Nm)(s:ak):look l s=none↔fy l s (bR l s)=false:=by
 unfold look
 cases fy l s (bR l s)<;>simp
theorem qJ.may{l rl:List Nm}(h:qJ l rl)(x:Nm):Iy rl x=cT l x:=by
 unfold Iy cT
 rw[h.lk,h.len]
 cases h1:cy x with
 |false=>simp
 |true=>
  simp only[Bool.true_eq_false,if_false]
  cases h2:fy l x.name (bR l x.name)with
  |false=>simp[(zW l x.name).2 h2]
  |true=>rw[if_neg (fun e=>by rw[(zW l x.name).1 e.1]at h2;cases h2)];simp
theorem ot{l:List Nm}(hn:(l.map Nm.name).Nodup)(s:ak):wA l s=l.filter fun x=> !decide (x.name=s):=by
 induction l with
 |nil=>rfl
 |cons a l ih=>
  rw[aL,bI]at hn
  unfold wA Wl
  rw[List.findIdx?_cons]
  by_cases e:a.name=s
  ·subst e
   simp only[decide_true,if_true,List.eraseIdx_cons_zero,bE,Bool.not_true,Bool.false_eq_true,if_false]
   symm
   rw[aT]
   intro x hx
   have :x.name≠a.name:=fun e=>hn.1 (e▸List.mem_map_of_mem (f:=Nm.name) hx)
   simp[this]
  ·have :=ih hn.2
   unfold wA Wl at this
   simp only[e,decide_false,Bool.false_eq_true,if_false,bE,Bool.not_false,if_true]
   rw[<-this]
   cases h:List.findIdx? (fun x:Nm=>decide (x.name=s)) l<;>simp
theorem Bx{l:List Nm}(h:en l)(s:ak):j_ l s=l.filter fun x=> !decide (x.name=s):=by
 unfold j_
 cases hh:fy l s (bR l s)with
 |false=>
  simp only[Bool.false_eq_true,if_false]
  symm
  rw[aT]
  intro x hx
  have h1:=(zW l s).2 hh
  rw[nY h]at h1
  unfold WB.lk at h1
  have :=List.find?_eq_none.1 h1 x hx
  simpa using this
 |true=>
  simp only[if_true]
  have dS:=wL hh
  have he:jc (eB l (bR l s)).name s=0:=by unfold fy at hh;rw[bn]at hh;simpa using hh.2
  have hn:=vg he
  rw[<-ot (pE h) s]
  unfold wA
  have hi:Wl l s=some (bR l s):=by
   refine Wj (y:=eB l (bR l s)) (by simp[eB,aq,dS]) hn fun j z hj hz hzn=>?_
   obtain⟨U6,rfl⟩:=au.1 hz
   have :=List.pairwise_iff_getElem.1 h j (bR l s) U6 dS hj
   rw[hzn]at this
   have e2:l[bR l s]=eB l (bR l s):=by simp[eB,aq,dS]
   rw[e2,hn,mQ]at this
   omega
  rw[hi]
theorem qJ.drop{l rl:List Nm}(h:qJ l rl)(s:ak):qJ (j_ l s) (wA rl s):=by
 rw[Bx h.sorted,ot h.NS]
 exact⟨List.Pairwise.sublist List.filter_sublist h.sorted,h.perm.filter _⟩
theorem Mc(x:Nm):∀{l:List Nm},en l->(l.filter (fun y=> !decide (y.name=x.name))++[x]).Perm (qz x l):=by
 intro l h
 have h1:(qz x l).filter (fun y=> !decide (y.name=x.name))=l.filter (fun y=> !decide (y.name=x.name)):=by
  refine zw (List.Pairwise.sublist List.filter_sublist (nZ h)) (List.Pairwise.sublist List.filter_sublist h) fun s=>?_
  have key:∀m:List Nm,WB.lk (m.filter fun y=> !decide (y.name=x.name)) s=if s=x.name then none else WB.lk m s:=fun m=>by
   induction m with
   |nil=>by_cases e:s=x.name<;>simp[WB.lk]
   |cons a m ih=>
    rw[bE]
    by_cases e:a.name=x.name
    ·simp only[e,decide_true,Bool.not_true,Bool.false_eq_true,if_false]
     rw[ih,fb]
     by_cases e2:s=x.name
     ·simp[e2]
     ·rw[if_neg e2,if_neg e2,if_neg (fun e3=>e2 (e3.symm.trans e))]
    ·simp only[e,decide_false,Bool.not_false,if_true]
     rw[fb,fb,ih]
     by_cases e2:s=x.name
     ·subst e2;simp[e]
     ·simp[e2]
  rw[key,key,Dz]
  by_cases e:s=x.name
  ·simp[e]
  ·rw[if_neg e,if_neg e,if_neg (fun e2=>e e2.symm)]
 have hx:x∈qz x l:=(rU (show WB.lk (qz x l) x.name=some x by rw[Dz,if_pos rfl])).1
 have nM:=pE (nZ (x:=x) h)
 rw[<-h1]
 generalize qz x l=m at *
 clear h1
 induction m with
 |nil=>cases hx
 |cons a m ih=>
  rw[aL,bI]at nM
  rw[bE]
  by_cases e:a.name=x.name
  ·have hax:a=x:=by
    rcases aF.1 hx with rfl|hx
    ·rfl
    ·exact absurd (e▸List.mem_map_of_mem (f:=Nm.name) hx) nM.1
   subst hax
   simp only[decide_true,Bool.not_true,Bool.false_eq_true,if_false]
   rw[aT.2]
   ·exact List.perm_append_comm
   ·intro y hy
    have :y.name≠a.name:=fun e=>nM.1 (e▸List.mem_map_of_mem (f:=Nm.name) hy)
    simp[this]
  ·simp only[e,decide_false,Bool.not_false,if_true,bF]
   rcases aF.1 hx with rfl|hx
   ·exact absurd rfl e
   ·exact(ih hx nM.2).cons a
theorem qJ.set{l rl:List Nm}(h:qJ l rl)(x:Nm):qJ (ff l x) (UT rl x):=by
 unfold UT
 rw[h.may]
 by_cases h0:cT l x=0
 ·rw[if_pos h0]
  have hr:cy x=true:=by
   cases hr:cy x with
   |true=>rfl
   |false=>unfold cT at h0;rw[if_pos hr]at h0;cases h0
  have e1:ff l x=qz x l:=by
   rw[<-Fi]
   unfold cT at h0
   unfold ff
   rw[if_neg (by simp[hr])]at h0 ⊢
   by_cases h2:fy l x.name (bR l x.name)=true
   ·rw[if_pos h2,if_pos h2]
   ·rw[if_neg h2]at h0 ⊢
    rw[if_neg h2]
    by_cases h3:20<=l.length
    ·rw[if_pos h3]at h0;cases h0
    ·rw[if_neg h3]
  rw[e1]
  refine⟨nZ h.sorted,?_⟩
  rw[ot h.NS]
  exact((h.perm.filter _).append_right _).trans (Mc x h.sorted)
 ·rw[if_neg h0]
  have e1:ff l x=l:=by
   unfold cT at h0
   unfold ff
   by_cases hr:cy x=false
   ·rw[if_pos hr]
   ·rw[if_neg hr]at h0 ⊢
    by_cases h2:fy l x.name (bR l x.name)=true
    ·rw[if_pos h2]at h0;exact absurd rfl h0
    ·rw[if_neg h2]at h0 ⊢
     by_cases h3:20<=l.length
     ·rw[if_pos h3]
     ·rw[if_neg h3]at h0;exact absurd rfl h0
  rw[e1];exact h
deriving instance DecidableEq for Nm
structure QB (n:Nat) (q:Qu):Prop where
 ord:q.l.Pairwise QM
 lines:∀e∈q.l,0<=e.line/\e.line<q.next
 Io:∀e∈q.l,0<=e.m.pri/\e.m.pri<=9
 len:q.l.length<=n
 next:0<=q.next/\q.next<=n
 ids:∀e∈q.l,0<=e.m.id/\e.m.id<=1099511627776
section
variable {n:Nat} {q:Qu} {m:Ms} {u:Int}
theorem QB.nil:QB n ⟨[],0⟩:=⟨.nil,(fun _ h=>by cases h),(fun _ h=>by cases h),by simp,iK,(fun _ h=>by cases h)⟩
theorem QB.le(h:QB n q){k:Nat}(hk:n<=k):QB k q:=⟨h.ord,h.lines,h.Io,Nat.le_trans h.len hk,(by have :=h.next;omega),h.ids⟩
theorem QB.cmp(h:QB n q)(m:Ms)(u:Int){e:It}(he:e∈q.l):iY e (er q m u)<0↔m.pri<=e.m.pri:=by
 have :=h.lines e he
 unfold iY vf er
 dsimp only
 split<;>omega
theorem QB.ok(h:QB n q)(hn:n<100000):YO q:=by
 have EC:=h.len
 refine⟨by omega,fun e he=>?_,⟨h.next.1,by have :=h.next;omega⟩,fun m u i j a b hij ha hb dS=>?_⟩
 ·have h1:=h.Io e he;have h2:=h.lines e he;have h3:=h.next
  unfold pF small;omega
 ·have ma:=ax ha
  have mb:=ax hb
  rw[h.cmp m u ma]
  rw[h.cmp m u mb]at dS
  rcases Nat.lt_or_ge i j with Bu|Hz
  ·obtain⟨hi,rfl⟩:=au.1 ha
   obtain⟨hj,rfl⟩:=au.1 hb
   have :=List.pairwise_iff_getElem.1 h.ord i j hi hj Bu
   unfold QM at this
   omega
  ·obtain rfl:i=j:=by omega
   rw[ha]at hb;cases hb;exact dS
theorem QB.push(h:QB n q)(m:Ms)(u:Int):(db q m u).l=q.l.filter (fun e=>decide (m.pri<=e.m.pri))++er q m u::q.l.filter (fun e=> !decide (m.pri<=e.m.pri)):=by
 have hc:(q.l.takeWhile fun e=>decide (iY e (er q m u)<0))=q.l.takeWhile fun e=>decide (m.pri<=e.m.pri):=by
  have :∀l:List It,(∀e∈l,e∈q.l)->(l.takeWhile fun e=>decide (iY e (er q m u)<0))=l.takeWhile fun e=>decide (m.pri<=e.m.pri):=by
   intro l
   induction l with
   |nil=>intro _;rfl
   |cons a l ih=>
    intro hl
    have e1:decide (iY a (er q m u)<0)=decide (m.pri<=a.m.pri):=decide_eq_decide.2 (h.cmp m u (hl a aj))
    simp only[List.takeWhile_cons,e1,ih fun e he=>hl e (by simp[he])]
  exact this q.l fun _ h=>h
 obtain⟨t1,t2⟩:=qU (fun e:It=>decide (m.pri<=e.m.pri)) q.l
 obtain⟨f1,f2⟩:=uk (p:=fun e:It=>decide (m.pri<=e.m.pri)) (l:=q.l) (h.ord.imp fun {x y} hxy hy=>by
  unfold QM at hxy;simp at hy ⊢;omega)
 unfold db kD
 dsimp only
 rw[hc,t1,t2,f1,f2]
theorem QB.sY(h:QB n q)(hp:0<=m.pri/\m.pri<=9)(hi:0<=m.id/\m.id<=1099511627776)(u:Int):QB (n+1) (db q m u):=by
 have EC:∀e∈(db q m u).l,e=er q m u\/e∈q.l:=fun e he=>by
  rw[h.push]at he
  simp only[aN,aF,aC]at he
  rcases he with⟨a,_⟩|a|⟨a,_⟩
  ·exact .inr a
  ·exact .inl a
  ·exact .inr a
 have tT:(db q m u).next=q.next+1:=rfl
 refine⟨?_,fun e he=>?_,fun e he=>?_,?_,(by have :=h.next;rw[tT];omega),fun e he=>?_⟩
 ·rw[h.push,List.pairwise_append,List.pairwise_cons]
  refine⟨h.ord.sublist List.filter_sublist,⟨fun e he=>?_,h.ord.sublist List.filter_sublist⟩,fun a ha b hb=>?_⟩
  ·obtain⟨h1,h2⟩:=aC.1 he
   simp at h2
   left;unfold er;dsimp only;omega
  ·obtain⟨h1,h2⟩:=aC.1 ha
   have i1:=h.lines a h1
   simp at h2
   rcases aF.1 hb with rfl|hb
   ·unfold QM er;dsimp only;omega
   ·obtain⟨h3,h4⟩:=aC.1 hb
    simp at h4
    left;omega
 ·rw[tT]
  rcases EC e he with rfl|h1
  ·have :=h.next;unfold er;dsimp only;omega
  ·have :=h.lines e h1;omega
 ·rcases EC e he with rfl|h1
  ·exact hp
  ·exact h.Io e h1
 ·have :=h.len
  unfold db
  dsimp only
  have h2:=BX q.l (er q m u)
  simp;omega
 ·rcases EC e he with rfl|h1
  ·exact hi
  ·exact h.ids e h1
theorem QB.part(h:QB n q){ql:List It}(hs:(ql.map ml).Sublist (q.l.map ml)):QB n ⟨ql,q.next⟩:=by
 have hm:∀e∈ql,∃e'∈q.l,e'.m=e.m/\e'.line=e.line:=fun e he=>by
  obtain⟨e',h1,h2⟩:=ay.1 (hs.subset (List.mem_map_of_mem (f:=ml) he))
  exact⟨e',h1,by simpa[ml]using h2⟩
 refine⟨?_,fun e he=>?_,fun e he=>?_,?_,h.next,fun e he=>?_⟩
 ·have h1:(q.l.map ml).Pairwise fun x y=>y.1.pri<x.1.pri\/(x.1.pri=y.1.pri/\x.2<y.2):=List.pairwise_map.2 h.ord
  have h2:=h1.sublist hs
  rw[List.pairwise_map]at h2
  exact h2
 ·obtain⟨e',h1,_,h2⟩:=hm e he;rw[<-h2];exact h.lines e' h1
 ·obtain⟨e',h1,h2,_⟩:=hm e he;rw[<-h2];exact h.Io e' h1
 ·have :=hs.length_le;have :=h.len;simp at *;omega
 ·obtain⟨e',h1,h2,_⟩:=hm e he;rw[<-h2];exact h.ids e' h1
theorem QB.take(h:QB n q)(id:Int):QB n (eA q id):=by
 unfold eA
 split
 ·exact h
 ·exact h.part ((List.eraseIdx_sublist _ _).map _)
theorem VR{l:List It}{k:Nat}{x:It}(h:∀e,l[k]? =some e->ml x=ml e):(l.set k x).map ml=l.map ml:=by
 apply List.ext_getElem?
 intro j
 rw[aG,aG,List.getElem?_set]
 by_cases e:k=j
 ·subst e
  rw[if_pos rfl]
  by_cases hk:k<l.length
  ·rw[if_pos hk,Option.map_some,ao hk,Option.map_some,h _ (ao hk)]
  ·rw[if_neg hk,br ae]
 ·rw[if_neg e]
theorem QB.get(h:QB n q)(u:Int):QB n (oM q u):=by
 unfold oM
 split
 ·exact h
 ·split
  ·exact h.part ((List.eraseIdx_sublist _ _).map _)
  ·refine h.part ?_
   rw[VR fun e he=>by rw[pW he];rfl]
   exact .refl _
theorem QB.ends(h:QB n q)(u:Int)(b:Bool):QB n (eK q u b):=by
 unfold eK
 split
 ·exact h
 ·refine h.part ?_
  rw[List.map_map,show ml∘nt u=ml from rfl]
  exact List.filter_sublist.map _
theorem QB.put(h:QB n q)(m:Ms)(u:Int):QB (n+1) (pM q m u):=by
 unfold pM
 split
 ·rename_i h0
  unfold kz at h0
  cases hr:bT m with
  |false=>rw[if_pos hr]at h0;cases h0
  |true=>
   have h1:=bV hr
   exact h.sY ⟨h1.2.2.1,h1.2.2.2.1⟩ ⟨h1.1,h1.2.1⟩ u
 ·exact h.le (Nat.le_succ n)
end
def VE (a c:Int):Int:=IntKind.u64.wrap ((BitVec.ofInt 64 a^^^BitVec.ofInt 64 c).toNat:Nat)
def Wb (a c:Int):Int:=IntKind.u64.wrap (a *c)
theorem wrap_u64(n:Int):0<=IntKind.u64.wrap n/\IntKind.u64.wrap n<=18446744073709551615:=by
 have e:IntKind.u64.wrap n=n%18446744073709551616:=by simp[IntKind.wrap,IntKind.bits,IntKind.signed]
 rw[e];omega
section
variable {P:Program} {ops:Array Oper} {d:Bool} {Q:Exit->Act->World->Prop} {n:Nat} {D:List Deferred} {w0:World} {G:Env} {L R:List HP} {l:List (Kd×Oper)} {k:Kd}
 {t:Nat} {op:Op} {ty T T' E:TypeId} {pos:String} {af:Array Edge} {x y z:Operand} {a c r:Int} {kk yk:IntKind}
theorem KO.ad_(hx:ev G x=some (.int .u64 a))(hy:ev G y=some (.int .u64 c))(ht:Nat.blt t n=true)(h:KO P ops d Q n D w0 ((t,.int .u64 (VE a c))::G) L l):
 KO P ops d Q n D w0 G L ((k,⟨some t,.binOp .xor T x y T',ty,pos,af,none⟩)::l):=
 KO.val (fun a' w ha=>by simp[execOp,ha.eval hx,ha.eval hy,eqGuard_at_int,binOp_xor,Op.intBits,VE];rfl) ht h
theorem KO.aeD(hx:ev G x=some (.int .u64 a))(hy:ev G y=some (.int .u64 c))(ht:Nat.blt t n=true)(h:KO P ops d Q n D w0 ((t,.int .u64 (Wb a c))::G) L l):
 KO P ops d Q n D w0 G L ((k,⟨some t,.binOp .mul T x y T',ty,pos,af,none⟩)::l):=
 KO.val (fun a' w ha=>by simp[execOp,ha.eval hx,ha.eval hy,eqGuard_at_int,binOp_mul,Op.intArith,Wb]) ht h
theorem KO.AF{ad:Addr}(hx:ev G x=some (.pointer (some ad)))(hT:P.underlying T=some (.pointer E))(ht:Nat.blt t n=true)(h:KO P ops d Q n D w0 ((t,.bool false)::G) L l):
 KO P ops d Q n D w0 G L ((k,⟨some t,.binOp .eql T x (.const (.pointer none)) T',ty,pos,af,none⟩)::l):=
 KO.val (fun a w ha=>by
  simp only[execOp,ha.eval hx,show a.eval (.const (.pointer none))=.pointer none from rfl]
  simp[go_sem,hT]) ht h
theorem KO.TI(hx:ev G x=some (.pointer none))(hT:P.underlying T=some (.pointer E))(ht:Nat.blt t n=true)(h:KO P ops d Q n D w0 ((t,.bool true)::G) L l):
 KO P ops d Q n D w0 G L ((k,⟨some t,.binOp .eql T x (.const (.pointer none)) T',ty,pos,af,none⟩)::l):=
 KO.val (fun a w ha=>by
  simp only[execOp,ha.eval hx,show a.eval (.const (.pointer none))=.pointer none from rfl]
  simp[go_sem,hT]) ht h
theorem KO.aej(hx:ev G x=some (.int .u64 a))(hy:ev G y=some (.int yk 3))(ht:Nat.blt t n=true)(h:KO P ops d Q n D w0 ((t,.int .u64 (a/8))::G) L l):
 KO P ops d Q n D w0 G L ((k,⟨some t,.binOp .shr T x y T',ty,pos,af,none⟩)::l):=
 KO.val (fun a' w ha=>by simp[execOp,ha.eval hx,ha.eval hy,eqGuard_at_int,binOp_shr,shift_shr_u64]) ht h
theorem KO.b2u(hx:ev G x=some (.int .u8 a))(hs:(P.underlying T).isSome=true)(hd:P.underlying T'=some (.int .u64))(h0:0<=a/\a<=18446744073709551615)(ht:Nat.blt t n=true)(h:KO P ops d Q n D w0 ((t,.int .u64 a)::G) L l):
 KO P ops d Q n D w0 G L ((k,⟨some t,.convert T T' x,ty,pos,af,none⟩)::l):=
 KO.val (fun a' w ha=>by
  have :=run_convert_int (P:=P) w T T' .u8 a hs Y30
  simp[Program.intKind,hd,UE h0.1 h0.2]at this
  simp[execOp,ha.eval hx,this]) ht h
theorem KO.min2{ts:Array TypeId}(hx:ev G x=some (.int .i64 a))(hy:ev G y=some (.int .i64 c))(hr:min a c=r)(ht:Nat.blt t n=true)(h:KO P ops d Q n D w0 ((t,.int .i64 r)::G) L l):
 KO P ops d Q n D w0 G L ((k,⟨some t,.call ⟨.builtin .min,#[x,y],ts⟩,ty,pos,af,none⟩)::l):=
 KO.val (fun a' w ha=>by
  subst hr
  simp[execOp,resolve,invoke,builtin,ha.eval hx,ha.eval hy,Builtin.min_,Builtin.min2]
  rw[Int.min_def];split<;>split<;>first|rfl|omega) ht h
theorem KO.div(hx:ev G x=some (.int .i64 a))(hy:ev G y=some (.int .i64 c))(hc:0<c)(Xo:0<=a)(Xn:a<=9223372036854775807)(ht:Nat.blt t n=true)(h:KO P ops d Q n D w0 ((t,.int .i64 (a/c))::G) L l):
 KO P ops d Q n D w0 G L ((k,⟨some t,.binOp .quo T x y T',ty,pos,af,none⟩)::l):=
 KO.val (fun a' w ha=>by
  have e:a.tdiv c=a/c:=Int.tdiv_eq_ediv_of_nonneg Xo
  have h1:0<=a/c:=Int.ediv_nonneg Xo ae
  have h2:a/c<=a:=Int.ediv_le_self _ Xo
  have h3:c≠0:=by omega
  simp[execOp,ha.eval hx,ha.eval hy,eqGuard_at_int,binOp_quo,Op.intDiv,h3,e,EO (by omega : -9223372036854775808<=a/c) ae]) ht h
theorem KO.rem(hx:ev G x=some (.int .i64 a))(hy:ev G y=some (.int .i64 c))(hc:0<c)(Xo:0<=a)(ht:Nat.blt t n=true)(h:KO P ops d Q n D w0 ((t,.int .i64 (a%c))::G) L l):
 KO P ops d Q n D w0 G L ((k,⟨some t,.binOp .rem T x y T',ty,pos,af,none⟩)::l):=
 KO.val (fun a' w ha=>by
  have e:a.tmod c=a%c:=Int.tmod_eq_emod_of_nonneg Xo
  have h3:c≠0:=by omega
  simp[execOp,ha.eval hx,ha.eval hy,eqGuard_at_int,binOp_rem,Op.intDiv,h3,e]) ht h
end
def qx (c:UInt8) (s:ak):Prop:= ∀b∈s.data.toList,b≠c
theorem d_{c:UInt8}{a b:ak}(ha:qx c a)(hb:qx c b):qx c (a++b):=fun x hx=>by
 rw[show(a++b).data.toList=a.data.toList++b.data.toList by simp]at hx
 rcases aN.1 hx with h|h
 ·exact ha x h
 ·exact hb x h
def di (c:UInt8) (s:ak):ak×ak×Bool:=(toB (Lib.cut s.data.toList [c]).1,toB (Lib.cut s.data.toList [c]).2.1,(Lib.cut s.data.toList [c]).2.2)
def cv (c:UInt8):ak:=⟨#[c]⟩
def aeh (n:Int) (b:UInt8):Int:=Wb (VE n (b.toNat:Nat)) 1099511628211
def Lp (l:List UInt8):Int:=l.foldl aeh 14695981039346656037
def yd (s:ak):Int:=Lp s.data.toList/8
theorem zu(l:List UInt8):0<=Lp l/\Lp l<=18446744073709551615:=by
 unfold Lp
 rcases List.eq_nil_or_concat l with rfl|⟨r,b,rfl⟩
 ·decide
 ·rw[List.concat_eq_append,List.foldl_append];exact wrap_u64 _
theorem zt(s:ak):0<=yd s/\yd s<=2305843009213693951:=by
 have :=zu s.data.toList
 unfold yd;omega
def jP (k:Int) (s:ak):ak:=b_ k++cv 124++s
def eb (k:Int) (s:ak):ak:=jP k s++cv 124++b_ (yd (jP k s))
def gX (k:Int) (t:ak):Option ak:=match dE 124 t with
 |[_,w,_]=>if eb k w=t then some w else none
 |_=>none
structure Dk where
 places:List ak
 cut:Bool
 left:Int
def bN:Dk:=⟨List.replicate 300 ⟨#[]⟩,false,0⟩
def cu (D:Dk) (n:Int):Dk:={D with cut:=decide (0<=n),left:=max n 0}
def AI (s:ak) (dz:Int):ak:=s.extract 0 (min dz ((s.size:Int)-1)).toNat
def lE (D:Dk):Bool:=D.cut&&decide (D.left=0)
def ew (D:Dk) (k:Nat) (s:ak) (dz:Int):Dk:=
 if lE D=true then(if 0<=dz then {D with places:=D.places.set k (AI s dz)}else D)else {D with left:=D.left-1,places:=D.places.set k s}
def lX (D:Dk):Int:=if lE D=true then 14 else 0
end WB
namespace Go.Proofs.YtjhogocabcdjbabGreatDoor
open Tryz
open Go Go.RowKit WB
theorem ZV(w0:World)(L:List HP)(s:ak)(hs:s.size<=1000000):KE prog 232 #[.string s] w0 L (fun u M=>u=.int .i64 (yd s)/\M=L):=by
 refine KE.mk (n:=21) func232 rfl ntmps232 aj ?_
 intro w hw
 refine Z3 ?_
 refine mB ?_
 refine mS ?_
 refine KO.SD rfl underlying9 rfl ?_
 refine ox ?_
 refine K.loop (fun k:Nat=>[(0,.string s),(3,.int .u64 (Lp (s.data.toList.take k))),(6,.int .i64 (s.size:Nat)),(7,.int .i64 (k:Nat))]) (fun _=>[]) (fun k=>k<=s.size) (fun k=>s.size-k) 0
  (aV _) ⟨rfl,rfl,rfl,rfl,trivial⟩ (fun _ h=>h) ?_
 rintro k hk
 refine iJ ?_
 refine K.bz rfl (fun h=>?_) (fun h=>?_)
 ·obtain⟨b,hb,jF⟩:∃e,s[k]? =some e/\s.data.toList[k]? =some e:=⟨s[k]' ae,by simp,by simp[ByteArray.getElem_eq_getElem_data]⟩
  refine xy ?_
  refine sx ?_
  refine Z8 ?_
  refine nB ?_
  refine KO.Wu rfl rfl underlying9 aQ xG rfl ?_
  refine KO.b2u rfl (by rw[underlying5];rfl) underlying224 (by have :=b.toNat_lt;omega) rfl ?_
  refine KO.ad_ rfl rfl rfl ?_
  refine KO.aeD rfl rfl rfl ?_
  refine vz ?_
  refine KQ.round (k+1) ae ae ⟨rfl,?_,rfl,rfl,trivial⟩ (fun _ h=>h)
  simp only[c_]
  rw[bJ jF]
  unfold Lp
  rw[List.foldl_append];rfl
 ·refine Z9 ?_
  have Kl:k=s.size:=by omega
  subst Kl
  have hb:=zu s.data.toList
  have e1:s.data.toList.take s.size=s.data.toList:=List.take_of_length_le aj
  rw[e1]
  refine Z8 ?_
  refine KO.aej rfl rfl rfl ?_
  refine KO.u2i rfl (by rw[underlying224];rfl) underlying3 ae rfl ?_
  refine jH ?_
  refine KQ.bG rfl rfl (fun w' hs=>⟨_,_,rfl,⟨rfl,rfl⟩,hw.aE hs.below,hs.below⟩)
theorem zA(w0:World)(L:List HP)(k:Int)(s:ak)(hk:oR k)(hs:s.size<=900000)(hT:qH w0):KE prog 134 #[.int .i64 k,.string s] w0 L (fun u M=>u=.string (eb k s)/\M=L):=by
 refine KE.mk (n:=17) func134 rfl ntmps134 aj ?_
 intro w hw
 have hT:=hT.ext (Ext.ct hw.below)
 have h1:=cH hk
 have h2:=zt (jP k s)
 have h3:=cH (n:=yd (jP k s)) ⟨by omega,by omega⟩
 have jG:(⟨#[124]⟩:ak).size=1:=rfl
 have jF:(cv 124).size=1:=rfl
 have wP:(b_ k++⟨#[124]⟩:ak).size=(b_ k).size+1:=by rw[aU,jG]
 have mI:(jP k s++⟨#[124]⟩:ak).size=(jP k s).size+1:=by rw[aU,jG]
 have h4:(jP k s).size<=900022:=by unfold jP;simp only[aU];omega
 refine qE ?_
 refine KO.ce (cp:=[]) rfl rfl rfl call59 rfl (kK w _ k hT hk) ?_;rintro v' L' ⟨rfl,rfl⟩
 refine rF ?_
 refine Z1 ?_
 refine rF ?_
 refine lK ?_
 rw[show b_ k++⟨#[124]⟩++s=jP k s from rfl]
 refine Z8 ?_
 refine rF ?_
 refine Z1 ?_
 refine KO.ce (cp:=[]) rfl rfl rfl call232 rfl (ZV w _ _ ae) ?_;rintro v' L' ⟨rfl,rfl⟩
 refine KO.ce (cp:=[]) rfl rfl rfl call59 rfl (kK w _ _ hT ⟨by omega,by omega⟩) ?_;rintro v' L' ⟨rfl,rfl⟩
 refine rF ?_
 refine jH ?_
 refine KQ.bG rfl rfl (fun w' hs=>⟨_,_,rfl,⟨rfl,rfl⟩,hw.aE hs.below,hs.below⟩)
theorem N6(w0:World)(L:List HP)(k:Int)(t:ak)(hk:oR k)(ht:t.size<=800000)(hT:qH w0)(hM:qK w0):
 KE prog 52 #[.int .i64 k,.string t] w0 L (fun u M=>u=.tuple #[.string ((gX k t).getD ⟨#[]⟩),.bool (gX k t).isSome]/\M=L):=by
 refine KE.mk (n:=24) func52 rfl ntmps52 aj ?_
 intro w hw
 have hT:=hT.ext (Ext.ct hw.below)
 have hM:=hM.ext (Ext.ct hw.below)
 have dK:∀p∈dE 124 t,p.size<=t.size:=fun p hp=>iq hp
 refine tG ?_
 refine mS ?_
 refine KO.ce (cp:=[]) rfl rfl rfl call133 rfl (l6 w _ t 124 ae hM) ?_;rintro v' L' ⟨bq,rfl,rfl⟩
 refine lK ?_
 have sG:(∀a b c,dE 124 t≠[a,b,c])->gX k t=none:=fun h=>by
  unfold gX
  split
  ·rename_i a b c e;exact absurd e (h a b c)
  ·rfl
 by_cases h3:(dE 124 t).length=3
 ·obtain⟨wa,wb,wc,he⟩:∃a b c,dE 124 t=[a,b,c]:=by
   match h:dE 124 t,h3 with
   |[a,b,c],_=>exact⟨a,b,c,rfl⟩
  rw[he]
  have hwb:wb.size<=800000:=by have :=dK wb (by rw[he];simp);omega
  by_cases M_:eb k wb=t
  ·have ho:gX k t=some wb:=by unfold gX;rw[he];simp[M_]
   rw[ho]
   refine Z8 ?_
   refine P_ ?_
   refine MS ?_
   refine Z1 ?_
   refine KO.on rfl rfl aj ?_;refine KO.eX (i:=1) rfl rfl runUnderlying115 sizeOf9 rfl aj rfl ?_
   refine KO.on rfl rfl aj ?_;refine KO.iw (i:=1) (sz:=1) (cf:=ln) (e:=wb) rfl rfl isAgg9 bZ (fun _=>rfl) rfl aQ aQ rfl ?_
   refine KO.on rfl rfl aj ?_;refine KO.ce (cp:=[]) rfl rfl rfl call134 rfl (zA w _ k wb hk ae hT) ?_;rintro v' L' ⟨rfl,rfl⟩
   refine rA ?_
   refine HQ ?_
   refine MV ?_
   refine K.dp rfl (by simp[M_]) ?_
   refine xv ?_
   refine ZC ?_
   refine rC ?_
   refine KQ.fp rfl rfl rfl (fun w' hs=>⟨_,_,rfl,⟨rfl,rfl⟩,hw.aE hs.below,hs.below⟩)
  ·have ho:gX k t=none:=by unfold gX;rw[he];simp[M_]
   rw[ho]
   refine Z8 ?_
   refine P_ ?_
   refine MS ?_
   refine Z1 ?_
   refine KO.on rfl rfl aj ?_;refine KO.eX (i:=1) rfl rfl runUnderlying115 sizeOf9 rfl aj rfl ?_
   refine KO.on rfl rfl aj ?_;refine KO.iw (i:=1) (sz:=1) (cf:=ln) (e:=wb) rfl rfl isAgg9 bZ (fun _=>rfl) rfl aQ aQ rfl ?_
   refine KO.on rfl rfl aj ?_;refine KO.ce (cp:=[]) rfl rfl rfl call134 rfl (zA w _ k wb hk ae hT) ?_;rintro v' L' ⟨rfl,rfl⟩
   refine rA ?_
   refine HQ ?_
   refine MV ?_
   refine K.cV rfl (by simp[M_]) ?_
   refine tG ?_
   refine sN ?_
   refine KQ.fp rfl rfl rfl (fun w' hs=>⟨_,_,rfl,⟨rfl,rfl⟩,hw.aE hs.below,hs.below⟩)
 ·have ho:gX k t=none:=sG fun a b c e=>h3 (by rw[e];rfl)
  rw[ho]
  have h3i:¬(((dE 124 t).length:Nat):Int)=3:=by omega
  refine Z8 ?_
  refine P_ ?_
  refine Hg ?_
  refine JJ ?_
  refine Ej ?_
  refine K.cV rfl (by simp[h3i]) ?_
  refine tG ?_
  refine sN ?_
  refine KQ.fp rfl rfl rfl (fun w' hs=>⟨_,_,rfl,⟨rfl,rfl⟩,hw.aE hs.below,hs.below⟩)
def DY (D:Dk):List Value:=D.places.map Value.string++[.bool D.cut,.int .i64 D.left]
def fR (b:Nat) (D:Dk):HP:=bP b (.cells (DY D).toArray 28 (0,0))
theorem KK{D:Dk}(h:D.places.length=300):(DY D).length=302:=by simp[DY,h]
theorem TM{D:Dk}(h:D.places.length=300):(DY D)[300]? =some (.bool D.cut):=by
 unfold DY;rw[bf (by simp[h])];simp[h]
theorem ve{D:Dk}(h:D.places.length=300):(DY D)[301]? =some (.int .i64 D.left):=by
 unfold DY;rw[bf (by simp[h])];simp[h]
theorem MC{D:Dk}{k:Nat}{s:ak}(h:D.places[k]? =some s):(DY D)[k]? =some (.string s):=by
 have hk:=(au.1 h).1
 unfold DY;rw[List.getElem?_append_left (by simpa using hk),aG,h];rfl
theorem AJ{D:Dk}{k:Nat}(s:ak)(hk:k<D.places.length):(DY D).set k (.string s)=DY {D with places:=D.places.set k s}:=by
 unfold DY;rw[List.set_append_left _ _ (by simpa using hk),List.map_set]
theorem AK{D:Dk}(h:D.places.length=300)(n:Int):(DY D).set 301 (.int .i64 n)=DY {D with left:=n}:=by
 unfold DY;rw[List.set_append_right _ _ (by simp[h])];simp[h]
theorem PF{D:Dk}(h:D.places.length=300)(c:Bool):(DY D).set 300 (.bool c)=DY {D with cut:=c}:=by
 unfold DY;rw[List.set_append_right _ _ (by simp[h])];simp[h]
theorem Rw(w0:World)(L:List HP)(b k:Nat)(D:Dk)(s:ak)(dz:Int)(h3:D.places.length=300)(hk:k<300)(hl: -4000000000000000000<=D.left/\D.left<=9223372036854775807)(hs:0<s.size/\s.size<=1000000):
 KC prog 156 #[.pointer (some ⟨b,0,none⟩),.int .i64 (k:Nat),.string s,.int .i64 dz] w0 (fR b D::L) (fun u M=>u=cS 70 (lX D)/\M=fR b (ew D k s dz)::L):=by
 refine KC.mk (n:=48) func156 rfl ntmps156 aj ?_
 refine A3 ?_
 have IT:lE D=(D.cut&&decide (D.left=0)):=rfl
 cases hcut:D.cut with
 |false=>
  have ho:lE D=false:=by rw[IT,hcut];rfl
  refine kp ?_
  refine YE ?_
  refine mC ?_
  refine Vz ?_
  refine Eg ?_
  refine kp ?_
  refine Qv ?_
  refine KO.dB (i:=301) rfl rfl isAgg3 .head rfl (ve h3) rfl ?_
  refine Hd ?_
  refine lJ ?_
  refine Qv ?_
  refine KO.gT (i:=301) rfl rfl rfl aQ za rfl .head rfl Y41 ?_;rw[AK h3]
  refine Z0 ?_
  refine ji ?_
  refine mA ?_
  refine YC ?_
  refine KO.gT (i:=k) rfl rfl rfl aQ ZM rfl .head Bd Y31 ?_;rw[AJ _ (by exact(by omega :k<D.places.length))]
  refine rE ?_
  refine KQ.bG rfl rfl (fun w' hs=>⟨_,_,rfl,⟨?_,rfl⟩,?_⟩)
  ·unfold lX;rw[if_neg (by simp[ho])];rfl
  ·unfold ew;rw[if_neg (by simp[ho])];exact hs
 |true=>
  by_cases U5:D.left=0
  ·have ho:lE D=true:=by rw[IT,hcut,U5];rfl
   refine kp ?_
   refine YE ?_
   refine MS ?_
   refine lJ ?_
   refine KO.on rfl rfl rfl ?_;refine KO.gd (off:=301) rfl runUnderlying28 rfl rfl sizeOf3 rfl ?_
   refine KO.on rfl rfl rfl ?_;refine KO.dB (i:=301) rfl rfl isAgg3 .head rfl (by rw[ve h3,U5]) rfl ?_
   refine BG ?_
   refine xE ?_
   refine jI ?_
   refine vO ?_
   refine Z2 ?_
   refine K.bz rfl (fun h5=>?_) (fun h5=>?_)
   ·(skip)
    refine K.draw [.pure,.pure,.pure,.pure,.pure,.pure,.pure,.pure,.pure,.pure,.pure,.pure,.write] [0,1,2,3,4,5,6,7,8,9,10,11,12] bH bH ?_
    refine nB ?_
    refine qG ?_
    refine KO.SD rfl underlying9 rfl ?_
    refine Hd ?_
    refine KO.min2 rfl rfl rfl rfl ?_
    refine KO.UK (i:=(min dz ((s.size:Int)-1)).toNat) rfl rfl underlying9 ae ae rfl ?_
    refine lJ ?_
    refine YC ?_
    refine KO.gT (i:=k) rfl rfl rfl aQ ZM rfl .head Bd Y41 ?_;rw[AJ _ ae]
    refine yF ?_
    refine Z30 ?_
    refine Z4 ?_
    refine KQ.bG rfl rfl (fun w' hs=>⟨_,_,rfl,⟨?_,rfl⟩,?_⟩)
    ·unfold lX;rw[if_pos ho];rfl
    ·unfold ew fR
     rw[if_pos ho,if_pos ae]
     exact hs
   ·refine xB ?_
    refine Z30 ?_
    refine Z4 ?_
    refine KQ.bG rfl rfl (fun w' hs=>⟨_,_,rfl,⟨?_,rfl⟩,?_⟩)
    ·unfold lX;rw[if_pos ho];rfl
    ·unfold ew
     rw[if_pos ho,if_neg ae]
     exact hs
  ·have ho:lE D=false:=by rw[IT,hcut];simpa using U5
   refine kp ?_
   refine YE ?_
   refine MS ?_
   refine lJ ?_
   refine KO.on rfl rfl rfl ?_;refine KO.gd (off:=301) rfl runUnderlying28 rfl rfl sizeOf3 rfl ?_
   refine KO.on rfl rfl rfl ?_;refine KO.dB (i:=301) rfl rfl isAgg3 .head rfl (ve h3) rfl ?_
   refine BG ?_
   refine yx ?_
   refine Z2 ?_
   refine K.dp rfl (by simpa using U5) ?_
   refine Z6 ?_
   refine kp ?_
   refine Qv ?_
   refine KO.dB (i:=301) rfl rfl isAgg3 .head rfl (ve h3) rfl ?_
   refine Hd ?_
   refine lJ ?_
   refine Qv ?_
   refine KO.gT (i:=301) rfl rfl rfl aQ za rfl .head rfl Y41 ?_;rw[AK h3]
   refine Z0 ?_
   refine ji ?_
   refine mA ?_
   refine YC ?_
   refine KO.gT (i:=k) rfl rfl rfl aQ ZM rfl .head Bd Y31 ?_;rw[AJ _ (by exact(by omega :k<D.places.length))]
   refine rE ?_
   refine KQ.bG rfl rfl (fun w' hs=>⟨_,_,rfl,⟨?_,rfl⟩,?_⟩)
   ·unfold lX;rw[if_neg (by simp[ho])];rfl
   ·unfold ew;rw[if_neg (by simp[ho])];exact hs
theorem PI(w0:World)(L:List HP)(b:Nat)(D:Dk)(n:Int)(h3:D.places.length=300):
 KC prog 18 #[.pointer (some ⟨b,0,none⟩),.int .i64 n] w0 (fR b D::L) (fun u M=>u=.tuple #[]/\M=fR b (cu D n)::L):=by
 refine KC.mk (n:=14) func18 rfl ntmps18 aj ?_
 refine Z8 ?_
 refine nB ?_
 refine vO ?_
 refine Z1 ?_
 refine KO.max2 rfl rfl rfl rfl ?_
 refine lJ ?_
 refine KO.gd (off:=300) rfl runUnderlying28 rfl rfl sizeOf4 rfl ?_
 refine KO.gT (i:=300) rfl rfl rfl aQ (by exact sizeOf4) rfl .head rfl Y41 ?_;rw[PF h3]
 refine lJ ?_
 refine Qv ?_
 refine KO.gT (i:=301) rfl rfl rfl aQ za rfl .head rfl Y31 ?_;rw[AK (by exact h3)]
 refine KO.nil ?_
 refine KQ.j9 rfl (fun w' hs=>⟨_,_,rfl,⟨rfl,rfl⟩,hs⟩)
theorem Iu:(prog.info? 75).map (fun i=>(i.zero,i.size,i.bytes))=some (some (Value.agg #[.string ⟨#[]⟩,.string ⟨#[]⟩,.int .i64 0]),3,40):=by kernel_rfl
theorem SJ(w w0:World)(L:List HP)(v:Value)(n:Nat)(xs vs:List Value)(bv:Nat)(h:St w0 (lu 75 3 v n xs::bP bv (.cells vs.toArray 75 (0,0))::L) w)(hv:vs.length=3)(h1:∀u∈vs,u.oneCell'=true)(hn:n<1000000):
 Calls prog 268 #[v,.int .i64 n,.slice (some ⟨bv,0,none⟩) 1 1] w fun e w'=> ∃v',e=.returned v'/\St w0 (lu 75 3 v' (n+1) (xs++vs)::L) w':=by
 obtain⟨i0,hi,xU,n0,qN⟩:=info_parts Iu
 have qZ:dr w ⟨bv,0,none⟩ vs:=by
  have h2:=h.pick (.tail .head)
  exact h2.fu fun j u hj=>by simpa using hj
 obtain⟨v',w1,hr,kt⟩:=sb (P:=prog) 86 86 75 i0 _ 3 40 underlying86 hi xU n0 qN rfl h ⟨bv,0,none⟩ 1 1 vs (by rw[hv]) qZ h1 Ux ae
 have HR:=Lib.hid hr
 have HS:=Lib.hid kt
 have kA:v=.slice none 0 0/\n=0\/∃g cap,v=.slice (some ⟨g,0,none⟩) n cap/\n<=cap:=by
  rcases h.cU with⟨h1,h2,_⟩|⟨g,cap,_,h1,h2,_⟩
  ·exact .inl ⟨h1,h2⟩
  ·exact .inr ⟨g,cap,h1,h2⟩
 clear h hr kt qZ hi xU n0 qN
 rcases kA with⟨rfl,rfl⟩|⟨g,cap,rfl,xX⟩
 ·go_enter func268,ntmps268
  go_wp2_with (at_builtin;refine Lib.wpList_append_run _ rfl _ _ _ _ rfl _ _ rfl rfl _ _ HR.out ?_)
  go_ret
  exact⟨_,rfl,HS.out.gJ.drop⟩
 ·have hE:((n:Int)==(n:Int))=true:=by simp
  by_cases Xh:cap=n
  ·have Xg:n=cap:=Xh.symm
   subst Xg
   go_enter func268,ntmps268
   go_wp2_with (at_builtin;refine Lib.wpList_append_run _ rfl _ _ _ _ rfl _ _ rfl rfl _ _ HR.out ?_)
   go_ret
   exact⟨_,rfl,HS.out.gJ.drop⟩
  ·go_enter func268,ntmps268
   go_wp2_with (at_builtin;refine Lib.wpList_append_run _ rfl _ _ _ _ rfl _ _ rfl rfl _ _ HR.out ?_)
   go_ret
   exact⟨_,rfl,HS.out.gJ.drop⟩
theorem OF(w w0:World)(L:List HP)(g n cap k:Nat)(xs vs:List Value)(bv:Nat)(h:St w0 (lu 75 3 (.slice (some ⟨g,0,none⟩) n cap) n xs::bP bv (.cells vs.toArray 75 (0,0))::L) w)(hv:vs.length=3)(h1:∀u∈vs,u.oneCell'=true)(uT:∀u∈xs,u.oneCell'=true)(hn:n<1000000)(hk:k<n)(jE:n+1<=cap):
 Calls prog 268 #[.slice (some ⟨g,0,none⟩) n cap,.int .i64 k,.slice (some ⟨bv,0,none⟩) 1 1] w fun e w'=> ∃v',e=.returned v'/\St w0 (lu 75 3 v' (n+1) (xs.take (k *3)++vs++xs.drop (k *3))::L) w':=by
 obtain⟨i0,hi,xU,n0,qN⟩:=info_parts Iu
 rcases h.cU with⟨hc,_⟩|⟨g',o5,cur,hc,xX,rh,lW,fL,tQ,hblk⟩
 ·simp at hc
 ·simp only[Value.slice.injEq,az,Addr.mk.injEq,and_true,true_and]at hc
  obtain⟨rfl,rfl⟩:=hc
  have Mj:∀o n c o' n' c',(callFunc 361 #[.slice (some ⟨bv,o,none⟩) n c,.slice (some ⟨g,o',none⟩) n' c']).run prog w=.ok (.value (.bool false)) w:=fun o n c o' n' c'=>by
   rw[run_callFunc_extern func361 bH bH bH (e:=Extern.SlicesOverlaps.overlaps #[86,86] #[4]) bH,
    xN 86 4 75 i0 underlying86 hi hblk.gJ o n c o' n' c' (by rw[lW];omega)]
   rfl
  have HB:=Lib.hid hblk
  have gN:((k:Int)==(n:Int))=false:=by simp;omega
  have Tm:cap<9223372036854775808:=by unfold maxLen at rh;omega
  have dK:(cur.toList.take (n *3)).length=n *3:=by simp;omega
  have qP:cur.toList.length=cap *3:=by simpa using lW
  have DO:Nat.min (n+1-k) (n-k)=n-k:=Nat.min_eq_right ae
  have O3:∀u∈(cur.toList.take (n *3)).drop (k *3),u.oneCell'=true:=fun u hu=>uT u (fL▸List.mem_of_mem_drop hu)
  have Q8:((cur.toList.take (n *3)).drop (k *3)).length=Nat.min (n+1-k) (n-k)*i0.size:=by
   rw[bC,dK,n0,DO,Nat.sub_mul]
  have wP:=fC (P:=prog) w.drew 86 86 3 75 i0 g ((k+1)*3) (n-k) (cap-(k+1)) ⟨g,k *3,none⟩ (n+1-k) (cap-k) cur 75 _ underlying86 hi hblk.drew.look.2 Q8
   (hblk.drew.fu fun j u hj=>by
    rw[List.getElem?_drop,List.getElem?_take]at hj
    split at hj
    ·simpa using hj
    ·simp at hj) (by rw[Q8,n0,DO,lW];omega) O3
  have uV:=hblk.drew.setRow (c':=(cur.toList.take ((k+1)*3)++(cur.toList.take (n *3)).drop (k *3)++cur.toList.drop ((k+1)*3+((cur.toList.take (n *3)).drop (k *3)).length)).toArray)
  have Gi:((cur.toList.take (n *3)).drop (k *3)).length=n *3-k *3:=by rw[bC,dK]
  generalize DT:cur.toList.take ((k+1)*3)++(cur.toList.take (n *3)).drop (k *3)++cur.toList.drop ((k+1)*3+((cur.toList.take (n *3)).drop (k *3)).length)=C1 at wP uV
  have tu:C1.length=cap *3:=by rw[<-DT];simp only[aP,bL,Gi,bC,qP];omega
  have mI:=fC (P:=prog) (w.drew.setRow g C1.toArray) 86 86 3 75 i0 g (k *3) (n+1-k) (cap-k) ⟨bv,0,none⟩ 1 1 C1.toArray 75 vs underlying86 hi uV.look.2
   Y10 (uV.drop.fu fun j u hj=>by simpa using hj) (by rw[hv];simp[tu];omega) h1
  have qY:=uV.setRow (c':=(C1.take (k *3)++vs++C1.drop (k *3+vs.length)).toArray)
  have oU:Nat.min 1 (n+1-k)=1:=Nat.min_eq_left ae
  rw[oU]at mI
  rw[DO]at wP
  have jr:((C1.take (k *3)++vs++C1.drop (k *3+vs.length)).toArray).toList.take ((n+1)*3)=xs.take (k *3)++vs++xs.drop (k *3):=by
   have :=oF cur.toList vs (k *3) 3 (n *3) (cap *3) ae hv ae qP
   simp only[fL]at this
   rw[hv]
   have e:(k+1)*3=k *3+3:=by omega
   have e2:(n+1)*3=n *3+3:=by omega
   have e3:(k *3+3+(n *3-k *3))=n *3+3:=by omega
   rw[fL,e,show(xs.drop (k *3)).length=n *3-k *3 by rw[bC,tQ],e3]at DT
   rw[<-DT,e2]
   exact this
  have pY:=qY.lO (n:=n+1) (size:=3) (cap:=cap) jE rh (by simp[tu,hv];omega) jr
  generalize C1.take (k *3)++vs++C1.drop (k *3+vs.length)=C2 at mI pY qY jr
  have YV:=Lib.hid wP
  have YU:=Lib.hid mI
  have HO:=Lib.hid pY
  clear h hblk rh hi xU n0 qN lW fL tQ uT h1 hv wP mI pY uV qY jr DT Gi Q8 O3 qP dK DO oU tu
  go_enter func268,ntmps268
  go_wp2_with fail
  refine fe [.pure,.pure,.pure,.pure,.pure,.pure,.pure,.pure,.write] [0,1,2,3,4,5,6,7,8] bH bH ?_
  simp only[aL,List.map_nil,item,List.getD_cons_zero,List.getD_cons_succ]
  repeat((with_reducible refine fT (v:=?_) (a':=?_) ?_ ?_ ?_ ?_);rotate_left 2;(rfl);((intro w';go_simp;(try(go_bits;(try go_simp);(try(go_bits;(try go_simp)))));(repeat(first|rewrite [if_pos ae]|rewrite [if_neg ae])))<;>rfl);(go_simp;rfl))
  refine lZ (a':=?_) (v:=?_) (w':=?_) rfl ?_ ?_ ?_
  rotate_left 3
  ·rw[nw _ _ _ _ rfl (.slice (some ⟨g,(k+1)*3,none⟩) (n-k) (cap-(k+1))) (.slice (some ⟨g,k *3,none⟩) (n+1-k) (cap-k)) rfl rfl YV.out]
  ·go_simp;rfl
  refine pz ?_
  go_wp2_with (refine ub rfl _ _ _ _ rfl (.slice (some ⟨g,k *3,none⟩) (n+1-k) (cap-k)) (.slice (some ⟨bv,0,none⟩) 1 1) rfl rfl YU.out ?_;intro K hK;go_simp)
  go_ret
  exact⟨_,rfl,HO.out.gJ.drop⟩
theorem OG(w w0:World)(L:List HP)(g n k:Nat)(cap:Nat)(xs vs:List Value)(bv:Nat)(h:St w0 (lu 75 3 (.slice (some ⟨g,0,none⟩) n cap) n xs::bP bv (.cells vs.toArray 75 (0,0))::L) w)(hv:vs.length=3)(h1:∀u∈vs,u.oneCell'=true)(uT:∀u∈xs,u.oneCell'=true)(hn:n<1000000)(hk:k<n)(jE:cap<n+1):
 Calls prog 268 #[.slice (some ⟨g,0,none⟩) n cap,.int .i64 k,.slice (some ⟨bv,0,none⟩) 1 1] w fun e w'=> ∃v',e=.returned v'/\St w0 (lu 75 3 v' (n+1) (xs.take (k *3)++vs++xs.drop (k *3))::L) w':=by
 obtain⟨i0,hi,xU,n0,qN⟩:=info_parts Iu
 rcases h.cU with⟨hc,_⟩|⟨g',o5,cur,hc,xX,rh,lW,fL,tQ,hblk⟩
 ·simp at hc
 ·simp only[Value.slice.injEq,az,Addr.mk.injEq,and_true,true_and]at hc
  obtain⟨rfl,rfl⟩:=hc
  have Xh:cap=n:=by omega
  have gN:((k:Int)==(n:Int))=false:=by simp;omega
  have qP:cur.toList.length=cap *3:=by simpa using lW
  have SP:(xs.take (k *3)).length=k *3:=by rw[bL,tQ];omega
  have iX:∀(j:Nat) (u:Value),xs[j]? =some u->cur[j]? =some u:=fun j u hj=>by
   rw[<-fL,List.getElem?_take]at hj
   split at hj
   ·simpa using hj
   ·simp at hj
  have hr:=oJ (P:=prog) w 86 3 86 75 i0 _ .i64 .i64 underlying86 underlying3 hi xU ⟨g,0,none⟩ k cap (xs.take (k *3)) (by rw[SP,n0])
   (hblk.fu fun j u hj=>by
    rw[List.getElem?_take]at hj
    split at hj
    ·rw[Nat.zero_add];exact iX j u hj
    ·simp at hj) (n+1-k) ae (by rw[n0];omega) ae ae (by rw[qN];exact growslice_fits ae ae) (by rw[qN];omega)
  have Hz:=grownCap_ge w (k+(n+1-k)) cap 75
  have hle:=grownCap_le_maxLen w (k+(n+1-k)) cap 75 Ux
  have oz:=hblk.drew.alloc (.cells ((xs.take (k *3)).toArray++Builtin.zeroCells (Value.agg #[.string ⟨#[]⟩,.string ⟨#[]⟩,.int .i64 0]).cells (n+1-k)++Builtin.zeroCells (Value.agg #[.string ⟨#[]⟩,.string ⟨#[]⟩,.int .i64 0]).cells (grownCap w (k+(n+1-k)) cap 75-(k+(n+1-k)))) 75)
  have Md:∀q,(Builtin.zeroCells (Value.agg #[.string ⟨#[]⟩,.string ⟨#[]⟩,.int .i64 0]).cells q).size=q *3:=fun q=>by rw[size_zeroCells];rfl
  generalize hW:w.drew.alloc (.cells ((xs.take (k *3)).toArray++Builtin.zeroCells (Value.agg #[.string ⟨#[]⟩,.string ⟨#[]⟩,.int .i64 0]).cells (n+1-k)++Builtin.zeroCells (Value.agg #[.string ⟨#[]⟩,.string ⟨#[]⟩,.int .i64 0]).cells (grownCap w (k+(n+1-k)) cap 75-(k+(n+1-k)))) 75)=W at hr oz
  clear hW
  generalize hcp:grownCap w (k+(n+1-k)) cap 75=cp at hr oz Hz hle
  clear hcp
  have e1:k+(n+1-k)=n+1:=by omega
  rw[e1]at hr Hz
  generalize hB:w.heap.size=B at hr
  have hB':w.drew.heap.size=B:=hB
  rw[hB']at oz
  clear hB hB'
  generalize hZ:Builtin.zeroCells (Value.agg #[.string ⟨#[]⟩,.string ⟨#[]⟩,.int .i64 0]).cells (n+1-k)++Builtin.zeroCells (Value.agg #[.string ⟨#[]⟩,.string ⟨#[]⟩,.int .i64 0]).cells (cp-(k+(n+1-k)))=Z at oz
  have hZl:Z.toList.length=(cp-k)*3:=by
   rw[<-hZ];simp only[Array.length_toList,Array.size_append,Md];omega
  have Mu:((xs.take (k *3)).toArray++Builtin.zeroCells (Value.agg #[.string ⟨#[]⟩,.string ⟨#[]⟩,.int .i64 0]).cells (n+1-k)++Builtin.zeroCells (Value.agg #[.string ⟨#[]⟩,.string ⟨#[]⟩,.int .i64 0]).cells (cp-(k+(n+1-k))))=(xs.take (k *3)++Z.toList).toArray:=by
   rw[<-hZ];apply Array.ext';simp
  rw[Mu]at oz
  clear Mu hZ Md
  have WJ:=oz
  generalize Mu:xs.take (k *3)++Z.toList=C0 at oz
  have I7:C0.length=cp *3:=by rw[<-Mu,aP,SP,hZl];omega
  have Al:Nat.min 1 (n+1-k)=1:=Nat.min_eq_left ae
  have Cz:St w0 (bP bv (.cells vs.toArray 75 (0,0))::bP B (.cells C0.toArray 75 (0,0))::bP g (.cells cur 75 (0,0))::L) W:=oz.pick (.tail (.tail .head))
  have wP:=fC (P:=prog) W 86 86 3 75 i0 B (k *3) (n+1-k) (cp-k) ⟨bv,0,none⟩ 1 1 C0.toArray 75 vs underlying86 hi oz.look.2
   (by rw[hv,n0,Al,Nat.one_mul]) (Cz.fu fun j u hj=>by simpa using hj) (by rw[hv];simp[I7];omega) h1
  have uV:=oz.setRow (c':=(C0.take (k *3)++vs++C0.drop (k *3+vs.length)).toArray)
  rw[Al]at wP
  generalize DT:C0.take (k *3)++vs++C0.drop (k *3+vs.length)=C1 at wP uV
  have tu:C1.length=cp *3:=by rw[<-DT];simp only[aP,bL,bC,I7,hv];omega
  generalize Pk:W.setRow B C1.toArray=W1 at wP uV
  clear Pk
  have tU:(xs.drop (k *3)).length=(n-k)*3:=by rw[bC,tQ];omega
  have oU:Nat.min (n-k) (n-k)=n-k:=Nat.min_self _
  have rb:St w0 (bP g (.cells cur 75 (0,0))::bP B (.cells C1.toArray 75 (0,0))::bP bv (.cells vs.toArray 75 (0,0))::L) W1.drew:=(uV.pick (.tail .head)).drew
  have mI:=fC (P:=prog) W1.drew 86 86 3 75 i0 B ((k+1)*3) (n-k) (cp-(k+1)) ⟨g,k *3,none⟩ (n-k) (cap-k) C1.toArray 75 (xs.drop (k *3)) underlying86 hi uV.drew.look.2
   (by rw[tU,n0,oU]) (rb.fu fun j u hj=>by rw[List.getElem?_drop]at hj;exact iX _ u hj) (by rw[tU];simp[tu];omega) (fun u hu=>uT u (List.mem_of_mem_drop hu))
  have qY:=uV.drew.setRow (c':=(C1.take ((k+1)*3)++xs.drop (k *3)++C1.drop ((k+1)*3+(xs.drop (k *3)).length)).toArray)
  rw[oU]at mI
  have jr:((C1.take ((k+1)*3)++xs.drop (k *3)++C1.drop ((k+1)*3+(xs.drop (k *3)).length)).toArray).toList.take ((n+1)*3)=xs.take (k *3)++vs++xs.drop (k *3):=by
   have :=x5 (xs.take (k *3)) Z.toList vs (xs.drop (k *3)) (k *3) 3 ((n-k)*3) SP hv tU
   simp only[Mu]at this
   rw[hv]at DT
   rw[DT]at this
   rw[tU,show(k+1)*3=k *3+3 by omega,show(n+1)*3=k *3+3+(n-k)*3 by omega]
   exact this
  have ra:(C1.take ((k+1)*3)++xs.drop (k *3)++C1.drop ((k+1)*3+(xs.drop (k *3)).length)).length=cp *3:=by
   simp only[aP,bL,bC,tu,tQ];omega
  generalize C1.take ((k+1)*3)++xs.drop (k *3)++C1.drop ((k+1)*3+(xs.drop (k *3)).length)=C2 at mI qY jr ra
  have pY:=qY.lO (n:=n+1) (size:=3) (cap:=cp) Hz hle (by simpa using ra) jr
  have e9:((n+1-k:Nat):Int)=(n:Int)+1-k:=by omega
  rw[e9]at hr
  clear e9
  have HR:=Lib.hid hr
  have YV:=Lib.hid wP
  have YU:=Lib.hid mI
  have HO:=Lib.hid pY
  have afP:cp<9223372036854775808:=by unfold maxLen at hle;omega
  clear h hblk rh hi xU n0 qN lW fL tQ uT h1 hv wP mI pY oz WJ uV qY jr ra Mu I7 DT tu hr rb Cz tU SP qP iX hZl Al oU hle e1 Xh
  go_enter func268,ntmps268
  go_wp2_with (first|(at_builtin;refine Lib.wpList_append_run _ rfl _ _ _ _ rfl _ _ rfl rfl _ _ HR.out ?_)|(refine ub rfl _ _ _ _ rfl (.slice (some ⟨B,k *3,none⟩) (n+1-k) (cp-k)) (.slice (some ⟨bv,0,none⟩) 1 1) rfl rfl YV.out ?_;intro K hK;go_simp))
  refine fe [.pure,.pure,.pure,.pure,.pure,.pure,.pure,.pure,.write] [0,1,2,3,4,5,6,7,8] bH bH ?_
  simp only[aL,List.map_nil,item,List.getD_cons_zero,List.getD_cons_succ]
  repeat((with_reducible refine fT (v:=?_) (a':=?_) ?_ ?_ ?_ ?_);rotate_left 2;(rfl);((intro w';go_simp;(try(go_bits;(try go_simp);(try(go_bits;(try go_simp)))));(repeat(first|rewrite [if_pos ae]|rewrite [if_neg ae])))<;>rfl);(go_simp;rfl))
  refine lZ (a':=?_) (v:=?_) (w':=?_) rfl ?_ ?_ ?_
  rotate_left 3
  ·rw[nw _ _ _ _ rfl (.slice (some ⟨B,(k+1)*3,none⟩) (n-k) (cp-(k+1))) (.slice (some ⟨g,k *3,none⟩) (n-k) (cap-k)) rfl rfl YU.out]
  ·go_simp;rfl
  refine pz ?_
  go_wp2_with fail
  go_ret
  exact⟨_,rfl,HO.out.pick (.tail .head) |>.drop.pick (.tail .head) |>.drop⟩
theorem SK(w w0:World)(L:List HP)(v:Value)(l:List Nm)(x:Nm)(k bv n:Nat)(hn:n=l.length)(h:St w0 (lu 75 3 v n (cz l)::bP bv (.cells x.cells.toArray 75 (0,0))::L) w)(hk:k<=l.length)(Cw:l.length<1000000):
 Calls prog 268 #[v,.int .i64 k,.slice (some ⟨bv,0,none⟩) 1 1] w fun e w'=> ∃v',e=.returned v'/\St w0 (lu 75 3 v' (l.length+1) (cz (l.take k++x::l.drop k))::L) w':=by
 subst hn
 by_cases np:k=l.length
 ·subst np
  have :=SJ w w0 L v l.length (cz l) x.cells bv h rfl x.cells_one Cw
  refine this.mono ?_
  rintro e w' ⟨v',he,hs⟩
  refine⟨v',he,?_⟩
  rw[show cz (l.take l.length++x::l.drop l.length)=cz l++x.cells by simp[cz]]
  exact hs
 ·have dS:k<l.length:=by omega
  rcases h.cU with⟨_,hz,_⟩|⟨g,cap,cur,rfl,xX,_⟩
  ·omega
  ·rw[<-zU l x k hk]
   by_cases hr:l.length+1<=cap
   ·exact OF w w0 L g l.length cap k (cz l) x.cells bv h rfl x.cells_one (xP l) Cw dS hr
   ·exact OG w w0 L g l.length k cap (cz l) x.cells bv h rfl x.cells_one (xP l) Cw dS ae
theorem uz(x:Nm)(b:Bool)(w:World)(h1:x.name.size<=maxLen)(h2:x.kr.size<=maxLen)(hb:cy x=b):
 Calls prog 267 #[.agg x.cells.toArray] w fun e w'=>e=.returned (.bool b)/\Below w.heap.size w w':=by
 rw[<-hb];exact Ly x w h1 h2
theorem RY(b off:Nat)(c:Array Value)(T:TypeId)(v:Value)(l:List Nm)(x:Nm)(w w0:World)(L:List HP)(h:St w0 (bP b (.cells c T (0,0))::lu 75 3 v l.length (cz l)::L) w)(hr:cy x=false)(h1:x.name.size<=maxLen)(h2:x.kr.size<=maxLen):
 Calls prog 170 #[.pointer (some ⟨b,off,none⟩),.agg x.cells.toArray] w fun e w'=>e=.returned (.iface 70 (.int .i64 1))/\
  St w0 (bP b (.cells c T (0,0))::lu 75 3 v l.length (cz l)::L) w':=by
 have HC:=Lib.hid (fun w=>uz x false w h1 h2 hr)
 have oz:=h.alloc (.cells x.cells.toArray 75)
 have HS:=Lib.hid oz
 clear h h1 h2 hr oz
 obtain⟨a,t,n⟩:=x
 simp only[Nm.cells]at HC HS ⊢
 go_enter func170,ntmps170
 go_wp2_with fail
 refine(HC.out _).mono ?_
 rintro e w1 ⟨rfl,jG⟩
 have BN:=Lib.hid (HS.out.aE jG)
 clear jG
 go_wp2_with fail
 go_ret
 exact⟨rfl,BN.out.drop⟩
theorem NQ(b off:Nat)(c:Array Value)(T:TypeId)(v:Value)(l:List Nm)(x:Nm)(w w0:World)(L:List HP)(h:St w0 (bP b (.cells c T (0,0))::lu 75 3 v l.length (cz l)::L) w)(hc:c[off]? =some v)(hr:cy x=true)(h1:x.name.size<=maxLen)(h2:x.kr.size<=maxLen)(hm:Ev l x.name)(hl:20<=l.length)(EC:l.length<1000000)(hit:fy l x.name (bR l x.name)=false):
 Calls prog 170 #[.pointer (some ⟨b,off,none⟩),.agg x.cells.toArray] w fun e w'=>e=.returned (.iface 70 (.int .i64 12))/\
  St w0 (bP b (.cells c T (0,0))::lu 75 3 v l.length (cz l)::L) w':=by
 have HC:=Lib.hid (fun w=>uz x true w h1 h2 hr)
 have oz:=h.alloc (.cells x.cells.toArray 75)
 have HS:=Lib.hid oz
 have HF:=Lib.hid (fun(w:World) (h:St w0 (bP b (.cells c T (0,0))::lu 75 3 v l.length (cz l)::L) w)=>oX b off c T (0,0) v l x.name w w0 L h hc EC hm)
 have HK:=Lib.hid (fun k (hk:JM l x.name k)=>kV hk)
 have HI:=Lib.hid hit
 have hv:∃a cap,v=.slice a l.length cap:=by
  rcases h.drop.cU with⟨hv,hz,_⟩|⟨g,cap,_,hv,_⟩
  ·exact⟨none,0,by rw[hv,hz]⟩
  ·exact⟨_,_,hv⟩
 obtain⟨a,cap,rfl⟩:=hv
 have M3:=Lib.hid hc
 clear h h1 h2 hr oz hm hit hc
 generalize hN:l.length=n at *
 have HN:=Lib.hid hN
 clear hN
 obtain⟨nm,t,hs⟩:=x
 simp only[Nm.cells]at HC HS HF HK HI ⊢
 go_enter func170,ntmps170
 go_wp2_with fail
 refine(HC.out _).mono ?_
 rintro e w1 ⟨rfl,jG⟩
 have BN:=Lib.hid (HS.out.aE jG)
 have c0:=BN.out.cell (off:=0) rfl
 clear jG
 go_wp2_with fail
 refine(HF.out _ BN.out.drop).mono ?_
 rintro e w2 ⟨k,hk,rfl,jF⟩
 have yL:=Lib.hid (BN.out.aE jF)
 rw[HK.out k hk,HI.out]
 clear jF c0 hk
 have c1:w2.cell? ⟨b,off,none⟩=some (.slice a n cap):=yL.out.PW (.tail .head) M3.out
 go_wp2_with fail
 go_ret
 exact⟨rfl,yL.out.drop⟩
theorem RV(b off:Nat)(c:Array Value)(T:TypeId)(v:Value)(l:List Nm)(x:Nm)(w w0:World)(L:List HP)(h:St w0 (bP b (.cells c T (0,0))::lu 75 3 v l.length (cz l)::L) w)(hc:c[off]? =some v)(hr:cy x=true)(h1:x.name.size<=maxLen)(h2:x.kr.size<=maxLen)(hm:Ev l x.name)(EC:l.length<1000000)(hit:fy l x.name (bR l x.name)=true):
 Calls prog 170 #[.pointer (some ⟨b,off,none⟩),.agg x.cells.toArray] w fun e w'=>e=.returned .nilIface/\
  St w0 (bP b (.cells c T (0,0))::lu 75 3 v l.length (cz (l.set (bR l x.name) x))::L) w':=by
 have HC:=Lib.hid (fun w=>uz x true w h1 h2 hr)
 have oz:=h.alloc (.cells x.cells.toArray 75)
 have HS:=Lib.hid oz
 have HF:=Lib.hid (fun(w:World) (h:St w0 (bP b (.cells c T (0,0))::lu 75 3 v l.length (cz l)::L) w)=>oX b off c T (0,0) v l x.name w w0 L h hc EC hm)
 have HK:=Lib.hid (fun k (hk:JM l x.name k)=>kV hk)
 have HI:=Lib.hid hit
 have aa8:bR l x.name<l.length:=by
  unfold fy at hit
  rw[bn]at hit
  simpa using hit.1
 have acZ:=Lib.hid (FC l x (bR l x.name) aa8)
 have hv:∃g cap,v=.slice (some ⟨g,0,none⟩) l.length cap:=by
  rcases h.drop.cU with⟨hv,hz,_⟩|⟨g,cap,_,hv,_⟩
  ·omega
  ·exact⟨_,_,hv⟩
 obtain⟨g,cap,rfl⟩:=hv
 have M3:=Lib.hid hc
 clear h h1 h2 hr oz hm hit hc
 generalize hN:l.length=n at *
 have HN:=Lib.hid hN
 clear hN
 obtain⟨nm,t,hs⟩:=x
 simp only[Nm.cells]at HC HS HF HK HI acZ aa8 ⊢
 generalize hK:bR l nm=k0 at *
 clear hK
 go_enter func170,ntmps170
 go_wp2_with fail
 refine(HC.out _).mono ?_
 rintro e w1 ⟨rfl,jG⟩
 have BN:=Lib.hid (HS.out.aE jG)
 have c0:=BN.out.cell (off:=0) rfl
 clear jG
 go_wp2_with fail
 refine(HF.out _ BN.out.drop).mono ?_
 rintro e w2 ⟨k,hk,rfl,jF⟩
 have yL:=Lib.hid (BN.out.aE jF)
 obtain rfl:=HK.out k hk
 rw[HI.out]
 clear jF c0 hk
 have c1:w2.cell? ⟨b,off,none⟩=some (.slice (some ⟨g,0,none⟩) n cap):=yL.out.PW (.tail .head) M3.out
 have c2:dr w2 ⟨w.heap.size,0,none⟩ [.string nm,.string t,.int .i64 hs]:=yL.out.fu fun j u hj=>by simpa using hj
 obtain⟨w3,IK,Mh⟩:∃w3,(storeVar 75 ⟨g,k *3,none⟩ (.agg #[.string nm,.string t,.int .i64 hs])).run prog w2.drew=.ok () w3/\
  St w0 (bP b (.cells c T (0,0))::lu 75 3 (.slice (some ⟨g,0,none⟩) n cap) n (cz (l.set k ⟨nm,t,hs⟩))::L) w3:=by
  have h4:=(yL.out.drop.pick (.tail .head)).drew
  rcases h4.cU with⟨hc,_⟩|⟨g',o5,cur,hc,xX,rh,lW,fL,tQ,hblk⟩
  ·simp at hc
  ·simp only[Value.slice.injEq,az,Addr.mk.injEq,and_true,true_and]at hc
   obtain⟨rfl,rfl⟩:=hc
   refine⟨_,kW hblk (by simp[Value.cells]) (by simp[Value.cells];omega) (by simp[Value.cells];exact⟨rfl,rfl,rfl⟩),?_⟩
   refine((hblk.setRow).lO xX rh ?_ ?_).gJ
   ·simp[Value.cells];omega
   ·rw[<-acZ.out,<-fL]
    exact E9 cur.toList [.string nm,.string t,.int .i64 hs] (k *3) 3 (n *3) rfl ae ga
 have HW3:=Lib.hid IK
 have HS3:=Lib.hid Mh
 clear IK Mh
 go_wp2_with fail
 refine fe [.pure,.pure,.pure,.read,.pure,.read,.pure,.write] [0,1,2,3,4,5,6,7] bH bH ?_
 simp only[aL,List.map_nil,item,List.getD_cons_zero,List.getD_cons_succ]
 repeat((with_reducible refine fT (v:=?_) (a':=?_) ?_ ?_ ?_ ?_);rotate_left 2;(rfl);((intro w';go_simp;(try(go_bits;(try go_simp);(try(go_bits;(try go_simp)))));((skip)))<;>rfl);(go_simp;rfl))
 refine yM (a':=?_) (v:=.slice (some ⟨g,0,none⟩) n cap) (ad:=⟨b,off,none⟩) rfl rfl (fun _=>by simp) c1 ?_ ?_
 rotate_left 1
 ·go_simp;rfl
 repeat((with_reducible refine fT (v:=?_) (a':=?_) ?_ ?_ ?_ ?_);rotate_left 2;(rfl);((intro w';go_simp;(try(go_bits;(try go_simp);(try(go_bits;(try go_simp)))));((skip)))<;>rfl);(go_simp;rfl))
 refine JR (a':=?_) (cs:=[.string nm,.string t,.int .i64 hs]) (ad:=⟨w.heap.size,0,none⟩) rfl rfl (fun _=>by simp) (fun _=>by simp) c2 ?_ ?_
 rotate_left 1
 ·go_simp;rfl
 repeat((with_reducible refine fT (v:=?_) (a':=?_) ?_ ?_ ?_ ?_);rotate_left 2;(rfl);((intro w';go_simp;(try(go_bits;(try go_simp);(try(go_bits;(try go_simp)))));((skip)))<;>rfl);(go_simp;rfl))
 refine sA (a':=?_) (w':=w3) rfl ?_ ?_ ?_
 rotate_left 1
 ·exact AA rfl rfl HW3.out
 ·go_simp;rfl
 refine pz ?_
 clear c1 c2
 go_wp2_with fail
 go_ret
 exact⟨rfl,HS3.out⟩
theorem RU(b off:Nat)(c:Array Value)(T:TypeId)(v:Value)(l:List Nm)(x:Nm)(w w0:World)(L:List HP)(h:St w0 (bP b (.cells c T (0,0))::lu 75 3 v l.length (cz l)::L) w)(hc:c[off]? =some v)(hr:cy x=true)(h1:x.name.size<=maxLen)(h2:x.kr.size<=maxLen)(hm:Ev l x.name)(hl:l.length<20)(hit:fy l x.name (bR l x.name)=false):
 Calls prog 170 #[.pointer (some ⟨b,off,none⟩),.agg x.cells.toArray] w fun e w'=>e=.returned .nilIface/\
  ∃v',St w0 (bP b (.cells (c.setIfInBounds off v') T (0,0))::lu 75 3 v' (l.length+1) (cz (l.take (bR l x.name)++x::l.drop (bR l x.name)))::L) w':=by
 have HC:=Lib.hid (fun w=>uz x true w h1 h2 hr)
 have oz:=h.alloc (.cells x.cells.toArray 75)
 have HS:=Lib.hid oz
 have HF:=Lib.hid (fun(w:World) (h:St w0 (bP b (.cells c T (0,0))::lu 75 3 v l.length (cz l)::L) w)=>oX b off c T (0,0) v l x.name w w0 L h hc ae hm)
 have HK:=Lib.hid (fun k (hk:JM l x.name k)=>kV hk)
 have HI:=Lib.hid hit
 have W0:bR l x.name<=l.length:=iN _ _
 have YT:=Lib.hid (fun(w:World) (bv:Nat) (L':List HP) (h:St w0 (lu 75 3 v l.length (cz l)::bP bv (.cells x.cells.toArray 75 (0,0))::L') w)=>SK w w0 L' v l x (bR l x.name) bv l.length rfl h W0 ae)
 have hv:∃a cap,v=.slice a l.length cap:=by
  rcases h.drop.cU with⟨hv,hz,_⟩|⟨g,cap,_,hv,_⟩
  ·exact⟨none,0,by rw[hv,hz]⟩
  ·exact⟨_,_,hv⟩
 obtain⟨sa,cap,rfl⟩:=hv
 have M3:=Lib.hid hc
 have IT:off<c.size:=(Array.getElem?_eq_some_iff.1 hc).1
 clear h h1 h2 hr oz hm hit hc
 obtain⟨nm,t,hs⟩:=x
 simp only[Nm.cells]at HC HS HF HK HI YT W0 ⊢
 generalize hK:bR l nm=k0 at *
 generalize hN:l.length=n at HF YT HS M3 W0 hl ⊢
 clear hK
 go_enter func170,ntmps170
 go_wp2_with fail
 refine(HC.out _).mono ?_
 rintro e w1 ⟨rfl,jG⟩
 have BN:=Lib.hid (HS.out.aE jG)
 have c0:=BN.out.cell (off:=0) rfl
 clear jG
 go_wp2_with fail
 refine(HF.out _ BN.out.drop).mono ?_
 rintro e w2 ⟨k,hk,rfl,jF⟩
 have yL:=Lib.hid (BN.out.aE jF)
 obtain rfl:=HK.out k hk
 rw[HI.out]
 clear jF c0 hk
 have c1:w2.cell? ⟨b,off,none⟩=some (.slice sa n cap):=yL.out.PW (.tail .head) M3.out
 have c2:dr w2 ⟨w.heap.size,0,none⟩ [.string nm,.string t,.int .i64 hs]:=yL.out.fu fun j u hj=>by simpa using hj
 go_wp2_with fail
 refine fe [.pure,.pure,.pure,.pure,.read,.pure,.read,.dm,.write,.pure,.pure,.write] [0,1,2,3,4,5,6,9,10,7,8,11] bH bH ?_
 simp only[aL,List.map_nil,item,List.getD_cons_zero,List.getD_cons_succ]
 repeat((with_reducible refine fT (v:=?_) (a':=?_) ?_ ?_ ?_ ?_);rotate_left 2;(rfl);((intro w';go_simp;(try(go_bits;(try go_simp);(try(go_bits;(try go_simp)))));((skip)))<;>rfl);(go_simp;rfl))
 refine yM (a':=?_) (v:=.slice sa n cap) (ad:=⟨b,off,none⟩) rfl rfl (fun _=>by simp) c1 ?_ ?_
 rotate_left 1
 ·go_simp;rfl
 repeat((with_reducible refine fT (v:=?_) (a':=?_) ?_ ?_ ?_ ?_);rotate_left 2;(rfl);((intro w';go_simp;(try(go_bits;(try go_simp);(try(go_bits;(try go_simp)))));((skip)))<;>rfl);(go_simp;rfl))
 refine JR (a':=?_) (cs:=[.string nm,.string t,.int .i64 hs]) (ad:=⟨w.heap.size,0,none⟩) rfl rfl (fun _=>by simp) (fun _=>by simp) c2 ?_ ?_
 rotate_left 1
 ·go_simp;rfl
 repeat((with_reducible refine fT (v:=?_) (a':=?_) ?_ ?_ ?_ ?_);rotate_left 2;(rfl);((intro w';go_simp;(try(go_bits;(try go_simp);(try(go_bits;(try go_simp)))));((skip)))<;>rfl);(go_simp;rfl))
 refine E0 (a':=?_) (v:=.slice (some ⟨w2.heap.size,0,none⟩) 1 1) (w':=(w2.alloc (.cells #[.string nm,.string t,.int .i64 hs] 75)).drew) rfl ?_ ?_ ?_ ?_
 rotate_left 1
 ·go_simp
 ·exact Ext.alloc w2 _
 ·go_simp;rfl
 have Mh:=yL.out.alloc (.cells #[.string nm,.string t,.int .i64 hs] 75)
 have hs4:St w0 (lu 75 3 (.slice sa n cap) n (cz l)::bP w2.heap.size (.cells [Value.string nm,Value.string t,Value.int .i64 hs].toArray 75 (0,0))::bP w.heap.size (.cells #[.string nm,.string t,.int .i64 hs] 75)::bP b (.cells c T (0,0))::L)
  (w2.alloc (.cells #[.string nm,.string t,.int .i64 hs] 75)).drew:=(Mh.pick (.tail (.tail (.tail .head)))).drew
 refine Bn rfl (f:=268) (args:=#[.slice sa n cap,.int .i64 k,.slice (some ⟨w2.heap.size,0,none⟩) 1 1]) (w':=(w2.alloc (.cells #[.string nm,.string t,.int .i64 hs] 75)).drew) ?_ (YT.out _ _ _ hs4) ?_
 ·go_simp
 rintro e w3 ⟨v',rfl,hs5⟩
 refine⟨v',rfl,?_⟩
 have rY:∃QU n' o5,v'=.slice QU n' o5:=by
  rcases hs5.cU with⟨hv,_⟩|⟨g,cap,_,hv,_⟩
  ·exact⟨_,_,_,hv⟩
  ·exact⟨_,_,_,hv⟩
 obtain⟨QU,n',o5,rfl⟩:=rY
 have hb6:St w0 (bP b (.cells c T (0,0))::lu 75 3 (.slice QU n' o5) (n+1) (cz (l.take k++⟨nm,t,hs⟩::l.drop k))::bP w.heap.size (.cells #[.string nm,.string t,.int .i64 hs] 75)::L) w3:=hs5.pick (.tail (.tail .head))
 have kt:=kW (P:=prog) (T:=86) (off:=off) (v:=.slice QU n' o5) hb6 (by simp[Value.cells]) (by simp[Value.cells];omega) (by simp[Value.cells];rfl)
 have hs7:=hb6.setRow (c':=(c.toList.take off++(Value.slice QU n' o5).cells.toList++c.toList.drop (off+(Value.slice QU n' o5).cells.toList.length)).toArray)
 have e7:(c.toList.take off++(Value.slice QU n' o5).cells.toList++c.toList.drop (off+(Value.slice QU n' o5).cells.toList.length)).toArray=c.setIfInBounds off (.slice QU n' o5):=Ic IT
 rw[e7]at kt hs7
 refine sA (a':=?_) (w':=w3.setRow b (c.setIfInBounds off (.slice QU n' o5))) rfl ?_ ?_ ?_
 rotate_left 1
 ·exact AA rfl rfl kt
 ·go_simp;rfl
 have HS7:=Lib.hid (hs7.pick (.tail (.tail .head))).drop
 clear Mh hs4 hs5 hb6 hs7 kt e7 c1 c2
 refine pz ?_
 go_wp2_with fail
 go_ret
 exact⟨rfl,_,HS7.out⟩
theorem RZ(b off:Nat)(c:Array Value)(T:TypeId)(v:Value)(l:List Nm)(x:Nm)(w w0:World)(L:List HP)(h:St w0 (bP b (.cells c T (0,0))::lu 75 3 v l.length (cz l)::L) w)(hc:c[off]? =some v)(h1:x.name.size<=maxLen)(h2:x.kr.size<=maxLen)(hm:Ev l x.name)(hl:l.length<=20):
 Calls prog 170 #[.pointer (some ⟨b,off,none⟩),.agg x.cells.toArray] w fun e w'=>e=.returned (cS 70 (cT l x))/\
  ∃v',St w0 (bP b (.cells (c.setIfInBounds off v') T (0,0))::lu 75 3 v' (ff l x).length (cz (ff l x))::L) w':=by
 cases hr:cy x with
 |false=>
  refine(RY b off c T v l x w w0 L h hr h1 h2).mono ?_
  rintro e w' ⟨rfl,hs⟩
  refine⟨by simp[cS,cT,hr],v,?_⟩
  rw[zx hc];simp only[ff,hr,if_true];exact hs
 |true=>
  cases hit:fy l x.name (bR l x.name)with
  |true=>
   refine(RV b off c T v l x w w0 L h hc hr h1 h2 hm ae hit).mono ?_
   rintro e w' ⟨rfl,hs⟩
   refine⟨by simp[cS,cT,hr,hit],v,?_⟩
   rw[zx hc];simp only[ff,hr,hit,if_true,Bool.true_eq_false,if_false,List.length_set];exact hs
  |false=>
   by_cases hf:20<=l.length
   ·refine(NQ b off c T v l x w w0 L h hc hr h1 h2 hm hf ae hit).mono ?_
    rintro e w' ⟨rfl,hs⟩
    refine⟨by simp[cS,cT,hr,hit,hf],v,?_⟩
    rw[zx hc];simp only[ff,hr,hit,hf,if_true,Bool.true_eq_false,Bool.false_eq_true,if_false];exact hs
   ·refine(RU b off c T v l x w w0 L h hc hr h1 h2 hm ae hit).mono ?_
    rintro e w' ⟨rfl,v',hs⟩
    refine⟨by simp[cS,cT,hr,hit,hf],v',?_⟩
    have hk:bR l x.name<=l.length:=iN _ _
    have e1:ff l x=l.take (bR l x.name)++x::l.drop (bR l x.name):=by simp[ff,hr,hit,hf]
    rw[e1,show(l.take (bR l x.name)++x::l.drop (bR l x.name)).length=l.length+1 by simp;omega]
    exact hs
theorem L1(b off:Nat)(c:Array Value)(T:TypeId)(v:Value)(l:List Nm)(s:ak)(w w0:World)(L:List HP)(h:St w0 (bP b (.cells c T (0,0))::lu 75 3 v l.length (cz l)::L) w)(hc:c[off]? =some v)(hm:Ev l s)(hl:l.length<1000000):
 Calls prog 57 #[.pointer (some ⟨b,off,none⟩),.string s] w fun e w'=>e=.returned (.bool (fq l s))/\Below w.heap.size w w':=by
 have HF:=Lib.hid (oX b off c T (0,0) v l s w w0 L h hc hl hm)
 have HK:=Lib.hid (fun k (hk:JM l s k)=>kV hk)
 have HS:=Lib.hid h
 have M3:=Lib.hid hc
 cases hit:fy l s (bR l s)with
 |false=>
  have HI:=Lib.hid hit
  have HE:=Lib.hid (show fq l s=false by simp[fq,Cg hit])
  clear h hm hit hc
  go_enter func57,ntmps57
  go_wp2_with fail
  refine HF.out.mono ?_
  rintro e w2 ⟨k,hk,rfl,jF⟩
  have Bk:=Lib.hid jF
  rw[HK.out k hk,HI.out]
  clear jF hk
  go_wp2_with fail
  go_ret
  exact⟨fV HE.out.symm,Bk.out⟩
 |true=>
  have dS:=wL hit
  have hv:∃g cap,v=.slice (some ⟨g,0,none⟩) l.length cap:=by
   rcases h.drop.cU with⟨hv,hz,_⟩|⟨g,cap,_,hv,_⟩
   ·omega
   ·exact⟨_,_,hv⟩
  obtain⟨g,cap,rfl⟩:=hv
  have HI:=Lib.hid hit
  have HE:=Lib.hid (show fq l s=jb (eB l (bR l s)).kr by simp[fq,Cf hit])
  have HN:=Lib.hid (show bR l s<l.length from dS)
  clear h hm hit hc
  generalize hN:l.length=n at HF dS hl
  generalize hK:bR l s=k0 at HI HE HN HK dS
  clear hK
  cases he:jb (eB l k0).kr with
  |false=>
   have I1:(eB l k0).kr.toList.isEmpty=false:=he
   have fQ:((eB l k0).kr.toList==[])=false:=by simpa[jb]using he
   have HE2:=Lib.hid he
   have HNN:=Lib.hid hN
   clear he hN
   go_enter func57,ntmps57
   go_wp2_with fail
   refine HF.out.mono ?_
   rintro e w2 ⟨k,hk,rfl,jF⟩
   have Bk:=Lib.hid jF
   have yL:=Lib.hid (HS.out.aE jF)
   obtain rfl:=HK.out k hk
   rw[HI.out]
   clear jF hk
   have c1:w2.cell? ⟨b,off,none⟩=some (.slice (some ⟨g,0,none⟩) n cap):=by rw[<-HNN.out];exact yL.out.cell M3.out
   obtain⟨d0,d1,d2⟩:=nf yL.out.drop HN.out
   go_wp2_with fail
   go_ret
   exact⟨fV (by rw[HE.out,HE2.out]),Bk.out⟩
  |true=>
   have I1:(eB l k0).kr.toList.isEmpty=true:=he
   have fQ:(eB l k0).kr.toList=[]:=by simpa[jb]using he
   have HE2:=Lib.hid he
   have HNN:=Lib.hid hN
   clear he hN
   go_enter func57,ntmps57
   go_wp2_with fail
   refine HF.out.mono ?_
   rintro e w2 ⟨k,hk,rfl,jF⟩
   have Bk:=Lib.hid jF
   have yL:=Lib.hid (HS.out.aE jF)
   obtain rfl:=HK.out k hk
   rw[HI.out]
   clear jF hk
   have c1:w2.cell? ⟨b,off,none⟩=some (.slice (some ⟨g,0,none⟩) n cap):=by rw[<-HNN.out];exact yL.out.cell M3.out
   obtain⟨d0,d1,d2⟩:=nf yL.out.drop HN.out
   go_wp2_with fail
   go_ret
   exact⟨fV (by rw[HE.out,HE2.out]),Bk.out⟩
def YN (l:List Nm) (s:ak) (w:World) (x i:Value) (wr:World):Prop:=
 ∃(k:Nat) (t:ak),k<=l.length+1/\x=.string t/\i=.int .i64 k/\gB l (l.length+1-k) t=gB l (l.length+1) s/\Below w.heap.size w wr
def qd (l:List Nm) (s:ak) (w:World) (e:Ending) (w':World):Prop:=
 e=.returned (.tuple #[.string (gB l (l.length+1) s).1,.int .i64 (gB l (l.length+1) s).2.1,cS 70 (gB l (l.length+1) s).2.2])/\Below w.heap.size w w'
theorem qd.mk{l:List Nm}{s:ak}{w w':World}{r:ak×Int×Int}(h:r=gB l (l.length+1) s)(hb:Below w.heap.size w w'){v:Value}(hv:v=cS 70 r.2.2):
 qd l s w (.returned (.tuple #[.string r.1,.int .i64 r.2.1,v])) w':=by
 subst hv;rw[h];exact⟨rfl,hb⟩
theorem Fe(b off:Nat)(c:Array Value)(T:TypeId)(v:Value)(l:List Nm)(s:ak)(w w0:World)(L:List HP)(h:St w0 (bP b (.cells c T (0,0))::lu 75 3 v l.length (cz l)::L) w)(hc:c[off]? =some v)(hm:∀s,Ev l s)(hl:l.length<1000000):
 Calls prog 144 #[.pointer (some ⟨b,off,none⟩),.string s] w (qd l s w):=by
 have hv:∃sa cap,v=.slice sa l.length cap/\(0<l.length->∃g,sa=some ⟨g,0,none⟩):=by
  rcases h.drop.cU with⟨hv,hz,_⟩|⟨g,cap,_,hv,_⟩
  ·exact⟨none,0,by rw[hv,hz],fun h=>by omega⟩
  ·exact⟨_,_,hv,fun _=>⟨g,rfl⟩⟩
 obtain⟨sa,cap,rfl,F6⟩:=hv
 have HF:=Lib.hid (fun(w:World) (t:ak) (h:St w0 (bP b (.cells c T (0,0))::lu 75 3 (.slice sa l.length cap) l.length (cz l)::L) w)=>oX b off c T (0,0) _ l t w w0 L h hc hl (hm t))
 have HS:=Lib.hid h
 have M3:=Lib.hid hc
 have HSA:=Lib.hid F6
 have c0:w.cell? ⟨b,off,none⟩=some (.slice sa l.length cap):=h.cell hc
 clear h hm hc F6
 obtain⟨n,hN⟩:∃n,l.length=n:=⟨_,rfl⟩
 rw[hN]at c0 hl
 have HN:=Lib.hid hN
 clear hN
 go_enter func144,ntmps144
 go_wp2_with fail
 clear c0
 go_loopw [1,16] (fun x i wr=>YN l s w x i wr) (fun _ i _=>(n+1-(intOf i).toNat))
 case atStart=>exact⟨0,s,by omega,rfl,rfl,rfl,Below.refl _ _⟩
 case round=>
  obtain⟨k,t,hk,rfl,rfl,hr,Mp⟩:=hrel
  rw[HN.out]at hk
  have HR:=Lib.hid hr
  have HB:=Lib.hid Mp
  have BN:=Lib.hid (HS.out.aE Mp)
  clear hr Mp
  by_cases dS:k<n+1
  ·obtain⟨m,hm⟩:∃m,n+1-k=m+1:=⟨n-k,by omega⟩
   have HM:=Lib.hid (show l.length+1-k=m+1 by rw[HN.out];exact hm)
   have HM2:=Lib.hid (show l.length+1-(k+1)=m by rw[HN.out];omega)
   clear hm
   cases hit:fy l t (bR l t)with
   |false=>
    have HI:=Lib.hid hit
    have HE:=Lib.hid (show(⟨#[]⟩,0,7)=gB l (l.length+1) s by rw[<-HR.out,HM.out,gB,Cg hit])
    clear hit
    go_wp2_with fail
    refine(HF.out _ _ BN.out).mono ?_
    rintro e w2 ⟨k',r4,rfl,jF⟩
    have Bk:=Lib.hid (HB.out.trans (jF.mono HB.out.size))
    rw[kV r4,HI.out]
    clear jF r4
    go_wp2_with fail
    go_ret3
    exact qd.mk HE.out Bk.out rfl
   |true=>
    have Bu:=wL hit
    obtain⟨g,rfl⟩:=HSA.out ae
    have HI:=Lib.hid hit
    have HL:=Lib.hid (Cf hit)
    have HLT:=Lib.hid Bu
    have akj:bR l t<n:=by rw[<-HN.out];exact Bu
    clear hit Bu
    cases he:jb (eB l (bR l t)).kr with
    |true=>
     have HE:=Lib.hid (show(t,-1,0)=gB l (l.length+1) s by rw[<-HR.out,HM.out,gB,HL.out];simp only[he,if_true])
     have I1:(eB l (bR l t)).kr.toList.isEmpty=true:=he
     have fQ:(eB l (bR l t)).kr.toList=[]:=by simpa[jb]using he
     clear he
     generalize hK:bR l t=k0 at *
     have HK:=Lib.hid hK
     clear hK
     go_wp2_with fail
     refine(HF.out _ _ BN.out).mono ?_
     rintro e w2 ⟨k',r4,rfl,jF⟩
     have Bk:=Lib.hid (HB.out.trans (jF.mono HB.out.size))
     have yL:=Lib.hid (BN.out.aE jF)
     rw[kV r4,HK.out,HI.out]
     clear jF r4
     have c1:w2.cell? ⟨b,off,none⟩=some (.slice (some ⟨g,0,none⟩) n cap):=by rw[<-HN.out];exact yL.out.cell M3.out
     obtain⟨d0,d1,d2⟩:=nf yL.out.drop HLT.out
     go_wp2_with fail
     go_ret3
     exact qd.mk HE.out (Bk.out.alloc Bk.out.size _) rfl
    |false=>
     have I1:(eB l (bR l t)).kr.toList.isEmpty=false:=he
     have fQ:((eB l (bR l t)).kr.toList==[])=false:=by simpa[jb]using he
     by_cases hh:0<=(eB l (bR l t)).cq
     ·have HE:=Lib.hid (show((eB l (bR l t)).kr,(eB l (bR l t)).cq,0)=gB l (l.length+1) s by rw[<-HR.out,HM.out,gB,HL.out];simp only[he,hh,if_true,Bool.false_eq_true,if_false])
      have hd:decide (0<=(eB l (bR l t)).cq)=true:=by simpa using hh
      clear he hh
      generalize hK:bR l t=k0 at *
      have HK:=Lib.hid hK
      clear hK
      go_wp2_with fail
      refine(HF.out _ _ BN.out).mono ?_
      rintro e w2 ⟨k',r4,rfl,jF⟩
      have Bk:=Lib.hid (HB.out.trans (jF.mono HB.out.size))
      have yL:=Lib.hid (BN.out.aE jF)
      rw[kV r4,HK.out,HI.out]
      clear jF r4
      have c1:w2.cell? ⟨b,off,none⟩=some (.slice (some ⟨g,0,none⟩) n cap):=by rw[<-HN.out];exact yL.out.cell M3.out
      obtain⟨d0,d1,d2⟩:=nf yL.out.drop HLT.out
      go_wp2_with fail
      refine fe [.pure,.read,.pure,.read,.pure,.pure,.pure] [0,1,2,3,4,5,6] bH bH ?_
      simp only[aL,List.map_nil,item,List.getD_cons_zero,List.getD_cons_succ]
      repeat((with_reducible refine fT (v:=?_) (a':=?_) ?_ ?_ ?_ ?_);rotate_left 2;(rfl);((intro w';go_simp;(try(go_bits;(try go_simp);(try(go_bits;(try go_simp)))));((skip)))<;>rfl);(go_simp;rfl))
      refine yM (a':=?_) (v:=.string (eB l k0).kr) (ad:=⟨w2.heap.size,1,none⟩) rfl rfl (fun _=>by simp) aj ?_ ?_
      rotate_left 1
      ·go_simp;rfl
      repeat((with_reducible refine fT (v:=?_) (a':=?_) ?_ ?_ ?_ ?_);rotate_left 2;(rfl);((intro w';go_simp;(try(go_bits;(try go_simp);(try(go_bits;(try go_simp)))));((skip)))<;>rfl);(go_simp;rfl))
      refine yM (a':=?_) (v:=.int .i64 (eB l k0).cq) (ad:=⟨w2.heap.size,2,none⟩) rfl rfl (fun _=>by simp) aj ?_ ?_
      rotate_left 1
      ·go_simp;rfl
      repeat((with_reducible refine fT (v:=?_) (a':=?_) ?_ ?_ ?_ ?_);rotate_left 2;(rfl);((intro w';go_simp;(try(go_bits;(try go_simp);(try(go_bits;(try go_simp)))));((skip)))<;>rfl);(go_simp;rfl))
      refine pz ?_
      go_wp2_with fail
      go_ret3
      exact qd.mk HE.out (Bk.out.alloc Bk.out.size _).drew rfl
     ·have HE:=Lib.hid (show gB l m (eB l (bR l t)).kr=gB l (l.length+1) s by rw[<-HR.out,HM.out,gB,HL.out];simp only[he,hh,Bool.false_eq_true,if_false])
      have hd:decide (0<=(eB l (bR l t)).cq)=false:=by simpa using hh
      clear he hh
      generalize hK:bR l t=k0 at *
      have HK:=Lib.hid hK
      clear hK
      go_wp2_with fail
      refine(HF.out _ _ BN.out).mono ?_
      rintro e w2 ⟨k',r4,rfl,jF⟩
      have Bk:=Lib.hid (HB.out.trans (jF.mono HB.out.size))
      have yL:=Lib.hid (BN.out.aE jF)
      rw[kV r4,HK.out,HI.out]
      clear jF r4
      have c1:w2.cell? ⟨b,off,none⟩=some (.slice (some ⟨g,0,none⟩) n cap):=by rw[<-HN.out];exact yL.out.cell M3.out
      obtain⟨d0,d1,d2⟩:=nf yL.out.drop HLT.out
      go_wp2_with fail
      go_roundw
      case rel=>exact⟨k+1,(eB l k0).kr,by rw[HN.out];omega,rfl,by go_num,by rw[HM2.out];exact HE.out,Bk.out.alloc Bk.out.size _⟩
      case measure=>simp[intOf];omega
  ·obtain rfl:k=n+1:=by omega
   have HE:=Lib.hid (show(⟨#[]⟩,0,11)=gB l (l.length+1) s by rw[<-HR.out,HN.out,Nat.sub_self];rfl)
   go_wp2_with fail
   go_ret3
   exact qd.mk HE.out HB.out rfl
abbrev lQ (v:Value) (l:List Nm):HP:=SL 75 3 Nm.cells v l
theorem Dt:(prog.info? 75).map (fun i=>(i.zero,i.size,i.bytes))=some (some (Value.agg #[.string ⟨#[]⟩,.string ⟨#[]⟩,.int .i64 0]),3,40):=by kernel_rfl
theorem Oe(x:Nm):x.cells.all Value.oneCell'=true:=rfl
section
variable (w0:World) (L R R2:List HP) (b off:Nat) (cs:List Value) (T:TypeId) (v:Value) (l:List Nm) (s:ak) (x:Nm)
theorem XB(hp:bQ L (bP b (.cells cs.toArray T (0,0))) R)(hq:bQ R (lQ v l) R2)(hc:cs[off]? =some v)(hl:l.length<1000000)(hs:en l):
 KE prog 148 #[.pointer (some ⟨b,off,none⟩),.string s] w0 L (fun u M=>u=.tuple #[.int .i64 (bR l s:Nat),.bool (fy l s (bR l s))]/\M=L):=fun w hw=>
 (oX b off cs.toArray T (0,0) v l s w w0 R2 (hw.gk hp hq) ZK hl (hs.mono s)).mono fun e w' ⟨k,hk,he,hb⟩=>by
  obtain rfl:=kV hk
  exact⟨_,_,he,⟨rfl,rfl⟩,hw.aE hb,hb⟩
theorem uO(hp:bQ L (bP b (.cells cs.toArray T (0,0))) R)(hq:bQ R (lQ v l) R2)(hc:cs[off]? =some v)(hl:l.length<1000000)(hs:en l):
 KE prog 57 #[.pointer (some ⟨b,off,none⟩),.string s] w0 L (fun u M=>u=.bool (fq l s)/\M=L):=fun w hw=>
 (L1 b off cs.toArray T v l s w w0 R2 (hw.gk hp hq) ZK (hs.mono s) hl).mono fun e w' ⟨he,hb⟩=>⟨_,_,he,⟨rfl,rfl⟩,hw.aE hb,hb⟩
theorem LB(hp:bQ L (bP b (.cells cs.toArray T (0,0))) R)(hq:bQ R (lQ v l) R2)(hc:cs[off]? =some v)(hl:l.length<1000000)(hs:en l):
 KE prog 144 #[.pointer (some ⟨b,off,none⟩),.string s] w0 L (fun u M=>u=.tuple #[.string (gB l (l.length+1) s).1,.int .i64 (gB l (l.length+1) s).2.1,cS 70 (gB l (l.length+1) s).2.2]/\M=L):=fun w hw=>
 (Fe b off cs.toArray T v l s w w0 R2 (hw.gk hp hq) ZK hs.mono hl).mono fun e w' ⟨he,hb⟩=>⟨_,_,he,⟨rfl,rfl⟩,hw.aE hb,hb⟩
theorem Is(hp:bQ L (bP b (.cells cs.toArray T (0,0))) R)(hq:bQ R (lQ v l) R2)(hc:cs[off]? =some v)(h1:x.name.size<=maxLen)(h2:x.kr.size<=maxLen)(hl:l.length<=20)(hs:en l):
 KC prog 170 #[.pointer (some ⟨b,off,none⟩),.agg x.cells.toArray] w0 L (fun u M=>u=cS 70 (cT l x)/\∃v',M=bP b (.cells (cs.set off v').toArray T (0,0))::lQ v' (ff l x)::R2):=fun w hw=>
 (RZ b off cs.toArray T v l x w w0 R2 (hw.gk hp hq) ZK h1 h2 (hs.mono _) hl).mono fun e w' ⟨he,v',aX⟩=>⟨_,_,he,⟨rfl,v',rfl⟩,by
  rw[List.setIfInBounds_toArray]at aX;exact aX⟩
end
theorem Sq(w0:World)(L:List HP)(v:Value)(xs:List Nm)(k:Nat)(hk:k<xs.length)(hn:xs.length<1000000):
 KC prog 338 #[v,.int .i64 (k:Nat),.int .i64 ((k:Int)+1)] w0 (lQ v xs::L) (fun v' L'=>L'=lQ v' (xs.eraseIdx k)::L):=by
 refine KC.pre (fun w hw=>sd hw hk) ?_
 rintro⟨g,cap,rfl⟩
 refine KC.pre (fun w hw=>(gF hw).2.1) fun xX=>?_
 refine KC.mk (n:=33) func338 rfl ntmps338 aj ?_
 refine qE ?_
 refine qG ?_
 refine KO.len rfl underlying86 rfl ?_
 refine KO.Jh (lo:=k) (hi:=k+1) (mx:=xs.length) rfl rfl rfl rfl underlying86 sizeOf75 rfl ae rfl ae ae ae rfl (fun q13=>?_)
 refine Z0 ?_
 refine ji ?_
 refine tJ ?_
 refine K.dp rfl ga ?_
 refine xv ?_
 refine KO.len rfl underlying86 rfl ?_
 refine YB ?_
 refine nB ?_
 refine KO.CS rfl rfl underlying86 sizeOf75 aQ ae rfl ?_
 refine nB ?_
 refine KO.cutFrom (lo:=k+1) rfl rfl underlying86 sizeOf75 ae ae ae rfl ?_
 refine KO.move (j:=k+1) rfl rfl rfl bQ.head rfl xX underlying86 Dt (fun _=>rfl) Oe ae ae rfl ?_
 refine mS ?_
 refine Z1 ?_
 refine KO.len rfl underlying86 rfl ?_
 refine Z1 ?_
 refine KO.Jg (lo:=k+(xs.length-(k+1))) (hi:=xs.length) rfl rfl rfl underlying86 sizeOf75 rfl rfl ae ae rfl ?_
 refine KO.clear rfl rfl bQ.head xX ga ga underlying86 Dt (fun _=>rfl) rfl rfl ?_
 refine G4 ?_
 refine jH ?_
 refine KQ.bG rfl rfl (fun w' hs=>⟨_,_,rfl,rfl,?_⟩)
 have e:(List.take (k+(xs.length-(k+1))) (List.take k xs++List.drop (k+1) xs++List.drop (k+(xs.length-(k+1))) xs))=xs.eraseIdx k:=by
  rw[List.take_append_of_le_length ga,List.take_of_length_le ga,List.eraseIdx_eq_take_drop_succ]
 rw[e]at hs
 exact hs
theorem Ss(w0:World)(L R R2:List HP)(b off:Nat)(cs:List Value)(T:TypeId)(v:Value)(l:List Nm)(s:ak)(hp:bQ L (bP b (.cells cs.toArray T (0,0))) R)(hq:bQ R (lQ v l) R2)(hc:cs[off]? =some v)(hl:l.length<1000000)(hs:en l):
 KC prog 237 #[.pointer (some ⟨b,off,none⟩),.string s] w0 L (fun u M=>u=cS 70 (r6 l s)/\∃v',M=bP b (.cells (cs.set off v').toArray T (0,0))::lQ v' (j_ l s)::R2):=by
 refine KC.perm (L':=bP b (.cells cs.toArray T (0,0))::lQ v l::R2) (fun w hw=>hw.gk hp hq) ?_
 have IT:=(au.1 hc).1
 refine KC.mk (n:=27) func237 rfl ntmps237 aj ?_
 refine Jx ?_
 refine KO.ce (cp:=[]) rfl rfl rfl call148 rfl (XB w0 _ _ _ b off cs T v l s .head .head hc hl hs) ?_;rintro v' L' ⟨rfl,rfl⟩
 refine ky ?_
 refine qp ?_
 refine Z2 ?_
 cases hh:fy l s (bR l s)with
 |false=>
  have e1:r6 l s=7:=by unfold r6;rw[hh];rfl
  have e2:j_ l s=l:=by unfold j_;rw[hh];rfl
  refine xo ?_
  refine tH ?_
  refine KQ.bG rfl rfl (fun w' hs=>⟨_,_,rfl,⟨?_,v,rfl⟩,?_⟩)
  ·rw[e1];rfl
  ·rw[e2,List.ig hc];exact hs
 |true=>
  have e1:r6 l s=0:=by unfold r6;rw[hh];rfl
  have e2:j_ l s=l.eraseIdx (bR l s):=by unfold j_;rw[hh];rfl
  have hk:=wL hh
  refine yA ?_
  refine Z6 ?_
  refine o8 ?_
  refine Yf ?_
  refine KO.dB (i:=off) rfl rfl isAgg86 .head rfl hc rfl ?_
  refine nB ?_
  refine vP ?_
  refine KO.cl (cp:=[]) rfl rfl rfl call338 rfl (KC.qv (.tail .head) (Sq w0 _ v l (bR l s) hk hl)) ?_;rintro v' L' rfl;refine KO.fact (fun _ hs=>aY hs) ?_;rintro⟨a',c',rfl,-⟩
  refine lJ ?_
  refine Yf ?_
  refine KO.gT (i:=off) rfl rfl rfl aQ (by exact sizeOf86) rfl (.tail .head) rfl IT ?_
  refine rE ?_
  refine KQ.bG rfl rfl (fun w' hs=>⟨_,_,rfl,⟨?_,.slice a' (l.eraseIdx (bR l s)).length c',rfl⟩,?_⟩)
  ·rw[e1];rfl
  ·rw[e2];exact hs
theorem LR(w0:World)(L:List HP)(v:Value)(xs:List Nm)(hs:∀w,St w0 L w->Src w Nm.cells v xs)(hn:xs.length<1000000):
 KE prog 266 #[v] w0 L (fun u M=>M=lQ u xs::L):=by
 refine KE.mk (n:=8) func266 rfl ntmps266 aj ?_
 intro w hw
 obtain⟨a,cap,rfl,hn0,hc⟩:=hs w hw
 refine A3 ?_
 cases a with
 |none=>
  obtain rfl:=hn0 rfl
  refine Z8 ?_
  refine KO.ab3 rfl underlying86 rfl ?_
  refine BA ?_
  refine A_ ?_
  refine KQ.bG rfl rfl (fun w' hs=>⟨_,_,rfl,rfl,cM (hw.aE hs.below),hs.below⟩)
 |some ad=>
  refine Z8 ?_
  refine KO.ab3 rfl underlying86 rfl ?_
  refine BL ?_
  refine dR ?_
  refine KO.bs0 Nm.cells rfl underlying86 sizeOf75 rfl ?_;intro b5
  refine Z1 ?_
  refine KO.T3 (z:=Value.agg #[.string ⟨#[]⟩,.string ⟨#[]⟩,.int .i64 0]) (sz:=3) (dP:=40) (ys:=xs) rfl rfl rfl .head (fun w' hs=>Src.ext ⟨some ad,cap,rfl,hn0,hc⟩ (Ext.ct hs.below)) underlying86 Dt rfl (fun _=>rfl) Oe ga ai rfl ?_;intro v'
  refine jH ?_
  refine KQ.bG rfl rfl (fun w' hs=>⟨_,_,rfl,rfl,?_,hs.below⟩)
  rw[List.nil_append]at hs
  exact hw.stack (M:=[lQ v' xs]) hs
theorem Wa(w0:World)(L R R2:List HP)(b off:Nat)(cs:List Value)(T:TypeId)(v:Value)(l:List Nm)(hp:bQ L (bP b (.cells cs.toArray T (0,0))) R)(hq:bQ R (lQ v l) R2)(hc:cs[off]? =some v)(hl:l.length<1000000):
 KE prog 169 #[.pointer (some ⟨b,off,none⟩)] w0 L (fun u M=>M=lQ u l::L):=by
 refine KE.mk (n:=8) func169 rfl ntmps169 aj ?_
 intro w hw
 have iX:w.cell? ⟨b,off,none⟩=some v:=by rw[World.cell?,(hw.qh hp).2];simpa using hc
 have WG:=Src.of hq w (hw.pick hp).drop
 refine qE ?_
 refine lJ ?_
 refine Yf ?_
 refine KO.sE rfl rfl isAgg86 iX rfl ?_
 refine KO.ce (cp:=[]) rfl rfl rfl call266 rfl (LR w _ v l (fun w' hs=>WG.ext (Ext.ct hs.below)) hl) ?_;rintro v' L' rfl
 refine jH ?_
 refine KQ.bG rfl rfl (fun w' hs=>⟨_,_,rfl,rfl,hw.stack (M:=[lQ _ l]) hs,hs.below⟩)
end Go.Proofs.YtjhogocabcdjbabGreatDoor
namespace WB
open Go Go.RowKit
theorem jh{c:UInt8}{a:ak}(ha:qx c a)(r:ak):dE c (a++cv c++r)=a::dE c r:=by
 unfold dE cv
 rw[show(a++⟨#[c]⟩++r).data.toList=a.data.toList++c::r.data.toList by simp,pP _ ha]
 rfl
theorem lq{c:UInt8}{a:ak}(ha:qx c a):dE c a=[a]:=by
 unfold dE
 rw[nX ha]
 rfl
theorem Sg{c:UInt8}{s p:ak}(h:p∈dE c s):qx c p:=by
 unfold dE at h
 obtain⟨q,hq,rfl⟩:=ay.1 h
 exact fun b hb=>pO c _ q hq b (by rw[GN]at hb;exact hb)
theorem fX{c:UInt8}(n:Int)(h:c.toNat≠45/\(c.toNat<48\/57<c.toNat)):qx c (b_ n):=fun b hb e=>by
 subst e
 have :=Ac b hb
 omega
theorem rr(n:Int):qx 124 (b_ n):=fX n ai
theorem zB(k:Int)(s:ak):eb k s=b_ k++cv 124++(s++cv 124++b_ (yd (jP k s))):=by
 unfold eb
 rw[show jP k s=b_ k++cv 124++s from rfl]
 simp only[ByteArray.append_assoc]
theorem s9{k:Int}{s:ak}(h:qx 124 s):gX k (eb k s)=some s:=by
 unfold gX
 have :dE 124 (eb k s)=[b_ k,s,b_ (yd (jP k s))]:=by
  rw[zB,jh (rr k),jh h,lq (rr _)]
 rw[this]
 simp
theorem Ip{k:Int}{t w:ak}(h:gX k t=some w):eb k w=t/\qx 124 w:=by
 unfold gX at h
 split at h
 ·rename_i a b c e
  split at h
  ·rename_i e2
   simp only[az]at h
   subst h
   exact⟨e2,Sg (s:=t) (by rw[e];simp)⟩
  ·cases h
 ·cases h
theorem zR{k:Int}{s:ak}{i:Nat}(h:qx 124 s)(hi:i<(eb k s).size):gX k ((eb k s).extract 0 i)=none:=by
 cases ho:gX k ((eb k s).extract 0 i)with
 |none=>rfl
 |some w=>
  obtain⟨h1,h2⟩:=Ip ho
  have e1:eb k s=eb k w++(eb k s).extract i (eb k s).size:=by
   rw[h1]
   generalize eb k s=u at hi
   rw[ByteArray.extract_append_extract,Nat.min_eq_left (aV _),Nat.max_eq_right ae,ByteArray.extract_zero_size]
  have p1:dE 124 (eb k s)=[b_ k,s,b_ (yd (jP k s))]:=by
   rw[zB,jh (rr k),jh h,lq (rr _)]
  have p2:∃r,dE 124 (eb k s)=b_ k::w::r:=by
   rw[e1,zB k w]
   rw[show b_ k++cv 124++(w++cv 124++b_ (yd (jP k w)))++(eb k s).extract i (eb k s).size=b_ k++cv 124++(w++cv 124++(b_ (yd (jP k w))++(eb k s).extract i (eb k s).size))by simp only[ByteArray.append_assoc]]
   exact⟨_,by rw[jh (rr k),jh h2]⟩
  obtain⟨r,p2⟩:=p2
  rw[p1]at p2
  simp only[List.cons.injEq,true_and]at p2
  have hw:w=s:=p2.1.symm
  subst hw
  have :=congrArg ByteArray.size h1
  simp at this
  omega
theorem LN(k:Int):gX k ⟨#[]⟩=none:=by
 unfold gX
 rw[show dE 124 ⟨#[]⟩=[⟨#[]⟩]from lq (fun b hb=>by simp at hb)]
theorem sS(k:Int)(s:ak):0<(eb k s).size:=by
 have h1:(cv 124).size=1:=rfl
 unfold eb
 simp only[aU];omega
theorem uy{k:Int}{s:ak}(hk:oR k)(hs:s.size<=700000):(eb k s).size<=700100:=by
 have h1:(cv 124).size=1:=rfl
 have h2:=zt (jP k s)
 have h3:=cH (n:=yd (jP k s)) ⟨by omega,by omega⟩
 have h4:=cH hk
 have h5:(jP k s).size<=700022:=by unfold jP;simp only[aU];omega
 unfold eb
 simp only[aU];omega
theorem FX{c:UInt8}(r:List UInt8):∀{l:List UInt8},(∀b∈l,b≠c)->Lib.indexByte (l++c::r) c=(l.length:Nat)
 |[],_=>by simp[Lib.indexByte]
 |b::l,h=>by
  rw[bF]
  unfold Lib.indexByte
  rw[FX r fun x hx=>h x yK]
  simp[h b aj]
theorem cutB_hit{c:UInt8}{a:ak}(ha:qx c a)(r:ak):di c (a++cv c++r)=(a,r,true):=by
 have e:Lib.cut (a++cv c++r).data.toList [c]=(a.data.toList,r.data.toList,true):=by
  unfold Lib.cut cv
  rw[Lib.index_one,show(a++⟨#[c]⟩++r).data.toList=a.data.toList++c::r.data.toList by simp,FX _ ha,if_pos ae]
  rw[aA,List.take_left,List.length_singleton,<-List.drop_drop,List.drop_left]
  rfl
 unfold di
 rw[e]
 rfl
def cr {α β:Type} (f:α->β->HP) (ps:List α) (xs:List β):HP:=ij (List.zipWith f ps xs)
section
variable {α β:Type} {f:α->β->HP} {w0 w:World} {L:List HP} {ps:List α} {xs:List β} {p:α} {x:β} {i:Nat}
theorem uC{A:HP}:∀(l r:List HP),bQ (l++A::r) A (l++r)
 |[],_=>.head
 |_::l,r=>.tail (uC l r)
theorem GJ(h:St w0 (cr f ps xs::L) w):St w0 (List.zipWith f ps xs++L) w:=h.splits
theorem wV(h:St w0 (List.zipWith f ps xs++L) w):St w0 (cr f ps xs::L) w:=h.FM
theorem BO(hp:ps[i]? =some p)(hx:xs[i]? =some x):List.zipWith f ps xs=List.zipWith f (ps.take i) (xs.take i)++f p x::List.zipWith f (ps.drop (i+1)) (xs.drop (i+1)):=by
 obtain⟨h1,rfl⟩:=au.1 hp
 obtain⟨h2,rfl⟩:=au.1 hx
 have e1:ps=ps.take i++ps[i]::ps.drop (i+1):=by rw[<-List.drop_eq_getElem_cons h1,List.take_append_drop]
 have e2:xs=xs.take i++xs[i]::xs.drop (i+1):=by rw[<-List.drop_eq_getElem_cons h2,List.take_append_drop]
 conv=>lhs;rw[e1,e2]
 rw[List.zipWith_append ga]
 rfl
theorem BP(hp:i<ps.length)(hx:i<xs.length):List.zipWith f (ps.eraseIdx i) (xs.eraseIdx i)=List.zipWith f (ps.take i) (xs.take i)++List.zipWith f (ps.drop (i+1)) (xs.drop (i+1)):=by
 rw[List.eraseIdx_eq_take_drop_succ,List.eraseIdx_eq_take_drop_succ,List.zipWith_append ga]
theorem dD(hp:ps[i]? =some p)(hx:xs[i]? =some x)(h:St w0 (cr f ps xs::L) w):St w0 (f p x::cr f (ps.eraseIdx i) (xs.eraseIdx i)::L) w:=by
 have h1:=GJ h
 rw[BO hp hx,aH,bF]at h1
 have h2:=h1.pick (uC _ _)
 rw[<-aH,<-BP (au.1 hp).1 (au.1 hx).1]at h2
 exact h2.jW fun _ hh=>gL (fun _ h=>h) (fun _ h=>dU.1 h) hh
theorem ja(hp:i<ps.length)(hx:i<xs.length)(h:St w0 (f p x::cr f (ps.eraseIdx i) (xs.eraseIdx i)::L) w):St w0 (cr f (ps.set i p) (xs.set i x)::L) w:=by
 have h1:St w0 (f p x::(List.zipWith f (ps.eraseIdx i) (xs.eraseIdx i)++L)) w:=h.jW fun _ hh=>gL (fun _ h=>h) (fun _ h=>dU.2 h) hh
 refine wV ?_
 rw[BO (p:=p) (x:=x) (i:=i) (by rw[List.getElem?_set_self hp]) (by rw[List.getElem?_set_self hx]),aH,bF]
 refine St.zl ?_ (uC _ _)
 rw[<-aH]
 rw[BP hp hx]at h1
 simpa[List.take_set_of_le,List.drop_set_of_lt]using h1
theorem y4(hp:ps[i]? =some p)(hx:i<xs.length)(h:St w0 (f p x::cr f (ps.eraseIdx i) (xs.eraseIdx i)::L) w):St w0 (cr f ps (xs.set i x)::L) w:=by
 have h1:=ja (au.1 hp).1 hx h
 have e:ps.set i p=ps:=by obtain⟨h2,rfl⟩:=au.1 hp;exact List.set_getElem_self h2
 rwa [e]at h1
theorem j0(hp:ps[i]? =some p)(hx:xs[i]? =some x)(h:St w0 (f p x::cr f (ps.eraseIdx i) (xs.eraseIdx i)::L) w):St w0 (cr f ps xs::L) w:=by
 have h1:=y4 hp (au.1 hx).1 h
 have e:xs.set i x=xs:=by obtain⟨h2,rfl⟩:=au.1 hx;exact List.set_getElem_self h2
 rwa [e]at h1
theorem Az(hl:ps.length=xs.length)(h:St w0 (f p x::cr f ps xs::L) w):St w0 (cr f (ps++[p]) (xs++[x])::L) w:=by
 have h1:St w0 (f p x::(List.zipWith f ps xs++L)) w:=h.jW fun _ hh=>gL (fun _ h=>h) (fun _ h=>dU.2 h) hh
 refine wV ?_
 rw[List.zipWith_append hl,aH]
 exact St.zl h1 (uC _ _)
theorem TH(h:St w0 L w):St w0 (cr f [] []::L) w:=h.ab4
end
structure pg where
 aM:List (Ms×Int)
 bu:List (Int×ak)
instance:Inhabited pg:=⟨⟨[],[]⟩⟩
structure Ho where
 id:Int
 used:Nat
 down:Bool
 dz:Int
 next:Int
 names:List Nm
 aI:List (ak×Qu)
 ways:List Qu
 aB:List pg
 batch:List (List Int)
 bW:List Int
 aK:List Int
namespace Ho
abbrev all (H:Ho):List Qu:=H.ways++H.aI.map (·.2)
def qI (H:Ho) (s:ak):Option Nat:=H.aI.findIdx? fun x=>decide (x.1=s)
def ec (H:Ho) (i:Nat):Qu:=(H.aI.getD i (⟨#[]⟩,default)).2
def fB (H:Ho) (i:Nat) (q:Qu):Ho:={H with aI:=H.aI.set i ((H.aI.getD i (⟨#[]⟩,default)).1,q)}
def dy (H:Ho) (j:Nat):Qu:=H.ways.getD j default
def gK (H:Ho) (j:Nat) (q:Qu):Ho:={H with ways:=H.ways.set j q}
def eP (H:Ho) (u:Nat):pg:=H.aB.getD u default
end Ho
structure HoX (n:Nat) (b:List (List Int)) (s a:List Int):Prop where
 Vu:∀l∈b,l.length<=100000
 VQ:∀x∈s,0<=x/\x<=(n:Int)
 arr:∀x∈a,0<=x/\x<=(n:Int)
theorem HoX.le{n k:Nat}{b:List (List Int)}{s a:List Int}(h:HoX n b s a)(hk:n<=k):HoX k b s a:=⟨h.Vu,fun x hx=>by have :=h.VQ x hx;omega,fun x hx=>by have :=h.arr x hx;omega⟩
structure cK (n:Nat) (H:Ho):Prop where
 id:0<=H.id/\H.id<4
 used:H.used<=300
 next:0<=H.next/\H.next<=274877906945
 sorted:en H.names
 oq:H.names.length<=20
 oL:H.aI.length<=n
 qs:∀q∈H.all,QB n q
 nodup:(H.aI.map (·.1)).Nodup
 ways:H.ways.length=4
 aB:H.aB.length=5
 batch:H.batch.length=4
 bW:H.bW.length=4
 aK:H.aK.length=4
 right:∀x∈H.names,cy x=true
 loc:∀x∈H.names,x.kr=⟨#[]⟩->∃i,H.qI x.name=some i
 ext:HoX n H.batch H.bW H.aK
def fU (H:Ho):Int:=if H.down=true then 6 else if 300<=H.used then 4 else 0
def c7 (H:Ho) (D:Dk):Int:=if fU H≠0 then fU H else lX D
def dc (H:Ho) (D:Dk):Ho:=if fU H≠0 then H else if lX D≠0 then {H with down:=true}else {H with used:=H.used+1}
def gU (H:Ho) (D:Dk) (s:ak):Dk:=if fU H≠0 then D else ew D H.used (eb H.used s) H.dz
def jq (H:Ho) (x:Nm):Ho:=
 if cT H.names x=0 then {H with names:=ff H.names x,aI:=if x.kr=⟨#[]⟩/\H.qI x.name=none then H.aI++[(x.name,⟨[],0⟩)]else H.aI}else H
def F5 (H:Ho) (x:Nm):Int:=cT H.names x
def uY (H:Ho) (s:ak):Ho:={H with names:=j_ H.names s}
def An (H:Ho) (s:ak):Int:=r6 H.names s
def fM (H:Ho) (m:Ms):Option Ho:=
 let H1:={H with next:=max H.next (m.id/4+1)}
 if m.cq≠H.id then some (H1.gK m.cq.toNat (db (H.dy m.cq.toNat) m (-1)))else match H.qI m.queue with
  |none=>none
  |some i=>some (H1.fB i (db (H.ec i) m (-1)))
def ef:Ho->List Ms->Ho×Bool
 |H,[]=>(H,true)
 |H,m::r=>match fM H m with
  |some H1=>ef H1 r
  |none=>({H with next:=max H.next (m.id/4+1)},false)
def iA (H:Ho) (s:ak):Option Ho:=match eW (di 32 s).1 with
 |none=>none
 |some n=>match H.qI (di 32 s).2.1 with
  |none=>none
  |some i=>if mW (H.ec i) n=0 then some (H.fB i (eA (H.ec i) n))else none
def iz:Ho->List ak->Ho×Bool
 |H,[]=>(H,true)
 |H,s::r=>match iA H s with
  |some H1=>iz H1 r
  |none=>(H,false)
def eZ (H:Ho) (s:ak):Ho×Bool:=
 if(di 47 s).2.2=false then(H,false)else match td (di 47 s).1 with
 |none=>(H,false)
 |some l=>
  if(ef H l).2=false then(ef H l).1|>fun H1=>(H1,false)else
  if(di 47 s).2.1=⟨#[]⟩then((ef H l).1,true)else iz (ef H l).1 (dE 43 (di 47 s).2.1)
def dash (s:ak):ak:=toB (Lib.trimPrefix s.data.toList [45])
def tr (s:ak):Option Nm:=match dE 32 s with
 |[a,b,c]=>(eW c).map fun k=>⟨a,dash b,k⟩
 |_=>none
def qi (s:ak):Option (List Int):=(dE 32 s).mapM eW
def cj (H:Ho) (k:Int):Bool:=decide (0<=k/\k<4/\k≠H.id)
def bm (H:Ho) (j:Nat):List Int:=H.batch.getD j []
def bD (H:Ho) (j:Nat):Int:=H.bW.getD j 0
def bY (H:Ho) (j:Nat):Int:=H.aK.getD j 0
def iy (H:Ho) (s:ak):Ho×Bool:=match qi s with
 |some (k::a::r)=>if cj H k=true then({H with batch:=H.batch.set k.toNat (a::r),bW:=H.bW.set k.toNat (bD H k.toNat+1)},true)else(H,false)
 |_=>(H,false)
def cN (q:Qu) (l:List Int):Qu:=l.foldl eA q
def ft (H:Ho) (s:ak):Ho×Bool:=match qi s with
 |some [k]=>if cj H k=true then({H.gK k.toNat (cN (H.dy k.toNat) (bm H k.toNat))with batch:=H.batch.set k.toNat []},true)else(H,false)
 |_=>(H,false)
def dO:Ho->List (Ms×ak)->Ho×Bool
 |H,[]=>(H,true)
 |H,(m,t)::r=>match H.qI t with
  |none=>(H,false)
  |some i=>dO (H.fB i (db (H.ec i) m (-1))) r
def iD (H:Ho) (s:ak):Ho×Bool:=match dE 47 s with
 |[a,b,c]=>match eW a,td b with
  |some k,some l=>if cj H k=true then
   (if(dO H (l.zip (dE 43 c))).2=true then({(dO H (l.zip (dE 43 c))).1 with aK:=H.aK.set k.toNat (bY H k.toNat+1)},true)else((dO H (l.zip (dE 43 c))).1,false))
   else(H,false)
  |_,_=>(H,false)
 |_=>(H,false)
def ck (H:Ho) (s:ak):Ho×Bool:=
 if(di 58 s).1=cv 110 then match tr (di 58 s).2.1 with
  |none=>(H,false)
  |some x=>(jq H x,decide (F5 H x=0))
 else if(di 58 s).1=cv 100 then(uY H (di 58 s).2.1,decide (An H (di 58 s).2.1=0))
 else if(di 58 s).1=cv 117 then eZ H (di 58 s).2.1
 else if(di 58 s).1=cv 98 then iy H (di 58 s).2.1
 else if(di 58 s).1=cv 97 then ft H (di 58 s).2.1
 else if(di 58 s).1=cv 114 then iD H (di 58 s).2.1
 else(H,false)
def tk (qs:List (ak×Qu)) (ps:List Nat):List (ak×Value):=List.zipWith (fun x p=>(x.1,Value.pointer (some ⟨p,0,none⟩))) qs ps
theorem uM:∀(qs:List (ak×Qu)) (ps:List Nat) (s:ak),ps.length=qs.length->
 eI (tk qs ps) s=(qs.findIdx? fun x=>decide (x.1=s)).bind fun i=>(ps[i]?).map fun p=>Value.pointer (some ⟨p,0,none⟩)
 |[],[],_,_=>rfl
 |x::qs,p::ps,s,h=>by
  have ih:=uM qs ps s HV
  unfold tk at *
  rw[List.zipWith_cons_cons,eI,List.findIdx?_cons]
  by_cases e:x.1=s
  ·simp[e]
  ·simp only[e,decide_false,if_false]
   rw[ih]
   cases List.findIdx? (fun x=>decide (x.1=s)) qs<;>simp
theorem FK:∀(qs:List (ak×Qu)) (ps:List Nat) (s:ak) (q:Qu) (p:Nat),ps.length=qs.length->(qs.findIdx? fun x=>decide (x.1=s))=none->
 gh (tk qs ps) s (Value.pointer (some ⟨p,0,none⟩))=tk (qs++[(s,q)]) (ps++[p])
 |[],[],_,_,_,_,_=>rfl
 |x::qs,p'::ps,s,q,p,h,h2=>by
  rw[List.findIdx?_cons]at h2
  by_cases e:x.1=s
  ·simp[e]at h2
  ·simp only[e,decide_false,Bool.false_eq_true,if_false]at h2
   have ih:=FK qs ps s q p HV Rq
   unfold tk at *
   simp only[bF,List.zipWith_cons_cons]
   rw[gh]
   simp only[e,if_false]
   rw[ih]
theorem yQ{H:Ho}(h:fU H=0):H.down=false/\H.used<300:=by
 unfold fU at h
 split at h
 ·cases h
 ·rename_i h1
  split at h
  ·cases h
  ·exact⟨by simpa using h1,by omega⟩
theorem BZ{l:List Nm}{x:Nm}(h:cT l x≠0):ff l x=l:=by
 unfold cT at h
 unfold ff
 split
 ·rfl
 ·rename_i h1
  rw[if_neg h1]at h
  split
  ·rename_i h2;rw[if_pos h2]at h;exact absurd rfl h
  ·rename_i h2
   rw[if_neg h2]at h
   split
   ·rfl
   ·rename_i h3;rw[if_neg h3]at h;exact absurd rfl h
def Za (T:TypeId) (v:Value) (l:List Int):HP:=ex fun c:Option (Nat×Nat×List Value×Nat)=>match c with
 |none=>LH (v=.slice none 0 0/\l=[])
 |some (g,off,cs,cap)=>sep (LH (v=.slice (some ⟨g,off,none⟩) l.length cap/\∀(i:Nat) x,l[i]? =some x->cs[off+i]? =some (Value.int .i64 x))) (bP g (.cells cs.toArray T (0,0)))
section
variable {w0 w:World} {L:List HP} {T:TypeId} {v:Value} {l:List Int}
theorem JY(h:St w0 L w):St w0 (Za T (.slice none 0 0) []::L) w:=St.Bv none (St.yl ⟨rfl,rfl⟩ h)
theorem NR{g off cap:Nat}{cs:List Value}(hc:∀(i:Nat) x,l[i]? =some x->cs[off+i]? =some (Value.int .i64 x))(h:St w0 (bP g (.cells cs.toArray T (0,0))::L) w):St w0 (Za T (.slice (some ⟨g,off,none⟩) l.length cap) l::L) w:=
 St.Bv (some (g,off,cs,cap)) (St.join (St.yl ⟨rfl,hc⟩ h))
theorem qV(h:St w0 (Za T v l::L) w):∃a cap,v=.slice a l.length cap:=by
 obtain⟨c,h⟩:=h.CN
 match c,h with
 |none,h=>obtain⟨⟨rfl,rfl⟩,_⟩:=h.sZ;exact⟨none,0,rfl⟩
 |some (g,off,cs,cap),h=>obtain⟨⟨rfl,_⟩,_⟩:=h.split.sZ;exact⟨_,_,rfl⟩
theorem VV(h:St w0 (Za T v l::L) w):x9 w 1 (fun x=>[Value.int .i64 x]) v l:=by
 obtain⟨c,h⟩:=h.CN
 match c,h with
 |none,h=>obtain⟨⟨rfl,rfl⟩,_⟩:=h.sZ;exact⟨none,0,rfl,fun i x hx=>by simp at hx⟩
 |some (g,off,cs,cap),h=>
  obtain⟨⟨hv,hc⟩,h'⟩:=h.split.sZ
  subst hv
  refine⟨_,_,rfl,fun i x hx=>⟨_,rfl,fun j c hj=>?_⟩⟩
  have hj0:j=0:=by
   rcases j with _|j
   ·rfl
   ·simp at hj
  subst hj0
  simp only[List.getElem?_cons_zero,az]at hj
  subst hj
  have :=hc i x hx
  have h2:w.cell? ⟨g,off+i,none⟩=some (.int .i64 x):=by rw[World.cell?,h'.look.2];simpa using this
  rw[Addr.add_lit,Addr.add_lit];simpa using h2
end
end WB
namespace Go.Proofs.YtjhogocabcdjbabGreatDoor
open Tryz
open Go Go.RowKit WB
def bA (p:Nat):Value:=.pointer (some ⟨p,0,none⟩)
def Dn (x:Ms×Int):List Value:=[.int .i64 x.1.id,.int .i64 x.1.pri,.string x.1.body,.string x.1.queue,.int .i64 x.1.cq,.int .i64 x.2]
def kL (x:Int):List Value:=[.int .i64 x]
def DU (x:Int×ak):List Value:=[.int .i64 x.1,.string x.2]
def dj (v:Value) (l:List (Ms×Int)):HP:=SL 142 6 Dn v l
def dh (v:Value) (l:List (Int×ak)):HP:=SL 146 2 DU v l
def dX (v:Value) (l:List Int):HP:=Za 3 v l
structure tZ where
 nv:Value
 mb:Nat
 ps:List Nat
 us:List (Value×Value)
 bs:List Value
structure jw (V:tZ) (H:Ho):Prop where
 ps:V.ps.length=4+H.aI.length
 us:V.us.length=5
 bs:V.bs.length=4
 ways:H.ways.length=4
 aB:H.aB.length=5
 batch:H.batch.length=4
 bW:H.bW.length=4
 aK:H.aK.length=4
def fv (bd:Nat) (V:tZ) (H:Ho):List Value:=
 .int .i64 H.id::bA bd::.int .i64 (H.used:Nat)::.bool H.down::.int .i64 H.dz::.int .i64 H.next::V.nv::.map (some V.mb)::
  ((V.ps.take 4).map bA++(V.us.flatMap (fun p=>[p.1,p.2])++(V.bs++(H.bW.map (Value.int .i64)++H.aK.map (Value.int .i64)))))
abbrev dJ (V:tZ) (H:Ho):List (ak×Value):=tk H.aI (V.ps.drop 4)
abbrev Bj (bh bd:Nat) (V:tZ) (H:Ho) (L:List HP):List HP:=
 bP bh (.cells (fv bd V H).toArray 133 (0,0))::lQ V.nv H.names::cg Value.string V.mb (dJ V H)::cr jz V.ps H.all::cr dj (V.us.map (·.1)) (H.aB.map (·.aM))::cr dh (V.us.map (·.2)) (H.aB.map (·.bu))::cr dX V.bs H.batch::L
def dL (bh bd:Nat) (H:Ho):HP:=ex fun V:tZ=>sep (LH (jw V H)) (ij (Bj bh bd V H []))
theorem cI{w0 w:World}{bh bd:Nat}{H:Ho}{L:List HP}(h:St w0 (dL bh bd H::L) w):∃V:{V:tZ//jw V H},St w0 (Bj bh bd V.1 H L) w:=by
 obtain⟨V,h⟩:=h.CN
 obtain⟨hV,h⟩:=h.split.sZ
 exact⟨⟨V,hV⟩,by have :=h.splits;exact this⟩
theorem cn{w0 w:World}{bh bd:Nat}{H:Ho}{L:List HP}(V:tZ)(hV:jw V H)(h:St w0 (Bj bh bd V H L) w):St w0 (dL bh bd H::L) w:=
 St.Bv (F:=fun V=>sep (LH (jw V H)) (ij (Bj bh bd V H []))) V (St.join (St.yl hV (St.FM (L:=Bj bh bd V H []) h)))
theorem oS{w0 w:World}{bh bd:Nat}{H:Ho}{L R:List HP}(h:St w0 L w)(hp:bQ L (dL bh bd H) R):
 ∃V,jw V H/\∀i v,(fv bd V H)[i]? =some v->w.cell? ⟨bh,i,none⟩=some v:=by
 obtain⟨V,h1⟩:=cI (h.pick hp)
 refine⟨V.1,V.2,fun i v hv=>?_⟩
 rw[World.cell?,h1.look.2];simpa using hv
theorem rZ{bd:Nat}{V:tZ}{H:Ho}(h:jw V H):(fv bd V H).length=34:=by
 have e:(V.us.flatMap (fun p=>[p.1,p.2])).length=10:=by
  have :∀l:List (Value×Value),(l.flatMap (fun p=>[p.1,p.2])).length=2*l.length:=fun l=>by
   induction l with
   |nil=>rfl
   |cons a l ih=>rw[aR,aP,ih];simp;omega
  rw[this,h.us]
 simp[fv,h.ps,h.bs,h.bW,h.aK,e]
theorem VU(w0:World)(L R:List HP)(bh bd:Nat)(H:Ho)(hp:bQ L (dL bh bd H) R):KE prog 155 #[bA bh] w0 L (fun u M=>u=cS 70 (fU H)/\M=L):=by
 refine KE.mk (n:=16) func155 rfl ntmps155 aj ?_
 intro w hw
 obtain⟨V,hV,hc⟩:=oS hw hp
 have hc3:=hc 3 _ rfl
 have mI:=hc 2 _ rfl
 refine tG ?_
 refine Qe ?_
 cases hd:H.down with
 |true=>
  rw[hd]at hc3
  refine Z8 ?_
  refine X7 ?_
  refine Z7 ?_
  refine BA ?_
  refine yE ?_
  refine KQ.bG rfl rfl (fun w' hs=>⟨_,_,rfl,⟨?_,rfl⟩,hw.aE hs.below,hs.below⟩)
  unfold fU;rw[hd];rfl
 |false=>
  rw[hd]at hc3
  refine Z8 ?_
  refine X7 ?_
  refine Z7 ?_
  refine GZ ?_
  refine Z3 ?_
  refine mA ?_
  refine Ug ?_
  refine KO.sE rfl rfl isAgg3 mI rfl ?_
  refine vO ?_
  refine sx ?_
  refine K.bz rfl (fun h5=>?_) (fun h5=>?_)
  ·refine yE ?_
   refine KQ.bG rfl rfl (fun w' hs=>⟨_,_,rfl,⟨?_,rfl⟩,hw.aE hs.below,hs.below⟩)
   unfold fU;rw[hd,if_neg aj,if_pos ae];rfl
  ·refine X3 ?_
   refine Er ?_
   refine KQ.bG rfl rfl (fun w' hs=>⟨_,_,rfl,⟨?_,rfl⟩,hw.aE hs.below,hs.below⟩)
   unfold fU;rw[hd,if_neg aj,if_neg ae];rfl
theorem WH(w0:World)(L:List HP)(bh bd:Nat)(H:Ho)(x:Nm)(h1:x.name.size<=maxLen)(h2:x.kr.size<=maxLen)(hl:H.names.length<=20)(hs:en H.names):
 KC prog 137 #[bA bh,.agg x.cells.toArray] w0 (dL bh bd H::L) (fun u M=>u=cS 70 (F5 H x)/\M=dL bh bd (jq H x)::L):=by
 obtain⟨xn,xt,xh⟩:=x
 dsimp only at h1 h2
 refine KC.mk (n:=35) func137 rfl ntmps137 aj ?_
 refine qq ?_
 refine K.cx (fun _ h=>cI h) ?_
 rintro⟨V,hV⟩
 dsimp only
 have qB:=hV.ps
 refine dR ?_
 refine KO.box rfl rfl aQ rfl ?_;intro b3
 refine lK ?_
 refine K.draw [.pure,.pure,.pure,.read,.write,.pure] [0,1,2,3,4,5] bH bH ?_
 refine mA ?_
 refine Es ?_
 refine X9 ?_
 refine KO.cl (cp:=[]) rfl rfl rfl call170 rfl (Is w0 _ _ _ bh 6 (fv bd V H) 133 V.nv H.names ⟨xn,xt,xh⟩ bo bo rfl h1 h2 hl hs) ?_;rintro v' L' ⟨rfl,v2,rfl⟩;rw[show(fv bd V H).set 6 v2=fv bd {V with nv:=v2} H from rfl]
 refine yH ?_
 refine K.bz rfl (fun h=>?_) (fun h=>?_)
 ·refine G9 ?_
  refine KQ.bG rfl rfl (fun w' aX=>⟨_,_,rfl,⟨rfl,rfl⟩,?_⟩)
  rw[show jq H ⟨xn,xt,xh⟩=H from if_neg h]
  rw[BZ h]at aX
  exact cn {V with nv:=v2} ⟨hV.ps,hV.us,hV.bs,hV.ways,hV.aB,hV.batch,hV.bW,hV.aK⟩ (aX.all Y1)
 have h0:cT H.names ⟨xn,xt,xh⟩=0:=by simpa using h
 have he:F5 H ⟨xn,xt,xh⟩=0:=h0
 refine Z6 ?_
 have u5:jw {V with nv:=v2} {H with names:=ff H.names ⟨xn,xt,xh⟩}:=⟨hV.ps,hV.us,hV.bs,hV.ways,hV.aB,hV.batch,hV.bW,hV.aK⟩
 have O4:(V.ps.drop 4).length=H.aI.length:=by rw[bC,qB];omega
 by_cases hx:xt=⟨#[]⟩
 ·cases hq:H.qI xn with
  |none=>
   have hg:eI (dJ V H) xn=none:=by rw[uM _ _ _ O4,show H.aI.findIdx? (fun x=>decide (x.1=xn))=none from hq];rfl
   refine YI ?_
   refine vE ?_
   refine A5 ?_
   refine tN ?_
   refine Jr ?_
   refine Uj ?_
   refine KO.on rfl rfl yK ?_;refine KO.dB (i:=7) rfl rfl isAgg123 bZ rfl rfl rfl ?_
   refine lL ?_
   refine Qq ?_
   refine lL ?_
   refine vE ?_
   refine KO.on rfl rfl yK ?_;refine KO.Ey gv xn rfl rfl rfl underlying123 underlying9 zeroValue119 bo rfl ?_;rw[hg]
   refine KO.on rfl rfl yK ?_;refine KO.TI rfl underlying119 rfl ?_
   refine sO ?_
   refine BA ?_
   refine K.draw [.pure,.pure,.pure,.read,.pure,.read,.pure,.dm,.write] [0,1,2,3,4,5,6,7,8] bH bH ?_
   refine mA ?_
   refine Yk ?_
   refine Qq ?_
   refine vE ?_
   refine Yu ?_
   refine KO.box rfl rfl aQ rfl ?_;intro Vv
   refine KO.VN gv xn rfl rfl rfl rfl underlying123 underlying9 bo ?_
   refine rE ?_
   refine KQ.bG rfl rfl (fun w' aX=>⟨_,_,rfl,⟨by rw[he];rfl,rfl⟩,?_⟩)
   rw[show jq H ⟨xn,xt,xh⟩={H with names:=ff H.names ⟨xn,xt,xh⟩,aI:=H.aI++[(xn,⟨[],0⟩)]}by unfold jq;rw[if_pos h0,if_pos ⟨hx,hq⟩]]
   have hm:=FK H.aI (V.ps.drop 4) xn ⟨[],0⟩ Vv O4 hq
   rw[hm]at aX
   have qY:=cM (E:=243) (sz:=8) (cf:=nJ) aX
   have Mh:St w0 (jz Vv ⟨[],0⟩::cr jz V.ps H.all::bP bh (.cells (fv bd {V with nv:=v2} H).toArray 133 (0,0))::lQ v2 (ff H.names ⟨xn,xt,xh⟩)::cg Value.string V.mb (tk (H.aI++[(xn,⟨[],0⟩)]) (V.ps.drop 4++[Vv]))::cr dj (V.us.map (·.1)) (H.aB.map (·.aM))::cr dh (V.us.map (·.2)) (H.aB.map (·.bu))::cr dX V.bs H.batch::L) w':=
    kF (qY.all Y5)
   have hs4:=Az (by rw[qB];simp[hV.ways]) Mh
   have et:(V.ps++[Vv]).take 4=V.ps.take 4:=by rw[List.take_append_of_le_length ae]
   have ed:(V.ps++[Vv]).drop 4=V.ps.drop 4++[Vv]:=by rw[List.drop_append_of_le_length ae]
   have ea:H.all++[(⟨[],0⟩:Qu)]=H.ways++(H.aI++[(xn,(⟨[],0⟩:Qu))]).map (·.2):=by simp
   rw[ea]at hs4
   refine cn {V with nv:=v2,ps:=V.ps++[Vv]} ⟨by simp[qB];omega,hV.us,hV.bs,hV.ways,hV.aB,hV.batch,hV.bW,hV.aK⟩ ?_
   have e1:fv bd {V with nv:=v2,ps:=V.ps++[Vv]} {H with names:=ff H.names ⟨xn,xt,xh⟩,aI:=H.aI++[(xn,⟨[],0⟩)]}=fv bd {V with nv:=v2} H:=by unfold fv;dsimp only;rw[et]
   unfold Bj dJ
   rw[e1]
   dsimp only
   rw[ed]
   exact hs4.all Y3
  |some i=>
   have W9:i<H.aI.length:=(List.findIdx?_eq_some_iff_getElem.1 hq).1
   obtain⟨p,hp⟩:∃p,(V.ps.drop 4)[i]? =some p:=⟨_,ao ae⟩
   have hg:eI (dJ V H) xn=some (bA p):=by rw[uM _ _ _ O4,show H.aI.findIdx? (fun x=>decide (x.1=xn))=some i from hq];simp only[Option.bind_some,hp,Option.map_some];rfl
   refine YI ?_
   refine vE ?_
   refine A5 ?_
   refine tN ?_
   refine Jr ?_
   refine Uj ?_
   refine KO.on rfl rfl yK ?_;refine KO.dB (i:=7) rfl rfl isAgg123 bZ rfl rfl rfl ?_
   refine lL ?_
   refine Qq ?_
   refine lL ?_
   refine vE ?_
   refine KO.on rfl rfl yK ?_;refine KO.Ey gv xn rfl rfl rfl underlying123 underlying9 zeroValue119 bo rfl ?_;rw[hg]
   refine KO.on rfl rfl yK ?_;refine KO.AF rfl underlying119 rfl ?_
   refine sO ?_
   refine BL ?_
   refine Er ?_
   refine KQ.bG rfl rfl (fun w' aX=>⟨_,_,rfl,⟨by rw[he];rfl,rfl⟩,?_⟩)
   rw[show jq H ⟨xn,xt,xh⟩={H with names:=ff H.names ⟨xn,xt,xh⟩}by unfold jq;rw[if_pos h0,if_neg (by rw[hq];simp)]]
   exact cn {V with nv:=v2} u5 (aX.all Y5)
 ·refine YI ?_
  refine vE ?_
  refine A5 ?_
  refine G8 ?_
  refine VA ?_
  refine x8 ?_
  refine Z2 ?_
  refine K.dp rfl yK ?_
  refine Z6 ?_
  refine Er ?_
  refine KQ.bG rfl rfl (fun w' aX=>⟨_,_,rfl,⟨by rw[he];rfl,rfl⟩,?_⟩)
  rw[show jq H ⟨xn,xt,xh⟩={H with names:=ff H.names ⟨xn,xt,xh⟩}by unfold jq;rw[if_pos h0,if_neg yK]]
  exact cn {V with nv:=v2} u5 (aX.all Y5)
theorem Tj(w0:World)(L:List HP)(bh bd:Nat)(H:Ho)(s:ak)(hl:H.names.length<=20)(hs:en H.names):
 KC prog 139 #[bA bh,.string s] w0 (dL bh bd H::L) (fun u M=>u=cS 70 (An H s)/\M=dL bh bd (uY H s)::L):=by
 refine KC.mk (n:=14) func139 rfl ntmps139 aj ?_
 refine qq ?_
 refine K.cx (fun _ h=>cI h) ?_
 rintro⟨V,hV⟩
 dsimp only
 have fin:∀w' v2,St w0 (Bj bh bd {V with nv:=v2} (uY H s) L) w'->St w0 (dL bh bd (uY H s)::L) w':=fun w' v2 h=>cn {V with nv:=v2} ⟨hV.ps,hV.us,hV.bs,hV.ways,hV.aB,hV.batch,hV.bW,hV.aK⟩ h
 refine dR ?_
 refine xC ?_
 refine Es ?_
 refine Z1 ?_
 refine KO.cl (cp:=[]) rfl rfl rfl call237 rfl (Ss w0 _ _ _ bh 6 (fv bd V H) 133 V.nv H.names s bZ bZ rfl ae hs) ?_;rintro v' L' ⟨rfl,v2,rfl⟩;rw[show(fv bd V H).set 6 v2=fv bd {V with nv:=v2} (uY H s)from rfl]
 refine yH ?_
 refine K.bz rfl (fun h=>?_) (fun h=>?_)
 ·refine G9 ?_
  refine KQ.bG rfl rfl (fun w' aX=>⟨_,_,rfl,⟨rfl,rfl⟩,?_⟩)
  exact fin w' v2 (aX.all nH)
 ·refine Z6 ?_
  refine Er ?_
  have he:An H s=0:=by unfold An;simpa using h
  refine KQ.bG rfl rfl (fun w' aX=>⟨_,_,rfl,⟨by rw[he];rfl,rfl⟩,?_⟩)
  exact fin w' v2 (aX.all nH)
theorem Ou(w0:World)(L:List HP)(bh bd:Nat)(H:Ho)(D:Dk)(s:ak)(hT:qH w0)(h3:D.places.length=300)(hd: -4000000000000000000<=D.left/\D.left<=9223372036854775807)(hs:s.size<=700000)(hu:H.used<=300):
 KC prog 61 #[bA bh,.string s] w0 (dL bh bd H::fR bd D::L) (fun u M=>u=cS 70 (c7 H D)/\M=dL bh bd (dc H D)::fR bd (gU H D s)::L):=by
 refine KC.mk (n:=44) func61 rfl ntmps61 aj ?_
 refine qE ?_
 refine KO.ce (cp:=[]) rfl rfl rfl call155 rfl (VU w0 _ _ bh bd H .head) ?_;rintro v' L' ⟨rfl,rfl⟩
 refine yH ?_
 refine K.bz rfl (fun h=>?_) (fun h=>?_)
 ·refine G9 ?_
  refine KQ.bG rfl rfl (fun w' aX=>⟨_,_,rfl,⟨?_,rfl⟩,?_⟩)
  ·unfold c7;rw[if_pos h]
  ·unfold dc gU;rw[if_pos h,if_pos h];exact aX
 have h0:fU H=0:=by simpa using h
 have hr:=yQ h0
 have dK:(eb (H.used:Nat) s).size<=1000000:=Nat.le_trans (uy ⟨by omega,by omega⟩ hs) ai
 refine Z6 ?_
 refine K.cx (fun _ h=>cI h) ?_
 rintro⟨V,hV⟩
 dsimp only
 refine K.draw [.pure,.pure,.pure,.read,.pure,.pure,.pure,.read,.pure,.pure,.pure,.read,.pure,.dm,.pure,.pure,.pure,.read,.write,.pure] [0,1,2,3,4,5,6,7,8,9,10,11,12,14,15,16,17,13,18,19] bH bH ?_
 refine mA ?_
 refine KO.gd (off:=1) rfl runUnderlying133 rfl rfl sizeOf25 rfl ?_
 refine KO.dB (i:=1) rfl rfl isAgg25 bZ rfl rfl rfl ?_
 refine mA ?_
 refine Zz ?_
 refine mA ?_
 refine Zz ?_
 refine tI ?_
 refine KO.gd (off:=4) rfl runUnderlying133 rfl rfl sizeOf3 rfl ?_
 refine KO.dB (i:=4) rfl rfl isAgg3 bZ rfl rfl rfl ?_
 refine KO.ce (cp:=[]) rfl rfl rfl call134 rfl (zA w0 _ (H.used:Nat) s ⟨by omega,by omega⟩ ae hT) ?_;rintro v' L' ⟨rfl,rfl⟩
 refine KO.cl (cp:=[]) rfl rfl rfl call156 rfl (KC.qv bo (Rw w0 _ bd H.used D (eb (H.used:Nat) s) H.dz h3 hr.2 hd ⟨sS _ _,dK⟩)) ?_;rintro v' L' ⟨rfl,rfl⟩
 refine yH ?_
 refine K.bz rfl (fun h2=>?_) (fun h2=>?_)
 ·refine Z3 ?_
  refine mA ?_
  refine KO.gd (off:=3) rfl runUnderlying133 rfl rfl sizeOf4 rfl ?_
  refine KO.gT (i:=3) rfl rfl rfl aQ (by exact sizeOf4) rfl bo rfl Rs ?_;rw[show(fv bd V H).set 3 (.bool true)=fv bd V {H with down:=true}from rfl]
  refine G4 ?_
  refine sN ?_
  refine KQ.bG rfl rfl (fun w' aX=>⟨_,_,rfl,⟨?_,rfl⟩,?_⟩)
  ·unfold c7;rw[if_neg h]
  ·unfold dc gU;rw[if_neg h,if_neg h,if_pos h2]
   exact cn V ⟨hV.ps,hV.us,hV.bs,hV.ways,hV.aB,hV.batch,hV.bW,hV.aK⟩ (aX.all Y7)
 ·refine Z6 ?_
  refine kp ?_
  refine Ug ?_
  refine KO.dB (i:=2) rfl rfl isAgg3 bo rfl rfl rfl ?_
  refine Jw ?_
  refine Ug ?_
  refine KO.gT (i:=2) rfl rfl rfl aQ za rfl bo rfl Rs ?_;rw[show(fv bd V H).set 2 (.int .i64 ((H.used:Nat)+1:Int))=fv bd V {H with used:=H.used+1}from rfl]
  refine rE ?_
  have Po:lX D=0:=by simpa using h2
  refine KQ.bG rfl rfl (fun w' aX=>⟨_,_,rfl,⟨?_,rfl⟩,?_⟩)
  ·unfold c7;rw[if_neg h,Po];rfl
  ·unfold dc gU;rw[if_neg h,if_neg h,if_neg h2]
   exact cn V ⟨hV.ps,hV.us,hV.bs,hV.ways,hV.aB,hV.batch,hV.bW,hV.aK⟩ (aX.all Y7)
end Go.Proofs.YtjhogocabcdjbabGreatDoor
namespace WB
open Go Go.RowKit
theorem KC.pA{P:Program}{f:FuncId}{args:Array Value}{w0:World}{L:List HP}{R R':Value->List HP->Prop}(h:KC P f args w0 L R)(hr:∀v M,R v M->∃M',R' v M'/\∀w,St w0 M w->St w0 M' w):KC P f args w0 L R':=fun w hw=>
 (h w hw).mono fun _ _ ⟨v,M,a,b,c⟩=>by
  obtain⟨M',h1,h2⟩:=hr v M b
  exact⟨v,M',a,h1,h2 _ c⟩
theorem KC.nO{α β:Type}{f:α->β->HP}{P:Program}{g:FuncId}{args:Array Value}{w0:World}{L R:List HP}{ps:List α}{xs:List β}{p:α}{x y:β}{i:Nat}{φ:Value->Prop}(hp:ps[i]? =some p)(hx:xs[i]? =some x)(pk:bQ L (cr f ps xs) R)(h:∀L,KC P g args w0 (f p x::L) (fun u M=>φ u/\M=f p y::L)):
 KC P g args w0 L (fun u M=>φ u/\M=cr f ps (xs.set i y)::R):=
 KC.perm (L':=f p x::cr f (ps.eraseIdx i) (xs.eraseIdx i)::R) (fun w hw=>dD hp hx (hw.pick pk)) (KC.pA (h _) (by
  rintro v M ⟨h1,rfl⟩
  exact⟨_,⟨h1,rfl⟩,fun w hw=>y4 hp (au.1 hx).1 hw⟩))
theorem KE.GL{α β:Type}{f:α->β->HP}{P:Program}{g:FuncId}{args:Array Value}{w0:World}{L R:List HP}{ps:List α}{xs:List β}{p:α}{x:β}{i:Nat}{φ:Value->Prop}(hp:ps[i]? =some p)(hx:xs[i]? =some x)(pk:bQ L (cr f ps xs) R)(h:∀L,KE P g args w0 (f p x::L) (fun u M=>φ u/\M=f p x::L)):
 KE P g args w0 L (fun u M=>φ u/\M=cr f ps xs::R):=
 KE.perm (L':=f p x::cr f (ps.eraseIdx i) (xs.eraseIdx i)::R) (fun w hw=>dD hp hx (hw.pick pk)) (KE.pA (h _) (by
  rintro v M ⟨h1,rfl⟩
  exact⟨_,⟨h1,rfl⟩,fun w hw=>j0 hp hx hw⟩))
theorem KE.GK{α β:Type}{f:α->β->HP}{P:Program}{g:FuncId}{args:Array Value}{w0:World}{L R:List HP}{ps:List α}{xs:List β}{p:α}{x:β}{i:Nat}{A:Value->HP}{φ:Value->Prop}(hp:ps[i]? =some p)(hx:xs[i]? =some x)(pk:bQ L (cr f ps xs) R)(h:∀L,KE P g args w0 (f p x::L) (fun u M=>φ u/\M=A u::f p x::L)):
 KE P g args w0 L (fun u M=>φ u/\M=A u::cr f ps xs::R):=
 KE.perm (L':=f p x::cr f (ps.eraseIdx i) (xs.eraseIdx i)::R) (fun w hw=>dD hp hx (hw.pick pk)) (KE.pA (h _) (by
  rintro v M ⟨h1,rfl⟩
  exact⟨_,⟨h1,rfl⟩,fun w hw=>(j0 hp hx (hw.all (.cons (.tail .head) (.cons (.tail .head) .refl)))).gJ⟩))
section
variable {n:Nat} {H:Ho} {q:Qu} {i j:Nat}
theorem lI(h4:H.ways.length=4)(hi:i<H.aI.length):H.all[4+i]? =some (H.ec i):=by
 unfold Ho.all Ho.ec
 rw[bf ae,h4,Nat.add_sub_cancel_left,aG,ao hi,aq,ao hi];rfl
theorem iH(h4:H.ways.length=4)(hj:j<4):H.all[j]? =some (H.dy j):=by
 unfold Ho.all Ho.dy
 rw[List.getElem?_append_left ae,ao ae,aq,ao ae];rfl
theorem g_(h4:H.ways.length=4):H.all.length=4+H.aI.length:=by unfold Ho.all;simp[h4]
theorem ko(h4:H.ways.length=4)(i:Nat)(q:Qu):(H.fB i q).all=H.all.set (4+i) q:=by
 unfold Ho.all Ho.fB
 rw[List.map_set,List.set_append_right _ _ ae,h4,Nat.add_sub_cancel_left]
theorem km(hj:j<H.ways.length)(q:Qu):(H.gK j q).all=H.all.set j q:=by
 unfold Ho.all Ho.gK
 rw[List.set_append_left _ _ hj]
theorem jN(i:Nat)(q:Qu):(H.fB i q).aI.map (·.1)=H.aI.map (·.1):=by
 unfold Ho.fB
 rw[List.map_set]
 apply List.ext_getElem?
 intro k
 rw[List.getElem?_set]
 split
 ·rename_i e;subst e
  split
  ·rename_i hk
   rw[bj]at hk
   rw[aG,ao hk,aq,ao hk];rfl
  ·rename_i hk
   rw[br ae]
 ·rfl
theorem pN(s:ak):H.qI s=(H.aI.map (·.1)).findIdx? fun x=>decide (x=s):=by
 unfold Ho.qI
 rw[List.findIdx?_map];rfl
theorem Sb(i:Nat)(q:Qu)(s:ak):(H.fB i q).qI s=H.qI s:=by rw[pN,pN,jN]
theorem uN:∀(qs rs:List (ak×Qu)) (ps:List Nat),qs.map (·.1)=rs.map (·.1)->tk qs ps=tk rs ps
 |[],[],_,_=>rfl
 |a::qs,b::rs,[],_=>rfl
 |a::qs,b::rs,p::ps,h=>by
  simp only[aL,List.cons.injEq]at h
  have ih:=uN qs rs ps h.2
  unfold tk at *
  rw[List.zipWith_cons_cons,List.zipWith_cons_cons,ih,h.1]
 |[],b::rs,_,h=>by simp at h
 |a::qs,[],_,h=>by simp at h
theorem zy(i:Nat)(q:Qu):(H.fB i q).aI.length=H.aI.length:=by simp[Ho.fB]
theorem cK.le{k:Nat}(h:cK n H)(hk:n<=k):cK k H:=⟨h.id,h.used,h.next,h.sorted,h.oq,Nat.le_trans h.oL hk,fun q hq=>(h.qs q hq).le hk,h.nodup,h.ways,h.aB,h.batch,h.bW,h.aK,h.right,h.loc,h.ext.le hk⟩
theorem cK.fB(h:cK n H)(hq:QB n q)(i:Nat):cK n (H.fB i q):=by
 refine⟨h.id,h.used,h.next,h.sorted,h.oq,by rw[zy];exact h.oL,fun q' Bt=>?_,by rw[jN];exact h.nodup,h.ways,h.aB,h.batch,h.bW,h.aK,h.right,fun x hx ht=>by(rw[Sb];exact h.loc x hx ht),h.ext⟩
 rw[ko h.ways]at Bt
 rcases a_ Bt with h1|rfl
 ·exact h.qs _ h1
 ·exact hq
theorem cK.gK(h:cK n H)(hq:QB n q)(hj:j<4):cK n (H.gK j q):=by
 refine⟨h.id,h.used,h.next,h.sorted,h.oq,h.oL,fun q' Bt=>?_,h.nodup,by simp[Ho.gK,h.ways],h.aB,h.batch,h.bW,h.aK,h.right,h.loc,h.ext⟩
 rw[km (by rw[h.ways];exact hj)]at Bt
 rcases a_ Bt with h1|rfl
 ·exact h.qs _ h1
 ·exact hq
theorem cK.qa(h:cK n H)(hi:i<H.aI.length):QB n (H.ec i):=h.qs _ (ax (lI h.ways hi))
theorem cK.w(h:cK n H)(hj:j<4):QB n (H.dy j):=h.qs _ (ax (iH h.ways hj))
theorem cK.Sn(h:cK n H){k:Int}(hk:0<=k/\k<=274877906945):cK n {H with next:=k}:=⟨h.id,h.used,hk,h.sorted,h.oq,h.oL,h.qs,h.nodup,h.ways,h.aB,h.batch,h.bW,h.aK,h.right,h.loc,h.ext⟩
theorem ik{s:ak}(h:H.qI s=some i):i<H.aI.length/\(H.aI.getD i (⟨#[]⟩,default)).1=s:=by
 unfold Ho.qI at h
 obtain⟨h1,h2,_⟩:=List.findIdx?_eq_some_iff_getElem.1 h
 refine⟨h1,?_⟩
 rw[aq,ao h1]
 simpa using h2
theorem vW{l:List Nm}{x y:Nm}(h:y∈ff l x):(y=x/\cT l x=0)\/y∈l:=by
 by_cases h0:cT l x=0
 ·unfold ff at h
  split at h
  ·exact .inr h
  ·split at h
   ·rcases a_ h with h|h
    ·exact .inr h
    ·exact .inl ⟨h,h0⟩
   ·split at h
    ·exact .inr h
    ·rcases aN.1 h with h|h
     ·exact .inr (List.mem_of_mem_take h)
     ·rcases aF.1 h with h|h
      ·exact .inl ⟨h,h0⟩
      ·exact .inr (List.mem_of_mem_drop h)
 ·rw[BZ h0]at h;exact .inr h
theorem jO{l:List Nm}{x:Nm}(h:cT l x=0):cy x=true:=by
 cases hr:cy x with
 |true=>rfl
 |false=>unfold cT at h;rw[if_pos hr]at h;cases h
theorem uu{l:List Nm}(h:en l)(x:Nm):en (ff l x):=((⟨h,.refl _⟩:qJ l l).set x).sorted
theorem Bw{l:List Nm}(h:en l)(s:ak):en (j_ l s):=((⟨h,.refl _⟩:qJ l l).drop s).sorted
theorem R_{s t:ak}{q:Qu}{i:Nat}(h:H.qI t=some i):({H with aI:=H.aI++[(s,q)]}:Ho).qI t=some i:=by
 unfold Ho.qI at *
 rw[List.findIdx?_append,h];rfl
theorem V5{s:ak}{q:Qu}(h:H.qI s=none):({H with aI:=H.aI++[(s,q)]}:Ho).qI s=some H.aI.length:=by
 unfold Ho.qI at *
 rw[List.findIdx?_append,h];simp
theorem cK.set(h:cK n H)(x:Nm):cK (n+1) (jq H x):=by
 unfold jq
 split
 ·rename_i h0
  have hl:(ff H.names x).length<=20:=Nat.le_trans (Lt _ _) (by have :=h.oq;omega)
  have hr:∀y∈ff H.names x,cy y=true:=fun y hy=>by
   rcases vW hy with⟨rfl,-⟩|hy
   ·exact jO h0
   ·exact h.right y hy
  by_cases hc:x.kr=⟨#[]⟩/\H.qI x.name=none
  ·rw[if_pos hc]
   refine⟨h.id,h.used,h.next,uu h.sorted x,hl,by have :=h.oL;simp;omega,fun q hq=>?_,?_,h.ways,h.aB,h.batch,h.bW,h.aK,hr,fun y hy ht=>?_,h.ext.le (Nat.le_succ n)⟩
   ·simp only[Ho.all,aZ,aN]at hq
    rcases hq with hq|hq|hq
    ·exact(h.qs q (by simp[hq])).le (Nat.le_succ n)
    ·exact(h.qs q (by unfold Ho.all;exact aN.2 (.inr hq))).le (Nat.le_succ n)
    ·simp at hq;subst hq;exact QB.nil
   ·rw[aZ,List.nodup_append]
    refine⟨h.nodup,by simp,fun a ha b hb=>?_⟩
    simp at hb;subst hb
    rintro rfl
    have h2:=hc.2
    rw[pN,List.findIdx?_eq_none_iff]at h2
    simpa using h2 _ ha
   ·rcases vW hy with⟨rfl,-⟩|hy
    ·exact⟨_,V5 hc.2⟩
    ·obtain⟨i,hi⟩:=h.loc y hy ht
     exact⟨i,R_ hi⟩
  ·rw[if_neg hc]
   refine⟨h.id,h.used,h.next,uu h.sorted x,hl,Nat.le_succ_of_le h.oL,fun q hq=>(h.qs q hq).le (Nat.le_succ n),h.nodup,h.ways,h.aB,h.batch,h.bW,h.aK,hr,fun y hy ht=>?_,h.ext.le (Nat.le_succ n)⟩
   rcases vW hy with⟨rfl,-⟩|hy
   ·cases hq:H.qI y.name with
    |none=>exact absurd ⟨ht,hq⟩ hc
    |some i=>exact⟨i,hq⟩
   ·exact h.loc y hy ht
 ·exact h.le (Nat.le_succ n)
theorem cK.drop(h:cK n H)(s:ak):cK n (uY H s):=by
 have hs:∀y∈j_ H.names s,y∈H.names:=fun y hy=>by
  unfold j_ at hy
  split at hy
  ·exact(List.eraseIdx_sublist _ _).subset hy
  ·exact hy
 exact⟨h.id,h.used,h.next,Bw h.sorted s,Nat.le_trans (Je _ _) h.oq,h.oL,h.qs,h.nodup,h.ways,h.aB,h.batch,h.bW,h.aK,fun y hy=>h.right y (hs y hy),fun y hy=>h.loc y (hs y hy),h.ext⟩
theorem cK.Sc(h:cK n H){m:Ms}{H1:Ho}(hm:bT m=true)(hp:fM H m=some H1):cK (n+1) H1:=by
 obtain⟨m1,m2,m3,m4,-,-,m7,m8⟩:=bV hm
 have hx:=h.next
 have h1:cK n {H with next:=max H.next (m.id/4+1)}:=h.Sn ⟨by omega,by omega⟩
 unfold fM at hp
 dsimp only at hp
 split at hp
 ·simp only[az]at hp
  subst hp
  exact(h1.le (Nat.le_succ n)).gK ((h.w ae).sY ⟨m3,m4⟩ ⟨m1,m2⟩ (-1)) ae
 ·split at hp
  ·cases hp
  ·rename_i i hi
   simp only[az]at hp
   subst hp
   exact(h1.le (Nat.le_succ n)).fB ((h.qa (ik hi).1).sY ⟨m3,m4⟩ ⟨m1,m2⟩ (-1)) i
theorem cK.aM(l:List Ms):∀{n:Nat} {H:Ho},cK n H->(∀m∈l,bT m=true)->cK (n+l.length) (ef H l).1:=by
 induction l with
 |nil=>exact fun h _=>h
 |cons m l ih=>
  intro n H h hl
  unfold ef
  cases hp:fM H m with
  |none=>
   obtain⟨m1,m2,_⟩:=bV (hl m aj)
   have hx:=h.next
   exact(h.Sn ⟨by omega,by omega⟩).le aj
  |some H1=>
   have :=ih (h.Sc (hl m aj) hp) fun m hm=>hl m (by simp[hm])
   exact this.le ga
theorem cK.Xz(h:cK n H){s:ak}{H1:Ho}(hp:iA H s=some H1):cK n H1:=by
 unfold iA at hp
 split at hp
 ·cases hp
 ·split at hp
  ·cases hp
  ·rename_i k i hi
   split at hp
   ·simp only[az]at hp
    subst hp
    exact h.fB ((h.qa (ik hi).1).take _) i
   ·cases hp
theorem cK.bu(l:List ak):∀{H:Ho},cK n H->cK n (iz H l).1:=by
 induction l with
 |nil=>exact fun h=>h
 |cons s l ih=>
  intro H h
  unfold iz
  cases hp:iA H s with
  |none=>exact h
  |some H1=>exact ih (h.Xz hp)
theorem cK.ends{s:ak}(h:cK n H)(hr:∀l,td (di 47 s).1=some l->∀m∈l,bT m=true){k:Nat}(hk:∀l,td (di 47 s).1=some l->n+l.length<=k)(sH:n<=k):cK k (eZ H s).1:=by
 unfold eZ
 split
 ·exact h.le sH
 ·split
  ·exact h.le sH
  ·rename_i l hl
   have h1:=(h.aM l (hr l hl)).le (hk l hl)
   split
   ·exact h1
   ·split
    ·exact h1
    ·exact h1.bu _
theorem cK.log{D:Dk}(h:cK n H):cK n (dc H D):=by
 unfold dc
 split
 ·exact h
 ·rename_i h0
  have h0:fU H=0:=by simpa using h0
  split
  ·exact⟨h.id,h.used,h.next,h.sorted,h.oq,h.oL,h.qs,h.nodup,h.ways,h.aB,h.batch,h.bW,h.aK,h.right,h.loc,h.ext⟩
  ·exact⟨h.id,(yQ h0).2,h.next,h.sorted,h.oq,h.oL,h.qs,h.nodup,h.ways,h.aB,h.batch,h.bW,h.aK,h.right,h.loc,h.ext⟩
def lM (H:Ho) (D:Dk) (s:ak):Ho:=if c7 H D=0 then(ck (dc H D) s).1 else dc H D
theorem bM{k:Int}:cj H k=true↔0<=k/\k<4/\k≠H.id:=by unfold cj;simp
theorem mJ{l:List Int}{k:Nat}{n:Nat}(h:∀x∈l,0<=x/\x<=(n:Int)):0<=l.getD k 0/\l.getD k 0<=(n:Int):=by
 rw[aq]
 cases hk:l[k]? with
 |none=>exact⟨Int.le_refl 0,by show(0:Int)<=n;omega⟩
 |some x=>exact h x (ax hk)
theorem FI{α β:Type}{f:α->Option β}:∀{l:List α} {r:List β},l.mapM f=some r->r.length=l.length
 |[],r,h=>by cases h;rfl
 |a::l,r,h=>by
  rw[List.mapM_cons]at h
  cases ha:f a with
  |none=>rw[ha]at h;cases h
  |some b=>
   rw[ha]at h
   cases hl:l.mapM f with
   |none=>rw[hl]at h;cases h
   |some r'=>rw[hl]at h;cases h;simp[FI hl]
theorem Mb{s:ak}{l:List Int}(h:qi s=some l):l.length<=s.size+1:=by
 have :=FI h
 have :=s6 32 s
 omega
theorem cK.made(h:cK n H)(s:ak)(hs:s.size<=90000):cK (n+1) (iy H s).1:=by
 unfold iy
 split
 ·rename_i k a r hi
  split
  ·have h2:=h.le (Nat.le_succ n)
   refine⟨h2.id,h2.used,h2.next,h2.sorted,h2.oq,h2.oL,h2.qs,h2.nodup,h2.ways,h2.aB,by simp[h.batch],by simp[h.bW],h2.aK,h2.right,h2.loc,⟨fun l hl=>?_,fun x hx=>?_,h2.ext.arr⟩⟩
   ·rcases a_ hl with h3|rfl
    ·exact h.ext.Vu l h3
    ·have :=Mb hi;simp at this ⊢;omega
   ·rcases a_ hx with h3|rfl
    ·exact h2.ext.VQ x h3
    ·have :=mJ (k:=k.toNat) h.ext.VQ
     unfold bD;push_cast;omega
  ·exact h.le (Nat.le_succ n)
 ·exact h.le (Nat.le_succ n)
theorem QB.E5{q:Qu}(h:QB n q)(l:List Int):QB n (cN q l):=by
 unfold cN
 induction l generalizing q with
 |nil=>exact h
 |cons a l ih=>exact ih (h.take a)
theorem cK.known(h:cK n H)(s:ak):cK n (ft H s).1:=by
 unfold ft
 split
 ·rename_i k _
  split
  ·rename_i h1
   have h2:=bM.1 h1
   have lV:k.toNat<4:=by omega
   have h3:=h.gK ((h.w (j:=k.toNat) lV).E5 (bm H k.toNat)) lV
   exact⟨h3.id,h3.used,h3.next,h3.sorted,h3.oq,h3.oL,h3.qs,h3.nodup,h3.ways,h3.aB,by simp[h.batch],h3.bW,h3.aK,h3.right,h3.loc,⟨fun l hl=>by
    rcases a_ hl with h4|rfl
    ·exact h.ext.Vu l h4
    ·simp,h3.ext.VQ,h3.ext.arr⟩⟩
  ·exact h
 ·exact h
theorem cK.comes:∀(l:List (Ms×ak)) {n:Nat} {H:Ho},cK n H->(∀x∈l,(0<=x.1.pri/\x.1.pri<=9)/\0<=x.1.id/\x.1.id<=1099511627776)->cK (n+l.length) (dO H l).1
 |[],_,_,h,_=>h
 |(m,t)::l,n,H,h,hp=>by
  unfold dO
  split
  ·exact h.le ae
  ·rename_i i hi
   have h1:=(h.le (Nat.le_succ n)).fB ((h.qa (ik hi).1).sY (hp (m,t) aj).1 (hp (m,t) aj).2 (-1)) i
   exact(cK.comes l h1 fun x hx=>hp x yK).le ga
theorem cK.yw(h:cK n H)(s:ak){k:Nat}(k9:1<=k)(hk:∀l,(∃a b c,dE 47 s=[a,b,c]/\td b=some l)->l.length<=k):cK (n+k) (iD H s).1:=by
 unfold iD
 split
 ·rename_i a b c e
  split
  ·rename_i kk l _ hl
   have h1:=hk l ⟨a,b,c,e,hl⟩
   have hr:=dG (oO hl).1
   have h2:=(cK.comes (l.zip (dE 43 c)) h fun x hx=>by
    have :=bV (hr x.1 (List.of_mem_zip hx).1)
    exact⟨⟨this.2.2.1,this.2.2.2.1⟩,this.1,this.2.1⟩).le (k:=n+k) (by rw[List.length_zip];omega)
   split
   ·split
    ·exact⟨h2.id,h2.used,h2.next,h2.sorted,h2.oq,h2.oL,h2.qs,h2.nodup,h2.ways,h2.aB,h2.batch,h2.bW,by simp[h.aK],h2.right,h2.loc,⟨h2.ext.Vu,h2.ext.VQ,fun x hx=>by
      rcases a_ hx with h3|rfl
      ·have :=h.ext.arr x h3;omega
      ·have :=mJ (k:=kk.toNat) h.ext.arr
       unfold bY;omega⟩⟩
    ·exact h2
   ·exact h.le ae
  ·exact h.le ae
 ·exact h.le ae
structure fO (n:Nat) (s:ak):Prop where
 size:s.size<=80000
 many:(di 58 s).1=cv 117->∀l,td (di 47 (di 58 s).2.1).1=some l->l.length<=n
 MF:(di 58 s).1=cv 114->∀a b c l,dE 47 (di 58 s).2.1=[a,b,c]->td b=some l->l.length<=n/\l.length<=(dE 43 c).length
theorem oZ(c:UInt8)(s:ak):(di c s).1.size<=s.size/\(di c s).2.1.size<=s.size:=by
 unfold di Lib.cut
 split
 ·simp only[toB,ki]
  constructor<;>simp <;>omega
 ·simp only[toB,ki]
  constructor<;>simp
theorem cK.Fo{k:Nat}{s:ak}(h:cK n H)(hr:fO k s)(hk:1<=k):cK (n+k) (ck H s).1:=by
 have hc:=(oZ 58 s).2
 have hs:=hr.size
 unfold ck
 split
 ·split
  ·exact h.le ae
  ·exact(h.set _).le ae
 ·split
  ·exact(h.drop _).le ae
  ·split
   ·rename_i h3
    exact h.ends (fun l hl=>dG (oO hl).1) (fun l hl=>by have :=hr.many h3 l hl;omega) ae
   ·split
    ·exact(h.made _ ae).le ae
    ·split
     ·exact(h.known _).le ae
     ·split
      ·rename_i h6
       exact h.yw _ hk fun l hl=>by
        obtain⟨a,b,c,h7,h8⟩:=hl
        exact(hr.MF h6 a b c l h7 h8).1
      ·exact h.le ae
end
end WB
namespace Go.Proofs.YtjhogocabcdjbabGreatDoor
open Tryz
open Go Go.RowKit WB
theorem Ji(w0:World)(L:List HP)(s:ak)(c:UInt8)(hs:s.size<=100000000)(hM:qK w0):
 KE prog 135 #[.string s,.string ⟨#[c]⟩] w0 L (fun u M=>u=.tuple #[.string (di c s).1,.string (di c s).2.1,.bool (di c s).2.2]/\M=L):=KE.ct fun w hw=>by
 obtain⟨⟨m,hm⟩,_⟩:=hM.ext (Ext.ct hw.below)
 refine(Tryz.strings_Cut s ⟨#[c]⟩ m w ae hm).mono ?_
 rintro e w' ⟨rfl,n,rfl⟩
 exact⟨rfl,⟨rfl,rfl,rfl,aD _,fun _ _=>rfl⟩⟩
theorem lA{V:tZ}{H:Ho}(hV:jw V H)(s:ak):eI (dJ V H) s=(H.qI s).bind fun i=>(V.ps[4+i]?).map bA:=by
 have qB:=hV.ps
 rw[uM _ _ _ (by rw[bC,qB];omega)]
 unfold Ho.qI
 cases List.findIdx? (fun x=>decide (x.1=s)) H.aI with
 |none=>rfl
 |some i=>simp[List.getElem?_drop,bA];rfl
theorem Ak{w0 w:World}{bh bd:Nat}{H:Ho}{L:List HP}(V:tZ)(hV:jw V H)(i:Nat)(q:Qu)(h:St w0 (bP bh (.cells (fv bd V H).toArray 133 (0,0))::lQ V.nv H.names::cg Value.string V.mb (dJ V H)::cr jz V.ps (H.all.set (4+i) q)::cr dj (V.us.map (·.1)) (H.aB.map (·.aM))::cr dh (V.us.map (·.2)) (H.aB.map (·.bu))::cr dX V.bs H.batch::L) w):St w0 (dL bh bd (H.fB i q)::L) w:=by
 refine cn V ⟨by rw[zy];exact hV.ps,hV.us,hV.bs,hV.ways,hV.aB,hV.batch,hV.bW,hV.aK⟩ ?_
 unfold Bj dJ
 rw[ko hV.ways,uN (H.fB i q).aI H.aI _ (jN i q)]
 exact h
theorem OZ{w0 w:World}{bh bd:Nat}{H:Ho}{L:List HP}(V:tZ)(hV:jw V H)(j:Nat)(hj:j<4)(q:Qu)(h:St w0 (bP bh (.cells (fv bd V H).toArray 133 (0,0))::lQ V.nv H.names::cg Value.string V.mb (dJ V H)::cr jz V.ps (H.all.set j q)::cr dj (V.us.map (·.1)) (H.aB.map (·.aM))::cr dh (V.us.map (·.2)) (H.aB.map (·.bu))::cr dX V.bs H.batch::L) w):St w0 (dL bh bd (H.gK j q)::L) w:=by
 refine cn V ⟨hV.ps,hV.us,hV.bs,by simp[Ho.gK,hV.ways],hV.aB,hV.batch,hV.bW,hV.aK⟩ ?_
 unfold Bj
 rw[km (by rw[hV.ways];exact hj)]
 exact h
theorem pZ{bd:Nat}{V:tZ}{H:Ho}(hV:jw V H){j p:Nat}(hj:j<4)(hp:V.ps[j]? =some p):(fv bd V H)[8+j]? =some (bA p):=by
 have qB:=hV.ps
 have :∀(r:List Value),((V.ps.take 4).map bA++r)[j]? =some (bA p):=fun r=>by
  rw[List.getElem?_append_left ga,aG,List.getElem?_take,if_pos hj,hp];rfl
 unfold fv
 rw[show 8+j=j+8 by omega]
 simpa using this _
theorem LD{q:Qu}{id:Int}(h:mW q id≠0):eA q id=q:=by
 unfold mW at h
 unfold eA
 split
 ·rfl
 ·rename_i k hk;rw[hk]at h;exact absurd rfl h
theorem pG{l:List Qu}{i:Nat}{q:Qu}(h:l[i]? =some q):l.set i q=l:=List.ig h
theorem Kq(w0:World)(L:List HP)(bh bd n:Nat)(H:Ho)(s:ak)(hT:qH w0)(hM:qK w0)(hs:s.size<=80000)(hB:cK n H)(hn:∀l,td (di 47 s).1=some l->n+l.length<=90000)(hn0:n<=90000):
 KC prog 65 #[bA bh,.string s] w0 (dL bh bd H::L) (fun u M=>u=.bool (eZ H s).2/\M=dL bh bd (eZ H s).1::L):=by
 have wP:=(oZ 47 s).1
 have mI:=(oZ 47 s).2
 refine KC.mk (n:=130) func65 rfl ntmps65 aj ?_
 refine qE ?_
 refine KO.ce (cp:=[]) rfl rfl rfl call135 rfl (Ji w0 _ s 47 ae hM) ?_;rintro v' L' ⟨rfl,rfl⟩
 refine G3 ?_
 refine tK ?_
 refine nQ ?_
 refine lK ?_
 cases hm:td (di 47 s).1 with
 |none=>
  have he:eZ H s=(H,false):=by
   unfold eZ;split
   ·rfl
   ·rw[hm]
  rw[he]
  refine Z8 ?_
  refine KO.ce (cp:=[]) rfl rfl rfl call160 rfl (pS w0 _ (di 47 s).1 ae hT hM) ?_;rintro v' L' hR;unfold UA at hR;rw[hm]at hR;obtain⟨rfl,rfl⟩:=hR
  refine qc ?_
  cases kZ:(di 47 s).2.2 with
  |false=>
   refine Qo ?_
   refine mC ?_
   refine JD ?_
   refine KQ.bG rfl rfl (fun w' aX=>⟨_,_,rfl,⟨rfl,rfl⟩,aX⟩)
  |true=>
   refine A8 ?_
   refine A4 ?_
   refine Hc ?_
   refine K.cV rfl aj ?_
   refine A_ ?_
   refine KQ.bG rfl rfl (fun w' aX=>⟨_,_,rfl,⟨rfl,rfl⟩,aX⟩)
 |some l=>
  have hl:=hn l hm
  obtain⟨fG,_⟩:=oO hm
  have i_:∀m∈l,bT m=true:=fun m hm=>dG fG m hm
  refine Z8 ?_
  refine KO.ce (cp:=[]) rfl rfl rfl call160 rfl (pS w0 _ (di 47 s).1 ae hT hM) ?_;rintro v' L' hR;unfold UA at hR;rw[hm]at hR;obtain⟨v,rfl,rfl⟩:=hR
  refine qc ?_
  cases kZ:(di 47 s).2.2 with
  |false=>
   have he:eZ H s=(H,false):=by unfold eZ;rw[kZ];rfl
   rw[he]
   refine Qo ?_
   refine mC ?_
   refine JD ?_
   refine KQ.bG rfl rfl (fun w' aX=>⟨_,_,rfl,⟨rfl,rfl⟩,aX.drop⟩)
  |true=>
   have he:eZ H s=if(ef H l).2=false then((ef H l).1,false)else if(di 47 s).2.1=⟨#[]⟩then((ef H l).1,true)else iz (ef H l).1 (dE 43 (di 47 s).2.1):=by
    unfold eZ;rw[kZ,hm];rfl
   refine A8 ?_
   refine Jo ?_
   refine rB ?_
   refine Hf ?_
   refine Z6 ?_
   refine K.fact (fun w hw=>aY (hw.pick (A:=SL 44 5 du v l) .head)) ?_
   rintro⟨ad,cap,rfl,had⟩
   refine Z8 ?_
   refine BI ?_
   refine K.loop (fun p:Nat×Ho=>[(0,bA bh),(6,.string (di 47 s).2.1),(40,.slice ad l.length cap),(41,.int .i64 (l.length:Nat)),(42,.int .i64 (p.1:Nat))]) (fun p=>dL bh bd p.2::SL 44 5 du (.slice ad l.length cap) l::L) (fun p=>p.1<=l.length/\cK (n+p.1) p.2/\ef p.2 (l.drop p.1)=ef H l) (fun p=>l.length-p.1) (0,H)
    ⟨aV _,hB,rfl⟩ ⟨rfl,rfl,rfl,rfl,rfl,trivial⟩ (fun _ h=>h.all Y3) ?_
   rintro⟨i,H1⟩ ⟨hi,h_,kY⟩
   dsimp only at hi h_ kY ⊢
   refine iJ ?_
   refine K.bz rfl (fun h=>?_) (fun h=>?_)
   ·obtain⟨m,Gg⟩:∃e,l[i]? =some e:=⟨l[i],ao ae⟩
    have EB:=i_ m (ax Gg)
    obtain⟨m1,m2,m3,m4,-,-,m7,m8⟩:=bV EB
    obtain⟨g,rfl⟩:=had ae
    have tU:l.drop i=m::l.drop (i+1):=by
     obtain⟨h1,rfl⟩:=au.1 Gg
     exact List.drop_eq_getElem_cons h1
    rw[tU,ef]at kY
    have tT:=h_.next
    have hm4:0<=m.id/4/\m.id/4+1<=274877906945:=by omega
    have IS:∀H2,fM H1 m=some H2->cK (n+(i+1)) H2/\ef H2 (l.drop (i+1))=ef H l:=fun H2 h2=>⟨h_.Sc EB h2,by rw[h2]at kY;exact kY⟩
    have sG:fM H1 m=none->eZ H s=({H1 with next:=max H1.next (m.id/4+1)},false):=fun h2=>by
     rw[h2]at kY;simp only at kY;rw[he,<-kY,if_pos rfl]
    clear kY
    have OR:small m.pri:=by unfold small;omega
    obtain⟨mi,mp,mb,mq,mh⟩:=m
    dsimp only at m1 m2 m3 m4 m7 m8 hm4 OR sG
    refine qF ?_
    refine YD ?_
    refine KO.alloc rfl zeroValue44 aQ rfl ?_;intro b11
    refine yB ?_
    refine K.cx (fun _ h=>cI (h.pick bo)) ?_
    rintro⟨V,hV⟩
    dsimp only
    have qB:=hV.ps
    have I5:jw V {H1 with next:=max H1.next (mi/4+1)}:=⟨hV.ps,hV.us,hV.bs,hV.ways,hV.aB,hV.batch,hV.bW,hV.aK⟩
    refine K.draw [.pure,.pure,.pure,.pure,.read,.pure,.read,.pure,.pure,.pure,.pure,.pure,.write] [0,1,2,3,4,5,6,7,8,9,10,11,12] bH bH ?_
    refine tI ?_
    refine Qt ?_
    refine KO.dB (i:=5) rfl rfl isAgg3 bZ rfl rfl rfl ?_
    refine Jq ?_
    refine KO.div (a:=mi) (c:=4) rfl rfl ai m1 ae rfl ?_
    refine vP ?_
    refine KO.max2 rfl rfl rfl rfl ?_
    refine lJ ?_
    refine Qt ?_
    refine KO.gT (i:=5) rfl rfl rfl aQ za rfl bZ rfl Rs ?_;rw[show(fv bd V H1).set 5 (.int .i64 (max H1.next (mi/4+1)))=fv bd V {H1 with next:=max H1.next (mi/4+1)}from rfl]
    refine Z0 ?_
    have hg:=lA hV mq
    obtain⟨zv,IJ⟩:∃zv,zv=(eI (dJ V H1) mq).getD (.pointer none):=⟨_,rfl⟩
    refine K.draw [.pure,.pure,.pure,.read,.pure,.read,.read,.pure] [0,1,2,3,4,5,6,7] bH bH ?_
    refine mA ?_
    refine Yk ?_
    refine Qb ?_
    refine vE ?_
    refine KO.Ey gv mq rfl rfl rfl underlying123 underlying9 zeroValue119 bo rfl ?_;rw[<-IJ]
    refine Z7 ?_
    refine Qe ?_
    refine K.draw [.pure,.read,.pure,.pure,.pure,.read,.pure,.pure] [0,1,2,3,4,5,6,7] bH bH ?_
    refine Qa ?_
    refine vy ?_
    refine mA ?_
    refine Hm ?_
    refine KO.dB (i:=0) rfl rfl isAgg3 bZ rfl rfl rfl ?_
    refine xA ?_
    refine sx ?_
    refine K.bz rfl (fun I9=>?_) (fun I9=>?_)
    ·have hj:mh.toNat<4:=by omega
     have hmh:mh=((mh.toNat:Nat):Int):=by omega
     obtain⟨p,hp⟩:∃p,V.ps[mh.toNat]? =some p:=⟨_,ao ae⟩
     have hw:=pZ I5 (bd:=bd) hj hp
     have h2:fM H1 ⟨mi,mp,mb,mq,mh⟩=some (({H1 with next:=max H1.next (mi/4+1)}:Ho).gK mh.toNat (db (H1.dy mh.toNat) ⟨mi,mp,mb,mq,mh⟩ (-1))):=by unfold fM;exact if_pos I9
     obtain⟨h3,h4⟩:=IS _ h2
     refine K.draw [.pure,.pure,.read,.pure,.pure,.pure,.read,.read,.write] [0,1,2,3,4,5,6,7,8] bH bH ?_
     refine Z1 ?_
     refine Qa ?_
     refine vy ?_
     refine lJ ?_
     refine Ui ?_
     refine KO.kM (i:=mh.toNat) rfl rfl runUnderlying126 sizeOf119 hmh ae rfl ?_
     refine KO.dB (i:=8+mh.toNat) rfl rfl isAgg119 bZ Bd hw rfl ?_
     refine BM ?_
     refine KO.cl (cp:=[]) rfl rfl rfl call147 rfl (KC.nO (φ:=fun v=>v=.tuple #[]) hp (iH hV.ways hj) bo (fun L=>Dp w0 L p (H1.dy mh.toNat) ⟨mi,mp,mb,mq,mh⟩ (-1) ((h_.w hj).ok ae) OR)) ?_;rintro v' L' ⟨rfl,rfl⟩
     refine vD ?_
     refine KQ.round (i+1,_) ⟨by dsimp only;omega,h3,h4⟩ iK ⟨rfl,rfl,rfl,rfl,rfl,trivial⟩ (fun _ h=>?_)
     exact OZ V I5 mh.toNat hj _ (h.all Y5)
    ·have Q5:∀(o:Option Nat),H1.qI mq=o->fM H1 ⟨mi,mp,mb,mq,mh⟩=match o with|none=>none|some i=>some (({H1 with next:=max H1.next (mi/4+1)}:Ho).fB i (db (H1.ec i) ⟨mi,mp,mb,mq,mh⟩ (-1))):=fun o ho=>by
      unfold fM
      dsimp only
      rw[if_neg I9,show H1.qI mq=o from ho]
      all_goals (cases o<;>rfl)
     cases hq:H1.qI mq with
     |none=>
      rw[hq]at hg
      rw[hg]at IJ
      subst IJ
      refine jI ?_
      refine KO.TI rfl underlying119 rfl ?_
      refine Z7 ?_
      refine BA ?_
      refine Z3 ?_
      refine lT ?_
      refine KQ.bG rfl rfl (fun w' aX=>⟨_,_,rfl,⟨?_,rfl⟩,?_⟩)
      ·rw[sG (Q5 _ hq)]
      ·rw[sG (Q5 _ hq)]
       exact cn V I5 (aX.all Y5)
     |some k=>
      have hk:=(ik hq).1
      obtain⟨p,hp⟩:∃p,V.ps[4+k]? =some p:=⟨_,ao ae⟩
      rw[hq]at hg
      simp only[Option.bind_some,hp,Option.map_some]at hg
      rw[hg]at IJ
      subst IJ
      have h2:=Q5 _ hq
      obtain⟨h3,h4⟩:=IS _ h2
      refine jI ?_
      refine KO.AF rfl underlying119 rfl ?_
      refine Z7 ?_
      refine GZ ?_
      refine Z8 ?_
      refine BM ?_
      refine KO.cl (cp:=[]) rfl rfl rfl call147 rfl (KC.nO (φ:=fun v=>v=.tuple #[]) hp (lI hV.ways hk) bo (fun L=>Dp w0 L p (H1.ec k) ⟨mi,mp,mb,mq,mh⟩ (-1) ((h_.qa hk).ok ae) OR)) ?_;rintro v' L' ⟨rfl,rfl⟩
      refine vD ?_
      refine KQ.round (i+1,_) ⟨by dsimp only;omega,h3,h4⟩ iK ⟨rfl,rfl,rfl,rfl,rfl,trivial⟩ (fun _ h=>?_)
      exact Ak V I5 k _ (h.all Y5)
   ·have qn:i=l.length:=by omega
    subst qn
    rw[List.drop_length,ef]at kY
    rw[<-kY]at he
    simp only[Bool.true_eq_false,if_false]at he
    have tV:=h_.le (show n+l.length<=90000 by omega)
    refine xr ?_
    refine A5 ?_
    refine Z2 ?_
    refine K.bz rfl (fun HG=>?_) (fun HG=>?_)
    ·rw[if_pos HG]at he
     rw[he]
     refine A_ ?_
     refine KQ.bG rfl rfl (fun w' aX=>⟨_,_,rfl,⟨rfl,rfl⟩,aX.all Y1⟩)
    ·rw[if_neg HG]at he
     rw[he]
     have hpz:∀x∈dE 43 (di 47 s).2.1,x.size<=100000000:=fun x hx=>by have :=iq hx;omega
     have qk:(dE 43 (di 47 s).2.1).length<=(di 47 s).2.1.size+1:=by unfold dE;rw[bj,gC];have :=List.count_le_length (a:=43) (l:=(di 47 s).2.1.data.toList);rw[ki];omega
     refine xv ?_
     refine KO.ce (cp:=[]) rfl rfl rfl call133 rfl (l6 w0 _ (di 47 s).2.1 43 ae hM) ?_;rintro v' L' ⟨b92,rfl,rfl⟩
     refine X6 ?_
     generalize aj7:dE 43 (di 47 s).2.1=ws at hpz qk
     refine K.loop (fun p:Nat×Ho=>[(0,bA bh),(92,.slice (some ⟨b92,0,none⟩) ws.length ws.length),(93,.int .i64 (ws.length:Nat)),(94,.int .i64 (p.1:Nat))]) (fun p=>dL bh bd p.2::l5 (.slice (some ⟨b92,0,none⟩) ws.length ws.length) ws::L) (fun p=>p.1<=ws.length/\cK 90000 p.2/\iz p.2 (ws.drop p.1)=iz H1 ws) (fun p=>ws.length-p.1) (0,H1)
      ⟨aV _,tV,rfl⟩ ⟨rfl,rfl,rfl,rfl,trivial⟩ (fun _ h=>h.all Y1) ?_
     rintro⟨i,H2⟩ ⟨Zm,Vi,ku⟩
     dsimp only at Zm Vi ku ⊢
     refine iJ ?_
     refine K.bz rfl (fun h=>?_) (fun h=>?_)
     ·obtain⟨x,hx⟩:∃e,ws[i]? =some e:=⟨ws[i],ao ae⟩
      have hxz:=hpz x (ax hx)
      have hxc:=(oZ 32 x).1
      have tU:ws.drop i=x::ws.drop (i+1):=by
       obtain⟨h1,rfl⟩:=au.1 hx
       exact List.drop_eq_getElem_cons h1
      rw[tU,iz]at ku
      have mg:∀H3,iA H2 x=some H3->cK 90000 H3/\iz H3 (ws.drop (i+1))=iz H1 ws:=fun H3 h2=>⟨Vi.Xz h2,by rw[h2]at ku;exact ku⟩
      have sG:iA H2 x=none->iz H1 ws=(H2,false):=fun h2=>by rw[h2]at ku;exact ku.symm
      clear ku
      refine Ys ?_
      refine KO.iw rfl rfl isAgg9 bo (fun _=>rfl) xG aQ aQ rfl ?_
      refine mS ?_
      refine KO.ce (cp:=[]) rfl rfl rfl call135 rfl (Ji w0 _ x 32 ae hM) ?_;rintro v' L' ⟨rfl,rfl⟩
      refine G3 ?_
      refine tK ?_
      refine nQ ?_
      refine lK ?_
      cases lB:eW (di 32 x).1 with
      |none=>
       have h2:iA H2 x=none:=by unfold iA;rw[lB]
       refine Z8 ?_
       refine KO.ce (cp:=[]) rfl rfl rfl call136 rfl (iG w0 _ (di 32 x).1 ae hM) ?_;rintro v' L' ⟨hR,rfl⟩;unfold kj at hR;rw[lB]at hR;obtain⟨xx,TT,yy,rfl⟩:=hR
       refine qc ?_
       refine K.cx (fun _ h=>cI (h.pick bZ)) ?_
       rintro⟨V,hV⟩
       dsimp only
       refine G7 ?_
       refine KO.Ey gv _ rfl rfl rfl underlying123 underlying9 zeroValue119 bo rfl ?_
       refine mS ?_
       refine xD ?_
       refine mC ?_
       refine xE ?_
       refine Z3 ?_
       refine lT ?_
       refine KQ.bG rfl rfl (fun w' aX=>⟨_,_,rfl,⟨?_,rfl⟩,?_⟩)
       ·rw[sG h2]
       ·rw[sG h2]
        exact cn V hV (aX.all Y5)
      |some id=>
       refine Z8 ?_
       refine KO.ce (cp:=[]) rfl rfl rfl call136 rfl (iG w0 _ (di 32 x).1 ae hM) ?_;rintro v' L' ⟨hR,rfl⟩;unfold kj at hR;rw[lB]at hR;subst hR
       refine qc ?_
       refine K.cx (fun _ h=>cI (h.pick bZ)) ?_
       rintro⟨V,hV⟩
       dsimp only
       have hg:=lA hV (di 32 x).2.1
       have qB:=hV.ps
       cases hq:H2.qI (di 32 x).2.1 with
       |none=>
        have h2:iA H2 x=none:=by unfold iA;rw[lB];simp only;rw[hq]
        rw[hq]at hg
        refine G7 ?_
        refine KO.Ey gv (di 32 x).2.1 rfl rfl rfl underlying123 underlying9 zeroValue119 bo rfl ?_;rw[hg]
        refine mS ?_
        refine Jo ?_
        refine A2 ?_
        refine KO.on rfl rfl rfl ?_;refine KO.TI rfl underlying119 rfl ?_
        refine rB ?_
        refine BA ?_
        refine Z3 ?_
        refine lT ?_
        refine KQ.bG rfl rfl (fun w' aX=>⟨_,_,rfl,⟨?_,rfl⟩,?_⟩)
        ·rw[sG h2]
        ·rw[sG h2]
         exact cn V hV (aX.all Y5)
       |some k=>
        have hk:=(ik hq).1
        obtain⟨p,hp⟩:∃p,V.ps[4+k]? =some p:=⟨_,ao ae⟩
        rw[hq]at hg
        simp only[Option.bind_some,hp,Option.map_some]at hg
        have F7:=(Vi.qa hk).len
        have Hz:iA H2 x=if mW (H2.ec k) id=0 then some (H2.fB k (eA (H2.ec k) id))else none:=by unfold iA;rw[lB];simp only;rw[hq]
        refine G7 ?_
        refine KO.Ey gv (di 32 x).2.1 rfl rfl rfl underlying123 underlying9 zeroValue119 bo rfl ?_;rw[hg]
        refine mS ?_
        refine Jo ?_
        refine A2 ?_
        refine KO.on rfl rfl rfl ?_;refine KO.AF rfl underlying119 rfl ?_
        refine Eg ?_
        generalize htm:sX (H2.ec k) id=tm
        obtain⟨ti,tp,tb,tq,th⟩:=tm
        refine ji ?_
        refine KO.cl (cp:=[]) rfl rfl rfl call161 rfl (KC.nO (φ:=fun v=>v=.tuple #[.agg (du (sX (H2.ec k) id)).toArray,cS 70 (mW (H2.ec k) id)]) hp (lI hV.ways hk) bo (fun L=>NG w0 L p (H2.ec k) id ae)) ?_;rintro v' L' ⟨rfl,rfl⟩;rw[htm]
        refine G3 ?_
        refine KO.alloc rfl zeroValue44 aQ rfl ?_;intro b21
        refine K7 ?_
        refine yH ?_
        refine K.bz rfl (fun Zs=>?_) (fun Zs=>?_)
        ·rw[if_neg Zs]at Hz
         refine Z3 ?_
         refine lT ?_
         refine KQ.bG rfl rfl (fun w' aX=>⟨_,_,rfl,⟨?_,rfl⟩,?_⟩)
         ·rw[sG Hz]
         ·rw[sG Hz]
          rw[LD Zs,pG (lI hV.ways hk)]at aX
          exact cn V hV (aX.all Y5)
        ·have ago:mW (H2.ec k) id=0:=by simpa using Zs
         rw[if_pos ago]at Hz
         obtain⟨h3,h4⟩:=mg _ Hz
         refine qD ?_
         refine KQ.round (i+1,_) ⟨by dsimp only;omega,h3,h4⟩ iK ⟨rfl,rfl,rfl,rfl,trivial⟩ (fun _ h=>?_)
         exact Ak V hV k _ (h.all Y5)
     ·have qn:i=ws.length:=by omega
      subst qn
      rw[List.drop_length,iz]at ku
      rw[<-ku]
      refine Jy ?_
      refine KQ.bG rfl rfl (fun w' aX=>⟨_,_,rfl,⟨rfl,rfl⟩,aX.all Y1⟩)
end Go.Proofs.YtjhogocabcdjbabGreatDoor
namespace WB
open Go Go.RowKit Go.ChangeMaps Go.MapKept
section
variable {κ:Type}
structure itB (kv:κ->Value) (es:Array MapEntry) (gG:Nat) (seen:Array Nat) (m left:List (κ×Value)) (cur:Option (κ×Value)):Prop where
 esb:Zt kv es.toList gG m
 left:((leftOf es seen).toList.map fun e=>(e.key,e.val))=left.map fun x=>(kv x.1,x.2)
 cur:∀x,cur=some x->∃e∈es.toList,e.key=kv x.1/\e.val=x.2/\∃s:Array Nat,seen=s.push e.born
def Hw (kv:κ->Value) (b r:Nat) (m left:List (κ×Value)) (cur:Option (κ×Value)):HP:=
 ex fun es:Array MapEntry=>ex fun gG:Nat=>ex fun seen:Array Nat=>sep (LH (itB kv es gG seen m left cur)) (sep (bP b (.map es gG)) (bP r (.mapIter (some b) gG seen gG)))
variable {kv:κ->Value} {w0 w:World} {L:List HP} {P:Program} {b r:Nat} {m left:List (κ×Value)} {cur:Option (κ×Value)}
theorem Ad(h:St w0 (Hw kv b r m left cur::L) w):∃es gG seen,itB kv es gG seen m left cur/\St w0 (bP b (.map es gG)::bP r (.mapIter (some b) gG seen gG)::L) w:=by
 obtain⟨es,h⟩:=h.CN
 obtain⟨gG,h⟩:=h.CN
 obtain⟨seen,h⟩:=h.CN
 obtain⟨hi,h⟩:=h.split.sZ
 exact⟨es,gG,seen,hi,h.split⟩
theorem OD{es:Array MapEntry}{gG:Nat}{seen:Array Nat}(hi:itB kv es gG seen m left cur)(h:St w0 (bP b (.map es gG)::bP r (.mapIter (some b) gG seen gG)::L) w):St w0 (Hw kv b r m left cur::L) w:=
 St.Bv es (St.Bv gG (St.Bv seen (St.join (St.yl hi h.join))))
theorem OE(h:St w0 (Hw kv b r m left cur::L) w):St w0 (cg kv b m::L) w:=by
 obtain⟨es,gG,seen,hi,h⟩:=Ad h
 exact St.Bv es (St.Bv gG (St.join (St.yl hi.esb (h.pick (.tail .head)).drop)))
theorem Iz(es:Array MapEntry):leftOf es #[]=es:=by
 unfold leftOf
 rw[Array.filter_eq_self]
 intro e _;simp
theorem L_(h:St w0 (cg kv b m::L) w){t k E:TypeId}(ht:P.underlying t=some (.map k E)):
 ∃w',(Instr.range t (.map (some b))).run P w=.ok (.pointer (some ⟨w.heap.size,0,none⟩)) w'/\Ext w w'/\St w0 (Hw kv b w.heap.size m m none::L) w':=by
 obtain⟨es,h⟩:=h.CN
 obtain⟨gG,h⟩:=h.CN
 obtain⟨hr,h⟩:=h.split.sZ
 refine⟨_,run_range_map w t k E b es gG ht h.look.2,Ext.alloc w _,OD (es:=es) (gG:=gG) (seen:=#[]) ⟨hr,?_,fun x hx=>by cases hx⟩ (h.alloc (.mapIter (some b) gG #[] gG)).gJ⟩
 rw[Iz];exact hr.PA
theorem AE:∀{l:List MapEntry} {i:Nat} {e:MapEntry},(l.map (·.born)).Nodup->l[i]? =some e->l.filter (fun f=> !(f.born==e.born))=l.eraseIdx i
 |[],_,_,_,h=>by simp at h
 |a::l,0,e,hn,h=>by
  simp only[List.getElem?_cons_zero,az]at h;subst h
  rw[aL,bI]at hn
  simp only[bE,BEq.rfl,Bool.not_true,Bool.false_eq_true,if_false,List.eraseIdx_cons_zero]
  rw[aT]
  intro f hf
  have :f.born≠a.born:=fun e=>hn.1 (ay.2 ⟨f,hf,e⟩)
  simp[this]
 |a::l,i+1,e,hn,h=>by
  simp only[List.getElem?_cons_succ]at h
  rw[aL,bI]at hn
  have :a.born≠e.born:=fun ee=>hn.1 (ay.2 ⟨e,ax h,ee.symm⟩)
  simp only[bE,List.eraseIdx_cons_succ]
  rw[if_pos (by simp[this]),AE hn.2 h]
theorem OC(h:St w0 (Hw kv b r m left cur::L) w)(ty:TypeId):
 (left=[]/\(Instr.next (.pointer (some ⟨r,0,none⟩)) false ty).run P w=.ok (.tuple #[.bool false]) w)\/
 ∃(i:Nat) (x:κ×Value) (w':World),left[i]? =some x/\(Instr.next (.pointer (some ⟨r,0,none⟩)) false ty).run P w=.ok (.tuple #[.bool true,kv x.1,x.2]) w'/\St w0 (Hw kv b r m (left.eraseIdx i) (some x)::L) w':=by
 obtain⟨es,gG,seen,hi,h⟩:=Ad h
 have hb:=h.look.2
 have hr:=h.drop.look.2
 rcases run_next_at (P:=P) w ty r b gG gG seen es gG hr hb hi.esb.M7 (aD _)with⟨h0,WK⟩|⟨e,he,w1,rX,WK⟩
 ·left
  refine⟨?_,WK⟩
  have :=congrArg List.length hi.left
  simp[h0]at this
  exact List.eq_nil_of_length_eq_zero this.symm
 ·right
  obtain⟨i,W9,hie⟩:=List.getElem_of_mem he
  have WZ:(leftOf es seen).toList.length=left.length:=by have :=congrArg List.length hi.left;simpa using this
  have lC:e∈es.toList:=by
   have :=he
   unfold leftOf at this
   rw[Array.toList_filter]at this
   exact(aC.1 this).1
  have hx:∃x,left[i]? =some x/\e.key=kv x.1/\e.val=x.2:=by
   have qn:i<left.length:=by omega
   refine⟨left[i],ao qn,?_⟩
   have :=congrArg (fun l=>l[i]?) hi.left
   simp only[aG,ao W9,ao qn,Option.map_some,az,Prod.mk.injEq]at this
   rw[hie]at this
   exact this
  obtain⟨x,uT,FY,hx3⟩:=hx
  have kt:St w0 (bP b (.map es gG)::bP r (.mapIter (some b) gG seen gG)::L) w1:=by
   rcases rX with rfl|rfl
   ·exact h
   ·exact h.drew
  refine⟨i,x,_,uT,by rw[WK,FY,hx3],OD (es:=es) (gG:=gG) (seen:=seen.push e.born) ⟨hi.esb,?_,fun y hy=>?_⟩ ?_⟩
  ·have h1:(leftOf es (seen.push e.born)).toList=(leftOf es seen).toList.filter fun f=> !(f.born==e.born):=by
    unfold leftOf
    rw[Array.toList_filter,Array.toList_filter,bp]
    congr 1
    funext f
    simp only[Array.contains_push,Bool.not_or]
    exact Bool.and_comm _ _
   have hn:((leftOf es seen).toList.map (·.born)).Nodup:=by
    unfold leftOf
    rw[Array.toList_filter]
    exact(List.filter_sublist.map _).nodup hi.esb.nodup
   rw[h1,AE hn (i:=i) (by rw[ao W9,hie]),map_eraseIdx,map_eraseIdx,hi.left]
  ·cases hy
   exact⟨e,lC,FY,hx3,seen,rfl⟩
  ·refine(St.gJ (h.gJ.upd (w':=setBlock w1 r (.mapIter (some b) gG (seen.push e.born) gG)) ?_ ?_ ?_ ?_ ?_ ?_))
   ·rcases rX with rfl|rfl<;>rfl
   ·rcases rX with rfl|rfl<;>rfl
   ·rcases rX with rfl|rfl<;>rfl
   ·rcases rX with rfl|rfl<;>simp[setBlock]
   ·have dS:r<w.heap.size:=h.drop.lt
    rcases rX with rfl|rfl<;>simp[setBlock,dS]
   ·intro k hk
    rcases rX with rfl|rfl
    ·simp[setBlock,Array.getElem?_setIfInBounds,Ne.symm hk]
    ·simp[setBlock,Array.getElem?_setIfInBounds,Ne.symm hk];rfl
theorem Ma{x:κ×Value}(h:St w0 (Hw kv b r m left (some x)::L) w){w1:World}(he:Ext w w1):
 (Instr.entry (.pointer (some ⟨r,0,none⟩))).run P w1=.ok (.tuple #[kv x.1,x.2]) w1:=by
 obtain⟨es,gG,seen,hi,h⟩:=Ad h
 obtain⟨e,hm,h1,h2,s,rfl⟩:=hi.cur x rfl
 have hb:=h.look.2
 have hr:=h.drop.look.2
 have jG:w1.heap[b]? =some (.map es gG):=by rw[he.2 b h.lt];exact hb
 have Zg:w1.heap[r]? =some (.mapIter (some b) gG (s.push e.born) gG):=by rw[he.2 r h.drop.lt];exact hr
 rw[run_entry_at w1 r b gG s es gG e Zg jG hm hi.esb.nodup,h1,h2]
end
section
variable {κ:Type} {kv:κ->Value}
variable {P:Program} {ops:Array Oper} {d:Bool} {Q:Exit->Act->World->Prop} {n:Nat} {D:List Deferred} {w0:World} {G:Env} {L R:List HP} {l:List (Kd×Oper)} {k:Kd}
 {t:Nat} {op:Op} {ty T KT E:TypeId} {pos:String} {af:Array Edge} {x y u:Operand} {v z:Value} {b r:Nat} {m left:List (κ×Value)} {cur:Option (κ×Value)} {e:κ×Value}
theorem KO.wvP{ι:Type}(hk:(!d||k== .write)=true){φ:ι->Value->Prop}{N:ι->List HP}(hr:∀a w,cX n D G a->St w0 L w->∃v w' p,(execOp a.eval ⟨some t,op,ty,pos,af,none⟩).run P w=.ok (.value v) w'/\φ p v/\St w0 (N p) w')(ht:Nat.blt t n=true)(h:∀p v,φ p v->KO P ops d Q n D w0 ((t,v)::G) (N p) l):KO P ops d Q n D w0 G L ((k,⟨some t,op,ty,pos,af,none⟩)::l):=fun a w ha hw=>by
 obtain⟨v,w',p,hr,hp,hs⟩:=hr a w ha hw
 refine mD hk rfl ?_
 unfold Oper.wp
 rw[hr]
 exact h p v hp _ w' (iO ha _ ht) hs
theorem KO.rng(hk:(!d||(k== .dm||k== .write))=true)(hx:ev G x=some (.map (some b)))(hT:P.underlying T=some (.map KT E))(hp:bQ L (cg kv b m) R)(ht:Nat.blt t n=true)(h:∀r,KO P ops d Q n D w0 ((t,.pointer (some ⟨r,0,none⟩))::G) (Hw kv b r m m none::R) l):KO P ops d Q n D w0 G L ((k,⟨some t,.range T x,ty,pos,af,none⟩)::l):=
 KO.pU hk (F:=fun bb=>.pointer (some ⟨bb,0,none⟩)) (N:=fun r=>Hw kv b r m m none::R) (fun a w ha hw=>by
  obtain⟨w',h1,h2,h3⟩:=L_ (P:=P) (hw.pick hp) hT
  exact⟨w.heap.size,w',by simp[execOp,ha.eval hx,h1],h2,h3⟩) ht h
theorem KO.Sn(hk:(!d||k== .write)=true)(hx:ev G x=some (.pointer (some ⟨r,0,none⟩)))(hp:bQ L (Hw kv b r m left cur) R)(ht:Nat.blt t n=true)(h0:left=[]->KO P ops d Q n D w0 ((t,.tuple #[.bool false])::G) (cg kv b m::R) l)(h1:∀(i:Nat) (e:κ×Value),left[i]? =some e->KO P ops d Q n D w0 ((t,.tuple #[.bool true,kv e.1,e.2])::G) (Hw kv b r m (left.eraseIdx i) (some e)::R) l):
 KO P ops d Q n D w0 G L ((k,⟨some t,.next x false,ty,pos,af,none⟩)::l):=
 KO.wvP (ι:=Option (Nat×(κ×Value))) hk (φ:=fun p v=>match p with|none=>left=[]/\v=.tuple #[.bool false]|some (i,e)=>left[i]? =some e/\v=.tuple #[.bool true,kv e.1,e.2])
  (N:=fun p=>match p with|none=>cg kv b m::R|some (i,e)=>Hw kv b r m (left.eraseIdx i) (some e)::R) (fun a w ha hw=>by
   rcases OC (P:=P) (hw.pick hp) ty with⟨g0,g1⟩|⟨i,e,w',g0,g1,g2⟩
   ·exact⟨_,w,none,by simp[execOp,ha.eval hx,g1],⟨g0,rfl⟩,OE (hw.pick hp)⟩
   ·exact⟨_,w',some (i,e),by simp[execOp,ha.eval hx,g1],⟨g0,rfl⟩,g2⟩) ht
  (fun p v F8=>by
   match p,F8 with
   |none,⟨g0,g1⟩=>subst g1;exact h0 g0
   |some (i,e),⟨g0,g1⟩=>subst g1;exact h1 i e g0)
theorem KO.Jd(hk:(!d||k != .pure)=true)(hx:ev G x=some (.pointer (some ⟨r,0,none⟩)))(hp:bQ L (Hw kv b r m left (some e)) R)(ht:Nat.blt t n=true)(h:KO P ops d Q n D w0 ((t,.tuple #[kv e.1,e.2])::G) L l):KO P ops d Q n D w0 G L ((k,⟨some t,.entry x,ty,pos,af,none⟩)::l):=
 KO.rd hk (fun a w w' ha hw he=>by
  have :=Ma (P:=P) (hw.pick hp) he
  simp[execOp,ha.eval hx,this]) ht h
end
end WB
namespace Go.Proofs.YtjhogocabcdjbabGreatDoor
open Tryz
open Go Go.RowKit WB
theorem eE(w0:World)(L R:List HP)(bh bd:Nat)(H:Ho)(k:Int)(hp:bQ L (dL bh bd H) R):KE prog 79 #[bA bh,.int .i64 k] w0 L (fun u M=>u=.bool (cj H k)/\M=L):=by
 refine KE.mk (n:=19) func79 rfl ntmps79 aj ?_
 intro w hw
 obtain⟨V,hV,hc⟩:=oS hw hp
 have Ng:=hc 0 _ rfl
 refine A3 ?_
 by_cases h1:0<=k
 ·by_cases h2:k<4
  ·refine Z8 ?_
   refine vO ?_
   refine tN ?_
   refine yz ?_
   refine sO ?_
   refine tN ?_
   refine A1 ?_
   refine Jr ?_
   refine Hm ?_
   refine KO.on rfl rfl (by simp[h2]) ?_;refine KO.sE rfl rfl isAgg3 Ng rfl ?_
   refine lL ?_
   refine xA ?_
   refine sO ?_
   refine jH ?_
   refine KQ.bG rfl rfl (fun w' hs=>⟨_,_,rfl,⟨?_,rfl⟩,hw.aE hs.below,hs.below⟩)
   unfold cj
   simp[h1,h2]
  ·refine Z8 ?_
   refine vO ?_
   refine tN ?_
   refine yz ?_
   refine sO ?_
   refine G8 ?_
   refine x8 ?_
   refine jH ?_
   refine KQ.bG rfl rfl (fun w' hs=>⟨_,_,rfl,⟨?_,rfl⟩,hw.aE hs.below,hs.below⟩)
   unfold cj
   simp[h2]
 ·refine Z8 ?_
  refine vO ?_
  refine Bb ?_
  refine x8 ?_
  refine Em ?_
  refine EJ ?_
  refine Jt ?_
  refine KQ.bG rfl rfl (fun w' hs=>⟨_,_,rfl,⟨?_,rfl⟩,hw.aE hs.below,hs.below⟩)
  unfold cj
  simp[h1]
theorem LZ{α β:Type}(f:α->Option β)(l:List α)(a:α):(l++[a]).mapM f=(l.mapM f).bind fun xs=>(f a).map fun x=>xs++[x]:=by
 rw[List.mapM_append]
 cases l.mapM f with
 |none=>rfl
 |some xs=>
  cases h:f a with
  |none=>simp[h]
  |some x=>simp[h]
theorem mapM_none{α β:Type}(f:α->Option β){l:List α}{a:α}(h:a∈l)(hn:f a=none):l.mapM f=none:=by
 induction l with
 |nil=>cases h
 |cons b l ih=>
  rw[List.mapM_cons]
  rcases aF.1 h with rfl|h
  ·rw[hn];rfl
  ·rw[ih h];cases f b<;>rfl
theorem DG(w0:World)(L:List HP)(s:ak)(hs:s.size<=80000)(hM:qK w0):
 KE prog 238 #[.string s] w0 L (fun u M=>match qi s with|none=>u=.tuple #[.slice none 0 0,.bool false]/\M=L|some l=> ∃v,u=.tuple #[v,.bool true]/\M=SL 3 1 kL v l::L):=by
 refine KE.mk (n:=29) func238 rfl ntmps238 aj ?_
 intro w hw
 have Rj:qK w:=hM.ext (Ext.ct hw.below)
 have n4:∀x∈dE 32 s,x.size<=80000:=fun x hx=>by have :=iq hx;omega
 have qk:(dE 32 s).length<=100000:=by have :=s6 32 s;omega
 refine tG ?_
 refine mB ?_
 refine mS ?_
 refine KO.ce (cp:=[]) rfl rfl rfl call133 rfl (l6 w _ s 32 ae Rj) ?_;rintro v' L' ⟨b10,rfl,rfl⟩
 refine X6 ?_
 refine K.loop (fun p:Nat×List Int×Value=>[(4,p.2.2),(10,.slice (some ⟨b10,0,none⟩) (dE 32 s).length (dE 32 s).length),(11,.int .i64 ((dE 32 s).length:Nat)),(12,.int .i64 (p.1:Nat))]) (fun p=>SL 3 1 kL p.2.2 p.2.1::[l5 (.slice (some ⟨b10,0,none⟩) (dE 32 s).length (dE 32 s).length) (dE 32 s)]) (fun p=>p.1<=(dE 32 s).length/\((dE 32 s).take p.1).mapM eW=some p.2.1/\p.2.1.length=p.1) (fun p=>(dE 32 s).length-p.1) (0,[],.slice none 0 0)
  ⟨aV _,by rfl,rfl⟩ ⟨rfl,rfl,rfl,rfl,trivial⟩ (fun w' h=>cM h) ?_
 rintro⟨i,l,v⟩ ⟨hi,hm,hl⟩
 dsimp only at hi hm hl ⊢
 refine iJ ?_
 refine K.bz rfl (fun h=>?_) (fun h=>?_)
 ·obtain⟨x,hx⟩:∃e,(dE 32 s)[i]? =some e:=⟨(dE 32 s)[i],ao ae⟩
  have tP:=n4 x (ax hx)
  have SY:=bJ hx
  refine Ys ?_
  refine KO.iw (i:=i) (sz:=1) (cf:=ln) (e:=x) rfl rfl isAgg9 bo (fun _=>rfl) hx aj aQ rfl ?_
  refine lK ?_
  cases lB:eW x with
  |none=>
   have sG:qi s=none:=mapM_none eW (ax hx) lB
   refine Z8 ?_
   refine KO.ce (cp:=[]) rfl rfl rfl call136 rfl (iG w _ x ae Rj) ?_;rintro v' L' ⟨hR,rfl⟩;unfold kj at hR;rw[lB]at hR;obtain⟨xx,TT,yy,rfl⟩:=hR
   refine ky ?_
   refine xD ?_
   refine BA ?_
   refine tG ?_
   refine lT ?_
   refine KQ.fp rfl rfl rfl (fun w' aX=>⟨_,_,rfl,?_,hw.aE aX.below,aX.below⟩)
   rw[sG];exact⟨rfl,rfl⟩
  |some k=>
   have Cx:((dE 32 s).take (i+1)).mapM eW=some (l++[k]):=by rw[SY,LZ,hm,lB];rfl
   refine Z8 ?_
   refine KO.ce (cp:=[]) rfl rfl rfl call136 rfl (iG w _ x ae Rj) ?_;rintro v' L' ⟨hR,rfl⟩;unfold kj at hR;rw[lB]at hR;subst hR
   refine ky ?_
   refine Jo ?_
   refine GZ ?_
   refine T4 ?_
   refine ji ?_
   refine KO.lY (z:=(Value.int .i64 0)) (sz:=1) (dP:=8) rfl rfl underlying23 bH aQ aQ ai ai rfl ?_;intro b25
   refine KO.app (cf:=kL) (z:=Value.int .i64 0) (sz:=1) (dP:=8) (xs:=l) rfl rfl rfl (.tail .head) .head underlying23 bH aQ k rfl rfl rfl ae ai rfl ?_;intro v26
   refine vz ?_
   refine KQ.round (i+1,l++[k],v26) ⟨by dsimp only;omega,Cx,by dsimp only;simp;omega⟩ iK ⟨rfl,rfl,rfl,rfl,trivial⟩ (fun _ h=>h.all QE)
 ·have hie:i=(dE 32 s).length:=by omega
  subst hie
  rw[List.take_length]at hm
  have hio:qi s=some l:=hm
  refine xr ?_
  refine rC ?_
  refine KQ.fp rfl rfl rfl (fun w' aX=>⟨_,SL 3 1 kL v l::L,rfl,?_,?_,aX.below⟩)
  ·rw[hio];exact⟨v,rfl,rfl⟩
  ·exact hw.stack (M:=[SL 3 1 kL v l]) (aX.all (by with_reducible repeat(first|exact gP.nil|refine gP.cons (by with_reducible repeat(exact bQ.head)) ?_)))
theorem lD(us:List (Value×Value)):(us.flatMap (fun p=>[p.1,p.2])).length=2*us.length:=by
 induction us with
 |nil=>rfl
 |cons a l ih=>rw[aR,aP,ih];simp;omega
theorem Cv(bd:Nat)(V:tZ)(H:Ho):fv bd V H=(([.int .i64 H.id,bA bd,.int .i64 (H.used:Nat),.bool H.down,.int .i64 H.dz,.int .i64 H.next,V.nv,.map (some V.mb)]:List Value)++(V.ps.take 4).map bA)++(V.us.flatMap (fun p=>[p.1,p.2])++(V.bs++(H.bW.map (Value.int .i64)++H.aK.map (Value.int .i64)))):=by
 unfold fv;simp
theorem xf{α:Type}(A R:List α)(i:Nat):(A++R)[A.length+i]? =R[i]? :=by rw[bf ae,Nat.add_sub_cancel_left]
theorem rN{α:Type}(A R:List α)(i:Nat)(v:α):(A++R).set (A.length+i) v=A++R.set i v:=by rw[List.set_append_right _ _ ae,Nat.add_sub_cancel_left]
theorem wI(bd:Nat){V:tZ}{H:Ho}(hV:jw V H):∃A:List Value,A.length=22/\∀(bs:List Value) (sn ar:List Int),fv bd {V with bs:=bs} {H with bW:=sn,aK:=ar}=A++(bs++(sn.map (Value.int .i64)++ar.map (Value.int .i64))):=by
 refine⟨(([.int .i64 H.id,bA bd,.int .i64 (H.used:Nat),.bool H.down,.int .i64 H.dz,.int .i64 H.next,V.nv,.map (some V.mb)]:List Value)++(V.ps.take 4).map bA)++V.us.flatMap (fun p=>[p.1,p.2]),?_,fun bs sn ar=>?_⟩
 ·have h1:=hV.ps
  simp only[aP,bj,bL,lD,hV.us,List.length_cons,List.length_nil]
  omega
 ·rw[Cv];simp only[aH]
theorem r0{bd:Nat}{V:tZ}{H:Ho}(hV:jw V H){k:Nat}{v:Value}(h:V.bs[k]? =some v):(fv bd V H)[22+k]? =some v/\∀u,(fv bd V H).set (22+k) u=fv bd {V with bs:=V.bs.set k u} H:=by
 obtain⟨A,hA,hc⟩:=wI bd hV
 have h1:=hc V.bs H.bW H.aK
 have hk:=(au.1 h).1
 refine⟨?_,fun u=>?_⟩
 ·rw[show fv bd V H=_ from h1,<-hA,xf,List.getElem?_append_left hk];exact h
 ·rw[show fv bd V H=_ from h1,<-hA,rN,List.set_append_left _ _ hk];exact(hc _ _ _).symm
theorem yZ{bd:Nat}{V:tZ}{H:Ho}(hV:jw V H){k:Nat}(hk:k<4):(fv bd V H)[26+k]? =some (.int .i64 (bD H k))/\∀u,(fv bd V H).set (26+k) (.int .i64 u)=fv bd V {H with bW:=H.bW.set k u}:=by
 obtain⟨A,hA,hc⟩:=wI bd hV
 have h1:=hc V.bs H.bW H.aK
 have hs:=hV.bW
 have hb:=hV.bs
 have e1:26+k=A.length+(V.bs.length+k):=by omega
 refine⟨?_,fun u=>?_⟩
 ·rw[show fv bd V H=_ from h1,e1,xf,xf,List.getElem?_append_left nI,aG]
  unfold bD
  rw[aq,ao ae];rfl
 ·rw[show fv bd V H=_ from h1,e1,rN,rN,List.set_append_left _ _ nI,<-List.map_set]
  exact(hc _ _ _).symm
theorem y0{bd:Nat}{V:tZ}{H:Ho}(hV:jw V H){k:Nat}(hk:k<4):(fv bd V H)[30+k]? =some (.int .i64 (bY H k))/\∀u,(fv bd V H).set (30+k) (.int .i64 u)=fv bd V {H with aK:=H.aK.set k u}:=by
 obtain⟨A,hA,hc⟩:=wI bd hV
 have h1:=hc V.bs H.bW H.aK
 have hs:=hV.bW
 have ha:=hV.aK
 have hb:=hV.bs
 have e1:30+k=A.length+(V.bs.length+((H.bW.map (Value.int .i64)).length+k)):=by rw[bj];omega
 refine⟨?_,fun u=>?_⟩
 ·rw[show fv bd V H=_ from h1,e1,xf,xf,xf,aG]
  unfold bY
  rw[aq,ao ae];rfl
 ·rw[show fv bd V H=_ from h1,e1,rN,rN,rN,<-List.map_set]
  exact(hc _ _ _).symm
theorem R4{w0 w:World}{L:List HP}{g cap:Nat}{a b:Int}{l:List Int}(h:St w0 (SL 3 1 kL (.slice (some ⟨g,0,none⟩) (l.length+2) cap) (a::b::l)::L) w):
 St w0 (dX (.slice (some (cutAt g 1 1 cap)) (l.length+2-1) (cap-1)) (b::l)::L) w:=by
 obtain⟨h1,h2,h3,cur,h4,h5,h6⟩:=gF h
 have e1:(cutAt g 1 1 cap)=⟨g,1,none⟩:=by unfold cutAt;rw[if_neg ae]
 rw[e1]
 refine NR (cs:=cur.toList) (cap:=cap-1) (l:=b::l) (off:=1) (fun i x hx=>?_) (by simpa using h6)
 have h7:(cur.toList.take ((a::b::l).length*1))[1+i]? =some (.int .i64 x):=by
  rw[h5]
  have h8:∀l:List Int,l.flatMap kL=l.map (Value.int .i64):=fun l=>by
   induction l with
   |nil=>rfl
   |cons x l ih=>rw[aR,ih];rfl
  rw[h8,aG,show(1+i)=i+1 by omega,List.getElem?_cons_succ,hx];rfl
 rw[List.getElem?_take]at h7
 split at h7
 ·exact h7
 ·cases h7
theorem Ta(w0:World)(L:List HP)(bh bd n:Nat)(H:Ho)(s:ak)(hM:qK w0)(hB:cK n H)(hn:n<=90000)(hs:s.size<=80000):
 KC prog 140 #[bA bh,.string s] w0 (dL bh bd H::L) (fun u M=>u=.bool (iy H s).2/\M=dL bh bd (iy H s).1::L):=by
 refine KC.mk (n:=48) func140 rfl ntmps140 aj ?_
 refine A3 ?_
 cases hi:qi s with
 |none=>
  have he:iy H s=(H,false):=by unfold iy;rw[hi]
  rw[he]
  refine Z8 ?_
  refine KO.ce (cp:=[]) rfl rfl rfl call238 rfl (DG w0 _ s hs hM) ?_;rintro v' L' hR;rw[hi]at hR;obtain⟨rfl,rfl⟩:=hR
  refine ky ?_
  refine qp ?_
  refine tM ?_
  refine BH ?_
  refine EJ ?_
  refine JD ?_
  refine KQ.bG rfl rfl (fun w' aX=>⟨_,_,rfl,⟨rfl,rfl⟩,aX⟩)
 |some l=>
  refine Z8 ?_
  refine KO.ce (cp:=[]) rfl rfl rfl call238 rfl (DG w0 _ s hs hM) ?_;rintro v' L' hR;rw[hi]at hR;obtain⟨v,rfl,rfl⟩:=hR
  refine qc ?_
  refine K.fact (fun w hw=>aY (hw.pick (A:=SL 3 1 kL v l) .head)) ?_
  rintro⟨ad,cap,rfl,had⟩
  by_cases hl:l.length<2
  ·have he:iy H s=(H,false):=by
    unfold iy;rw[hi]
    match l,hl with
    |[],_=>rfl
    |[a],_=>rfl
   rw[he]
   refine A8 ?_
   refine rG ?_
   refine rA ?_
   refine yz ?_
   refine rB ?_
   refine G8 ?_
   refine Ej ?_
   refine K.cV rfl (by simp[hl];try omega) ?_
   refine A_ ?_
   refine KQ.bG rfl rfl (fun w' aX=>⟨_,_,rfl,⟨rfl,rfl⟩,aX.drop⟩)
  obtain⟨g,rfl⟩:=had ae
  obtain⟨k,a,r,rfl⟩:∃k a r,l=k::a::r:=by
   match l,hl with
   |[],h=>exact absurd aj h
   |[a],h=>exact absurd aj h
   |k::a::r,_=>exact⟨k,a,r,rfl⟩
  have hld:∀z:Int,decide ((((z::a::r).length:Nat):Int)<2)=false:=fun z=>by rw[decide_eq_false_iff_not];simp;omega
  cases hk:cj H k with
  |false=>
   have sl:=hld k
   have he:iy H s=(H,false):=by unfold iy;rw[hi];simp[hk]
   rw[he]
   refine A8 ?_
   refine rG ?_
   refine rA ?_
   refine yz ?_
   refine BK ?_
   refine Z1 ?_
   refine KO.on rfl rfl sl ?_;refine KO.eX (i:=0) rfl rfl runUnderlying23 sizeOf3 rfl aj rfl ?_
   refine KO.on rfl rfl sl ?_;refine KO.iw (i:=0) (sz:=1) (cf:=kL) (e:=k) rfl rfl isAgg3 bZ (fun _=>rfl) rfl aQ aQ rfl ?_
   refine KO.on rfl rfl sl ?_;refine KO.ce (cp:=[]) rfl rfl rfl call79 rfl (eE w0 _ _ bh bd H k bo) ?_;rintro v' L' ⟨rfl,rfl⟩;rw[hk]
   refine yD ?_
   refine Hc ?_
   refine K.cV rfl (by simp[sl]) ?_
   refine A_ ?_
   refine KQ.bG rfl rfl (fun w' aX=>⟨_,_,rfl,⟨rfl,rfl⟩,aX.drop⟩)
  |true=>
   obtain⟨wJ,lV,-⟩:=bM.1 hk
   obtain⟨j,rfl⟩:∃j:Nat,k=(j:Int):=⟨k.toNat,by omega⟩
   have hj:j<4:=by omega
   have sl:=hld (j:Int)
   have he:iy H s=({H with batch:=H.batch.set j (a::r),bW:=H.bW.set j (bD H j+1)},true):=by unfold iy;rw[hi];simp[hk]
   rw[he]
   refine A8 ?_
   refine rG ?_
   refine rA ?_
   refine yz ?_
   refine BK ?_
   refine Z1 ?_
   refine KO.on rfl rfl sl ?_;refine KO.eX (i:=0) rfl rfl runUnderlying23 sizeOf3 rfl aj rfl ?_
   refine KO.on rfl rfl sl ?_;refine KO.iw (i:=0) (sz:=1) (cf:=kL) (e:=(j:Int)) rfl rfl isAgg3 bZ (fun _=>rfl) rfl aQ aQ rfl ?_
   refine KO.on rfl rfl sl ?_;refine KO.ce (cp:=[]) rfl rfl rfl call79 rfl (eE w0 _ _ bh bd H (j:Int) bo) ?_;rintro v' L' ⟨rfl,rfl⟩;rw[hk]
   refine yD ?_
   refine Hc ?_
   refine K.dp rfl (by simp[sl]) ?_
   refine Z6 ?_
   refine K.cx (fun _ h=>cI (h.pick bo)) ?_
   rintro⟨V,hV⟩
   dsimp only
   refine K.fact (fun w hw=>(JN (hw.pick (A:=SL 3 1 kL _ _) bo)).2) ?_
   intro Tm
   have Ku:=hV.bs
   have sI:=hV.batch
   obtain⟨bv,Cz⟩:∃e,V.bs[j]? =some e:=⟨_,ao ae⟩
   obtain⟨bl,hbl⟩:∃e,H.batch[j]? =some e:=⟨_,ao ae⟩
   obtain⟨c1,c2⟩:=r0 (bd:=bd) hV Cz
   obtain⟨oz,uV⟩:0<=bD H j/\bD H j<=(n:Int):=mJ hB.ext.VQ
   obtain⟨vb,hvb⟩:∃vb,vb=Value.slice (some (cutAt g 1 1 cap)) (((j:Int)::a::r).length-1) (cap-1):=⟨_,rfl⟩
   have u5:∀u,jw {V with bs:=V.bs.set j u} H:=fun u=>⟨hV.ps,hV.us,by simp[Ku],hV.ways,hV.aB,hV.batch,hV.bW,hV.aK⟩
   refine K.draw [.pure,.pure,.pure,.read,.pure,.pure,.pure,.pure,.pure,.write] [0,1,2,3,4,5,6,7,8,9] bH bH ?_
   refine nB ?_
   refine Z75 ?_
   refine Z1 ?_
   refine KO.cutFrom (lo:=1) rfl rfl underlying23 sizeOf3 rfl aj (by simpa using Tm) rfl ?_;rw[<-hvb]
   refine lJ ?_
   refine Z41 ?_
   refine KO.gT (i:=22+j) rfl rfl rfl (by rw[hvb];rfl) Y55 (by rw[hvb];rfl) bZ Bd Rs ?_;rw[c2]
   refine Z0 ?_
   obtain⟨d1,d2⟩:=yZ (bd:=bd) (u5 vb) hj
   refine K.draw [.pure,.pure,.pure,.read,.pure,.pure,.pure,.read,.pure,.pure,.pure,.pure,.write] [0,1,2,3,4,5,6,7,8,9,10,11,12] bH bH ?_
   refine nB ?_
   refine Z75 ?_
   refine lJ ?_
   refine Ut ?_
   refine KO.dB (i:=26+j) rfl rfl isAgg3 bZ Bd d1 rfl ?_
   refine Jw ?_
   refine Ut ?_
   refine KO.gT (i:=26+j) rfl rfl rfl aQ za rfl bZ Bd (by rw[rZ (u5 _)];omega) ?_;rw[d2]
   refine rE ?_
   refine KQ.bG rfl rfl (fun w' aX=>⟨_,_,rfl,⟨rfl,rfl⟩,?_⟩)
   have h1:=R4 (a:=(j:Int)) (b:=a) (l:=r) (aX.pick (A:=SL 3 1 kL (.slice (some ⟨g,0,none⟩) ((j:Int)::a::r).length cap) ((j:Int)::a::r)) bo)
   rw[show Value.slice (some (cutAt g 1 1 cap)) (r.length+2-1) (cap-1)=vb from hvb.symm]at h1
   have h2:=dD Cz hbl (h1.pick (A:=cr dX V.bs H.batch) bo)
   have h3:=ja (f:=dX) (ps:=V.bs) (xs:=H.batch) (i:=j) (p:=vb) (x:=a::r) ae ae (h2.all (M:=dX vb (a::r)::cr dX (V.bs.eraseIdx j) (H.batch.eraseIdx j)::_) Y5)
   exact cn {V with bs:=V.bs.set j vb} ⟨hV.ps,hV.us,by simp[Ku],hV.ways,hV.aB,by simp[sI],by simp[hV.bW],hV.aK⟩ (h3.all Y7)
theorem Fg(q:Qu)(l:List Int)(a:Int):cN q (l++[a])=eA (cN q l) a:=by unfold cN;rw[List.foldl_append];rfl
theorem Fb{w0 w:World}{L:List HP}{T:TypeId}{v:Value}{l:List Int}(hl:0<l.length)(h:St w0 (Za T v l::L) w):
 ∃c:{c:Nat×Nat×List Value×Nat//v=.slice (some ⟨c.1,c.2.1,none⟩) l.length c.2.2.2/\∀(i:Nat) x,l[i]? =some x->c.2.2.1[c.2.1+i]? =some (Value.int .i64 x)},St w0 (bP c.1.1 (.cells c.1.2.2.1.toArray T (0,0))::L) w:=by
 obtain⟨c,h⟩:=h.CN
 match c,h with
 |none,h=>obtain⟨⟨rfl,rfl⟩,_⟩:=h.sZ;simp at hl
 |some (g,off,cs,cap),h=>obtain⟨h1,h2⟩:=h.split.sZ;exact⟨⟨(g,off,cs,cap),h1⟩,h2⟩
theorem O6(w0:World)(L:List HP)(bh bd n:Nat)(H:Ho)(s:ak)(hM:qK w0)(hB:cK n H)(hn:n<=90000)(hs:s.size<=80000):
 KC prog 141 #[bA bh,.string s] w0 (dL bh bd H::L) (fun u M=>u=.bool (ft H s).2/\M=dL bh bd (ft H s).1::L):=by
 refine KC.mk (n:=63) func141 rfl ntmps141 aj ?_
 refine A3 ?_
 cases hi:qi s with
 |none=>
  have he:ft H s=(H,false):=by unfold ft;rw[hi]
  rw[he]
  refine Z8 ?_
  refine KO.ce (cp:=[]) rfl rfl rfl call238 rfl (DG w0 _ s hs hM) ?_;rintro v' L' hR;rw[hi]at hR;obtain⟨rfl,rfl⟩:=hR
  refine ky ?_
  refine qp ?_
  refine tM ?_
  refine BH ?_
  refine EJ ?_
  refine JD ?_
  refine KQ.bG rfl rfl (fun w' aX=>⟨_,_,rfl,⟨rfl,rfl⟩,aX⟩)
 |some l=>
  refine Z8 ?_
  refine KO.ce (cp:=[]) rfl rfl rfl call238 rfl (DG w0 _ s hs hM) ?_;rintro v' L' hR;rw[hi]at hR;obtain⟨v,rfl,rfl⟩:=hR
  refine qc ?_
  refine K.fact (fun w hw=>aY (hw.pick (A:=SL 3 1 kL v l) .head)) ?_
  rintro⟨ad,cap,rfl,had⟩
  by_cases hl:l.length=1
  ·obtain⟨g,rfl⟩:=had ae
   obtain⟨k,rfl⟩:∃k,l=[k]:=by
    match l,hl with
    |[k],_=>exact⟨k,rfl⟩
   have sl:decide ((([k].length:Nat):Int)≠1)=false:=rfl
   cases hk:cj H k with
   |false=>
    have he:ft H s=(H,false):=by unfold ft;rw[hi];simp[hk]
    rw[he]
    refine A8 ?_
    refine rG ?_
    refine rA ?_
    refine xA ?_
    refine BK ?_
    refine Z1 ?_
    refine KO.on rfl rfl sl ?_;refine KO.eX (i:=0) rfl rfl runUnderlying23 sizeOf3 rfl aj rfl ?_
    refine KO.on rfl rfl sl ?_;refine KO.iw (i:=0) (sz:=1) (cf:=kL) (e:=k) rfl rfl isAgg3 bZ (fun _=>rfl) rfl aQ aQ rfl ?_
    refine KO.on rfl rfl sl ?_;refine KO.ce (cp:=[]) rfl rfl rfl call79 rfl (eE w0 _ _ bh bd H k bo) ?_;rintro v' L' ⟨rfl,rfl⟩;rw[hk]
    refine yD ?_
    refine rB ?_
    refine BA ?_
    refine A_ ?_
    refine KQ.bG rfl rfl (fun w' aX=>⟨_,_,rfl,⟨rfl,rfl⟩,aX.drop⟩)
   |true=>
    obtain⟨wJ,lV,-⟩:=bM.1 hk
    obtain⟨j,rfl⟩:∃j:Nat,k=(j:Int):=⟨k.toNat,by omega⟩
    have hj:j<4:=by omega
    have he:ft H s=({H.gK j (cN (H.dy j) (bm H j))with batch:=H.batch.set j []},true):=by unfold ft;rw[hi];simp[hk]
    rw[he]
    refine A8 ?_
    refine rG ?_
    refine rA ?_
    refine xA ?_
    refine BK ?_
    refine Z1 ?_
    refine KO.on rfl rfl sl ?_;refine KO.eX (i:=0) rfl rfl runUnderlying23 sizeOf3 rfl aj rfl ?_
    refine KO.on rfl rfl sl ?_;refine KO.iw (i:=0) (sz:=1) (cf:=kL) (e:=(j:Int)) rfl rfl isAgg3 bZ (fun _=>rfl) rfl aQ aQ rfl ?_
    refine KO.on rfl rfl sl ?_;refine KO.ce (cp:=[]) rfl rfl rfl call79 rfl (eE w0 _ _ bh bd H (j:Int) bo) ?_;rintro v' L' ⟨rfl,rfl⟩;rw[hk]
    refine yD ?_
    refine Eg ?_
    refine K.cx (fun _ h=>cI (h.pick bo)) ?_
    rintro⟨V,hV⟩
    dsimp only
    have Ku:=hV.bs
    have sI:=hV.batch
    have qB:=hV.ps
    obtain⟨bv,Cz⟩:∃e,V.bs[j]? =some e:=⟨_,ao ae⟩
    obtain⟨bl,wQ⟩:∃e,H.batch[j]? =some e:=⟨_,ao ae⟩
    have Ts:bm H j=bl:=by unfold bm;rw[aq,wQ];rfl
    have abr:=hB.ext.Vu bl (ax wQ)
    rw[Ts]
    obtain⟨c1,c2⟩:=r0 (bd:=bd) hV Cz
    obtain⟨p,hp⟩:∃p,V.ps[j]? =some p:=⟨_,ao ae⟩
    have hw:=pZ (bd:=bd) hV hj hp
    have hqB:=hB.w hj
    have fw:=iH hV.ways hj
    refine Un ?_
    refine K.fact (fun w hw=>qV (hw.pick (A:=dX bv bl) .head)) ?_
    rintro⟨ba,bc,rfl⟩
    refine K.draw [.pure,.pure,.pure,.read,.pure,.pure,.pure,.read,.pure,.pure] [0,1,2,3,4,5,6,7,8,9] bH bH ?_
    refine nB ?_
    refine Z75 ?_
    refine lJ ?_
    refine M1 ?_
    refine rG ?_
    refine ox ?_
    refine K.loop (fun i:Nat=>[(0,bA bh),(5,.slice (some ⟨g,0,none⟩) [(j:Int)].length cap),(36,.slice ba bl.length bc),(37,.int .i64 (bl.length:Nat)),(38,.int .i64 (i:Nat))])
     (fun i=>dX (.slice ba bl.length bc) bl::cr dX (V.bs.eraseIdx j) (H.batch.eraseIdx j)::SL 3 1 kL (.slice (some ⟨g,0,none⟩) [(j:Int)].length cap) [(j:Int)]::bP bh (.cells (fv bd V H).toArray 133 (0,0))::lQ V.nv H.names::cg Value.string V.mb (dJ V H)::cr jz V.ps (H.all.set j (cN (H.dy j) (bl.take i)))::cr dj (V.us.map (·.1)) (H.aB.map (·.aM))::cr dh (V.us.map (·.2)) (H.aB.map (·.bu))::L)
     (fun i=>i<=bl.length) (fun i=>bl.length-i) 0 (aV _) ⟨rfl,rfl,rfl,rfl,rfl,trivial⟩ (fun w' aX=>?_) ?_
    ·rw[show H.all.set j (cN (H.dy j) (bl.take 0))=H.all from pG fw]
     exact aX.all Y7
    intro i Zm
    refine iJ ?_
    refine K.bz rfl (fun h=>?_) (fun h=>?_)
    ·obtain⟨x,hx⟩:∃e,bl[i]? =some e:=⟨bl[i],ao ae⟩
     have SY:cN (H.dy j) (bl.take (i+1))=eA (cN (H.dy j) (bl.take i)) x:=by rw[bJ hx,Fg]
     have yY:=hqB.E5 (bl.take i)
     have F7:=yY.len
     have mg:(H.all.set j (cN (H.dy j) (bl.take i)))[j]? =some (cN (H.dy j) (bl.take i)):=List.getElem?_set_self (au.1 fw).1
     generalize htm:sX (cN (H.dy j) (bl.take i)) x=tm
     obtain⟨ti,tp,tb,tq,th⟩:=tm
     refine HU ?_
     refine K.cx (fun w' hw'=>Fb ae (hw'.pick (A:=dX (.slice ba bl.length bc) bl) bZ)) ?_
     rintro⟨⟨gb,off,cs,alU⟩,hv,lW⟩
     dsimp only at hv lW ⊢
     simp only[Value.slice.injEq,true_and]at hv
     obtain⟨rfl,rfl⟩:=hv
     refine dR ?_
     refine KO.II (i:=i) rfl rfl runUnderlying23 sizeOf3 rfl ae rfl ?_
     refine KO.dB (i:=off+i) rfl rfl isAgg3 bZ (by rw[Addr.add_lit,Nat.mul_one]) (lW i x hx) rfl ?_
     refine sx ?_
     refine K.draw [.pure,.pure,.pure,.read,.pure,.pure,.pure,.read,.pure,.write,.pure,.pure,.pure] [0,1,2,3,4,5,6,7,8,9,10,11,12] bH bH ?_
     refine nB ?_
     refine Z75 ?_
     refine lJ ?_
     refine Uu ?_
     refine KO.dB (i:=8+j) rfl rfl isAgg119 bo Bd hw rfl ?_
     refine Z1 ?_
     refine KO.cl (cp:=[]) rfl rfl rfl call161 rfl (KC.nO (φ:=fun v=>v=.tuple #[.agg (du (sX (cN (H.dy j) (bl.take i)) x)).toArray,cS 70 (mW (cN (H.dy j) (bl.take i)) x)]) hp mg bo (fun L=>NG w0 L p (cN (H.dy j) (bl.take i)) x ae)) ?_;rintro v' L' ⟨rfl,rfl⟩;rw[htm,List.set_set]
     refine G3 ?_
     refine vD ?_
     refine KQ.round (i+1) ae ae ⟨rfl,rfl,rfl,rfl,rfl,trivial⟩ (fun w' aX=>?_)
     rw[SY]
     have h1:St w0 (dX (.slice (some ⟨gb,off,none⟩) bl.length bc) bl::_) w':=NR (T:=3) (g:=gb) (off:=off) (cap:=bc) (cs:=cs) (l:=bl) lW (aX.pick bo)
     exact St.all h1 Y7
    ·obtain rfl:i=bl.length:=by omega
     rw[List.take_length]
     refine Z9 ?_
     refine K.draw [.pure,.pure,.pure,.read,.pure,.pure,.pure,.write] [0,1,2,3,4,5,6,7] bH bH ?_
     refine nB ?_
     refine Z75 ?_
     refine lJ ?_
     refine Z41 ?_
     refine KO.gT (i:=22+j) rfl rfl rfl rfl Y55 rfl bo Bd Rs ?_;rw[c2]
     refine rE ?_
     refine KQ.bG rfl rfl (fun w' aX=>⟨_,_,rfl,⟨rfl,rfl⟩,?_⟩)
     have h3:=ja (f:=dX) (ps:=V.bs) (xs:=H.batch) (i:=j) (p:=.slice none 0 0) (x:=[]) ae ae (JY (aX.all (M:=cr dX (V.bs.eraseIdx j) (H.batch.eraseIdx j)::bP bh (.cells (fv bd {V with bs:=V.bs.set j (.slice none 0 0)} H).toArray 133 (0,0))::lQ V.nv H.names::cg Value.string V.mb (dJ V H)::cr jz V.ps (H.all.set j (cN (H.dy j) bl))::cr dj (V.us.map (·.1)) (H.aB.map (·.aM))::cr dh (V.us.map (·.2)) (H.aB.map (·.bu))::L) Y5))
     refine cn {V with bs:=V.bs.set j (.slice none 0 0)} ⟨hV.ps,hV.us,by simp[Ku],by simp[Ho.gK,hV.ways],hV.aB,by simp[sI],hV.bW,hV.aK⟩ ?_
     have e1:({H.gK j (cN (H.dy j) bl)with batch:=H.batch.set j []}:Ho).all=H.all.set j (cN (H.dy j) bl):=km (by rw[hV.ways];exact hj) _
     unfold Bj
     rw[e1]
     exact h3.all Y7
  ·have he:ft H s=(H,false):=by
    unfold ft;rw[hi]
    match l,hl with
    |[],_=>rfl
    |[a],h=>exact absurd rfl h
    |a::b::r,_=>rfl
   rw[he]
   refine A8 ?_
   refine rG ?_
   refine rA ?_
   refine xA ?_
   refine rB ?_
   refine G8 ?_
   refine Qh ?_
   refine A_ ?_
   refine KQ.bG rfl rfl (fun w' aX=>⟨_,_,rfl,⟨rfl,rfl⟩,aX.drop⟩)
theorem Tn(w0:World)(L:List HP)(bh bd n:Nat)(H:Ho)(s:ak)(hT:qH w0)(hM:qK w0)(hs:s.size<=80000)(hB:cK n H)(hn:n<=90000)(hr:∀a b c l,dE 47 s=[a,b,c]->td b=some l->n+l.length<=90000/\l.length<=(dE 43 c).length):
 KC prog 142 #[bA bh,.string s] w0 (dL bh bd H::L) (fun u M=>u=.bool (iD H s).2/\M=dL bh bd (iD H s).1::L):=by
 have n4:∀x∈dE 47 s,x.size<=80000:=fun x hx=>by have :=iq hx;omega
 refine KC.mk (n:=81) func142 rfl ntmps142 aj ?_
 refine qE ?_
 refine KO.ce (cp:=[]) rfl rfl rfl call133 rfl (l6 w0 _ s 47 ae hM) ?_;rintro v' L' ⟨P6,rfl,rfl⟩
 refine lK ?_
 by_cases h3:(dE 47 s).length=3
 ·obtain⟨wa,wb,wc,he⟩:∃a b c,dE 47 s=[a,b,c]:=by
   match h:dE 47 s,h3 with
   |[a,b,c],_=>exact⟨a,b,c,rfl⟩
  have hrr:=hr wa wb wc
  rw[he]at n4 ⊢
  have hza:=n4 wa aj
  have hzb:=n4 wb aj
  have hzc:=n4 wc aj
  refine Z8 ?_
  refine P_ ?_
  refine Hf ?_
  refine Z6 ?_
  have hce:iD H s=match eW wa,td wb with
   |some k,some l=>if cj H k=true then(if(dO H (l.zip (dE 43 wc))).2=true then({(dO H (l.zip (dE 43 wc))).1 with aK:=H.aK.set k.toNat (bY H k.toNat+1)},true)else((dO H (l.zip (dE 43 wc))).1,false))else(H,false)
   |_,_=>(H,false):=by unfold iD;rw[he];try rfl
  cases lB:eW wa with
  |none=>
   have mI:iD H s=(H,false):=by rw[hce,lB]
   rw[mI]
   refine Z8 ?_
   refine YH ?_
   refine KO.ce (cp:=[]) rfl rfl rfl call136 rfl (iG w0 _ wa ae hM) ?_;rintro v' L' ⟨hR,rfl⟩;unfold kj at hR;rw[lB]at hR;obtain⟨xx,TT,yy,rfl⟩:=hR
   refine qc ?_
   cases hm:td wb with
   |none=>
    refine Z8 ?_
    refine ZC ?_
    refine KO.ce (cp:=[]) rfl rfl rfl call160 rfl (pS w0 _ wb ae hT hM) ?_;rintro v' L' hR;unfold UA at hR;rw[hm]at hR;obtain⟨rfl,rfl⟩:=hR
    refine ky ?_
    refine xD ?_
    refine mC ?_
    refine BH ?_
    refine JD ?_
    refine KQ.bG rfl rfl (fun w' aX=>⟨_,_,rfl,⟨rfl,rfl⟩,aX.all Y1⟩)
   |some l=>
    refine Z8 ?_
    refine ZC ?_
    refine KO.ce (cp:=[]) rfl rfl rfl call160 rfl (pS w0 _ wb ae hT hM) ?_;rintro v' L' hR;unfold UA at hR;rw[hm]at hR;obtain⟨v,rfl,rfl⟩:=hR
    refine ky ?_
    refine xD ?_
    refine mC ?_
    refine BH ?_
    refine JD ?_
    refine KQ.bG rfl rfl (fun w' aX=>⟨_,_,rfl,⟨rfl,rfl⟩,aX.all Y1⟩)
  |some k=>
   cases hm:td wb with
   |none=>
    have mI:iD H s=(H,false):=by rw[hce,lB,hm]
    rw[mI]
    refine Z8 ?_
    refine YH ?_
    refine KO.ce (cp:=[]) rfl rfl rfl call136 rfl (iG w0 _ wa ae hM) ?_;rintro v' L' ⟨hR,rfl⟩;unfold kj at hR;rw[lB]at hR;subst hR
    refine ky ?_
    refine ZC ?_
    refine KO.ce (cp:=[]) rfl rfl rfl call160 rfl (pS w0 _ wb ae hT hM) ?_;rintro v' L' hR;unfold UA at hR;rw[hm]at hR;obtain⟨rfl,rfl⟩:=hR
    refine Ei ?_
    refine A4 ?_
    refine rB ?_
    refine Em ?_
    refine JD ?_
    refine KQ.bG rfl rfl (fun w' aX=>⟨_,_,rfl,⟨rfl,rfl⟩,aX.all Y1⟩)
   |some l=>
    obtain⟨nL,WZ⟩:=hrr l he hm
    have i_:∀m∈l,bT m=true:=fun m Cx=>dG (oO hm).1 m Cx
    refine Z8 ?_
    refine YH ?_
    refine KO.ce (cp:=[]) rfl rfl rfl call136 rfl (iG w0 _ wa ae hM) ?_;rintro v' L' ⟨hR,rfl⟩;unfold kj at hR;rw[lB]at hR;subst hR
    refine ky ?_
    refine ZC ?_
    refine KO.ce (cp:=[]) rfl rfl rfl call160 rfl (pS w0 _ wb ae hT hM) ?_;rintro v' L' hR;unfold UA at hR;rw[hm]at hR;obtain⟨v,rfl,rfl⟩:=hR
    refine qc ?_
    refine K.fact (fun w hw=>aY (hw.pick (A:=SL 44 5 du v l) .head)) ?_
    rintro⟨ad,cap,rfl,had⟩
    cases hk:cj H k with
    |false=>
     have mI:iD H s=(H,false):=by rw[hce,lB,hm];simp[hk]
     rw[mI]
     refine Jp ?_
     refine Ef ?_
     refine Z1 ?_
     refine KO.on rfl rfl rfl ?_;refine KO.ce (cp:=[]) rfl rfl rfl call79 rfl (eE w0 _ _ bh bd H k bo) ?_;rintro v' L' ⟨rfl,rfl⟩;rw[hk]
     refine yD ?_
     refine rB ?_
     refine BA ?_
     refine A_ ?_
     refine KQ.bG rfl rfl (fun w' aX=>⟨_,_,rfl,⟨rfl,rfl⟩,aX.all Y1⟩)
    |true=>
     obtain⟨wJ,lV,-⟩:=bM.1 hk
     obtain⟨j,rfl⟩:∃j:Nat,k=(j:Int):=⟨k.toNat,by omega⟩
     have hj:j<4:=by omega
     have mI:iD H s=if(dO H (l.zip (dE 43 wc))).2=true then({(dO H (l.zip (dE 43 wc))).1 with aK:=H.aK.set j (bY H j+1)},true)else((dO H (l.zip (dE 43 wc))).1,false):=by rw[hce,lB,hm];simp[hk]
     have qk:=s6 43 wc
     refine Jp ?_
     refine Ef ?_
     refine Z1 ?_
     refine KO.on rfl rfl rfl ?_;refine KO.ce (cp:=[]) rfl rfl rfl call79 rfl (eE w0 _ _ bh bd H (j:Int) bo) ?_;rintro v' L' ⟨rfl,rfl⟩;rw[hk]
     refine yD ?_
     refine Eg ?_
     refine Z8 ?_
     refine KO.eX (i:=2) rfl rfl runUnderlying115 sizeOf9 rfl aj rfl ?_
     refine acp ?_
     refine KO.ce (cp:=[]) rfl rfl rfl call133 rfl (l6 w0 _ wc 43 ae hM) ?_;rintro v' L' ⟨b48,rfl,rfl⟩
     refine mS ?_
     refine BI ?_
     generalize dE 43 wc=ts at WZ mI qk ⊢
     have Md:(l.zip ts).length=l.length:=by rw[List.length_zip];omega
     refine K.loop (fun p:Nat×Ho=>[(0,bA bh),(6,.int .i64 (j:Nat)),(10,.slice (some ⟨b48,0,none⟩) ts.length ts.length),(49,.slice ad l.length cap),(50,.int .i64 (l.length:Nat)),(51,.int .i64 (p.1:Nat))]) (fun p=>dL bh bd p.2::l5 (.slice (some ⟨b48,0,none⟩) ts.length ts.length) ts::SL 44 5 du (.slice ad l.length cap) l::L) (fun p=>p.1<=l.length/\cK (n+p.1) p.2/\dO p.2 ((l.zip ts).drop p.1)=dO H (l.zip ts)/\p.2.aK=H.aK) (fun p=>l.length-p.1) (0,H)
      ⟨aV _,hB,rfl,rfl⟩ ⟨rfl,rfl,rfl,rfl,rfl,rfl,trivial⟩ (fun _ h=>h.all Y1) ?_
     rintro⟨i,H1⟩ ⟨hi,h_,kY,Xn⟩
     dsimp only at hi h_ kY Xn ⊢
     refine iJ ?_
     refine K.bz rfl (fun h=>?_) (fun h=>?_)
     ·obtain⟨m,Gg⟩:∃e,l[i]? =some e:=⟨l[i],ao ae⟩
      obtain⟨t,Zf⟩:∃e,ts[i]? =some e:=⟨ts[i],ao ae⟩
      have EB:=i_ m (ax Gg)
      obtain⟨m1,m2,m3,m4,-,-,m7,m8⟩:=bV EB
      obtain⟨g,rfl⟩:=had ae
      have tU:(l.zip ts).drop i=(m,t)::(l.zip ts).drop (i+1):=by
       have hz:(l.zip ts)[i]? =some (m,t):=by rw[List.getElem?_zip_eq_some];exact⟨Gg,Zf⟩
       obtain⟨h1,e⟩:=au.1 hz
       rw[<-e]
       exact List.drop_eq_getElem_cons h1
      rw[tU,dO]at kY
      have OR:small m.pri:=by unfold small;omega
      obtain⟨mi,mp,mb,mq,mh⟩:=m
      dsimp only at m1 m2 m3 m4 m7 m8 OR
      refine xy ?_
      refine YD ?_
      refine KO.alloc rfl zeroValue44 aQ rfl ?_;intro Ro
      refine Z7 ?_
      refine yB ?_
      refine K.cx (fun _ h=>cI (h.pick bo)) ?_
      rintro⟨V,hV⟩
      dsimp only
      have qB:=hV.ps
      have hg:=lA hV t
      obtain⟨zv,IJ⟩:∃zv,zv=(eI (dJ V H1) t).getD (.pointer none):=⟨_,rfl⟩
      refine K.draw [.pure,.pure,.pure,.read,.pure,.pure,.pure,.read,.read,.pure] [0,1,2,3,4,5,6,7,8,9] bH bH ?_
      refine mA ?_
      refine Yk ?_
      refine nB ?_
      refine KO.eX (i:=i) rfl rfl runUnderlying115 sizeOf9 rfl ae rfl ?_
      refine KO.iw (i:=i) (sz:=1) (cf:=ln) (e:=t) rfl rfl isAgg9 bo (fun _=>rfl) Zf aj aQ rfl ?_
      refine KO.Ey gv t rfl rfl rfl underlying123 underlying9 zeroValue119 bo rfl ?_;rw[<-IJ]
      refine lK ?_
      cases hq:H1.qI t with
      |none=>
       rw[hq]at hg kY
       rw[hg]at IJ
       subst IJ
       dsimp only at kY
       refine Z8 ?_
       refine KO.TI rfl underlying119 rfl ?_
       refine BA ?_
       refine Z3 ?_
       refine lT ?_
       refine KQ.bG rfl rfl (fun w' aX=>⟨_,_,rfl,⟨?_,rfl⟩,?_⟩)
       ·rw[mI,<-kY];rfl
       ·rw[mI,<-kY]
        exact cn V hV (aX.all Y5)
      |some q=>
       have WL:=(ik hq).1
       obtain⟨p,hp⟩:∃p,V.ps[4+q]? =some p:=⟨_,ao ae⟩
       rw[hq]at hg kY
       simp only[Option.bind_some,hp,Option.map_some]at hg
       rw[hg]at IJ
       subst IJ
       dsimp only at kY
       refine Z8 ?_
       refine KO.AF rfl underlying119 rfl ?_
       refine GZ ?_
       refine T4 ?_
       refine Z8 ?_
       refine BM ?_
       refine KO.cl (cp:=[]) rfl rfl rfl call147 rfl (KC.nO (φ:=fun v=>v=.tuple #[]) hp (lI hV.ways WL) bo (fun L=>Dp w0 L p (H1.ec q) ⟨mi,mp,mb,mq,mh⟩ (-1) ((h_.qa WL).ok ae) OR)) ?_;rintro v' L' ⟨rfl,rfl⟩
       refine vD ?_
       refine KQ.round (i+1,H1.fB q (db (H1.ec q) ⟨mi,mp,mb,mq,mh⟩ (-1))) ⟨by dsimp only;omega,?_,kY,Xn⟩ iK ⟨rfl,rfl,rfl,rfl,rfl,rfl,trivial⟩ (fun w' aX=>?_)
       ·exact(h_.le (Nat.le_succ _)).fB ((h_.qa WL).sY ⟨by dsimp only;omega,by dsimp only;omega⟩ ⟨by dsimp only;omega,by dsimp only;omega⟩ (-1)) q
       ·have h1:=Ak V hV q _ (L:=l5 (.slice (some ⟨b48,0,none⟩) ts.length ts.length) ts::SL 44 5 du (.slice (some ⟨g,0,none⟩) l.length cap) l::L) (aX.all Y5)
        exact h1
     ·obtain rfl:i=l.length:=by omega
      rw[show(l.zip ts).drop l.length=[]by rw[<-Md];exact List.drop_length,dO]at kY
      rw[<-kY]at mI
      rw[mI,if_pos rfl]
      refine Z9 ?_
      refine K.cx (fun _ h=>cI (h.pick bZ)) ?_
      rintro⟨V,hV⟩
      dsimp only
      have afW:bY H1 j=bY H j:=by unfold bY;rw[Xn]
      obtain⟨d1,d2⟩:=y0 (bd:=bd) hV hj
      obtain⟨Xo,ha9⟩:0<=bY H j/\bY H j<=(n:Int):=mJ hB.ext.arr
      rw[afW]at d1
      refine K.draw [.pure,.pure,.pure,.pure,.pure,.read,.pure,.pure,.pure,.pure,.write] [0,1,2,3,4,5,6,7,8,9,10] bH bH ?_
      refine tI ?_
      refine Uk ?_
      refine Jw ?_
      refine Z62 ?_
      refine KO.gT (i:=30+j) rfl rfl rfl aQ za rfl bZ Bd Rs ?_;rw[d2]
      refine rE ?_
      refine KQ.bG rfl rfl (fun w' aX=>⟨_,_,rfl,⟨rfl,rfl⟩,?_⟩)
      rw[<-Xn]
      exact cn V ⟨hV.ps,hV.us,hV.bs,hV.ways,hV.aB,hV.batch,hV.bW,by simp[hV.aK]⟩ (aX.all Y5)
 ·have mI:iD H s=(H,false):=by
   unfold iD
   split
   ·rename_i a b c e;rw[e]at h3;exact absurd rfl h3
   ·rfl
  rw[mI]
  refine Z8 ?_
  refine P_ ?_
  refine Z2 ?_
  refine K.cV rfl ga ?_
  refine A_ ?_
  refine KQ.bG rfl rfl (fun w' aX=>⟨_,_,rfl,⟨rfl,rfl⟩,aX.drop⟩)
theorem RH(w0:World)(L:List HP)(s:ak):KE prog 138 #[.string s,.string ⟨#[45]⟩] w0 L (fun u M=>u=.string (dash s)/\M=L):=KE.ct fun w hw=>
 (Tryz.strings_TrimPrefix s ⟨#[45]⟩ w).mono fun e w' h=>⟨h.1,by rw[h.2];exact Below.refl _ _⟩
theorem MD(s:ak):(dash s).size<=s.size:=by
 unfold dash Lib.trimPrefix
 split
 ·simp only[toB,ki];simp
 ·simp only[toB,ki];simp
theorem Ga(w0:World)(L:List HP)(bh bd n k:Nat)(H:Ho)(s:ak)(hT:qH w0)(hM:qK w0)(hB:cK n H)(hr:fO k s)(hn:n+k<=90000):
 KC prog 53 #[bA bh,.string s] w0 (dL bh bd H::L) (fun u M=>u=.bool (ck H s).2/\M=dL bh bd (ck H s).1::L):=by
 have dK:=hr.size
 have mI:=(oZ 58 s).2
 have nL:=hB.oq
 have Bh:=hB.sorted
 have hmx:(1000000:Nat)<=maxLen:=by decide
 refine KC.mk (n:=74) func53 rfl ntmps53 aj ?_
 refine qE ?_
 refine KO.ce (cp:=[]) rfl rfl rfl call135 rfl (Ji w0 _ s 58 ae hM) ?_;rintro v' L' ⟨rfl,rfl⟩
 refine G3 ?_
 refine tK ?_
 refine nQ ?_
 refine mS ?_
 refine Qe ?_
 generalize fg:(di 58 s).2.1=rest at mI
 by_cases h1:(di 58 s).1=cv 110
 ·refine yG ?_
  refine K.cV rfl (decide_eq_true h1) ?_
  have n4:∀x∈dE 32 rest,x.size<=80000:=fun x hx=>by have :=iq hx;omega
  refine jI ?_
  refine KO.ce (cp:=[]) rfl rfl rfl call133 rfl (l6 w0 _ rest 32 ae hM) ?_;rintro v' L' ⟨b21,rfl,rfl⟩
  refine lK ?_
  by_cases h3:(dE 32 rest).length=3
  ·obtain⟨wa,wb,wc,he⟩:∃a b c,dE 32 rest=[a,b,c]:=by
    match h:dE 32 rest,h3 with
    |[a,b,c],_=>exact⟨a,b,c,rfl⟩
   rw[he]at n4 ⊢
   have hza:=n4 wa aj
   have hzb:=n4 wb aj
   have hzc:=n4 wc aj
   have hdz:=MD wb
   have Zj:tr rest=(eW wc).map fun k=>⟨wa,dash wb,k⟩:=by unfold tr;rw[he]
   refine Z8 ?_
   refine P_ ?_
   refine Hf ?_
   refine Z6 ?_
   cases lB:eW wc with
   |none=>
    rw[lB]at Zj
    have qk:ck H s=(H,false):=by unfold ck;rw[if_pos h1,fg,Zj];rfl
    rw[qk]
    refine Z8 ?_
    refine YG ?_
    refine KO.ce (cp:=[]) rfl rfl rfl call136 rfl (iG w0 _ wc ae hM) ?_;rintro v' L' ⟨hR,rfl⟩;unfold kj at hR;rw[lB]at hR;obtain⟨xx,TT,yy,rfl⟩:=hR
    refine acI ?_
    refine Z1 ?_
    refine KO.agz rfl bH rfl ?_
    refine Em ?_
    refine EJ ?_
    refine EJ ?_
    refine EJ ?_
    refine EJ ?_
    refine rB ?_
    refine lT ?_
    refine KQ.bG rfl rfl (fun w' aX=>⟨_,_,rfl,⟨rfl,rfl⟩,aX.drop⟩)
   |some kk=>
    rw[lB]at Zj
    have qk:ck H s=(jq H ⟨wa,dash wb,kk⟩,decide (F5 H ⟨wa,dash wb,kk⟩=0)):=by unfold ck;rw[if_pos h1,fg,Zj];rfl
    rw[qk]
    refine Z8 ?_
    refine YG ?_
    refine KO.ce (cp:=[]) rfl rfl rfl call136 rfl (iG w0 _ wc ae hM) ?_;rintro v' L' ⟨hR,rfl⟩;unfold kj at hR;rw[lB]at hR;subst hR
    refine acI ?_
    refine Z1 ?_
    refine KO.agA rfl bH rfl ?_
    refine MS ?_
    refine Z1 ?_
    refine KO.on rfl rfl rfl ?_;refine KO.eX (i:=0) rfl rfl runUnderlying115 sizeOf9 rfl aj rfl ?_
    refine KO.on rfl rfl rfl ?_;refine KO.iw (i:=0) (sz:=1) (cf:=ln) (e:=wa) rfl rfl isAgg9 bZ (fun _=>rfl) rfl aQ aQ rfl ?_
    refine Eb ?_
    refine KO.on rfl rfl rfl ?_;refine KO.eX (i:=1) rfl rfl runUnderlying115 sizeOf9 rfl aj rfl ?_
    refine KO.on rfl rfl rfl ?_;refine KO.iw (i:=1) (sz:=1) (cf:=ln) (e:=wb) rfl rfl isAgg9 bZ (fun _=>rfl) rfl aQ aQ rfl ?_
    refine Eb ?_
    refine KO.on rfl rfl rfl ?_;refine KO.ce (cp:=[]) rfl rfl rfl call138 rfl (RH w0 _ wb) ?_;rintro v' L' ⟨rfl,rfl⟩
    refine rA ?_
    refine Uo ?_
    refine KO.on rfl rfl rfl ?_;refine KO.cl (cp:=[]) rfl rfl rfl call137 rfl (KC.qv bo (WH w0 _ bh bd H ⟨wa,dash wb,kk⟩ iK iK nL Bh)) ?_;rintro v' L' ⟨rfl,rfl⟩
    refine rA ?_
    refine KO.Zu rfl bH rfl ?_
    refine yx ?_
    refine lT ?_
    refine KQ.bG rfl rfl (fun w' aX=>⟨_,_,rfl,⟨rfl,rfl⟩,aX.all Y1⟩)
  ·have Zj:tr rest=none:=by
    unfold tr
    split
    ·rename_i a b c e;rw[e]at h3;exact absurd rfl h3
    ·rfl
   have qk:ck H s=(H,false):=by unfold ck;rw[if_pos h1,fg,Zj]
   rw[qk]
   refine Z8 ?_
   refine P_ ?_
   refine Z2 ?_
   refine K.cV rfl ga ?_
   refine Z3 ?_
   refine lT ?_
   refine KQ.bG rfl rfl (fun w' aX=>⟨_,_,rfl,⟨rfl,rfl⟩,aX.drop⟩)
 refine yG ?_
 refine K.dp rfl (decide_eq_false h1) ?_
 refine qq ?_
 by_cases h2:(di 58 s).1=cv 100
 ·have qk:ck H s=(uY H rest,decide (An H rest=0)):=by unfold ck;rw[if_neg h1,if_pos h2,fg]
  rw[qk]
  refine yG ?_
  refine K.cV rfl (decide_eq_true h2) ?_
  refine sy ?_
  refine KO.cl (cp:=[]) rfl rfl rfl call139 rfl (Tj w0 _ bh bd H rest nL Bh) ?_;rintro v' L' ⟨rfl,rfl⟩
  refine KO.Zu rfl bH rfl ?_
  refine lT ?_
  refine KQ.bG rfl rfl (fun w' aX=>⟨_,_,rfl,⟨rfl,rfl⟩,aX⟩)
 refine yG ?_
 refine K.dp rfl (decide_eq_false h2) ?_
 refine qq ?_
 by_cases h4:(di 58 s).1=cv 117
 ·have qk:ck H s=eZ H rest:=by unfold ck;rw[if_neg h1,if_neg h2,if_pos h4,fg]
  have O0:=hr.many h4
  rw[fg]at O0
  rw[qk]
  refine yG ?_
  refine K.cV rfl (decide_eq_true h4) ?_
  refine sy ?_
  refine KO.cl (cp:=[]) rfl rfl rfl call65 rfl (Kq w0 _ bh bd n H rest hT hM ae hB (fun l hl=>by have :=O0 l hl;omega) ae) ?_;rintro v' L' ⟨rfl,rfl⟩
  refine lT ?_
  refine KQ.bG rfl rfl (fun w' aX=>⟨_,_,rfl,⟨rfl,rfl⟩,aX⟩)
 refine yG ?_
 refine K.dp rfl (decide_eq_false h4) ?_
 refine qq ?_
 by_cases h5:(di 58 s).1=cv 98
 ·have qk:ck H s=iy H rest:=by unfold ck;rw[if_neg h1,if_neg h2,if_neg h4,if_pos h5,fg]
  rw[qk]
  refine yG ?_
  refine K.cV rfl (decide_eq_true h5) ?_
  refine sy ?_
  refine KO.cl (cp:=[]) rfl rfl rfl call140 rfl (Ta w0 _ bh bd n H rest hM hB ae ae) ?_;rintro v' L' ⟨rfl,rfl⟩
  refine lT ?_
  refine KQ.bG rfl rfl (fun w' aX=>⟨_,_,rfl,⟨rfl,rfl⟩,aX⟩)
 refine yG ?_
 refine K.dp rfl (decide_eq_false h5) ?_
 refine qq ?_
 by_cases h6:(di 58 s).1=cv 97
 ·have qk:ck H s=ft H rest:=by unfold ck;rw[if_neg h1,if_neg h2,if_neg h4,if_neg h5,if_pos h6,fg]
  rw[qk]
  refine yG ?_
  refine K.cV rfl (decide_eq_true h6) ?_
  refine sy ?_
  refine KO.cl (cp:=[]) rfl rfl rfl call141 rfl (O6 w0 _ bh bd n H rest hM hB ae ae) ?_;rintro v' L' ⟨rfl,rfl⟩
  refine lT ?_
  refine KQ.bG rfl rfl (fun w' aX=>⟨_,_,rfl,⟨rfl,rfl⟩,aX⟩)
 refine yG ?_
 refine K.dp rfl (decide_eq_false h6) ?_
 refine qq ?_
 by_cases h7:(di 58 s).1=cv 114
 ·have qk:ck H s=iD H rest:=by unfold ck;rw[if_neg h1,if_neg h2,if_neg h4,if_neg h5,if_neg h6,if_pos h7,fg]
  have U9:=hr.MF h7
  rw[fg]at U9
  rw[qk]
  refine yG ?_
  refine K.cV rfl (decide_eq_true h7) ?_
  refine sy ?_
  refine KO.cl (cp:=[]) rfl rfl rfl call142 rfl (Tn w0 _ bh bd n H rest hT hM ae hB ae (fun a b c l h8 h9=>by have :=U9 a b c l h8 h9;exact⟨by omega,this.2⟩)) ?_;rintro v' L' ⟨rfl,rfl⟩
  refine lT ?_
  refine KQ.bG rfl rfl (fun w' aX=>⟨_,_,rfl,⟨rfl,rfl⟩,aX⟩)
 have qk:ck H s=(H,false):=by unfold ck;rw[if_neg h1,if_neg h2,if_neg h4,if_neg h5,if_neg h6,if_neg h7]
 rw[qk]
 refine yG ?_
 refine K.dp rfl (decide_eq_false h7) ?_
 refine X3 ?_
 refine Er ?_
 refine KQ.bG rfl rfl (fun w' aX=>⟨_,_,rfl,⟨rfl,rfl⟩,aX⟩)
theorem rW(w0:World)(L:List HP)(bh bd n k:Nat)(H:Ho)(D:Dk)(s:ak)(hT:qH w0)(hM:qK w0)(hB:cK n H)(hr:fO k s)(hn:n+k<=90000)(h3:D.places.length=300)(hd: -4000000000000000000<=D.left/\D.left<=9223372036854775807):
 KC prog 84 #[bA bh,.string s] w0 (dL bh bd H::fR bd D::L) (fun u M=>u=cS 70 (c7 H D)/\M=dL bh bd (lM H D s)::fR bd (gU H D s)::L):=by
 have dK:=hr.size
 have hu:=hB.used
 refine KC.mk (n:=15) func84 rfl ntmps84 aj ?_
 refine Jx ?_
 refine KO.cl (cp:=[]) rfl rfl rfl call61 rfl (Ou w0 _ bh bd H D s hT h3 hd ae hu) ?_;rintro v' L' ⟨rfl,rfl⟩
 refine yH ?_
 refine K.bz rfl (fun h=>?_) (fun h=>?_)
 ·have e:lM H D s=dc H D:=by unfold lM;rw[if_neg h]
  rw[e]
  refine G9 ?_
  refine KQ.bG rfl rfl (fun w' aX=>⟨_,_,rfl,⟨rfl,rfl⟩,aX⟩)
 ·have h0:c7 H D=0:=by simpa using h
  have e:lM H D s=(ck (dc H D) s).1:=by unfold lM;rw[if_pos h0]
  rw[e]
  refine Z6 ?_
  refine ji ?_
  refine KO.cl (cp:=[]) rfl rfl rfl call53 rfl (Ga w0 _ bh bd n k (dc H D) s hT hM hB.log hr hn) ?_;rintro v' L' ⟨rfl,rfl⟩
  refine rE ?_
  refine KQ.bG rfl rfl (fun w' aX=>⟨_,_,rfl,⟨by rw[h0];rfl,rfl⟩,aX⟩)
end Go.Proofs.YtjhogocabcdjbabGreatDoor
namespace WB
open Go Go.RowKit
theorem Ie{l:List Nm}{x:Nm}(hr:cy x=true)(hs:∀y∈l,jc y.name x.name<0)(hl:l.length<20):ff l x=l++[x]/\cT l x=0:=by
 have hk:bR l x.name=l.length:=by
  unfold bR
  rw[show(l.takeWhile fun y=>decide (jc y.name x.name<0))=l from ?_]
  clear hl
  induction l with
  |nil=>rfl
  |cons a l ih=>
   rw[List.takeWhile_cons,if_pos (by simpa using hs a aj),ih fun y hy=>hs y (by simp[hy])]
 have hh:fy l x.name (bR l x.name)=false:=by unfold fy;rw[hk];simp
 constructor
 ·unfold ff
  rw[if_neg (by simp[hr]),if_neg (by simp[hh]),if_neg ae,hk,List.take_length,List.drop_length]
 ·unfold cT
  rw[if_neg (by simp[hr]),if_neg (by simp[hh]),if_neg ae]
theorem NP{l:List Nm}(hs:en l)(hr:∀y∈l,cy y=true)(hl:l.length<=20){k:Nat}{y:Nm}(hy:l[k]? =some y):ff (l.take k) y=l.take (k+1):=by
 obtain⟨hk,rfl⟩:=au.1 hy
 rw[(Ie (hr _ (List.getElem_mem hk)) (fun z hz=>?_) ga).1,bJ hy]
 obtain⟨j,hj,rfl⟩:=List.getElem_of_mem hz
 rw[bL]at hj
 rw[List.getElem_take]
 exact List.pairwise_iff_getElem.1 hs j k ae hk ae
theorem jj{s:ak}(h:dw s=true):1<=s.size/\s.size<=8:=by
 unfold dw dN at h
 simp at h
 exact⟨h.1,h.2.1⟩
theorem jm{x:Nm}(h:cy x=true):dw x.name=true/\(dw x.kr=true\/x.kr=⟨#[]⟩)/\ -1<=x.cq/\x.cq<=3:=by
 unfold cy at h
 simp only[bn,Bool.or_eq_true,decide_eq_true_eq]at h
 refine⟨h.1,?_,h.2.1,h.2.2.1⟩
 rcases h.2.2.2 with h1|h1
 ·exact .inl h1
 ·have :=h1.1;rw[wY]at this;exact .inr (of_decide_eq_true this)
theorem zD{x:Nm}(h:cy x=true):x.name.size<=8/\x.kr.size<=8:=by
 obtain⟨h1,h2,_⟩:=jm h
 refine⟨(jj h1).2,?_⟩
 rcases h2 with h2|h2
 ·exact(jj h2).2
 ·rw[h2];decide
def kf (s:ak):ak:=if s=⟨#[]⟩then cv 45 else s
def ng (x:Nm):ak:=⟨#[110,58]⟩++x.name++⟨#[32]⟩++kf x.kr++⟨#[32]⟩++b_ x.cq
def cL:ak:=⟨#[100,101,97,100]⟩
theorem FF(x:Nm):ng x=cv 110++cv 58++(x.name++cv 32++(kf x.kr++cv 32++b_ x.cq)):=by
 unfold ng
 rw[show(⟨#[110,58]⟩:ak)=cv 110++cv 58 by decide]
 rw[show(⟨#[32]⟩:ak)=cv 32 from rfl]
 simp only[ByteArray.append_assoc]
theorem eM{c d:UInt8}(h:d≠c):qx c (cv d):=fun b hb=>by
 simp[cv]at hb;subst hb;exact h
theorem tA(x:Nm):di 58 (ng x)=(cv 110,x.name++cv 32++(kf x.kr++cv 32++b_ x.cq),true):=by
 rw[FF,cutB_hit (eM ai)]
theorem sW{x:Nm}(h:cy x=true):fO 1 (ng x):=by
 obtain⟨h1,h2⟩:=zD h
 obtain⟨_,_,h5,h6⟩:=jm h
 have h3:=cH (n:=x.cq) ⟨by omega,by omega⟩
 have h4:(kf x.kr).size<=8:=by
  unfold kf;split
  ·decide
  ·omega
 have e1:(⟨#[110,58]⟩:ak).size=2:=rfl
 have e2:(⟨#[32]⟩:ak).size=1:=rfl
 refine⟨?_,fun hk=>?_,fun hk=>?_⟩
 ·unfold ng;simp only[aU];omega
 ·rw[tA]at hk
  exact absurd (show cv 110=cv 117 from hk) ai
 ·rw[tA]at hk
  exact absurd (show cv 110=cv 114 from hk) ai
def kG (H:Ho) (x:Nm):Int:=if cT H.names x≠0 then cT H.names x else if x.name=cL then 5 else 0
def zV (H:Ho) (D:Dk) (x:Nm):Int:=if kG H x≠0 then kG H x else c7 H D
def oN (H:Ho) (D:Dk) (x:Nm):Ho:=if kG H x≠0 then H else lM H D (ng x)
def jf (H:Ho) (D:Dk) (x:Nm):Dk:=if kG H x≠0 then D else gU H D (ng x)
end WB
namespace Go.Proofs.YtjhogocabcdjbabGreatDoor
open Tryz
open Go Go.RowKit WB
theorem Sd(w0:World)(L R R2:List HP)(b off:Nat)(cs:List Value)(T:TypeId)(v:Value)(l:List Nm)(x:Nm)(hp:bQ L (bP b (.cells cs.toArray T (0,0))) R)(hq:bQ R (lQ v l) R2)(hc:cs[off]? =some v)(hl:l.length<=20)(hs:en l)(hr:∀y∈l,cy y=true)(h1:x.name.size<=maxLen)(h2:x.kr.size<=maxLen):
 KC prog 83 #[.pointer (some ⟨b,off,none⟩),.agg x.cells.toArray] w0 L (fun u M=>u=cS 70 (cT l x)/\M=L):=by
 obtain⟨xn,xt,xh⟩:=x
 dsimp only at h1 h2
 have hmx:(1000000:Nat)<=maxLen:=by decide
 refine KC.mk (n:=20) func83 rfl ntmps83 aj ?_
 refine Z3 ?_
 refine KO.box rfl rfl aQ rfl ?_;intro b3
 refine mB ?_
 refine KO.alloc rfl zeroValue125 aQ rfl ?_;intro b5
 refine G4 ?_
 refine KO.ce (cp:=[]) rfl rfl rfl call169 rfl (Wa w0 _ _ _ b off cs T v l (.tail (.tail hp)) (.tail (.tail hq)) hc ae) ?_;rintro va L' rfl;refine KO.fact (fun w hw=>aY (E:=75) (sz:=3) (cf:=Nm.cells) (hw.pick .head)) ?_;rintro⟨ad,cap,rfl,had⟩
 refine KO.len rfl underlying86 rfl ?_
 refine ox ?_
 refine K.loop (fun p:Nat×Value=>[(3,.pointer (some ⟨b3,0,none⟩)),(5,.pointer (some ⟨b5,0,none⟩)),(9,.slice ad l.length cap),(10,.int .i64 (l.length:Nat)),(11,.int .i64 (p.1:Nat))])
  (fun p=>bP b5 (.cells [p.2].toArray 125 (0,0))::lQ p.2 (l.take p.1)::lQ (.slice ad l.length cap) l::bP b3 (.cells [Value.string xn,.string xt,.int .i64 xh].toArray 75 (0,0))::L) (fun p=>p.1<=l.length) (fun p=>l.length-p.1) (0,.slice none 0 0)
  (aV _) ⟨rfl,rfl,rfl,rfl,rfl,trivial⟩ (fun _ h=>?_) ?_
 ·have h1:=cM (E:=75) (sz:=3) (cf:=Nm.cells) h
  dsimp only[List.take_zero]
  exact h1.all Y7
 rintro⟨k,vm⟩ hk
 dsimp only at hk ⊢
 refine iJ ?_
 refine K.bz rfl (fun h=>?_) (fun h=>?_)
 ·obtain⟨y,hy⟩:∃e,l[k]? =some e:=⟨l[k],ao ae⟩
  obtain⟨g,rfl⟩:=had ae
  have hyr:=hr y (ax hy)
  have dK:=zD hyr
  have e1:=NP hs hr hl hy
  have kt:en (l.take k):=List.Pairwise.sublist (List.take_sublist _ _) hs
  obtain⟨yn,yt,yh⟩:=y
  dsimp only at dK
  refine qF ?_
  refine KO.eX rfl rfl runUnderlying86 sizeOf75 aQ ae rfl ?_
  refine KO.wC rfl rfl isAgg75 sizeOf75 bo (fun _=>rfl) xG rfl ?_
  refine KO.alloc rfl zeroValue75 aQ rfl ?_;intro b7
  refine KO.pD rfl rfl rfl aQ (by exact sizeOf75) aQ bZ aQ ?_
  refine Z2 ?_
  refine dR ?_
  refine X9 ?_
  refine KO.cl (cp:=[]) rfl rfl rfl call170 rfl (Is w0 _ _ _ b5 0 [vm] 125 vm (l.take k) ⟨yn,yt,yh⟩ bo bo rfl iK iK ga kt) ?_;rintro v' L' ⟨rfl,v2,rfl⟩;rw[e1,show[vm].set 0 v2=[v2]from rfl]
  refine vD ?_
  refine KQ.round (k+1,v2) iK iK ⟨rfl,rfl,rfl,rfl,rfl,trivial⟩ (fun _ h=>h.all Y1)
 ·have uX:k=l.length:=by omega
  subst uX
  rw[List.take_length]
  refine Z9 ?_
  refine dR ?_
  refine KO.uS rfl rfl isAgg75 sizeOf75 bo aQ rfl ?_
  refine KO.cl (cp:=[]) rfl rfl rfl call170 rfl (Is w0 _ _ _ b5 0 [vm] 125 vm l ⟨xn,xt,xh⟩ bZ bZ rfl h1 h2 hl hs) ?_;rintro v' L' ⟨rfl,v2,rfl⟩
  refine jH ?_
  refine KQ.bG rfl rfl (fun w' aX=>⟨_,_,rfl,⟨rfl,rfl⟩,aX.all (by with_reducible repeat(first|exact gP.refl|apply gP.drop))⟩)
theorem S9(w0:World)(L:List HP)(bh bd n:Nat)(H:Ho)(D:Dk)(x:Nm)(hT:qH w0)(hM:qK w0)(hB:cK n H)(hn:n+1<=90000)(h3:D.places.length=300)(hd: -4000000000000000000<=D.left/\D.left<=9223372036854775807)(h1:x.name.size<=maxLen)(h2:x.kr.size<=maxLen):
 KC prog 31 #[bA bh,.agg x.cells.toArray] w0 (dL bh bd H::fR bd D::L) (fun u M=>u=cS 70 (zV H D x)/\M=dL bh bd (oN H D x)::fR bd (jf H D x)::L):=by
 have nL:=hB.oq
 have Bh:=hB.sorted
 have kZ:=fun h0:cT H.names x=0=>jO h0
 obtain⟨xn,xt,xh⟩:=x
 dsimp only at h1 h2
 refine KC.mk (n:=38) func31 rfl ntmps31 aj ?_
 refine qq ?_
 refine K.cx (fun _ h=>cI h) ?_
 rintro⟨V,hV⟩
 dsimp only
 refine K.fact (fun w hw=>aY (E:=75) (sz:=3) (cf:=Nm.cells) (v:=V.nv) (xs:=H.names) (hw.pick (A:=lQ V.nv H.names) bo)) ?_
 rintro⟨na,nk,hnv,-⟩
 refine dR ?_
 refine KO.box rfl rfl aQ rfl ?_;intro b3
 refine xC ?_
 refine Es ?_
 refine KO.Wp (us:=[V.nv]) rfl rfl isAgg125 sizeOf125 bo aQ aQ rfl ?_
 refine KO.alloc rfl zeroValue125 aQ rfl ?_;intro b5
 refine KO.pD (us:=[V.nv]) rfl rfl rfl (by rw[hnv];rfl) (by exact sizeOf125) (by rw[hnv];rfl) bZ aQ ?_
 refine yF ?_
 refine KO.uS rfl rfl isAgg75 sizeOf75 bo aQ rfl ?_
 refine KO.cl (cp:=[]) rfl rfl rfl call83 rfl (Sd w0 _ _ _ b5 0 [V.nv] 125 V.nv H.names ⟨xn,xt,xh⟩ bZ bo rfl nL Bh hB.right h1 h2) ?_;rintro v' L' ⟨rfl,rfl⟩
 refine yH ?_
 refine K.bz rfl (fun h=>?_) (fun h=>?_)
 ·have qO:kG H ⟨xn,xt,xh⟩=cT H.names ⟨xn,xt,xh⟩:=by unfold kG;rw[if_pos h]
  refine G9 ?_
  refine KQ.bG rfl rfl (fun w' aX=>⟨_,_,rfl,⟨?_,rfl⟩,?_⟩)
  ·unfold zV;rw[qO,if_pos h]
  ·unfold oN jf;rw[qO,if_pos h,if_pos h]
   exact cn V hV (aX.all Y5)
 have h0:cT H.names ⟨xn,xt,xh⟩=0:=by simpa using h
 have hr0:=sW (kZ h0)
 have dK:=zD (kZ h0)
 obtain⟨-,-,uT,FY⟩:=jm (kZ h0)
 dsimp only at dK uT FY
 refine xB ?_
 refine Qq ?_
 refine vE ?_
 refine A5 ?_
 refine Z2 ?_
 refine K.bz rfl (fun h5=>?_) (fun h5=>?_)
 ·have qO:kG H ⟨xn,xt,xh⟩=5:=by unfold kG;exact(if_neg h).trans (if_pos h5)
  refine tH ?_
  refine KQ.bG rfl rfl (fun w' aX=>⟨_,_,rfl,⟨?_,rfl⟩,?_⟩)
  ·unfold zV;rw[qO];rfl
  ·unfold oN jf;rw[qO,if_pos ai,if_pos ai]
   exact cn V hV (aX.all Y5)
 have qO:kG H ⟨xn,xt,xh⟩=0:=by unfold kG;exact(if_neg h).trans (if_neg h5)
 refine xB ?_
 refine KO.gd (off:=1) rfl runUnderlying75 rfl rfl sizeOf9 rfl ?_
 refine vE ?_
 refine mS ?_
 refine A5 ?_
 refine Z2 ?_
 refine K.cut (fun _:Unit=>[(0,bA bh),(3,.pointer (some ⟨b3,0,none⟩)),(7,.string (kf xt))]) (fun _=>dL bh bd H::fR bd D::bP b3 (.cells [Value.string xn,.string xt,.int .i64 xh].toArray 75 (0,0))::L) (fun _=>True) ?_ ?_
 ·refine K.bz rfl (fun h8=>?_) (fun h8=>?_)
  ·(skip)
   refine dR ?_
   refine xF ?_
   exact KQ.tf () trivial ⟨rfl,rfl,by unfold kf;rw[if_pos h8];rfl,trivial⟩ (fun w' aX=>cn V hV (aX.all Y5))
  ·refine Ek ?_
   exact KQ.tf () trivial ⟨rfl,rfl,by unfold kf;rw[if_neg h8];rfl,trivial⟩ (fun w' aX=>cn V hV (aX.all Y5))
 ·rintro⟨⟩-
  try dsimp only
  have hi:=cH (n:=xh) ⟨by omega,by omega⟩
  have hdz:(kf xt).size<=8:=by
   unfold kf;split
   ·decide
   ·omega
  have z1:(⟨#[110,58]⟩:ak).size=2:=rfl
  have z2:(⟨#[32]⟩:ak).size=1:=rfl
  have z3:(⟨#[110,58]⟩++xn:ak).size<=10:=by simp only[aU];omega
  have z4:(⟨#[110,58]⟩++xn++⟨#[32]⟩:ak).size<=11:=by simp only[aU];omega
  have z5:(⟨#[110,58]⟩++xn++⟨#[32]⟩++kf xt:ak).size<=19:=by simp only[aU];omega
  have z6:(⟨#[110,58]⟩++xn++⟨#[32]⟩++kf xt++⟨#[32]⟩:ak).size<=20:=by simp only[aU];omega
  refine qq ?_
  refine K.draw [.pure,.pure,.read,.pure,.pure,.pure,.pure,.pure,.pure,.read,.dm,.pure,.write,.pure] [0,1,2,3,4,5,6,7,8,9,10,11,12,13] bH bH ?_
  refine Z1 ?_
  refine Qq ?_
  refine vE ?_
  refine rF ?_
  refine rF ?_
  refine Z1 ?_
  refine rF ?_
  refine rF ?_
  refine KO.gd (off:=2) rfl runUnderlying75 rfl rfl sizeOf3 rfl ?_
  refine vy ?_
  refine KO.ce (cp:=[]) rfl rfl rfl call59 rfl (kK w0 _ xh hT ⟨by omega,by omega⟩) ?_;rintro v' L' ⟨rfl,rfl⟩
  refine rF ?_
  refine KO.cl (cp:=[]) rfl rfl rfl call84 rfl (rW w0 _ bh bd n 1 H D (ng ⟨xn,xt,xh⟩) hT hM hB hr0 hn h3 hd) ?_;rintro v' L' ⟨rfl,rfl⟩
  refine jH ?_
  refine KQ.bG rfl rfl (fun w' aX=>⟨_,_,rfl,⟨?_,rfl⟩,?_⟩)
  ·unfold zV;rw[qO];rfl
  ·unfold oN jf;rw[qO,if_neg ai,if_neg ai]
   exact aX.all Y5
end Go.Proofs.YtjhogocabcdjbabGreatDoor
namespace WB
open Go Go.RowKit
namespace Ho
def dY (H:Ho) (j:Nat):Qu:=H.all.getD j default
def fj (H:Ho) (j:Nat) (q:Qu):Ho:=if j<4 then H.gK j q else H.fB (j-4) q
end Ho
section
variable {n:Nat} {H:Ho} {q:Qu} {i j:Nat}
theorem sR(j:Nat)(q:Qu):(H.fj j q).names=H.names:=by unfold Ho.fj;split<;>rfl
theorem uw(j:Nat)(q:Qu):(H.fj j q).aI.map (·.1)=H.aI.map (·.1):=by
 unfold Ho.fj;split
 ·rfl
 ·exact jN _ _
theorem B2(j:Nat)(q:Qu):(H.fj j q).aI.length=H.aI.length:=by
 have :=congrArg List.length (uw (H:=H) j q);simpa using this
theorem gy(j:Nat)(q:Qu):(H.fj j q).aB=H.aB:=by unfold Ho.fj;split<;>rfl
theorem pI(j:Nat)(q:Qu):(H.fj j q).batch=H.batch:=by unfold Ho.fj;split<;>rfl
theorem Dh(j:Nat)(q:Qu):(H.fj j q).id=H.id:=by unfold Ho.fj;split<;>rfl
theorem oH(j:Nat)(q:Qu):(H.fj j q).used=H.used:=by unfold Ho.fj;split<;>rfl
theorem Lw(j:Nat)(q:Qu):(H.fj j q).down=H.down:=by unfold Ho.fj;split<;>rfl
theorem Lv(j:Nat)(q:Qu):(H.fj j q).dz=H.dz:=by unfold Ho.fj;split<;>rfl
theorem oI(j:Nat)(q:Qu):(H.fj j q).bW=H.bW:=by unfold Ho.fj;split<;>rfl
theorem l7(j:Nat)(q:Qu):(H.fj j q).aK=H.aK:=by unfold Ho.fj;split<;>rfl
theorem B1(j:Nat)(q:Qu):(H.fj j q).ways.length=H.ways.length:=by unfold Ho.fj;split<;>simp[Ho.gK,Ho.fB]
theorem AZ(h4:H.ways.length=4)(j:Nat)(q:Qu):(H.fj j q).all=H.all.set j q:=by
 unfold Ho.fj
 split
 ·exact km ae q
 ·rw[ko h4,show 4+(j-4)=j by omega]
theorem vu(hj:j<H.all.length):H.all[j]? =some (H.dY j):=by
 unfold Ho.dY
 rw[aq,ao hj];rfl
theorem GY(h4:H.ways.length=4)(hi:i<H.aI.length):H.dY (4+i)=H.ec i:=by
 have h1:=lI h4 hi
 have h2:H.all[4+i]? =some (H.dY (4+i)):=vu (by rw[g_ h4];omega)
 rw[h1]at h2;exact(Option.some.inj h2).symm
theorem kB(h4:H.ways.length=4)(hj:j<4):H.dY j=H.dy j:=by
 have h1:=iH h4 hj
 have h2:H.all[j]? =some (H.dY j):=vu (by rw[g_ h4];omega)
 rw[h1]at h2;exact(Option.some.inj h2).symm
theorem cK.a(h:cK n H)(hj:j<H.all.length):QB n (H.dY j):=h.qs _ (ax (vu hj))
theorem cK.fj(h:cK n H)(hq:QB n q)(j:Nat):cK n (H.fj j q):=by
 unfold Ho.fj
 split
 ·exact h.gK hq xG
 ·exact h.fB hq _
end
theorem KQ.R6{P:Program}{fn:Func}{R:Ending->World->Prop}{n:Nat}{w0:World}{G:Env}{L:List HP}{v1 v2 v3 v4:Value}{t1 t2 t3 t4:Nat}(hr:fn.results=#[.tmp t1,.tmp t2,.tmp t3,.tmp t4])(h1:c_ G t1=some v1)(h2:c_ G t2=some v2)(h3:c_ G t3=some v3)(h4:c_ G t4=some v4)(h:∀w,St w0 L w->R (.returned (.tuple #[v1,v2,v3,v4])) w):KQ (bodyPost P fn R) .ret n [] w0 G L:=
 KQ.fin (fun a w ha _=>by simp[results,hr,Array.getD_eq_getD_getElem?,ha.get _ _ h1,ha.get _ _ h2,ha.get _ _ h3,ha.get _ _ h4]) h
def jU (H:Ho) (s:ak):ak×Int×Int:=
 if(gB H.names (H.names.length+1) s).2.2≠0 then(⟨#[]⟩,0,(gB H.names (H.names.length+1) s).2.2)
 else if(gB H.names (H.names.length+1) s).2.1<0\/(gB H.names (H.names.length+1) s).2.1=H.id then
  if fq H.names (gB H.names (H.names.length+1) s).1=false then(⟨#[]⟩,0,7)else((gB H.names (H.names.length+1) s).1,-1,0)
 else((gB H.names (H.names.length+1) s).1,(gB H.names (H.names.length+1) s).2.1,0)
def mY (H:Ho) (s:ak):Nat:=if(jU H s).2.1<0 then 4+(H.qI (jU H s).1).getD 0 else(jU H s).2.1.toNat
theorem zE{l:List Nm}:∀{n:Nat} {s t:ak} {k:Int},gB l n s=(t,k,0)->k= -1\/∃x∈l,x.cq=k/\0<=k
 |0,s,t,k,h=>by simp[gB]at h
 |n+1,s,t,k,h=>by
  rw[gB]at h
  split at h
  ·simp at h
  ·rename_i x hx
   split at h
   ·simp at h;exact .inl h.2.symm
   ·split at h
    ·rename_i h2
     simp at h
     refine .inr ⟨x,?_,h.2,h.2▸h2⟩
     unfold look at hx
     split at hx
     ·rename_i h3
      simp only[az]at hx
      subst hx
      unfold eB
      have :=wL h3
      rw[aq,ao this]
      exact List.getElem_mem this
     ·cases hx
    ·exact zE h
theorem Kb{n:Nat}{H:Ho}(hB:cK n H){s:ak}(h:fq H.names s=true):∃i,H.qI s=some i:=by
 unfold fq at h
 cases hl:look H.names s with
 |none=>rw[hl]at h;cases h
 |some x=>
  rw[hl]at h
  rw[nY hB.sorted]at hl
  obtain⟨h1,h2⟩:=rU hl
  obtain⟨i,hi⟩:=hB.loc x h1 (by simp only[wY]at h;exact of_decide_eq_true h)
  exact⟨i,by rw[<-h2];exact hi⟩
theorem zL{n:Nat}{H:Ho}(hB:cK n H){s:ak}(h:(jU H s).2.2=0):mY H s<H.all.length/\((jU H s).2.1<0->(jU H s).2.1= -1/\∃i,H.qI (jU H s).1=some i/\mY H s=4+i)/\(¬(jU H s).2.1<0->mY H s<4/\(jU H s).2.1=((mY H s:Nat):Int)):=by
 rw[g_ hB.ways]
 unfold mY
 unfold jU at h ⊢
 split
 ·rename_i h1;rw[if_pos h1]at h;exact absurd h h1
 ·rename_i h1
  rw[if_neg h1]at h
  have HH:(gB H.names (H.names.length+1) s).2.2=0:=by simpa using h1
  generalize hr:gB H.names (H.names.length+1) s=r at *
  obtain⟨t,k,e⟩:=r
  dsimp only at h HH ⊢
  subst HH
  split
  ·rename_i h2
   rw[if_pos h2]at h
   split
   ·rename_i h3;rw[if_pos h3]at h;cases h
   ·rename_i h3
    obtain⟨i,hi⟩:=Kb hB (s:=t) (by simpa using h3)
    have :=(ik hi).1
    dsimp only
    rw[if_pos ai]
    refine⟨by rw[hi];simp;omega,fun _=>⟨rfl,i,hi,by rw[hi];rfl⟩,fun h=>absurd ai h⟩
  ·rename_i h2
   dsimp only
   have h3:¬k<0:=fun h=>h2 (.inl h)
   rw[if_neg h3]
   rcases zE hr with h4|⟨x,hx,hk,h0⟩
   ·omega
   ·obtain⟨-,-,-,h5⟩:=jm (hB.right x hx)
    exact⟨by omega,fun h=>absurd h h3,fun _=>⟨by omega,by omega⟩⟩
theorem Sz{l:List Nm}{s:ak}{x:Nm}(h:look l s=some x):x∈l/\x.name=s:=by
 unfold look at h
 split at h
 ·rename_i h3
  simp only[az]at h
  subst h
  have :=wL h3
  refine⟨?_,?_⟩
  ·unfold eB
   rw[aq,ao this]
   exact List.getElem_mem this
  ·unfold fy at h3
   rw[bn]at h3
   exact vg (by simpa using h3.2)
 ·cases h
theorem B4{l:List Nm}(hr:∀x∈l,cy x=true):∀{n:Nat} {s t:ak} {k:Int},gB l n s=(t,k,0)->dw t=true
 |0,s,t,k,h=>by simp[gB]at h
 |n+1,s,t,k,h=>by
  rw[gB]at h
  split at h
  ·simp at h
  ·rename_i x hx
   obtain⟨h1,h2⟩:=Sz hx
   obtain⟨w1,w2,-,-⟩:=jm (hr x h1)
   split at h
   ·simp at h;rw[<-h.1,<-h2];exact w1
   ·rename_i he
    split at h
    ·simp at h
     rw[<-h.1]
     rcases w2 with w2|w2
     ·exact w2
     ·exact absurd (by rw[wY,w2];rfl) he
    ·exact B4 hr h
theorem N0{n:Nat}{H:Ho}(hB:cK n H){s:ak}(h:(jU H s).2.2=0):dw (jU H s).1=true:=by
 unfold jU at h ⊢
 split
 ·rename_i h1;rw[if_pos h1]at h;exact absurd h h1
 ·rename_i h1
  rw[if_neg h1]at h
  have HH:(gB H.names (H.names.length+1) s).2.2=0:=by simpa using h1
  generalize hr:gB H.names (H.names.length+1) s=r at *
  obtain⟨t,k,e⟩:=r
  dsimp only at h HH ⊢
  subst HH
  have :=B4 hB.right hr
  split
  ·rename_i h2
   rw[if_pos h2]at h
   split
   ·rename_i h3;rw[if_pos h3]at h;cases h
   ·exact this
  ·exact this
def fk (H:Ho) (s:ak) (pri:Int) (body:ak):Ms:=⟨H.next *4+H.id,pri,body,(jU H s).1,if(jU H s).2.1<0 then H.id else(jU H s).2.1⟩
def jn (H:Ho) (u:Int) (s:ak) (pri:Int) (body:ak):Int:=
 if u<0\/5<=u then 2 else if(pri<0\/9<pri)\/lG body=false then 1 else if(jU H s).2.2≠0 then(jU H s).2.2 else if H.down=true then 6
 else kz (H.dY (mY H s)) (fk H s pri body)
def cQ (H:Ho) (u:Nat) (x:pg):Ho:={H with aB:=H.aB.set u x}
def fl (H:Ho) (u:Int) (s:ak) (pri:Int) (body:ak):Ho:=
 if jn H u s pri body=0 then
  cQ {H.fj (mY H s) (pM (H.dY (mY H s)) (fk H s pri body) u)with next:=H.next+1} u.toNat ⟨(H.eP u.toNat).aM++[(fk H s pri body,(jU H s).2.1)],(H.eP u.toNat).bu⟩
 else H
def zK (H:Ho) (u:Int) (s:ak) (pri:Int) (body:ak):Int:=if jn H u s pri body=0 then(fk H s pri body).id else 0
def lR (H:Ho) (u:Int) (s:ak):Int:=
 if u<0\/5<=u then 2 else match H.qI s with
 |none=>7
 |some i=>if s≠cL/\fq H.names s=false then 7 else if H.down=true then 6 else nV (H.ec i)
def getM (H:Ho) (u:Int) (s:ak):Ms:=if lR H u s=0 then mX (H.ec ((H.qI s).getD 0))else oh
def jZ (H:Ho) (u:Int) (s:ak):Ho:=
 if lR H u s=0 then cQ (H.fB ((H.qI s).getD 0) (oM (H.ec ((H.qI s).getD 0)) u)) u.toNat ⟨(H.eP u.toNat).aM,(H.eP u.toNat).bu++[((mX (H.ec ((H.qI s).getD 0))).id,s)]⟩else H
theorem cK.cQ{n:Nat}{H:Ho}(h:cK n H)(u:Nat)(x:pg):cK n (cQ H u x):=⟨h.id,h.used,h.next,h.sorted,h.oq,h.oL,h.qs,h.nodup,h.ways,by simp[WB.cQ,h.aB],h.batch,h.bW,h.aK,h.right,h.loc,h.ext⟩
theorem cK.put{n:Nat}{H:Ho}(h:cK n H)(u:Int)(s:ak)(pri:Int)(body:ak):cK (n+1) (fl H u s pri body):=by
 unfold fl
 split
 ·rename_i h0
  unfold jn at h0
  split at h0
  ·cases h0
  ·split at h0
   ·cases h0
   ·split at h0
    ·exact absurd h0 xG
    ·rename_i h1
     split at h0
     ·cases h0
     ·have hj:=(zL h (s:=s) Nn).1
      have hn:H.next+1<=274877906945:=by
       unfold kz at h0
       cases hr:bT (fk H s pri body)with
       |false=>rw[if_pos hr]at h0;cases h0
       |true=>
        have h2:=(bV hr).2.1
        have :=h.id
        unfold fk at h2;dsimp only at h2;omega
      have hx:=h.next
      exact cK.cQ (((h.le (Nat.le_succ n)).fj ((h.a hj).put _ u) _).Sn ⟨by omega,hn⟩) _ _
 ·exact h.le (Nat.le_succ n)
theorem cK.get{n:Nat}{H:Ho}(h:cK n H)(u:Int)(s:ak):cK n (jZ H u s):=by
 unfold jZ
 split
 ·rename_i h0
  unfold lR at h0
  split at h0
  ·cases h0
  ·cases hq:H.qI s with
   |none=>rw[hq]at h0;cases h0
   |some i=>exact cK.cQ (h.fB ((h.qa (ik hq).1).get u) _) _ _
 ·exact h
end WB
