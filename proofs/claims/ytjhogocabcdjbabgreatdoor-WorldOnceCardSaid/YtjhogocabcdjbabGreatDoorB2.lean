import Derived.Maps.OwnOps
import Derived.Lib.SliceRun
import Derived.Lib.CutLaws
import Derived.Lib.Strings
import Derived.Maps.RangeRun
import Derived.Test.YtjhogocabcdjbabGreatDoorB1
set_option linter.unusedSimpArgs false
set_option linter.unusedVariables false
set_option maxRecDepth 100000
set_option maxHeartbeats 8000000
namespace WB
open Go Go.RowKit Go.ChangeMaps Go.MapKept
theorem List.oC(s v:Value):∀(l:List MapEntry) (j:Nat),(l.modify j fun e=>{e with key:=s,val:=v}).map (·.born)=l.map (·.born)
 |[],_=>by simp
 |_::_,0=>by simp
 |_::l,j+1=>by simp[List.oC s v l j]
structure KeyLaw {κ:Type} (d:TypeDesc) (kv:κ->Value):Prop where
 isKey:∀k,IsKey d (kv k)
 inj:∀a b,kv a=kv b->a=b
theorem fI:KeyLaw (κ:=ak) .string Value.string:=⟨fun _=>⟨⟩,fun _ _ h=>by cases h;rfl⟩
theorem jN:KeyLaw (κ:=Int) (.int .i64) (Value.int .i64):=⟨fun _=>rfl,fun _ _ h=>by cases h;rfl⟩
section
variable {κ:Type} [DecidableEq κ]
def en {β:Type} (m:List (κ×β)) (k:κ):Option β:=match m with
 |[]=>none
 |x::r=>if x.1=k then some x.2 else en r k
def fL {β:Type} (m:List (κ×β)) (k:κ) (v:β):List (κ×β):=match m with
 |[]=>[(k,v)]
 |x::r=>if x.1=k then(x.1,v)::r else x::fL r k v
def pH {β:Type} (m:List (κ×β)) (k:κ):List (κ×β):=match m with
 |[]=>[]
 |x::r=>if x.1=k then r else x::pH r k
theorem Bg{β:Type}(s t:κ)(v:β):∀m:List (κ×β),en (fL m s v) t=if s=t then some v else en m t
 |[]=>rfl
 |x::r=>by
  unfold fL;by_cases h:x.1=s
  ·rw[if_pos h,en,en,h];by_cases h2:s=t<;>simp[h2]
  ·rw[if_neg h,en,en,Bg s t v r];by_cases h2:x.1=t
   ·have :¬s=t:=fun e=>h (h2.trans e.symm)
    simp[h2,this]
   ·simp[h2]
variable {d:TypeDesc} {kv:κ->Value}
def Kt (kv:κ->Value) (es:List MapEntry) (m:List (κ×Value)):Prop:=es.map (fun e=>(e.key,e.val))=m.map (fun x=>(kv x.1,x.2))
structure W0 (kv:κ->Value) (es:List MapEntry) (fP:Nat) (m:List (κ×Value)):Prop where
 Nx:Kt kv es m
 La:∀e∈es,e.born<fP
 nodup:(es.map (·.born)).Nodup
def bV (kv:κ->Value) (b:Nat) (m:List (κ×Value)):HP:=ex fun es:Array MapEntry=>ex fun fP:Nat=>sep (JF (W0 kv es.toList fP m)) (bI b (.map es fP))
theorem IX(K:KeyLaw d kv)(s:κ):∀(es:List MapEntry) (m:List (κ×Value)) (i:Nat),Kt kv es m->
 (en m s=none/\Instr.findNow d (kv s) es i=some none/\(∀v fP,Kt kv (es++[{key:=kv s,val:=v,born:=fP}]) (fL m s v))/\pH m s=m)\/
 ∃j e,en m s=some e.val/\es[j]? =some e/\e.key=kv s/\Instr.findNow d (kv s) es i=some (some (i+j,e.val))/\
  (∀v,Kt kv (es.modify j fun e=>{e with key:=kv s,val:=v}) (fL m s v))/\Kt kv (es.eraseIdx j) (pH m s)
 |[],[],i,_=>Or.inl ⟨rfl,rfl,fun v fP=>rfl,rfl⟩
 |[],_::_,_,h=>by simp[Kt]at h
 |_::_,[],_,h=>by simp[Kt]at h
 |e::es,x::m,i,h=>by
  unfold Kt at h;simp only[aJ,List.cons.injEq,Prod.mk.injEq]at h;obtain⟨⟨hk,hv⟩,hr⟩:=h;obtain⟨r,WD,hr2⟩:=sameNow_of_keys (K.isKey s) (show IsKey d e.key by rw[hk];exact K.isKey x.1);by_cases hx:x.1=s
  ·have hrt:r=true:=hr2.2 (by rw[hk,hx]);refine Or.inr ⟨0,e,by simp[en,hx,hv],rfl,by rw[hk,hx],?_,fun v=>?_,?_⟩
   ·unfold Instr.findNow;rw[WD,hrt];rfl
   ·unfold Kt;simp[fL,hx];exact hr
   ·unfold Kt;simp[pH,hx];exact hr
  ·have hrf:r=false:=by
    cases r with
    |false=>rfl
    |true=>exact absurd (K.inj _ _ ((hr2.1 rfl).trans hk)) (fun e=>hx e.symm)
   have hf:Instr.findNow d (kv s) (e::es) i=Instr.findNow d (kv s) es (i+1):=by
    conv=>lhs;unfold Instr.findNow
    rw[WD,hrf]
   rcases IX K s es m (i+1) hr with⟨h1,h2,h3,h4⟩|⟨j,e0,h1,h2,h3,h4,h5,h6⟩
   ·refine Or.inl ⟨by simp[en,hx,h1],by rw[hf,h2],fun v fP=>?_,by simp[pH,hx,h4]⟩;have :=h3 v fP;unfold Kt at this ⊢;simp[fL,hx,hk,hv]at this ⊢;exact this
   ·refine Or.inr ⟨j+1,e0,by simp[en,hx,h1],by simpa using h2,h3,by rw[hf,h4];simp;omega,fun v=>?_,?_⟩
    ·have :=h5 v;unfold Kt at this ⊢;simp[fL,hx,hk,hv]at this ⊢;exact this
    ·unfold Kt at h6 ⊢;simp[pH,hx,hk,hv]at h6 ⊢;exact h6
variable {w0 w:World} {L:List HP} {P:Program} {b:Nat} {m:List (κ×Value)}
omit [DecidableEq κ]in
theorem Ge(h:St w0 L w):St w0 (bV kv w.heap.size []::L) (w.alloc (.map #[] 0)):=
 St.zZ #[] (St.zZ 0 (St.join (St.vN (p:=W0 kv (#[]:Array MapEntry).toList 0 []) ⟨rfl,(fun e h=>by cases h),.nil⟩ (h.alloc (.map #[] 0)))))
theorem yc(K:KeyLaw d kv)(h:St w0 (bV kv b m::L) w){w1:World}(he:Ext w w1){t k E:TypeId}(ht:P.underlying t=some (.map k E))(hk:P.underlying k=some d){z:Value}(hz:(zeroValue E).run P w1=.ok z w1)(s:κ)(ok:Bool):
 (Instr.lookup t (.map (some b)) (kv s) ok).run P w1=.ok (if ok then .tuple #[(en m s).getD z,.bool (en m s).isSome]else(en m s).getD z) w1:=by
 obtain⟨es,h⟩:=h.Bp;obtain⟨fP,h⟩:=h.Bp;obtain⟨hr,h⟩:=h.split.rf;have dt:=h.lt;obtain⟨_,hb⟩:=h.look;have hb:w1.heap[b]? =some (.map es fP):=by rw[he.2 b dt];exact hb
 rcases IX K s _ m 0 hr.Nx with⟨h2,h3,_,_⟩|⟨j,e,h2,h3,h4,h5,_,_⟩
 ·cases ok<;>simp[Instr.lookup,run_underlying ht,run_getObj_map hb,run_checkKey hk (K.isKey s),run_findKey hk h3,Result.andThen,h2,hz]
 ·cases ok<;>simp[Instr.lookup,run_underlying ht,run_getObj_map hb,run_checkKey hk (K.isKey s),run_findKey hk h5,Result.andThen,h2]
theorem AS(K:KeyLaw d kv)(h:St w0 (bV kv b m::L) w){t k E:TypeId}(ht:P.underlying t=some (.map k E))(hk:P.underlying k=some d)(s:κ)(v:Value):
 ∃w',(Instr.mapUpdate t (.map (some b)) (kv s) v).run P w=.ok () w'/\St w0 (bV kv b (fL m s v)::L) w':=by
 obtain⟨es,h⟩:=h.Bp;obtain⟨fP,h⟩:=h.Bp;obtain⟨hr,h⟩:=h.split.rf;obtain⟨_,hb⟩:=h.look;have up:∀(o:Obj),St w0 (bI b o::L) {w with heap:=w.heap.setIfInBounds b o}:=fun o=>
  h.upd rfl rfl rfl aj (by have :=h.lt;simp[this]) (fun k hk=>by simp[Array.getElem?_setIfInBounds,Ne.symm hk])
 rcases IX K s _ m 0 hr.Nx with⟨_,h3,h4,_⟩|⟨j,e,_,h3,h4,h5,h6,_⟩
 ·refine⟨_,?_,St.zZ (es.push {key:=kv s,val:=v,born:=fP}) (St.zZ (fP+1) (St.join (St.vN (p:=W0 kv (es.push {key:=kv s,val:=v,born:=fP}).toList (fP+1) (fL m s v)) ?_ (up (.map (es.push {key:=kv s,val:=v,born:=fP}) (fP+1))))))⟩
  ·simp[Instr.mapUpdate,run_underlying ht,run_getObj_map hb,run_checkKey hk (K.isKey s),run_findKey hk h3,run_setObj_map _ hb,Result.andThen]
  ·refine⟨by simpa using h4 v fP,fun e he=>?_,?_⟩
   ·rw[Array.toList_push]at he;rcases aH.1 he with he|he
    ·have :=hr.La e he;omega
    ·simp at he;subst he;exact Nat.lt_succ_self _
   ·rw[Array.toList_push,aN,aJ,List.map_nil,List.nodup_append];refine⟨hr.nodup,by simp,fun a ha b hb=>?_⟩;obtain⟨e,he,rfl⟩:=ay.1 ha;simp at hb;subst hb;have :=hr.La e he;omega
 ·have hj:es[j]? =some e:=by simpa using h3
  refine⟨_,?_,St.zZ (es.modify j fun e=>{e with key:=kv s,val:=v}) (St.zZ fP (St.join (St.vN (p:=W0 kv (es.modify j fun e=>{e with key:=kv s,val:=v}).toList fP (fL m s v)) ?_ (up (.map (es.modify j fun e=>{e with key:=kv s,val:=v}) fP)))))⟩
  ·simp[Instr.mapUpdate,run_underlying ht,run_getObj_map hb,run_checkKey hk (K.isKey s),run_findKey hk h5,hj,h4,run_keyThatStays (K.isKey s),run_setObj_map _ hb,Result.andThen]
  ·have hm:((es.modify j fun e=>{e with key:=kv s,val:=v}).toList.map (·.born))=es.toList.map (·.born):=by
    rw[Array.toList_modify,List.oC]
   refine⟨by simpa using h6 v,fun e he=>?_,by rw[hm];exact hr.nodup⟩;have hb:e.born∈es.toList.map (·.born):=by rw[<-hm];exact cO he
   obtain⟨e2,ei,jC⟩:=ay.1 hb;rw[<-jC];exact hr.La e2 ei
omit [DecidableEq κ]in
theorem JM(h:St w0 (bV kv b m::L) w){w1:World}(he:Ext w w1){t k E ty:TypeId}(ht:P.underlying t=some (.map k E)):
 (Builtin.len_ #[t] ty #[.map (some b)]).run P w1=.ok (goInt m.length) w1:=by
 obtain⟨es,h⟩:=h.Bp;obtain⟨fP,h⟩:=h.Bp;obtain⟨hr,h⟩:=h.split.rf;have dt:=h.lt;obtain⟨_,hb⟩:=h.look;have hb:w1.heap[b]? =some (.map es fP):=by rw[he.2 b dt];exact hb
 have hl:es.size=m.length:=by have :=congrArg List.length hr.Nx;simpa using this
 simp[Builtin.len_,run_underlying ht,run_getObj_map hb,hl]
end
section
variable {κ:Type} [DecidableEq κ] {kd:TypeDesc} {kv:κ->Value}
variable {P:Program} {ops:Array Oper} {d:Bool} {Q:Exit->Act->World->Prop} {n:Nat} {D:List Deferred} {w0:World} {G:Env} {L R:List HP} {l:List (Kd×Oper)} {k:Kd}
 {t:Nat} {ty T KT E:TypeId} {pos:String} {af:Array Edge} {x y u:Operand} {v z:Value} {b:Nat} {m:List (κ×Value)}
omit [DecidableEq κ]in
theorem KO.mkm(kv:κ->Value)(hk:(!d||(k== .c7||k== .write))=true)(ht:Nat.blt t n=true)(h:∀bb,KO P ops d Q n D w0 ((t,.map (some bb))::G) (bV kv bb []::L) l):
 KO P ops d Q n D w0 G L ((k,⟨some t,.makeMap T none,ty,pos,af,none⟩)::l):=
 KO.qb hk (F:=fun bb=>.map (some bb)) (N:=fun bb=>bV kv bb []::L) (fun a w ha hw=>⟨w.heap.size,w.alloc (.map #[] 0),by simp[execOp,run_makeMap],Ext.alloc w _,Ge hw⟩) ht h
theorem KO.Ek(K:KeyLaw kd kv)(s:κ)(hk:(!d||k != .pure)=true)(hx:ev G x=some (.map (some b)))(hy:ev G y=some (kv s))(hT:P.underlying T=some (.map KT E))(hK:P.underlying KT=some kd)(hz:∀w,(zeroValue E).run P w=.ok z w)(hp:bF L (bV kv b m) R)(ht:Nat.blt t n=true)(h:KO P ops d Q n D w0 ((t,(en m s).getD z)::G) L l):KO P ops d Q n D w0 G L ((k,⟨some t,.lookup T x y false,ty,pos,af,none⟩)::l):=
 KO.rd hk (fun a w w' ha hw e=>by
  have :=yc (P:=P) K (hw.pick hp) e hT hK (hz w') s false
  simp[execOp,ha.eval hx,ha.eval hy,this]) ht h
theorem KO.AY(K:KeyLaw kd kv)(s:κ)(hk:(!d||k != .pure)=true)(hx:ev G x=some (.map (some b)))(hy:ev G y=some (kv s))(hT:P.underlying T=some (.map KT E))(hK:P.underlying KT=some kd)(hz:∀w,(zeroValue E).run P w=.ok z w)(hp:bF L (bV kv b m) R)(ht:Nat.blt t n=true)(h:KO P ops d Q n D w0 ((t,.tuple #[(en m s).getD z,.bool (en m s).isSome])::G) L l):KO P ops d Q n D w0 G L ((k,⟨some t,.lookup T x y true,ty,pos,af,none⟩)::l):=
 KO.rd hk (fun a w w' ha hw e=>by
  have :=yc (P:=P) K (hw.pick hp) e hT hK (hz w') s true
  simp[execOp,ha.eval hx,ha.eval hy,this]) ht h
theorem KO.Tt(K:KeyLaw kd kv)(s:κ)(hk:(!d||k== .write)=true)(hx:ev G x=some (.map (some b)))(hy:ev G y=some (kv s))(hu:ev G u=some v)(hT:P.underlying T=some (.map KT E))(hK:P.underlying KT=some kd)(hp:bF L (bV kv b m) R)(h:KO P ops d Q n D w0 G (bV kv b (fL m s v)::R) l):KO P ops d Q n D w0 G L ((k,⟨none,.mapUpdate T x y u,ty,pos,af,none⟩)::l):=
 KO.Dq hk (fun a w ha hw=>by
  obtain⟨w',hr,hs⟩:=AS (P:=P) K (hw.pick hp) hT hK s v
  exact⟨w',by simp[execOp,ha.eval hx,ha.eval hy,ha.eval hu,hr],hs⟩) h
omit [DecidableEq κ]in
theorem KO.abE(hk:(!d||k != .pure)=true)(hx:ev G x=some (.map (some b)))(hT:P.underlying T=some (.map KT E))(hp:bF L (bV kv b m) R)(ht:Nat.blt t n=true)(h:KO P ops d Q n D w0 ((t,.int .i64 (m.length:Nat))::G) L l):
 KO P ops d Q n D w0 G L ((k,⟨some t,.call ⟨.builtin .len,#[x],#[T]⟩,ty,pos,af,none⟩)::l):=
 KO.rd hk (fun a w w' ha hw e=>by
  have :=JM (P:=P) (ty:=ty) (hw.pick hp) e hT
  simp[execOp,resolve,invoke,builtin,ha.eval hx,this,goInt]) ht h
end
def strip (e:It):It:={e with line:=0}
theorem l6(e:It):cC (strip e)=cC e:=rfl
theorem fl(p:It->Bool)(hp:∀e,p (strip e)=p e)(l:List It):(l.filter p).map strip=(l.map strip).filter p:=by
 rw[List.filter_map];congr 1;exact List.filter_congr fun e _=>(hp e).symm
def MN (t:It) (l:List It):List It:=l.filter (fun e=>decide (t.m.pri<=e.m.pri))++t::l.filter (fun e=> !decide (t.m.pri<=e.m.pri))
def Cx (v:Int):List It->List It
 |[]=>[]
 |e::l=>if cC e=true then {e with ft:=v}::l else e::Cx v l
def adD:List It->List It
 |[]=>[]
 |e::l=>if cC e=true then l else e::adD l
def Bu (u:Int) (back:Bool) (l:List It):List It:=(l.filter fun e=> !nq u back e).map (jo u)
def ml (e:It):Ms×Int:=(e.m,e.line)
def Ord (x y:It):Prop:=x.m.id≠y.m.id/\(y.m.pri<x.m.pri\/(x.m.pri=y.m.pri/\x.m.id<y.m.id))
theorem Ord.pri{x y:It}(h:Ord x y):y.m.pri<=x.m.pri:=by unfold Ord at h;omega
structure uS (n:Int) (q:Qu):Prop where
 ord:q.l.Pairwise Ord
 ids:∀e∈q.l,0<=e.m.id/\e.m.id<n
 lR:∀e∈q.l,0<=e.m.pri/\e.m.pri<=9
 lines:∀e∈q.l,0<=e.line/\e.line<q.next
 len:q.l.length<=20
 next:0<=q.next/\q.next<=n
theorem fZ{p:It->Bool}{l:List It}(h:l.Pairwise fun x y=>p y=true->p x=true):l.takeWhile p=l.filter p/\l.dropWhile p=l.filter fun e=> !p e:=by
 induction l with
 |nil=>exact⟨rfl,rfl⟩
 |cons a l ih=>
  obtain⟨h1,h2⟩:=List.pairwise_cons.1 h;obtain⟨i1,i2⟩:=ih h2;by_cases ha:p a=true
  ·simp[ha,i1,i2]
  ·have fg:∀e∈l,p e=false:=fun e he=>by
    by_cases hp:p e=true
    ·exact absurd (h1 e he hp) ha
    ·simpa using hp
   have e1:l.filter p=[]:=List.filter_eq_nil_iff.2 fun e he=>by simp[fg e he]
   have e2:(l.filter fun e=> !p e)=l:=bo.2 fun e he=>by simp[fg e he]
   simp[ha,e1,e2]
theorem i_{α:Type}(p:α->Bool):∀l:List α,l.take (l.takeWhile p).length=l.takeWhile p/\l.drop (l.takeWhile p).length=l.dropWhile p
 |[]=>⟨rfl,rfl⟩
 |a::l=>by
  by_cases h:p a=true
  ·simp[h,i_ p l]
  ·simp[h]
section
variable {n:Int} {q:Qu} {m:Ms} {u:Int}
theorem uS.cmp(h:uS n q)(m:Ms)(u:Int){e:It}(he:e∈q.l):fV e (cU q m u)<0↔m.pri<=e.m.pri:=by
 have :=h.lines e he;unfold fV y7 cU;dsimp only;split<;>omega
theorem uS.ok(h:uS n q)(hn:n<1000000):OI q:=by
 refine⟨by have :=h.len;omega,fun e he=>?_,⟨h.next.1,by have :=h.next;omega⟩,fun m u i j a b UD ha hb dt=>?_⟩
 ·have h1:=h.lR e he;have h2:=h.lines e he;have h3:=h.next
  unfold kQ small;omega
 ·have ma:=ax ha;have mb:=ax hb;rw[h.cmp m u ma];rw[h.cmp m u mb]at dt;rcases Nat.lt_or_ge i j with sM|Da
  ·obtain⟨hi,rfl⟩:=au.1 ha;obtain⟨hj,rfl⟩:=au.1 hb;have :=(List.pairwise_iff_getElem.1 h.ord i j hi hj sM).pri;omega
  ·obtain rfl:i=j:=by omega
   rw[ha]at hb;cases hb;exact dt
theorem uS.push(h:uS n q)(m:Ms)(u:Int):(cP q m u).l=q.l.filter (fun e=>decide (m.pri<=e.m.pri))++cU q m u::q.l.filter (fun e=> !decide (m.pri<=e.m.pri)):=by
 have hc:(q.l.takeWhile fun e=>decide (fV e (cU q m u)<0))=q.l.takeWhile fun e=>decide (m.pri<=e.m.pri):=by
  have :∀l:List It,(∀e∈l,e∈q.l)->(l.takeWhile fun e=>decide (fV e (cU q m u)<0))=l.takeWhile fun e=>decide (m.pri<=e.m.pri):=by
   intro l
   induction l with
   |nil=>intro _;rfl
   |cons a l ih=>
    intro hl;have e1:decide (fV a (cU q m u)<0)=decide (m.pri<=a.m.pri):=decide_eq_decide.2 (h.cmp m u (hl a aj));simp only[List.takeWhile_cons,e1,ih fun e he=>hl e (by simp[he])]
  exact this q.l fun _ h=>h
 obtain⟨t1,t2⟩:=i_ (fun e:It=>decide (m.pri<=e.m.pri)) q.l
 obtain⟨f1,f2⟩:=fZ (p:=fun e:It=>decide (m.pri<=e.m.pri)) (l:=q.l) (h.ord.imp fun {x y} Ug hy=>by
  have :=Ug.pri;simp at hy ⊢;omega)
 unfold cP po;dsimp only;rw[hc,t1,t2,f1,f2]
theorem Gc(h:uS n q)(m:Ms)(u:Int):(cP q m u).l.map strip=MN ⟨m,0,max u (-1),-1⟩ (q.l.map strip):=by
 rw[h.push];unfold MN;rw[aN,aJ,fl _ (fun _=>rfl),fl _ (fun _=>rfl)];rfl
theorem uS.mC(h:uS n q)(hm:m.id=n)(h0:0<=n)(hp:0<=m.pri/\m.pri<=9)(hl:q.l.length<20)(u:Int):uS (n+1) (cP q m u):=by
 have zI:∀e∈(cP q m u).l,e=cU q m u\/e∈q.l:=fun e he=>by
  rw[h.push]at he;simp only[aH,aD,aB]at he;rcases he with⟨a,_⟩|a|⟨a,_⟩
  ·exact .inr a
  ·exact .inl a
  ·exact .inr a
 have qN:(cP q m u).next=q.next+1:=rfl
 refine⟨?_,fun e he=>?_,fun e he=>?_,fun e he=>?_,?_,by have :=h.next;rw[qN];omega⟩
 ·rw[h.push,List.pairwise_append,List.pairwise_cons];refine⟨h.ord.sublist List.filter_sublist,⟨fun e he=>?_,h.ord.sublist List.filter_sublist⟩,fun a ha b hb=>?_⟩
  ·obtain⟨h1,h2⟩:=aB.1 he;have :=h.ids e h1;simp at h2;refine⟨?_,.inl (by unfold cU;dsimp only;omega)⟩;unfold cU;dsimp only;omega
  ·obtain⟨h1,h2⟩:=aB.1 ha;have i1:=h.ids a h1;simp at h2;rcases aD.1 hb with rfl|hb
   ·unfold Ord cU;dsimp only;omega
   ·obtain⟨h3,h4⟩:=aB.1 hb;simp at h4;refine⟨?_,.inl ae⟩;intro e;obtain⟨i,hi,rfl⟩:=List.getElem_of_mem h1;obtain⟨j,hj,rfl⟩:=List.getElem_of_mem h3;rcases Nat.lt_trichotomy i j with dt|rfl|dt
    ·exact(List.pairwise_iff_getElem.1 h.ord i j hi hj dt).1 e
    ·omega
    ·exact(List.pairwise_iff_getElem.1 h.ord j i hj hi dt).1 e.symm
 ·rcases zI e he with rfl|h1
  ·unfold cU;dsimp only;omega
  ·have :=h.ids e h1;omega
 ·rcases zI e he with rfl|h1
  ·exact hp
  ·exact h.lR e h1
 ·rw[qN];rcases zI e he with rfl|h1
  ·have :=h.next;unfold cU;dsimp only;omega
  ·have :=h.lines e h1;omega
 ·unfold cP;simp;omega
theorem uS.le(h:uS n q){k:Int}(hk:n<=k):uS k q:=⟨h.ord,fun e he=>by have :=h.ids e he;omega,h.lR,h.lines,h.len,by have :=h.next;omega⟩
theorem uS.part(h:uS n q){l:List It}(hs:(l.map ml).Sublist (q.l.map ml)):uS n ⟨l,q.next⟩:=by
 have hm:∀e∈l,∃e'∈q.l,e'.m=e.m/\e'.line=e.line:=fun e he=>by
  obtain⟨e',h1,h2⟩:=ay.1 (hs.subset (List.mem_map_of_mem (f:=ml) he));exact⟨e',h1,by simpa[ml]using h2⟩
 refine⟨?_,fun e he=>?_,fun e he=>?_,fun e he=>?_,?_,h.next⟩
 ·have h1:(q.l.map ml).Pairwise fun x y=>x.1.id≠y.1.id/\(y.1.pri<x.1.pri\/(x.1.pri=y.1.pri/\x.1.id<y.1.id)):=List.pairwise_map.2 h.ord
  have h2:=h1.sublist hs;rw[List.pairwise_map]at h2;exact h2
 ·obtain⟨e',h1,h2,_⟩:=hm e he;rw[<-h2];exact h.ids e' h1
 ·obtain⟨e',h1,h2,_⟩:=hm e he;rw[<-h2];exact h.lR e' h1
 ·obtain⟨e',h1,_,h2⟩:=hm e he;rw[<-h2];exact h.lines e' h1
 ·have :=hs.length_le;have :=h.len;simp at *;omega
end
def U5 (v:Int) (l:List It):Option Nat->List It
 |none=>l
 |some k=>l.set k {lU l k with ft:=v}
theorem yK(v:Int):∀l:List It,(U5 v l (l.findIdx? cC)).map strip=Cx v (l.map strip)/\(U5 v l (l.findIdx? cC)).map ml=l.map ml
 |[]=>⟨rfl,rfl⟩
 |a::l=>by
  obtain⟨i1,i2⟩:=yK v l;rw[List.findIdx?_cons,aJ,Cx,l6];by_cases ha:cC a=true
  ·rw[if_pos ha,if_pos ha];exact⟨rfl,rfl⟩
  ·rw[if_neg ha,if_neg ha,<-i1];cases hf:l.findIdx? cC with
   |none=>exact⟨rfl,rfl⟩
   |some k=>
    rw[hf]at i2;exact⟨rfl,congrArg (ml a:: ·) i2⟩
theorem uk(q:Qu)(v:Int)(hv:0<=v):(fT q v).l.map strip=Cx v (q.l.map strip)/\(fT q v).next=q.next/\((fT q v).l.map ml)=q.l.map ml:=by
 obtain⟨h1,h2⟩:=yK v q.l;have e:fT q v=⟨U5 v q.l (q.l.findIdx? cC),q.next⟩:=by
  unfold fT oB;cases q.l.findIdx? cC with
  |none=>rfl
  |some k=>dsimp only;rw[if_neg ae];rfl
 rw[e];exact⟨h1,rfl,h2⟩
theorem yJ(q:Qu):gI q=(match (q.l.map strip).find? cC with|none=>lr|some e=>e.m)/\(hI q=match (q.l.map strip).find? cC with|none=>8|some _=>0):=by
 obtain⟨l,nx⟩:=q;unfold gI hI oB;dsimp only
 induction l with
 |nil=>exact⟨rfl,rfl⟩
 |cons a l ih=>
  by_cases ha:cC a=true
  ·rw[List.findIdx?_cons,aJ,List.find?_cons,l6,if_pos ha,ha];exact⟨rfl,rfl⟩
  ·obtain⟨i1,i2⟩:=ih;cases hf:l.findIdx? cC with
   |none=>
    rw[hf]at i1 i2;simp only[List.findIdx?_cons,ha,hf,Option.map_none,aJ,List.find?_cons,l6]at i1 i2 ⊢;exact⟨i1,i2⟩
   |some k=>
    rw[hf]at i1 i2;simp only[List.findIdx?_cons,ha,hf,Option.map_some,aJ,List.find?_cons,l6,lU,List.getD_cons_succ]at i1 i2 ⊢;exact⟨i1,i2⟩
theorem rA(q:Qu)(u:Int)(b:Bool)(hu:0<=u):(c8 q u b).l.map strip=Bu u b (q.l.map strip):=by
 unfold c8 Bu;rw[if_neg ae];dsimp only;rw[<-fl _ (fun _=>rfl),List.map_map,List.map_map];rfl
theorem uS.ends{n:Int}{q:Qu}(h:uS n q)(u:Int)(b:Bool):uS n (c8 q u b):=by
 unfold c8;split
 ·exact h
 ·refine h.part ?_;rw[List.map_map];exact(List.filter_sublist).map _
theorem uS.ft{n:Int}{q:Qu}(h:uS n q)(v:Int)(hv:0<=v):uS n (fT q v):=by
 obtain⟨_,h2,h3⟩:=uk q v hv;have :=h.part (l:=(fT q v).l) (by rw[h3];exact .refl _);rw[<-h2]at this;exact this
def FI (u:Int) (l:List It):List It:=l.filter fun e=> !decide (e.put=u)
theorem PX(u:Int)(t:It)(l:List It):FI u (MN t l)=if t.put=u then FI u l|>fun r=>r.filter (fun e=>decide (t.m.pri<=e.m.pri))++r.filter (fun e=> !decide (t.m.pri<=e.m.pri))else MN t (FI u l):=by
 unfold MN FI;rw[bU];have c:∀p:It->Bool,(l.filter p).filter (fun e=> !decide (e.put=u))=(l.filter fun e=> !decide (e.put=u)).filter p:=fun p=>by
  rw[bm,bm];exact List.filter_congr fun e _=>Bool.and_comm _ _
 by_cases h:t.put=u
 ·simp only[h,if_true,bT,decide_true,Bool.not_true,Bool.false_eq_true,if_false,c]
 ·simp only[h,if_false,bT,decide_false,Bool.not_false,if_true,c]
theorem Iu(u v:Int)(hu:0<=u):∀l:List It,FI u (Cx v l)=Cx v (FI u l)
 |[]=>rfl
 |e::l=>by
  have ih:=Iu u v hu l;unfold FI at *;by_cases ha:cC e=true
  ·have hp:¬e.put=u:=by unfold cC at ha;simp at ha;omega
   simp[Cx,ha,bT,hp]
  ·by_cases hp:e.put=u
   ·simp only[Cx,ha,bT,hp,decide_true,Bool.not_true,Bool.false_eq_true,if_false];exact ih
   ·simp only[Cx,ha,bT,hp,decide_false,Bool.not_false,Bool.false_eq_true,if_true,if_false];rw[ih]
theorem Mf(u:Int)(hu:0<=u)(l:List It):(FI u l).find? cC=l.find? cC:=by
 unfold FI;rw[List.find?_filter];congr 1;funext e;by_cases ha:cC e=true
 ·have hp:¬e.put=u:=by unfold cC at ha;simp at ha;omega
  simp[ha,hp]
 ·simp[ha]
theorem Mg(u v:Int)(b:Bool)(hu:0<=u)(hv:0<=v)(gh:v≠u)(l:List It):FI u (Bu v b l)=Bu v b (FI u l):=by
 unfold FI Bu;rw[List.filter_map,bm,bm];congr 1;refine List.filter_congr fun e _=>?_
 have :decide ((jo v e).put=u)=decide (e.put=u):=by
  refine decide_eq_decide.2 ?_;unfold jo;dsimp only;split<;>omega
 simp only[Function.comp,this,Bool.and_comm]
theorem JJ(u:Int)(hu:0<=u)(l:List It):(FI u l).filter cC=l.filter cC:=by
 unfold FI;rw[bm];refine List.filter_congr fun e _=>?_
 by_cases ha:cC e=true
 ·have hp:¬e.put=u:=by unfold cC at ha;simp at ha;omega
  simp[ha,hp]
 ·simp[ha]
theorem l4(q:Qu):dK q=((q.l.map strip).filter cC).map (·.m):=by
 unfold dK;rw[<-fl _ (fun _=>rfl),List.map_map];rfl
theorem yu(q:Qu):cT q=((q.l.map strip).filter fun e=>decide (e.put<0)).map (·.m):=by
 unfold cT;rw[<-fl _ (fun _=>rfl),List.map_map];rfl
structure o1 (u n:Int) (a b:Qu):Prop where
 ha:uS n a
 hb:uS n b
 rel:b.l.map strip=FI u (a.l.map strip)
 ft:∀e∈a.l,e.ft≠u
section
variable {u n:Int} {a b:Qu}
theorem o1.there(h:o1 u n a b)(hu:0<=u):dK a=dK b:=by
 rw[l4,l4,h.rel,JJ u hu]
theorem o1.le(h:o1 u n a b){k:Int}(hk:n<=k):o1 u k a b:=⟨h.ha.le hk,h.hb.le hk,h.rel,h.ft⟩
theorem uS.gY{q:Qu}(h:uS n q){m:Ms}(hm:m.id=n)(hr:bM m=true)(hl:q.l.length<20):ga q m=0:=by
 have hh:vM q m.id=false:=by
  unfold vM;rw[List.any_eq_false];intro e he;have :=h.ids e he;unfold IF;simp;omega
 unfold ga;rw[hr,hh];simp;omega
theorem o1.XB(h:o1 u n a b){m:Ms}(hm:m.id=n)(h0:0<=n)(hu:0<=u)(hp:0<=m.pri/\m.pri<=9)(hl:a.l.length<20):o1 u (n+1) (cP a m u) b:=by
 refine⟨h.ha.mC hm h0 hp hl u,h.hb.le ae,?_,fun e he=>?_⟩
 ·rw[Gc h.ha,PX,if_pos gV,h.rel,<-h.rel];dsimp only
  have hb:=(fZ (p:=fun e:It=>decide (m.pri<=e.m.pri)) (l:=b.l.map strip) (List.pairwise_map.2 (h.hb.ord.imp fun {x y} Ug hy=>by
   have h1:=Ug.pri;have h2:m.pri<=y.m.pri:=of_decide_eq_true hy;exact decide_eq_true (show m.pri<=x.m.pri by omega))))
  rw[<-hb.1,<-hb.2,List.takeWhile_append_dropWhile]
 ·rw[h.ha.push]at he;simp only[aH,aD,aB]at he;rcases he with⟨a,_⟩|rfl|⟨a,_⟩
  ·exact h.ft e a
  ·unfold cU;dsimp only;omega
  ·exact h.ft e a
theorem o1.iU(h:o1 u n a b)(hu:0<=u):gI a=gI b/\hI a=hI b:=by
 have ha:=yJ a;have hb:=yJ b;rw[h.rel,Mf u hu]at hb;exact⟨ha.1.trans hb.1.symm,ha.2.trans hb.2.symm⟩
theorem Q8(q:Qu)(v:Int)(hv:0<=v)(gh:v≠u)(h:∀e∈q.l,e.ft≠u):∀e∈(fT q v).l,e.ft≠u:=by
 unfold fT;split
 ·exact h
 ·next k _=>
  rw[if_neg ae];intro e he;rcases bj he with h1|rfl
  ·exact h e h1
  ·exact gh
theorem o1.get(h:o1 u n a b){v:Int}(hu:0<=u)(hv:0<=v)(gh:v≠u):o1 u n (fT a v) (fT b v):=
 ⟨h.ha.ft v hv,h.hb.ft v hv,by rw[(uk a v hv).1,(uk b v hv).1,h.rel,Iu u v hu],Q8 a v hv gh h.ft⟩
theorem o1.ends(h:o1 u n a b){v:Int}(back:Bool)(hu:0<=u)(hv:0<=v)(gh:v≠u):o1 u n (c8 a v back) (c8 b v back):=
 ⟨h.ha.ends v back,h.hb.ends v back,by rw[rA a v back hv,rA b v back hv,h.rel,Mg u v back hu hv gh],by
  unfold c8;rw[if_neg ae];intro e he;obtain⟨e',h1,rfl⟩:=ay.1 he;have :=h.ft e' (aB.1 h1).1;unfold jo;dsimp only
  split<;>omega⟩
theorem o1.last(h:o1 u n a b)(hu:0<=u):dK (c8 a u true)=dK b/\cT (c8 a u true)=cT b/\(c8 a u true).l.length=b.l.length:=by
 have e:(c8 a u true).l.map strip=b.l.map strip:=by
  rw[rA a u true hu,h.rel];unfold Bu FI;have h1:(a.l.map strip).filter (fun e=> !nq u true e)=(a.l.map strip).filter fun e=> !decide (e.put=u):=List.filter_congr fun e _=>by unfold nq;simp
  rw[h1];have h2:∀l:List It,(∀e∈l,e.ft≠u/\e.put≠u)->l.map (jo u)=l:=fun l hl=>by
   refine(List.map_congr_left fun e he=>?_).trans (List.map_id l);have :=hl e he;unfold jo;simp[this]
  refine h2 _ fun e he=>?_
  obtain⟨h3,h4⟩:=aB.1 he;obtain⟨e',h5,rfl⟩:=ay.1 h3;refine⟨h.ft e' h5,by simpa using h4⟩
 refine⟨by rw[l4,l4,e],by rw[yu,yu,e],?_⟩;have :=congrArg List.length e;simpa using this
end
structure Tk (l:List It) (g:List (Int×Go.Value)) (ls:List Int):Prop where
 ord:l.Pairwise Ord
 ids:∀e∈l,0<=e.m.id/\e.m.id<1000
 lR:∀e∈l,0<=e.m.pri/\e.m.pri<=9
 len:ls.length=10
 fresh:∀e∈l,cC e=true->en g e.m.id=none/\ls.getD e.m.pri.toNat 0<=e.m.id
theorem Tk.start{n:Int}{q:Qu}(h:uS n q)(hn:n<=1000):Tk q.l [] (List.replicate 10 0):=by
 refine⟨h.ord,fun e he=>by have :=h.ids e he;omega,h.lR,rfl,fun e he _=>⟨rfl,?_⟩⟩;have h1:=h.ids e he;have h2:=h.lR e he;rw[aq,List.getElem?_replicate,if_pos ae];simp;omega
open Go Go.RowKit
structure Ri where
 m:Ms
 put:Int
 ft:Int
instance:Inhabited Ri:=⟨⟨default,0,0⟩⟩
def riC (x:Ri):List Value:=[.int .i64 x.m.id,.int .i64 x.m.pri,.string x.m.body,.string x.m.queue,.int .i64 x.m.ck,.int .i64 x.put,.int .i64 x.ft]
def BX (id:Int) (e:Ri):Bool:=decide (e.m.id=id)
def xU (l:List Ri) (id:Int):Int:=np (BX id) l
def TD (u:Int):Int:=if u<0 then -1 else u
def DL (l:List Ri) (m:Ms) (u:Int):List Ri:=l++[⟨m,TD u,-1⟩]
def AF (l:List Ri) (m:Ms):Int:=if bM m=false then 1 else if 0<=xU l m.id then 9 else if 20<=l.length then 12 else 0
def Xt (l:List Ri) (m:Ms) (u:Int):List Ri:=if AF l m=0 then DL l m u else l
def BY (e:Ri):Bool:=decide (e.put<0)&&decide (e.ft<0)
def L1 (l:List Ri) (p:Nat):List Nat:=(List.range l.length).filter fun i=>decide ((l.getD i default).m.pri=(p:Int))
def AH (l:List Ri):Nat->List Nat
 |0=>[]
 |n+1=>L1 l n++AH l n
def L2 (l:List Ri):List Nat:=AH l 10
def tf (l:List Ri) (i:Nat):Ri:=l.getD i default
def xT (l:List Ri):Option Nat:=(L2 l).find? fun i=>BY (tf l i)
def Xu (l:List Ri) (u:Int):List Ri:=match xT l with|none=>l|some i=>if 0<=u then l.set i {tf l i with ft:=u}else l.eraseIdx i
def Ss (l:List Ri):Ms:=match xT l with|none=>lr|some i=>(tf l i).m
def Sv (l:List Ri):Int:=match xT l with|none=>8|some _=>0
def xQ (l:List Ri) (id:Int):Option Nat:=l.findIdx? (BX id)
def Sq (l:List Ri) (id:Int):List Ri:=match xQ l id with|none=>l|some i=>l.eraseIdx i
def LZ (l:List Ri) (id:Int):Ms:=match xQ l id with|none=>lr|some i=>(tf l i).m
def L0 (l:List Ri) (id:Int):Int:=match xQ l id with|none=>7|some _=>0
def Xv (u:Int) (back:Bool) (x:Ri):Bool:=(decide (x.put=u)&&back)||(decide (x.ft=u)&& !back)
def Sw (u:Int) (x:Ri):Ri:={x with put:=if x.put=u then -1 else x.put,ft:=if x.ft=u then -1 else x.ft}
def Sy (l:List Ri) (u:Int) (back:Bool):List Ri:=if u<0 then l else(l.filter fun e=> !Xv u back e).map (Sw u)
def LY (l:List Ri):List Ms:=((L2 l).filter fun i=>BY (tf l i)).map fun i=>(tf l i).m
def ad9 (l:List Ri):List Ms:=((L2 l).filter fun i=>decide ((tf l i).put<0)).map fun i=>(tf l i).m
theorem F_{l:List Ri}{k:Nat}{e:Ri}(h:l[k]? =some e):tf l k=e:=by simp[tf,aq,h]
def niC (i:Nat):List Value:=[.int .i64 (i:Nat)]
theorem Jy{l:List Ri}{p i:Nat}(h:i∈L1 l p):i<l.length/\(tf l i).m.pri=p:=by
 unfold L1 at h;obtain⟨h1,h2⟩:=aB.1 h;exact⟨aZ.1 h1,by simpa[tf]using h2⟩
theorem AG{l:List Ri}:∀{n i:Nat},i∈AH l n->i<l.length/\(tf l i).m.pri<n
 |0,_,h=>by simp[AH]at h
 |n+1,i,h=>by
  rcases aH.1 h with h|h
  ·have :=Jy h;omega
  ·have :=AG h;omega
theorem PD{l:List Ri}{k i:Nat}(h:(L2 l)[k]? =some i):i<l.length:=(AG (ax h)).1
def toRi (e:It):Ri:=⟨e.m,e.put,e.ft⟩
def ig (l:List Ri):Nat->List Ri
 |0=>[]
 |n+1=>l.filter (fun e=>decide (e.m.pri=(n:Int)))++ig l n
def arr (l:List Ri):List Ri:=ig l 10
theorem zR:∀l:List Ri,(List.range l.length).map (tf l)=l:=fun l=>by
 refine List.ext_getElem aj fun i h1 h2=>?_
 simp[tf,aq,h2]
theorem BG(l:List Ri):∀n,ig l n=(AH l n).map (tf l)
 |0=>rfl
 |n+1=>by
  rw[ig,AH,aN,BG l n];congr 1
  conv=>lhs;rw[<-zR l]
  rw[List.filter_map];rfl
theorem Fe(l:List Ri):arr l=(L2 l).map (tf l):=BG l 10
theorem F7(l:List Ri):LY l=((arr l).filter BY).map (·.m):=by
 rw[Fe,List.filter_map,List.map_map];rfl
theorem L4(l:List Ri):(arr l).find? BY=(xT l).map (tf l):=by
 rw[Fe,List.find?_map];rfl
theorem zh{l:List Ri}{e:Ri}:∀{n},e∈ig l n->e∈l/\e.m.pri<n
 |0,h=>by simp[ig]at h
 |n+1,h=>by
  rcases aH.1 h with h|h
  ·obtain⟨h1,h2⟩:=aB.1 h;simp at h2;exact⟨h1,by omega⟩
  ·have :=zh h;exact⟨this.1,by omega⟩
theorem Ff{f:Ri->Ri}(hf:∀e,(f e).m.pri=e.m.pri)(l:List Ri):∀n,ig (l.map f) n=(ig l n).map f
 |0=>rfl
 |n+1=>by
  rw[ig,ig,aN,Ff hf l n,List.filter_map];congr 2;exact List.filter_congr fun e _=>by simp[hf]
theorem vC(p:Ri->Bool)(l:List Ri):∀n,ig (l.filter p) n=(ig l n).filter p
 |0=>rfl
 |n+1=>by
  rw[ig,ig,bU,vC p l n,bm,bm];congr 1;exact List.filter_congr fun e _=>Bool.and_comm _ _
theorem I9{f:Ri->Ri}(hf:∀e,(f e).m.pri=e.m.pri)(l:List Ri):arr (l.map f)=(arr l).map f:=Ff hf l 10
theorem rJ(p:Ri->Bool)(l:List Ri):arr (l.filter p)=(arr l).filter p:=vC p l 10
theorem BI(l:List Ri)(h0:∀e∈l,0<=e.m.pri):∀n:Nat,(ig l n).Perm (l.filter fun e=>decide (e.m.pri<(n:Int)))
 |0=>by
  rw[ig,List.filter_eq_nil_iff.2 fun e he=>by have :=h0 e he;simp;omega]
 |n+1=>by
  rw[ig];have h1:=List.filter_append_perm (fun e:Ri=>decide (e.m.pri=(n:Int))) (l.filter fun e=>decide (e.m.pri<((n+1:Nat):Int)));rw[bm,bm]at h1;have e1:(l.filter fun e=>decide (e.m.pri=(n:Int))&&decide (e.m.pri<((n+1:Nat):Int)))=l.filter fun e=>decide (e.m.pri=(n:Int)):=List.filter_congr fun e _=>by
   rw[Bool.eq_iff_iff];simp;omega
  have e2:(l.filter fun e=>(!decide (e.m.pri=(n:Int)))&&decide (e.m.pri<((n+1:Nat):Int)))=l.filter fun e=>decide (e.m.pri<(n:Int)):=List.filter_congr fun e _=>by
   rw[Bool.eq_iff_iff];simp;omega
  rw[e1,e2]at h1;exact((BI l h0 n).append_left _).trans h1
theorem pN{l:List Ri}(h:∀e∈l,0<=e.m.pri/\e.m.pri<=9):(arr l).Perm l:=by
 have :=BI l (fun e he=>(h e he).1) 10;rw[bo.2 fun e he=>by have :=h e he;simp;omega]at this;exact this
theorem BH(l:List Ri)(x:Ri)(p:Nat)(hp:x.m.pri=p):∀n,ig (l++[x]) n=if n<=p then ig l n else(ig l n).filter (fun e=>decide (x.m.pri<=e.m.pri))++x::(ig l n).filter (fun e=> !decide (x.m.pri<=e.m.pri))
 |0=>by simp[ig]
 |n+1=>by
  rw[ig,ig,BH l x p hp n,bU];by_cases h1:n+1<=p
  ·rw[if_pos h1,if_pos ae];have :([x].filter fun e=>decide (e.m.pri=(n:Int)))=[]:=by simp;omega
   rw[this,List.append_nil]
  ·rw[if_neg h1];by_cases h2:n<=p
   ·have WK:n=p:=by omega
    subst WK;have e1:([x].filter fun e=>decide (e.m.pri=(n:Int)))=[x]:=by simp[hp]
    rw[if_pos h2,e1,bU,bU];have a1:((l.filter fun e=>decide (e.m.pri=(n:Int))).filter fun e=>decide (x.m.pri<=e.m.pri))=l.filter fun e=>decide (e.m.pri=(n:Int)):=bo.2 fun e he=>by have :=(aB.1 he).2;simp at this ⊢;omega
    have a2:((l.filter fun e=>decide (e.m.pri=(n:Int))).filter fun e=> !decide (x.m.pri<=e.m.pri))=[]:=List.filter_eq_nil_iff.2 fun e he=>by have :=(aB.1 he).2;simp at this ⊢;omega
    have a3:((ig l n).filter fun e=>decide (x.m.pri<=e.m.pri))=[]:=List.filter_eq_nil_iff.2 fun e he=>by have :=(zh he).2;simp;omega
    have a4:((ig l n).filter fun e=> !decide (x.m.pri<=e.m.pri))=ig l n:=bo.2 fun e he=>by have :=(zh he).2;simp;omega
    rw[a1,a2,a3,a4];simp
   ·have e1:([x].filter fun e=>decide (e.m.pri=(n:Int)))=[]:=by simp;omega
    rw[if_neg h2,e1,List.append_nil,bU,bU];have a1:((l.filter fun e=>decide (e.m.pri=(n:Int))).filter fun e=>decide (x.m.pri<=e.m.pri))=l.filter fun e=>decide (e.m.pri=(n:Int)):=bo.2 fun e he=>by have :=(aB.1 he).2;simp at this ⊢;omega
    have a2:((l.filter fun e=>decide (e.m.pri=(n:Int))).filter fun e=> !decide (x.m.pri<=e.m.pri))=[]:=List.filter_eq_nil_iff.2 fun e he=>by have :=(aB.1 he).2;simp at this ⊢;omega
    rw[a1,a2];simp
theorem N1(l:List Ri)(x:Ri)(h:0<=x.m.pri/\x.m.pri<=9):arr (l++[x])=(arr l).filter (fun e=>decide (x.m.pri<=e.m.pri))++x::(arr l).filter (fun e=> !decide (x.m.pri<=e.m.pri)):=by
 have :=BH l x x.m.pri.toNat ae 10;rw[if_neg ae]at this;exact this
section
variable {α:Type} {key:α->Int} {xs:List α}
theorem key_inj(h:(xs.map key).Nodup){i j:Nat}{a b:α}(ha:xs[i]? =some a)(hb:xs[j]? =some b)(hk:key a=key b):i=j:=by
 obtain⟨hi,rfl⟩:=au.1 ha;obtain⟨hj,rfl⟩:=au.1 hb;have hn:=List.pairwise_iff_getElem.1 h;rcases Nat.lt_trichotomy i j with dt|rfl|dt
 ·exact absurd (by rw[List.getElem_map,List.getElem_map];exact hk) (hn i j (by simpa using hi) ZZ dt)
 ·rfl
 ·exact absurd (by rw[List.getElem_map,List.getElem_map];exact hk.symm) (hn j i ZZ (by simpa using hi) dt)
theorem T8(h:(xs.map key).Nodup){a b:α}(ha:a∈xs)(hb:b∈xs)(hk:key a=key b):a=b:=by
 obtain⟨i,hi,rfl⟩:=List.getElem_of_mem ha;obtain⟨j,hj,rfl⟩:=List.getElem_of_mem hb;have :=key_inj h (ao hi) (ao hj) hk;subst this;rfl
theorem xJ(h:(xs.map key).Nodup)(f:α->α){k:Nat}{e:α}(he:xs[k]? =some e):xs.set k (f e)=xs.map fun x=>if key x=key e then f x else x:=by
 refine List.ext_getElem? fun j=>?_
 rw[List.getElem?_set,aG];have hk:=(au.1 he).1;by_cases hj:k=j
 ·subst hj;rw[if_pos rfl,if_pos hk,he];simp
 ·rw[if_neg hj];cases hx:xs[j]? with
  |none=>rfl
  |some a=>
   have :¬key a=key e:=fun hh=>hj (key_inj h he hx hh.symm)
   simp[this]
theorem kV(h:(xs.map key).Nodup){k:Nat}{e:α}(he:xs[k]? =some e):xs.eraseIdx k=xs.filter fun x=> !decide (key x=key e):=by
 induction xs generalizing k with
 |nil=>simp at he
 |cons a l ih=>
  rw[aJ,bJ]at h;cases k with
  |zero=>
   simp at he;subst he;rw[List.eraseIdx_zero,List.tail_cons,bT,if_neg aj];refine(bo.2 fun x hx=>?_).symm;have :¬key x=key a:=fun hh=>h.1 (hh▸List.mem_map_of_mem (f:=key) hx)
   simp[this]
  |succ k=>
   simp at he;rw[List.eraseIdx_cons_succ,ih h.2 he,bT,if_pos];have :¬key a=key e:=fun hh=>h.1 (hh▸List.mem_map_of_mem (f:=key) (ax he))
   simp[this]
end
def FG (x y:It):Prop:=y.m.pri<x.m.pri\/(x.m.pri=y.m.pri/\x.line<y.line)
structure eO (n:Int) (q:Qu) (l:List Ri):Prop where
 rel:q.l.map toRi=arr l
 ord:q.l.Pairwise FG
 lines:∀e∈q.l,0<=e.line/\e.line<q.next
 lR:∀e∈l,0<=e.m.pri/\e.m.pri<=9
 ids:(l.map (·.m.id)).Nodup
 len:(l.length:Nat)<=n
 next:0<=q.next/\q.next<=n
section
variable {n:Int} {q:Qu} {l:List Ri} {m:Ms} {u:Int}
theorem eO.MC(h:eO n q l):q.l.length=l.length:=by
 have :=congrArg List.length h.rel;rw[aW,(pN h.lR).length_eq]at this;exact this
theorem eO.mem(h:eO n q l){e:It}(he:e∈q.l):toRi e∈l:=by
 have :toRi e∈arr l:=by rw[<-h.rel];exact cO he
 exact(pN h.lR).mem_iff.1 this
theorem eO.TL(h:eO n q l):(q.l.map (·.m.id)).Nodup:=by
 have h1:(q.l.map (·.m.id))=(arr l).map (·.m.id):=by rw[<-h.rel,List.map_map];rfl
 rw[h1];exact(((pN h.lR).map _).nodup_iff).2 h.ids
theorem eO.abx(h:eO n q l){e:It}(he:e∈q.l):0<=e.m.pri/\e.m.pri<=9:=h.lR _ (h.mem he)
theorem eO.cmp(h:eO n q l)(m:Ms)(u:Int){e:It}(he:e∈q.l):fV e (cU q m u)<0↔m.pri<=e.m.pri:=by
 have :=h.lines e he;unfold fV y7 cU;dsimp only;split<;>omega
theorem eO.ok(h:eO n q l)(hn:n<100000):OI q:=by
 have hle:=h.MC;have zI:=h.len;refine⟨by omega,fun e he=>?_,⟨h.next.1,by have :=h.next;omega⟩,fun m u i j a b UD ha hb dt=>?_⟩
 ·have h1:=h.abx he;have h2:=h.lines e he;have h3:=h.next
  unfold kQ small;omega
 ·have ma:=ax ha;have mb:=ax hb;rw[h.cmp m u ma];rw[h.cmp m u mb]at dt;rcases Nat.lt_or_ge i j with sM|Da
  ·obtain⟨hi,rfl⟩:=au.1 ha;obtain⟨hj,rfl⟩:=au.1 hb;have :=List.pairwise_iff_getElem.1 h.ord i j hi hj sM;unfold FG at this;omega
  ·obtain rfl:i=j:=by omega
   rw[ha]at hb;cases hb;exact dt
theorem eO.push(h:eO n q l)(m:Ms)(u:Int):(cP q m u).l=q.l.filter (fun e=>decide (m.pri<=e.m.pri))++cU q m u::q.l.filter (fun e=> !decide (m.pri<=e.m.pri)):=by
 have hc:(q.l.takeWhile fun e=>decide (fV e (cU q m u)<0))=q.l.takeWhile fun e=>decide (m.pri<=e.m.pri):=by
  have :∀l:List It,(∀e∈l,e∈q.l)->(l.takeWhile fun e=>decide (fV e (cU q m u)<0))=l.takeWhile fun e=>decide (m.pri<=e.m.pri):=by
   intro l
   induction l with
   |nil=>intro _;rfl
   |cons a l ih=>
    intro hl;have e1:decide (fV a (cU q m u)<0)=decide (m.pri<=a.m.pri):=decide_eq_decide.2 (h.cmp m u (hl a aj));simp only[List.takeWhile_cons,e1,ih fun e he=>hl e (by simp[he])]
  exact this q.l fun _ h=>h
 obtain⟨t1,t2⟩:=i_ (fun e:It=>decide (m.pri<=e.m.pri)) q.l
 obtain⟨f1,f2⟩:=fZ (p:=fun e:It=>decide (m.pri<=e.m.pri)) (l:=q.l) (h.ord.imp fun {x y} Ug hy=>by
  unfold FG at Ug;simp at hy ⊢;omega)
 unfold cP po;dsimp only;rw[hc,t1,t2,f1,f2]
theorem eO.mC(h:eO n q l)(hp:0<=m.pri/\m.pri<=9)(hid:∀e∈l,e.m.id≠m.id)(u:Int):eO (n+1) (cP q m u) (DL l m u):=by
 have zI:∀e∈(cP q m u).l,e=cU q m u\/e∈q.l:=fun e he=>by
  rw[h.push]at he;simp only[aH,aD,aB]at he;rcases he with⟨a,_⟩|a|⟨a,_⟩
  ·exact .inr a
  ·exact .inl a
  ·exact .inr a
 have qN:(cP q m u).next=q.next+1:=rfl
 refine⟨?_,?_,fun e he=>?_,fun e he=>?_,?_,?_,by have :=h.next;rw[qN];omega⟩
 ·rw[h.push,aN,aJ];unfold DL;rw[N1 l _ hp,<-h.rel,List.filter_map,List.filter_map];have :toRi (cU q m u)=⟨m,TD u,-1⟩:=by
   unfold toRi cU TD;dsimp only;rw[show max u (-1)=if u<0 then -1 else u by split<;>omega]
  rw[this];rfl
 ·rw[h.push,List.pairwise_append,List.pairwise_cons];refine⟨h.ord.sublist List.filter_sublist,⟨fun e he=>?_,h.ord.sublist List.filter_sublist⟩,fun a ha b hb=>?_⟩
  ·obtain⟨h1,h2⟩:=aB.1 he;simp at h2;left;unfold cU;dsimp only;omega
  ·obtain⟨h1,h2⟩:=aB.1 ha;have i1:=h.lines a h1;simp at h2;rcases aD.1 hb with rfl|hb
   ·unfold FG cU;dsimp only;omega
   ·obtain⟨h3,h4⟩:=aB.1 hb;simp at h4;left;omega
 ·rw[qN];rcases zI e he with rfl|h1
  ·have :=h.next;unfold cU;dsimp only;omega
  ·have :=h.lines e h1;omega
 ·rcases aH.1 he with h1|h1
  ·exact h.lR e h1
  ·rw[List.mem_singleton]at h1;subst h1;exact hp
 ·unfold DL;rw[aN,List.nodup_append];refine⟨h.ids,by simp,fun a ha b hb=>?_⟩;obtain⟨e,he,rfl⟩:=ay.1 ha;simp at hb;subst hb;exact hid e he
 ·unfold DL;have :=h.len;simp;omega
theorem eO.part(h:eO n q l){ql:List It}{l':List Ri}(hs:(ql.map ml).Sublist (q.l.map ml))(hr:ql.map toRi=arr l')(Cf:(l'.map (·.m)).Sublist (l.map (·.m))):eO n ⟨ql,q.next⟩ l':=by
 have hm:∀e∈ql,∃e'∈q.l,e'.m=e.m/\e'.line=e.line:=fun e he=>by
  obtain⟨e',h1,h2⟩:=ay.1 (hs.subset (List.mem_map_of_mem (f:=ml) he));exact⟨e',h1,by simpa[ml]using h2⟩
 refine⟨hr,?_,fun e he=>?_,fun e he=>?_,?_,?_,h.next⟩
 ·have h1:(q.l.map ml).Pairwise fun x y=>y.1.pri<x.1.pri\/(x.1.pri=y.1.pri/\x.2<y.2):=List.pairwise_map.2 h.ord
  have h2:=h1.sublist hs;rw[List.pairwise_map]at h2;exact h2
 ·obtain⟨e',h1,_,h2⟩:=hm e he;rw[<-h2];exact h.lines e' h1
 ·obtain⟨e',h1,h2⟩:=ay.1 (Cf.subset (List.mem_map_of_mem (f:=(·.m)) he))
  have :=h.lR e' h1;rw[h2]at this;exact this
 ·have h1:=h.ids;have e1:∀l:List Ri,l.map (·.m.id)=(l.map (·.m)).map (·.id):=fun l=>by rw[List.map_map];rfl
  rw[e1]at h1 ⊢;exact h1.sublist (Cf.map _)
 ·have :=Cf.length_le;have :=h.len;simp at *;omega
theorem eO.le(h:eO n q l){k:Int}(hk:n<=k):eO k q l:=⟨h.rel,h.ord,h.lines,h.lR,h.ids,by have :=h.len;omega,by have :=h.next;omega⟩
theorem eO.find(h:eO n q l):(q.l.find? cC).map toRi=(xT l).map (tf l):=by
 rw[<-L4,<-h.rel,List.find?_map];rfl
theorem Nu{l:List It}{p:It->Bool}:l.find? p=(l.findIdx? p).map (lU l):=by
 cases hf:l.findIdx? p with
 |none=>rw[List.find?_eq_none.2 fun x hx=>by simpa using List.findIdx?_eq_none_iff.1 hf x hx];rfl
 |some k=>
  obtain⟨h1,h2,h3⟩:=List.findIdx?_eq_some_iff_getElem.1 hf;rw[Option.map_some,iE (ao h1)];exact List.find?_eq_some_iff_getElem.2 ⟨h2,k,h1,rfl,fun j hj=>by simpa using h3 j hj⟩
theorem eO.get(h:eO n q l)(u:Int):gI q=Ss l/\hI q=Sv l/\eO n (fT q u) (Xu l u):=by
 have hf:=h.find;rw[Nu]at hf;unfold gI hI fT Ss Sv Xu;change((oB q).map (lU q.l)).map toRi=_ at hf;cases hq:oB q with
 |none=>
  rw[hq]at hf;cases hr:xT l with
  |none=>exact⟨rfl,rfl,h⟩
  |some i=>rw[hr]at hf;simp at hf
 |some k=>
  rw[hq]at hf;cases hr:xT l with
  |none=>rw[hr]at hf;simp at hf
  |some i=>
   rw[hr]at hf;simp only[Option.map_some,az]at hf;obtain⟨hk,_,_⟩:=List.findIdx?_eq_some_iff_getElem.1 hq;have he:q.l[k]? =some (lU q.l k):=by rw[iE (ao hk)];exact ao hk
   have oG:i<l.length:=by
    obtain⟨j,hj,WO⟩:=List.getElem_of_mem (List.mem_of_find?_eq_some hr);exact PD (by rw[ao hj,WO])
   have hi:l[i]? =some (tf l i):=by rw[F_ (ao oG)];exact ao oG
   have vY:(lU q.l k).m=(tf l i).m:=by rw[<-hf];rfl
   refine⟨vY,rfl,?_⟩;dsimp only;by_cases hu:u<0
   ·rw[if_pos hu,if_neg ae];refine h.part ((List.eraseIdx_sublist _ _).map _) ?_ ((List.eraseIdx_sublist _ _).map _);rw[kV (key:=fun x:It=>x.m.id) h.TL he,kV (key:=fun x:Ri=>x.m.id) h.ids hi,rJ,<-h.rel,List.filter_map,<-vY];rfl
   ·rw[if_neg hu,if_pos ae];have e1:(q.l.set k {lU q.l k with ft:=u})=q.l.map fun x=>if x.m.id=(lU q.l k).m.id then {x with ft:=u}else x:=xJ (key:=fun x:It=>x.m.id) h.TL (fun x=>{x with ft:=u}) he
    have e2:(l.set i {tf l i with ft:=u})=l.map fun x=>if x.m.id=(tf l i).m.id then {x with ft:=u}else x:=xJ (key:=fun x:Ri=>x.m.id) h.ids (fun x=>{x with ft:=u}) hi
    refine h.part ?_ ?_ ?_
    ·rw[e1,List.map_map];have :(ml∘fun x:It=>if x.m.id=(lU q.l k).m.id then {x with ft:=u}else x)=ml:=by funext x;simp only[Function.comp];split<;>rfl
     rw[this];exact .refl _
    ·rw[e1,e2,I9 (fun e=>by split<;>rfl),<-h.rel,List.map_map,List.map_map,<-vY];congr 1;funext x;simp only[Function.comp];unfold toRi;split
     ·rfl
     ·rfl
    ·rw[e2,List.map_map];have :((fun x:Ri=>x.m)∘fun x:Ri=>if x.m.id=(tf l i).m.id then {x with ft:=u}else x)=fun x=>x.m:=by funext x;simp only[Function.comp];split<;>rfl
     rw[this];exact .refl _
theorem eO.has(h:eO n q l)(id:Int):vM q id=decide (0<=xU l id):=by
 have h1:xU l id=np (BX id) l:=rfl;rw[h1,pF,Bool.eq_iff_iff,List.any_eq_true];unfold vM;rw[List.any_eq_true];constructor
 ·rintro⟨e,he,hb⟩;exact⟨toRi e,h.mem he,hb⟩
 ·rintro⟨e,he,hb⟩;have :=(pN h.lR).mem_iff.2 he;rw[<-h.rel]at this;obtain⟨x,hx,rfl⟩:=ay.1 this;exact⟨x,hx,hb⟩
theorem eO.take(h:eO n q l)(id:Int):nZ q id=LZ l id/\jH q id=L0 l id/\eO n (eM q id) (Sq l id):=by
 unfold nZ jH eM LZ L0 Sq;cases hq:my q id with
 |none=>
  cases hr:xQ l id with
  |none=>exact⟨rfl,rfl,h⟩
  |some i=>
   obtain⟨hi,hb,_⟩:=List.findIdx?_eq_some_iff_getElem.1 hr;have :=(pN h.lR).mem_iff.2 (List.getElem_mem hi);rw[<-h.rel]at this;obtain⟨x,hx,Wy⟩:=ay.1 this;have h2:=List.findIdx?_eq_none_iff.1 hq x hx;rw[<-Wy]at hb;have :IF id x=true:=hb;rw[this]at h2;simp at h2
 |some k=>
  obtain⟨hk,hkb,_⟩:=List.findIdx?_eq_some_iff_getElem.1 hq;have he:q.l[k]? =some (lU q.l k):=by rw[iE (ao hk)];exact ao hk
  have Yj:(lU q.l k).m.id=id:=by rw[iE (ao hk)];simpa[IF]using hkb
  have fq:=h.mem (ax he);cases hr:xQ l id with
  |none=>
   have h2:=List.findIdx?_eq_none_iff.1 hr _ fq;have :BX id (toRi (lU q.l k))=true:=by unfold BX toRi;simp[Yj]
   rw[this]at h2;simp at h2
  |some i=>
   obtain⟨oG,hib,_⟩:=List.findIdx?_eq_some_iff_getElem.1 hr;have hi:l[i]? =some (tf l i):=by rw[F_ (ao oG)];exact ao oG
   have acA:(tf l i).m.id=id:=by rw[F_ (ao oG)];simpa[BX]using hib
   have hee:toRi (lU q.l k)=tf l i:=T8 (key:=fun x:Ri=>x.m.id) h.ids fq (ax hi) (by show(lU q.l k).m.id=_;rw[Yj,acA]);have vY:(lU q.l k).m=(tf l i).m:=by rw[<-hee];rfl
   refine⟨vY,rfl,?_⟩;dsimp only;refine h.part ((List.eraseIdx_sublist _ _).map _) ?_ ((List.eraseIdx_sublist _ _).map _);rw[kV (key:=fun x:It=>x.m.id) h.TL he,kV (key:=fun x:Ri=>x.m.id) h.ids hi,rJ,<-h.rel,List.filter_map,<-vY];rfl
theorem eO.ends(h:eO n q l)(u:Int)(back:Bool):eO n (c8 q u back) (Sy l u back):=by
 unfold c8 Sy;by_cases hu:u<0
 ·rw[if_pos hu,if_pos hu];exact h
 ·rw[if_neg hu,if_neg hu];refine h.part ?_ ?_ ?_
  ·rw[List.map_map];exact(List.filter_sublist).map _
  ·rw[I9 (f:=Sw u) (fun _=>rfl),rJ,<-h.rel,List.filter_map,List.map_map,List.map_map];rfl
  ·rw[List.map_map];exact(List.filter_sublist).map _
theorem eO.there(h:eO n q l):dK q=LY l:=by
 rw[F7,<-h.rel,List.filter_map,List.map_map];rfl
theorem eO.gY(h:eO n q l)(m:Ms):ga q m=AF l m:=by
 unfold ga AF;rw[h.has,h.MC];by_cases h2:0<=xU l m.id<;>simp[h2]
theorem eO.fresh(h:eO n q l){id:Int}(hf:¬0<=xU l id):∀e∈l,e.m.id≠id:=fun e he hh=>by
 have h1:xU l id=np (BX id) l:=rfl;have :l.any (BX id)=true:=List.any_eq_true.2 ⟨e,he,by simp[BX,hh]⟩;rw[<-pF,<-h1]at this;exact hf (by simpa using this)
theorem eO.put(h:eO n q l)(m:Ms)(u:Int):eO (n+1) (mA q m u) (Xt l m u):=by
 unfold mA Xt;rw[h.gY];by_cases h0:AF l m=0
 ·rw[if_pos h0,if_pos h0];have hr:bM m=true:=by
   cases hm:bM m with
   |true=>rfl
   |false=>unfold AF at h0;rw[hm]at h0;simp at h0
  have hf:¬0<=xU l m.id:=fun hh=>by unfold AF at h0;rw[hr]at h0;simp[hh]at h0
  obtain⟨_,_,h3,h4,_⟩:=bN hr;exact h.mC ⟨h3,h4⟩ (h.fresh hf) u
 ·rw[if_neg h0,if_neg h0];exact h.le ae
end
theorem KO.Zf{P:Program}{ops:Array Oper}{d:Bool}{Q:Exit->Act->World->Prop}{n:Nat}{D:List Deferred}{w0:World}{G:Env}{L:List HP}{l:List (Kd×Oper)}{k:Kd}{t:Nat}{ty T T' E:TypeId}{pos:String}{af:Array Edge}{x:Operand}{a:Option Addr}{len cap:Nat}(hx:ev G x=some (.slice a len cap))(hT:P.underlying T=some (.slice E))(ht:Nat.blt t n=true)(h:KO P ops d Q n D w0 ((t,.bool a.isNone)::G) L l):
  KO P ops d Q n D w0 G L ((k,⟨some t,.binOp .eql T x (.const (.slice none 0 0)) T',ty,pos,af,none⟩)::l):=
 KO.val (fun a' w ha=>by
  simp only[execOp,ha.eval hx,show a'.eval (.const (.slice none 0 0))=.slice none 0 0 from rfl]
  simp[go_sem,Lib.run_eql_slice_nil w T E a len cap 0 0 hT]) ht h
open Go
theorem List.gE{α:Type}{l:List α}{i:Nat}{x:α}(h:l[i]? =some x):l.set i x=l:=by
 obtain⟨hi,rfl⟩:=au.1 h;exact List.set_getElem_self hi
def qh (l:List Nm) (s:ak):Int:=if eN l s (bK l s)=true then 0 else 7
def jt (l:List Nm) (s:ak):List Nm:=if eN l s (bK l s)=true then l.eraseIdx (bK l s)else l
theorem G4(l:List Nm)(s:ak):(jt l s).length<=l.length:=by
 unfold jt;split
 ·rw[List.length_eraseIdx];split<;>omega
 ·exact aF _
def aft (l:List Nm) (s:ak):Nm:=(lk l s).getD ⟨⟨#[]⟩,⟨#[]⟩,0⟩
def Gk (l:List Nm) (x:Nm):Int:=if cc x=false then 1 else if lk l x.name=none/\20<=l.length then 12 else 0
def aar (l:List Nm) (s:ak):Bool:=match lk l s with|some x=>decide (x.jz=⟨#[]⟩)|none=>false
def T3 (l:List Nm) (s:ak):Option Nat:=l.findIdx? fun x=>decide (x.name=s)
def aas (l:List Nm) (s:ak):Int:=match T3 l s with|some _=>0|none=>7
def tQ (l:List Nm) (s:ak):List Nm:=match T3 l s with|some k=>l.eraseIdx k|none=>l
def SB (l:List Nm) (x:Nm):List Nm:=if Gk l x=0 then tQ l x.name++[x]else l
theorem ux(s:ak):ie s=decide (s=⟨#[]⟩):=by
 unfold ie;rw[Bool.eq_iff_iff,decide_eq_true_eq,List.isEmpty_iff,ByteArray.toList_eq];constructor
 ·intro h;apply ByteArray.ext;apply Array.ext';simpa using h
 ·rintro rfl;rfl
theorem T2{l:List Nm}{s:ak}{k:Nat}{y:Nm}(hy:l[k]? =some y)(h:y.name=s)(fg:∀(j:Nat) z,j<k->l[j]? =some z->z.name≠s):T3 l s=some k:=by
 unfold T3;obtain⟨hk,rfl⟩:=au.1 hy;rw[List.findIdx?_eq_some_iff_getElem];refine⟨hk,by simpa using h,fun j hj=>?_⟩;have :=fg j l[j] hj (ao _);simp[this]
instance aaT (s:ak) (l:List ak):Decidable (s∈l):=decidable_of_iff ((l.any fun u=>decide (u=s))=true) aj
def abr (l:List Nm):Nat->List ak->ak->ak×Int×Int
 |0,_,_=>(⟨#[]⟩,0,11)
 |n+1,seen,s=>if s∈seen then(⟨#[]⟩,0,11)else match lk l s with
  |none=>(⟨#[]⟩,0,7)
  |some x=>if x.jz=⟨#[]⟩then(s,-1,0)else if 0<=x.ck then(x.jz,x.ck,0)else abr l n (s::seen) x.jz
structure l0 (l rl:List Nm):Prop where
 sorted:dH l
 perm:rl.Perm l
theorem l0.nil:l0 [] []:=⟨xH,.refl _⟩
theorem yR{l:List Nm}(h:(l.map Nm.name).Nodup){x:Nm}(hx:x∈l):lk l x.name=some x:=by
 induction l with
 |nil=>cases hx
 |cons a l ih=>
  rw[aJ,bJ]at h;rw[er];rcases aD.1 hx with rfl|hx
  ·rw[if_pos rfl]
  ·rw[if_neg (fun e:a.name=x.name=>h.1 (e▸List.mem_map_of_mem (f:=Nm.name) hx))];exact ih h.2 hx
theorem IC{l m:List Nm}(hp:m.Perm l)(hn:(l.map Nm.name).Nodup)(s:ak):lk m s=lk l s:=by
 have zG:(m.map Nm.name).Nodup:=(hp.map Nm.name).nodup_iff.2 hn;cases h:lk l s with
 |some x=>
  obtain⟨h1,rfl⟩:=p_ h;exact yR zG (hp.mem_iff.2 h1)
 |none=>
  cases h2:lk m s with
  |none=>rfl
  |some x=>
   obtain⟨h1,rfl⟩:=p_ h2;rw[yR hn (hp.mem_iff.1 h1)]at h;cases h
theorem l0.nodup{l rl:List Nm}(h:l0 l rl):(l.map Nm.name).Nodup:=nP h.sorted
theorem l0.F8{l rl:List Nm}(h:l0 l rl):(rl.map Nm.name).Nodup:=(h.perm.map Nm.name).nodup_iff.2 h.nodup
theorem l0.lk{l rl:List Nm}(h:l0 l rl)(s:ak):lk rl s=look l s:=by rw[IC h.perm h.nodup,me h.sorted]
theorem l0.len{l rl:List Nm}(h:l0 l rl):rl.length=l.length:=h.perm.length_eq
theorem yj(l:List Nm)(s:ak):look l s=none↔eN l s (bK l s)=false:=by
 unfold look;cases eN l s (bK l s)<;>simp
theorem l0.may{l rl:List Nm}(h:l0 l rl)(x:Nm):Gk rl x=cG l x:=by
 unfold Gk cG;rw[h.lk,h.len];cases h1:cc x with
 |false=>simp
 |true=>
  simp only[Bool.true_eq_false,if_false];cases h2:eN l x.name (bK l x.name)with
  |false=>simp[(yj l x.name).2 h2]
  |true=>rw[if_neg (fun e=>by rw[(yj l x.name).1 e.1]at h2;cases h2)];simp
theorem mF{l:List Nm}(hn:(l.map Nm.name).Nodup)(s:ak):tQ l s=l.filter fun x=> !decide (x.name=s):=by
 induction l with
 |nil=>rfl
 |cons a l ih=>
  rw[aJ,bJ]at hn;unfold tQ T3;rw[List.findIdx?_cons];by_cases e:a.name=s
  ·subst e;simp only[decide_true,if_true,List.eraseIdx_cons_zero,bT,Bool.not_true,Bool.false_eq_true,if_false];symm;rw[bo];intro x hx;have :x.name≠a.name:=fun e=>hn.1 (e▸List.mem_map_of_mem (f:=Nm.name) hx)
   simp[this]
  ·have :=ih hn.2;unfold tQ T3 at this;simp only[e,decide_false,Bool.false_eq_true,if_false,bT,Bool.not_false,if_true];rw[<-this];cases h:List.findIdx? (fun x:Nm=>decide (x.name=s)) l<;>simp
theorem z_{l:List Nm}(h:dH l)(s:ak):jt l s=l.filter fun x=> !decide (x.name=s):=by
 unfold jt;cases hh:eN l s (bK l s)with
 |false=>
  simp only[Bool.false_eq_true,if_false];symm;rw[bo];intro x hx;have h1:=(yj l s).2 hh;rw[me h]at h1;unfold WB.lk at h1;have :=List.find?_eq_none.1 h1 x hx;simpa using this
 |true=>
  simp only[if_true];have dt:=ub hh;have he:gy (dW l (bK l s)).name s=0:=by unfold eN at hh;rw[a_]at hh;simpa using hh.2
  have hn:=qj he;rw[<-mF (nP h) s];unfold tQ;have hi:T3 l s=some (bK l s):=by
   refine T2 (y:=dW l (bK l s)) (by simp[dW,aq,dt]) hn fun j z hj hz hzn=>?_
   obtain⟨SM,rfl⟩:=au.1 hz;have :=List.pairwise_iff_getElem.1 h j (bK l s) SM dt hj;rw[hzn]at this;have e2:l[bK l s]=dW l (bK l s):=by simp[dW,aq,dt]
   rw[e2,hn,ln]at this;omega
  rw[hi]
theorem l0.drop{l rl:List Nm}(h:l0 l rl)(s:ak):l0 (jt l s) (tQ rl s):=by
 rw[z_ h.sorted,mF h.F8];exact⟨List.Pairwise.sublist List.filter_sublist h.sorted,h.perm.filter _⟩
theorem J5(x:Nm):∀{l:List Nm},dH l->(l.filter (fun y=> !decide (y.name=x.name))++[x]).Perm (oQ x l):=by
 intro l h;have h1:(oQ x l).filter (fun y=> !decide (y.name=x.name))=l.filter (fun y=> !decide (y.name=x.name)):=by
  refine q2 (List.Pairwise.sublist List.filter_sublist (mf h)) (List.Pairwise.sublist List.filter_sublist h) fun s=>?_
  have key:∀m:List Nm,WB.lk (m.filter fun y=> !decide (y.name=x.name)) s=if s=x.name then none else WB.lk m s:=fun m=>by
   induction m with
   |nil=>by_cases e:s=x.name<;>simp[WB.lk]
   |cons a m ih=>
    rw[bT];by_cases e:a.name=x.name
    ·simp only[e,decide_true,Bool.not_true,Bool.false_eq_true,if_false];rw[ih,er];by_cases e2:s=x.name
     ·simp[e2]
     ·rw[if_neg e2,if_neg e2,if_neg (fun e3=>e2 (e3.symm.trans e))]
    ·simp only[e,decide_false,Bool.not_false,if_true];rw[er,er,ih];by_cases e2:s=x.name
     ·subst e2;simp[e]
     ·simp[e2]
  rw[key,key,B7];by_cases e:s=x.name
  ·simp[e]
  ·rw[if_neg e,if_neg e,if_neg (fun e2=>e e2.symm)]
 have hx:x∈oQ x l:=(p_ (show WB.lk (oQ x l) x.name=some x by rw[B7,if_pos rfl])).1;have sK:=nP (mf (x:=x) h);rw[<-h1];generalize oQ x l=m at *;clear h1
 induction m with
 |nil=>cases hx
 |cons a m ih=>
  rw[aJ,bJ]at sK;rw[bT];by_cases e:a.name=x.name
  ·have hax:a=x:=by
    rcases aD.1 hx with rfl|hx
    ·rfl
    ·exact absurd (e▸List.mem_map_of_mem (f:=Nm.name) hx) sK.1
   subst hax;simp only[decide_true,Bool.not_true,Bool.false_eq_true,if_false];rw[bo.2]
   ·exact List.perm_append_comm
   ·intro y hy;have :y.name≠a.name:=fun e=>sK.1 (e▸List.mem_map_of_mem (f:=Nm.name) hy)
    simp[this]
  ·simp only[e,decide_false,Bool.not_false,if_true,bz];rcases aD.1 hx with rfl|hx
   ·exact absurd rfl e
   ·exact(ih hx sK.2).cons a
theorem l0.set{l rl:List Nm}(h:l0 l rl)(x:Nm):l0 (ew l x) (SB rl x):=by
 unfold SB;rw[h.may];by_cases h0:cG l x=0
 ·rw[if_pos h0];have hr:cc x=true:=by
   cases hr:cc x with
   |true=>rfl
   |false=>unfold cG at h0;rw[if_pos hr]at h0;cases h0
  have e1:ew l x=oQ x l:=by
   rw[<-DS];unfold cG at h0;unfold ew;rw[if_neg (by simp[hr])]at h0 ⊢;by_cases h2:eN l x.name (bK l x.name)=true
   ·rw[if_pos h2,if_pos h2]
   ·rw[if_neg h2]at h0 ⊢;rw[if_neg h2];by_cases h3:20<=l.length
    ·rw[if_pos h3]at h0;cases h0
    ·rw[if_neg h3]
  rw[e1];refine⟨mf h.sorted,?_⟩;rw[mF h.F8];exact((h.perm.filter _).append_right _).trans (J5 x h.sorted)
 ·rw[if_neg h0];have e1:ew l x=l:=by
   unfold cG at h0;unfold ew;by_cases hr:cc x=false
   ·rw[if_pos hr]
   ·rw[if_neg hr]at h0 ⊢;by_cases h2:eN l x.name (bK l x.name)=true
    ·rw[if_pos h2]at h0;exact absurd rfl h0
    ·rw[if_neg h2]at h0 ⊢;by_cases h3:20<=l.length
     ·rw[if_pos h3]
     ·rw[if_neg h3]at h0;exact absurd rfl h0
  rw[e1];exact h
theorem l0.all{l rl ys:List Nm}(h:l0 l rl)(hp:ys.Perm rl)(hs:ys.Pairwise fun a b=>decide (gy b.name a.name<0)=false):ys=l:=by
 have hn:(ys.map Nm.name).Nodup:=(hp.map Nm.name).nodup_iff.2 h.F8;have oR:dH ys:=by
  unfold dH;have zG:ys.Pairwise fun a b=>a.name≠b.name:=by
   have :=List.nodup_iff_pairwise_ne.1 hn
   rwa [List.pairwise_map]at this
  refine(hs.and zG).imp fun {a b} vu=>?_
  obtain⟨h1,h2⟩:=vu;have h3:¬gy b.name a.name<0:=by simpa using h1
  have h4:gy a.name b.name≠0:=fun e=>h2 (qj e)
  have :=qk a.name b.name;omega
 exact q2 oR h.sorted fun s=>by rw[IC (hp.trans h.perm) h.nodup]
deriving instance DecidableEq for Nm
structure QB (n:Nat) (q:Qu):Prop where
 ord:q.l.Pairwise FG
 lines:∀e∈q.l,0<=e.line/\e.line<q.next
 lR:∀e∈q.l,0<=e.m.pri/\e.m.pri<=9
 len:q.l.length<=n
 next:0<=q.next/\q.next<=n
 ids:∀e∈q.l,0<=e.m.id/\e.m.id<=1099511627776
section
variable {n:Nat} {q:Qu} {m:Ms} {u:Int}
theorem QB.nil:QB n ⟨[],0⟩:=⟨.nil,(fun _ h=>by cases h),(fun _ h=>by cases h),by simp,gV,(fun _ h=>by cases h)⟩
theorem QB.le(h:QB n q){k:Nat}(hk:n<=k):QB k q:=⟨h.ord,h.lines,h.lR,Nat.le_trans h.len hk,(by have :=h.next;omega),h.ids⟩
theorem QB.cmp(h:QB n q)(m:Ms)(u:Int){e:It}(he:e∈q.l):fV e (cU q m u)<0↔m.pri<=e.m.pri:=by
 have :=h.lines e he;unfold fV y7 cU;dsimp only;split<;>omega
theorem QB.ok(h:QB n q)(hn:n<100000):OI q:=by
 have zI:=h.len;refine⟨by omega,fun e he=>?_,⟨h.next.1,by have :=h.next;omega⟩,fun m u i j a b UD ha hb dt=>?_⟩
 ·have h1:=h.lR e he;have h2:=h.lines e he;have h3:=h.next
  unfold kQ small;omega
 ·have ma:=ax ha;have mb:=ax hb;rw[h.cmp m u ma];rw[h.cmp m u mb]at dt;rcases Nat.lt_or_ge i j with sM|Da
  ·obtain⟨hi,rfl⟩:=au.1 ha;obtain⟨hj,rfl⟩:=au.1 hb;have :=List.pairwise_iff_getElem.1 h.ord i j hi hj sM;unfold FG at this;omega
  ·obtain rfl:i=j:=by omega
   rw[ha]at hb;cases hb;exact dt
theorem QB.push(h:QB n q)(m:Ms)(u:Int):(cP q m u).l=q.l.filter (fun e=>decide (m.pri<=e.m.pri))++cU q m u::q.l.filter (fun e=> !decide (m.pri<=e.m.pri)):=by
 have hc:(q.l.takeWhile fun e=>decide (fV e (cU q m u)<0))=q.l.takeWhile fun e=>decide (m.pri<=e.m.pri):=by
  have :∀l:List It,(∀e∈l,e∈q.l)->(l.takeWhile fun e=>decide (fV e (cU q m u)<0))=l.takeWhile fun e=>decide (m.pri<=e.m.pri):=by
   intro l
   induction l with
   |nil=>intro _;rfl
   |cons a l ih=>
    intro hl;have e1:decide (fV a (cU q m u)<0)=decide (m.pri<=a.m.pri):=decide_eq_decide.2 (h.cmp m u (hl a aj));simp only[List.takeWhile_cons,e1,ih fun e he=>hl e (by simp[he])]
  exact this q.l fun _ h=>h
 obtain⟨t1,t2⟩:=i_ (fun e:It=>decide (m.pri<=e.m.pri)) q.l
 obtain⟨f1,f2⟩:=fZ (p:=fun e:It=>decide (m.pri<=e.m.pri)) (l:=q.l) (h.ord.imp fun {x y} Ug hy=>by
  unfold FG at Ug;simp at hy ⊢;omega)
 unfold cP po;dsimp only;rw[hc,t1,t2,f1,f2]
theorem QB.mC(h:QB n q)(hp:0<=m.pri/\m.pri<=9)(hi:0<=m.id/\m.id<=1099511627776)(u:Int):QB (n+1) (cP q m u):=by
 have zI:∀e∈(cP q m u).l,e=cU q m u\/e∈q.l:=fun e he=>by
  rw[h.push]at he;simp only[aH,aD,aB]at he;rcases he with⟨a,_⟩|a|⟨a,_⟩
  ·exact .inr a
  ·exact .inl a
  ·exact .inr a
 have qN:(cP q m u).next=q.next+1:=rfl
 refine⟨?_,fun e he=>?_,fun e he=>?_,?_,(by have :=h.next;rw[qN];omega),fun e he=>?_⟩
 ·rw[h.push,List.pairwise_append,List.pairwise_cons];refine⟨h.ord.sublist List.filter_sublist,⟨fun e he=>?_,h.ord.sublist List.filter_sublist⟩,fun a ha b hb=>?_⟩
  ·obtain⟨h1,h2⟩:=aB.1 he;simp at h2;left;unfold cU;dsimp only;omega
  ·obtain⟨h1,h2⟩:=aB.1 ha;have i1:=h.lines a h1;simp at h2;rcases aD.1 hb with rfl|hb
   ·unfold FG cU;dsimp only;omega
   ·obtain⟨h3,h4⟩:=aB.1 hb;simp at h4;left;omega
 ·rw[qN];rcases zI e he with rfl|h1
  ·have :=h.next;unfold cU;dsimp only;omega
  ·have :=h.lines e h1;omega
 ·rcases zI e he with rfl|h1
  ·exact hp
  ·exact h.lR e h1
 ·have :=h.len;unfold cP;dsimp only;have h2:=Az q.l (cU q m u);simp;omega
 ·rcases zI e he with rfl|h1
  ·exact hi
  ·exact h.ids e h1
theorem QB.part(h:QB n q){ql:List It}(hs:(ql.map ml).Sublist (q.l.map ml)):QB n ⟨ql,q.next⟩:=by
 have hm:∀e∈ql,∃e'∈q.l,e'.m=e.m/\e'.line=e.line:=fun e he=>by
  obtain⟨e',h1,h2⟩:=ay.1 (hs.subset (List.mem_map_of_mem (f:=ml) he));exact⟨e',h1,by simpa[ml]using h2⟩
 refine⟨?_,fun e he=>?_,fun e he=>?_,?_,h.next,fun e he=>?_⟩
 ·have h1:(q.l.map ml).Pairwise fun x y=>y.1.pri<x.1.pri\/(x.1.pri=y.1.pri/\x.2<y.2):=List.pairwise_map.2 h.ord
  have h2:=h1.sublist hs;rw[List.pairwise_map]at h2;exact h2
 ·obtain⟨e',h1,_,h2⟩:=hm e he;rw[<-h2];exact h.lines e' h1
 ·obtain⟨e',h1,h2,_⟩:=hm e he;rw[<-h2];exact h.lR e' h1
 ·have :=hs.length_le;have :=h.len;simp at *;omega
 ·obtain⟨e',h1,h2,_⟩:=hm e he;rw[<-h2];exact h.ids e' h1
theorem QB.take(h:QB n q)(id:Int):QB n (eM q id):=by
 unfold eM;split
 ·exact h
 ·exact h.part ((List.eraseIdx_sublist _ _).map _)
theorem Tz{l:List It}{k:Nat}{x:It}(h:∀e,l[k]? =some e->ml x=ml e):(l.set k x).map ml=l.map ml:=by
 apply List.ext_getElem?;intro j;rw[aG,aG,List.getElem?_set];by_cases e:k=j
 ·subst e;rw[if_pos rfl];by_cases hk:k<l.length
  ·rw[if_pos hk,Option.map_some,ao hk,Option.map_some,h _ (ao hk)]
  ·rw[if_neg hk,bH ae]
 ·rw[if_neg e]
theorem QB.get(h:QB n q)(u:Int):QB n (fT q u):=by
 unfold fT;split
 ·exact h
 ·split
  ·exact h.part ((List.eraseIdx_sublist _ _).map _)
  ·refine h.part ?_;rw[Tz fun e he=>by rw[iE he];rfl];exact .refl _
theorem QB.ends(h:QB n q)(u:Int)(b:Bool):QB n (c8 q u b):=by
 unfold c8;split
 ·exact h
 ·refine h.part ?_;rw[List.map_map,show ml∘jo u=ml from rfl];exact List.filter_sublist.map _
theorem QB.put(h:QB n q)(m:Ms)(u:Int):QB (n+1) (mA q m u):=by
 unfold mA;split
 ·rename_i h0;unfold ga at h0;cases hr:bM m with
  |false=>rw[if_pos hr]at h0;cases h0
  |true=>
   have h1:=bN hr;exact h.mC ⟨h1.2.2.1,h1.2.2.2.1⟩ ⟨h1.1,h1.2.1⟩ u
 ·exact h.le (Nat.le_succ n)
end
def Tl (a c:Int):Int:=IntKind.u64.wrap ((BitVec.ofInt 64 a^^^BitVec.ofInt 64 c).toNat:Nat)
def TS (a c:Int):Int:=IntKind.u64.wrap (a *c)
theorem wrap_u64(n:Int):0<=IntKind.u64.wrap n/\IntKind.u64.wrap n<=18446744073709551615:=by
 have e:IntKind.u64.wrap n=n%18446744073709551616:=by simp[IntKind.wrap,IntKind.bits,IntKind.signed]
 rw[e];omega
section
variable {P:Program} {ops:Array Oper} {d:Bool} {Q:Exit->Act->World->Prop} {n:Nat} {D:List Deferred} {w0:World} {G:Env} {L R:List HP} {l:List (Kd×Oper)} {k:Kd}
 {t:Nat} {op:Op} {ty T T' E:TypeId} {pos:String} {af:Array Edge} {x y z:Operand} {a c r:Int} {kk yk:IntKind}
theorem KO.abg(hx:ev G x=some (.int .u64 a))(hy:ev G y=some (.int .u64 c))(ht:Nat.blt t n=true)(h:KO P ops d Q n D w0 ((t,.int .u64 (Tl a c))::G) L l):
 KO P ops d Q n D w0 G L ((k,⟨some t,.binOp .xor T x y T',ty,pos,af,none⟩)::l):=
 KO.val (fun a' w ha=>by simp[execOp,ha.eval hx,ha.eval hy,eqGuard_at_int,binOp_xor,Op.intBits,Tl];rfl) ht h
theorem KO.abD(hx:ev G x=some (.int .u64 a))(hy:ev G y=some (.int .u64 c))(ht:Nat.blt t n=true)(h:KO P ops d Q n D w0 ((t,.int .u64 (TS a c))::G) L l):
 KO P ops d Q n D w0 G L ((k,⟨some t,.binOp .mul T x y T',ty,pos,af,none⟩)::l):=
 KO.val (fun a' w ha=>by simp[execOp,ha.eval hx,ha.eval hy,eqGuard_at_int,binOp_mul,Op.intArith,TS]) ht h
theorem KO.yX{ad:Addr}(hx:ev G x=some (.pointer (some ad)))(hT:P.underlying T=some (.pointer E))(ht:Nat.blt t n=true)(h:KO P ops d Q n D w0 ((t,.bool false)::G) L l):
 KO P ops d Q n D w0 G L ((k,⟨some t,.binOp .eql T x (.const (.pointer none)) T',ty,pos,af,none⟩)::l):=
 KO.val (fun a w ha=>by
  simp only[execOp,ha.eval hx,show a.eval (.const (.pointer none))=.pointer none from rfl]
  simp[go_sem,hT]) ht h
theorem KO.Rk(hx:ev G x=some (.pointer none))(hT:P.underlying T=some (.pointer E))(ht:Nat.blt t n=true)(h:KO P ops d Q n D w0 ((t,.bool true)::G) L l):
 KO P ops d Q n D w0 G L ((k,⟨some t,.binOp .eql T x (.const (.pointer none)) T',ty,pos,af,none⟩)::l):=
 KO.val (fun a w ha=>by
  simp only[execOp,ha.eval hx,show a.eval (.const (.pointer none))=.pointer none from rfl]
  simp[go_sem,hT]) ht h
theorem KO.abn(hx:ev G x=some (.int .u64 a))(hy:ev G y=some (.int yk 3))(ht:Nat.blt t n=true)(h:KO P ops d Q n D w0 ((t,.int .u64 (a/8))::G) L l):
 KO P ops d Q n D w0 G L ((k,⟨some t,.binOp .shr T x y T',ty,pos,af,none⟩)::l):=
 KO.val (fun a' w ha=>by simp[execOp,ha.eval hx,ha.eval hy,eqGuard_at_int,binOp_shr,shift_shr_u64]) ht h
theorem KO.b2u(hx:ev G x=some (.int .u8 a))(hs:(P.underlying T).isSome=true)(hd:P.underlying T'=some (.int .u64))(h0:0<=a/\a<=18446744073709551615)(ht:Nat.blt t n=true)(h:KO P ops d Q n D w0 ((t,.int .u64 a)::G) L l):
 KO P ops d Q n D w0 G L ((k,⟨some t,.convert T T' x,ty,pos,af,none⟩)::l):=
 KO.val (fun a' w ha=>by
  have :=run_convert_int (P:=P) w T T' .u8 a hs Y25;simp[Program.intKind,hd,Sh h0.1 h0.2]at this
  simp[execOp,ha.eval hx,this]) ht h
theorem KO.min2{ts:Array TypeId}(hx:ev G x=some (.int .i64 a))(hy:ev G y=some (.int .i64 c))(hr:min a c=r)(ht:Nat.blt t n=true)(h:KO P ops d Q n D w0 ((t,.int .i64 r)::G) L l):
 KO P ops d Q n D w0 G L ((k,⟨some t,.call ⟨.builtin .min,#[x,y],ts⟩,ty,pos,af,none⟩)::l):=
 KO.val (fun a' w ha=>by
  subst hr;simp[execOp,resolve,invoke,builtin,ha.eval hx,ha.eval hy,Builtin.min_,Builtin.min2]
  rw[Int.min_def];split<;>split<;>first|rfl|omega) ht h
theorem KO.div(hx:ev G x=some (.int .i64 a))(hy:ev G y=some (.int .i64 c))(hc:0<c)(UU:0<=a)(YD:a<=9223372036854775807)(ht:Nat.blt t n=true)(h:KO P ops d Q n D w0 ((t,.int .i64 (a/c))::G) L l):
 KO P ops d Q n D w0 G L ((k,⟨some t,.binOp .quo T x y T',ty,pos,af,none⟩)::l):=
 KO.val (fun a' w ha=>by
  have e:a.tdiv c=a/c:=Int.tdiv_eq_ediv_of_nonneg UU;have h1:0<=a/c:=Int.ediv_nonneg UU ae;have h2:a/c<=a:=Int.ediv_le_self _ UU;have h3:c≠0:=by omega
  simp[execOp,ha.eval hx,ha.eval hy,eqGuard_at_int,binOp_quo,Op.intDiv,h3,e,Dp (by omega : -9223372036854775808<=a/c) ae]) ht h
theorem KO.rem(hx:ev G x=some (.int .i64 a))(hy:ev G y=some (.int .i64 c))(hc:0<c)(UU:0<=a)(ht:Nat.blt t n=true)(h:KO P ops d Q n D w0 ((t,.int .i64 (a%c))::G) L l):
 KO P ops d Q n D w0 G L ((k,⟨some t,.binOp .rem T x y T',ty,pos,af,none⟩)::l):=
 KO.val (fun a' w ha=>by
  have e:a.tmod c=a%c:=Int.tmod_eq_emod_of_nonneg UU;have h3:c≠0:=by omega
  simp[execOp,ha.eval hx,ha.eval hy,eqGuard_at_int,binOp_rem,Op.intDiv,h3,e]) ht h
end
def oO (c:UInt8) (s:ak):Prop:= ∀b∈s.data.toList,b≠c
theorem dN{c:UInt8}{a b:ak}(ha:oO c a)(hb:oO c b):oO c (a++b):=fun x hx=>by
 rw[show(a++b).data.toList=a.data.toList++b.data.toList by simp]at hx;rcases aH.1 hx with h|h
 ·exact ha x h
 ·exact hb x h
def cX (c:UInt8) (s:ak):ak×ak×Bool:=(toB (Lib.cut s.data.toList [c]).1,toB (Lib.cut s.data.toList [c]).2.1,(Lib.cut s.data.toList [c]).2.2)
def b_ (c:UInt8):ak:=⟨#[c]⟩
def abl (n:Int) (b:UInt8):Int:=TS (Tl n (b.toNat:Nat)) 1099511628211
def Jn (l:List UInt8):Int:=l.foldl abl 14695981039346656037
def vI (s:ak):Int:=Jn s.data.toList/8
theorem xG(l:List UInt8):0<=Jn l/\Jn l<=18446744073709551615:=by
 unfold Jn;rcases List.eq_nil_or_concat l with rfl|⟨r,b,rfl⟩
 ·decide
 ·rw[List.concat_eq_append,List.foldl_append];exact wrap_u64 _
theorem xF(s:ak):0<=vI s/\vI s<=2305843009213693951:=by
 have :=xG s.data.toList;unfold vI;omega
def jd (k:Int) (s:ak):ak:=bP k++b_ 124++s
def dA (k:Int) (s:ak):ak:=jd k s++b_ 124++bP (vI (jd k s))
def gd (k:Int) (t:ak):Option ak:=match di 124 t with
 |[_,w,_]=>if dA k w=t then some w else none
 |_=>none
structure Dk where
 places:List ak
 cut:Bool
 left:Int
def bD:Dk:=⟨List.replicate 300 ⟨#[]⟩,false,0⟩
def cu (D:Dk) (n:Int):Dk:={D with cut:=decide (0<=n),left:=max n 0}
def y0 (s:ak) (cZ:Int):ak:=s.extract 0 (min cZ ((s.size:Int)-1)).toNat
def ju (D:Dk):Bool:=D.cut&&decide (D.left=0)
def dG (D:Dk) (k:Nat) (s:ak) (cZ:Int):Dk:=
 if ju D=true then(if 0<=cZ then {D with places:=D.places.set k (y0 s cZ)}else D)else {D with left:=D.left-1,places:=D.places.set k s}
def kK (D:Dk):Int:=if ju D=true then 14 else 0
end WB
namespace Go.Proofs.YtjhogocabcdjbabGreatDoor
open Tryz
open Go Go.RowKit WB
theorem Xp(w0:World)(L:List HP)(s:ak)(hs:s.size<=1000000):KE prog 232 #[.string s] w0 L (fun u M=>u=.int .i64 (vI s)/\M=L):=by
 refine KE.mk (n:=21) func232 rfl ntmps232 aj ?_;intro w hw;refine Z3 ?_;refine lZ ?_;refine lL ?_;refine KO.Qc rfl underlying9 rfl ?_;refine mK ?_;refine K.loop (fun k:Nat=>[(0,.string s),(3,.int .u64 (Jn (s.data.toList.take k))),(6,.int .i64 (s.size:Nat)),(7,.int .i64 (k:Nat))]) (fun _=>[]) (fun k=>k<=s.size) (fun k=>s.size-k) 0
  (aV _) ⟨rfl,rfl,rfl,rfl,trivial⟩ (fun _ h=>h) ?_
 rintro k hk;refine hF ?_;refine K.br rfl (fun h=>?_) (fun h=>?_)
 ·obtain⟨b,hb,jC⟩:∃e,s[k]? =some e/\s.data.toList[k]? =some e:=⟨s[k]' ae,by simp,by simp[ByteArray.getElem_eq_getElem_data]⟩;refine sZ ?_;refine qE ?_;refine Z8 ?_;refine lK ?_;refine KO.Ub rfl rfl underlying9 aP tr rfl ?_;refine KO.b2u rfl (by rw[underlying5];rfl) underlying224 (by have :=b.toNat_lt;omega) rfl ?_;refine KO.abg rfl rfl rfl ?_;refine KO.abD rfl rfl rfl ?_;refine uM ?_;refine KQ.round (k+1) ae ae ⟨rfl,?_,rfl,rfl,trivial⟩ (fun _ h=>h);simp only[cQ];rw[bG jC];unfold Jn;rw[List.foldl_append];rfl
 ·refine Z9 ?_;have zY:k=s.size:=by omega
  subst zY;have hb:=xG s.data.toList;have e1:s.data.toList.take s.size=s.data.toList:=List.take_of_length_le aj;rw[e1];refine Z8 ?_;refine KO.abn rfl rfl rfl ?_;refine KO.u2i rfl (by rw[underlying224];rfl) underlying3 ae rfl ?_;refine iW ?_;refine KQ.bB rfl rfl (fun w' hs=>⟨_,_,rfl,⟨rfl,rfl⟩,hw.aC hs.below,hs.below⟩)
theorem xM(w0:World)(L:List HP)(k:Int)(s:ak)(hk:ob k)(hs:s.size<=900000)(hT:o0 w0):KE prog 134 #[.int .i64 k,.string s] w0 L (fun u M=>u=.string (dA k s)/\M=L):=by
 refine KE.mk (n:=17) func134 rfl ntmps134 aj ?_;intro w hw;have hT:=hT.ext (Ext.bW hw.below);have h1:=cv hk;have h2:=xF (jd k s);have h3:=cv (n:=vI (jd k s)) ⟨by omega,by omega⟩;have jQ:(⟨#[124]⟩:ak).size=1:=rfl;have jC:(b_ 124).size=1:=rfl;have uf:(bP k++⟨#[124]⟩:ak).size=(bP k).size+1:=by rw[aQ,jQ]
 have lg:(jd k s++⟨#[124]⟩:ak).size=(jd k s).size+1:=by rw[aQ,jQ]
 have h4:(jd k s).size<=900022:=by unfold jd;simp only[aQ];omega
 refine oX ?_;refine KO.ce (cp:=[]) rfl rfl rfl call59 rfl (jM w _ k hT hk) ?_;rintro v' L' ⟨rfl,rfl⟩;refine pR ?_;refine Z1 ?_;refine pR ?_;refine kE ?_;rw[show bP k++⟨#[124]⟩++s=jd k s from rfl];refine Z8 ?_;refine pR ?_;refine Z1 ?_;refine KO.ce (cp:=[]) rfl rfl rfl call232 rfl (Xp w _ _ ae) ?_;rintro v' L' ⟨rfl,rfl⟩;refine KO.ce (cp:=[]) rfl rfl rfl call59 rfl (jM w _ _ hT ⟨by omega,by omega⟩) ?_;rintro v' L' ⟨rfl,rfl⟩;refine pR ?_;refine iW ?_;refine KQ.bB rfl rfl (fun w' hs=>⟨_,_,rfl,⟨rfl,rfl⟩,hw.aC hs.below,hs.below⟩)
theorem Mh(w0:World)(L:List HP)(k:Int)(t:ak)(hk:ob k)(ht:t.size<=800000)(hT:o0 w0)(hM:o2 w0):
 KE prog 52 #[.int .i64 k,.string t] w0 L (fun u M=>u=.tuple #[.string ((gd k t).getD ⟨#[]⟩),.bool (gd k t).isSome]/\M=L):=by
 refine KE.mk (n:=24) func52 rfl ntmps52 aj ?_;intro w hw;have hT:=hT.ext (Ext.bW hw.below);have hM:=hM.ext (Ext.bW hw.below);have dr:∀p∈di 124 t,p.size<=t.size:=fun p hp=>gJ hp
 refine rN ?_;refine lL ?_;refine KO.ce (cp:=[]) rfl rfl rfl call133 rfl (kP w _ t 124 ae hM) ?_;rintro v' L' ⟨bq,rfl,rfl⟩;refine kE ?_;have qO:(∀a b c,di 124 t≠[a,b,c])->gd k t=none:=fun h=>by
  unfold gd;split
  ·rename_i a b c e;exact absurd e (h a b c)
  ·rfl
 by_cases h3:(di 124 t).length=3
 ·obtain⟨wa,wb,wc,he⟩:∃a b c,di 124 t=[a,b,c]:=by
   match h:di 124 t,h3 with
   |[a,b,c],_=>exact⟨a,b,c,rfl⟩
  rw[he];have hwb:wb.size<=800000:=by have :=dr wb (by rw[he];simp);omega
  by_cases WC:dA k wb=t
  ·have ho:gd k t=some wb:=by unfold gd;rw[he];simp[WC]
   rw[ho];refine Z8 ?_;refine N3 ?_;refine KU ?_;refine Z1 ?_;refine KO.on rfl rfl aj ?_;refine KO.eF (i:=1) rfl rfl runUnderlying115 sizeOf9 rfl aj rfl ?_;refine KO.on rfl rfl aj ?_;refine KO.ia (i:=1) (sz:=1) (cf:=j7) (e:=wb) rfl rfl isAgg9 bQ (fun _=>rfl) rfl aP aP rfl ?_;refine KO.on rfl rfl aj ?_;refine KO.ce (cp:=[]) rfl rfl rfl call134 rfl (xM w _ k wb hk ae hT) ?_;rintro v' L' ⟨rfl,rfl⟩;refine qu ?_;refine KW ?_;refine CM ?_;refine K.da rfl (by simp[WC]) ?_;refine wq ?_;refine Xb ?_;refine pO ?_;refine KQ.eE rfl rfl rfl (fun w' hs=>⟨_,_,rfl,⟨rfl,rfl⟩,hw.aC hs.below,hs.below⟩)
  ·have ho:gd k t=none:=by unfold gd;rw[he];simp[WC]
   rw[ho];refine Z8 ?_;refine N3 ?_;refine KU ?_;refine Z1 ?_;refine KO.on rfl rfl aj ?_;refine KO.eF (i:=1) rfl rfl runUnderlying115 sizeOf9 rfl aj rfl ?_;refine KO.on rfl rfl aj ?_;refine KO.ia (i:=1) (sz:=1) (cf:=j7) (e:=wb) rfl rfl isAgg9 bQ (fun _=>rfl) rfl aP aP rfl ?_;refine KO.on rfl rfl aj ?_;refine KO.ce (cp:=[]) rfl rfl rfl call134 rfl (xM w _ k wb hk ae hT) ?_;rintro v' L' ⟨rfl,rfl⟩;refine qu ?_;refine KW ?_;refine CM ?_;refine K.cL rfl (by simp[WC]) ?_;refine rN ?_;refine qX ?_;refine KQ.eE rfl rfl rfl (fun w' hs=>⟨_,_,rfl,⟨rfl,rfl⟩,hw.aC hs.below,hs.below⟩)
 ·have ho:gd k t=none:=qO fun a b c e=>h3 (by rw[e];rfl)
  rw[ho];have h3i:¬(((di 124 t).length:Nat):Int)=3:=by omega
  refine Z8 ?_;refine N3 ?_;refine HV ?_;refine HZ ?_;refine HH ?_;refine K.cL rfl (by simp[h3i]) ?_;refine rN ?_;refine qX ?_;refine KQ.eE rfl rfl rfl (fun w' hs=>⟨_,_,rfl,⟨rfl,rfl⟩,hw.aC hs.below,hs.below⟩)
def CB (D:Dk):List Value:=D.places.map Value.string++[.bool D.cut,.int .i64 D.left]
def fv (b:Nat) (D:Dk):HP:=bI b (.cells (CB D).toArray 28 (0,0))
theorem I2{D:Dk}(h:D.places.length=300):(CB D).length=302:=by simp[CB,h]
theorem Rn{D:Dk}(h:D.places.length=300):(CB D)[300]? =some (.bool D.cut):=by
 unfold CB;rw[aY (by simp[h])];simp[h]
theorem sU{D:Dk}(h:D.places.length=300):(CB D)[301]? =some (.int .i64 D.left):=by
 unfold CB;rw[aY (by simp[h])];simp[h]
theorem Kv{D:Dk}{k:Nat}{s:ak}(h:D.places[k]? =some s):(CB D)[k]? =some (.string s):=by
 have hk:=(au.1 h).1;unfold CB;rw[List.getElem?_append_left (by simpa using hk),aG,h];rfl
theorem y4{D:Dk}{k:Nat}(s:ak)(hk:k<D.places.length):(CB D).set k (.string s)=CB {D with places:=D.places.set k s}:=by
 unfold CB;rw[List.set_append_left _ _ (by simpa using hk),List.map_set]
theorem y5{D:Dk}(h:D.places.length=300)(n:Int):(CB D).set 301 (.int .i64 n)=CB {D with left:=n}:=by
 unfold CB;rw[List.set_append_right _ _ (by simp[h])];simp[h]
theorem NA{D:Dk}(h:D.places.length=300)(c:Bool):(CB D).set 300 (.bool c)=CB {D with cut:=c}:=by
 unfold CB;rw[List.set_append_right _ _ (by simp[h])];simp[h]
theorem Pa(w0:World)(L:List HP)(b k:Nat)(D:Dk)(s:ak)(cZ:Int)(h3:D.places.length=300)(hk:k<300)(hl: -4000000000000000000<=D.left/\D.left<=9223372036854775807)(hs:0<s.size/\s.size<=1000000):
 KC prog 156 #[.pointer (some ⟨b,0,none⟩),.int .i64 (k:Nat),.string s,.int .i64 cZ] w0 (fv b D::L) (fun u M=>u=cI 70 (kK D)/\M=fv b (dG D k s cZ)::L):=by
 refine KC.mk (n:=48) func156 rfl ntmps156 aj ?_;refine zm ?_;have GH:ju D=(D.cut&&decide (D.left=0)):=rfl;cases hcut:D.cut with
 |false=>
  have ho:ju D=false:=by rw[GH,hcut];rfl
  refine kX ?_;refine V8 ?_;refine xa ?_;refine Tf ?_;refine qv ?_;refine rT ?_;refine kX ?_;refine On ?_;refine KO.db (i:=301) rfl rfl isAgg3 .head rfl (sU h3) rfl ?_;refine Fv ?_;refine kr ?_;refine On ?_;refine KO.fX (i:=301) rfl rfl rfl aP zM rfl .head rfl Y34 ?_;rw[y5 h3];refine Z0 ?_;refine iX ?_;refine lq ?_;refine V6 ?_;refine KO.fX (i:=k) rfl rfl rfl aP Xk rfl .head zz Y26 ?_;rw[y4 _ (by exact(by omega :k<D.places.length))];refine pP ?_;refine KQ.bB rfl rfl (fun w' hs=>⟨_,_,rfl,⟨?_,rfl⟩,?_⟩)
  ·unfold kK;rw[if_neg (by simp[ho])];rfl
  ·unfold dG;rw[if_neg (by simp[ho])];exact hs
 |true=>
  by_cases hl0:D.left=0
  ·have ho:ju D=true:=by rw[GH,hcut,hl0];rfl
   refine kX ?_;refine V8 ?_;refine KU ?_;refine kr ?_;refine KO.on rfl rfl rfl ?_;refine KO.fw (off:=301) rfl runUnderlying28 rfl rfl sizeOf3 rfl ?_;refine KO.on rfl rfl rfl ?_;refine KO.db (i:=301) rfl rfl isAgg3 .head rfl (by rw[sU h3,hl0]) rfl ?_;refine Ah ?_;refine uQ ?_;refine jB ?_;refine vD ?_;refine Z2 ?_;refine K.br rfl (fun h5=>?_) (fun h5=>?_)
   ·(skip)
    refine K.draw [.pure,.pure,.pure,.pure,.pure,.pure,.pure,.pure,.pure,.pure,.pure,.pure,.write] [0,1,2,3,4,5,6,7,8,9,10,11,12] bC bC ?_;refine lK ?_;refine oZ ?_;refine KO.Qc rfl underlying9 rfl ?_;refine Fv ?_;refine KO.min2 rfl rfl rfl rfl ?_;refine KO.Sn (i:=(min cZ ((s.size:Int)-1)).toNat) rfl rfl underlying9 ae ae rfl ?_;refine kr ?_;refine V6 ?_;refine KO.fX (i:=k) rfl rfl rfl aP Xk rfl .head zz Y34 ?_;rw[y4 _ ae];refine wA ?_;refine Z30 ?_;refine Z4 ?_;refine KQ.bB rfl rfl (fun w' hs=>⟨_,_,rfl,⟨?_,rfl⟩,?_⟩)
    ·unfold kK;rw[if_pos ho];rfl
    ·unfold dG fv;rw[if_pos ho,if_pos ae];exact hs
   ·refine wx ?_;refine Z30 ?_;refine Z4 ?_;refine KQ.bB rfl rfl (fun w' hs=>⟨_,_,rfl,⟨?_,rfl⟩,?_⟩)
    ·unfold kK;rw[if_pos ho];rfl
    ·unfold dG;rw[if_pos ho,if_neg ae];exact hs
  ·have ho:ju D=false:=by rw[GH,hcut];simpa using hl0
   refine kX ?_;refine V8 ?_;refine KU ?_;refine kr ?_;refine KO.on rfl rfl rfl ?_;refine KO.fw (off:=301) rfl runUnderlying28 rfl rfl sizeOf3 rfl ?_;refine KO.on rfl rfl rfl ?_;refine KO.db (i:=301) rfl rfl isAgg3 .head rfl (sU h3) rfl ?_;refine Ah ?_;refine wj ?_;refine Z2 ?_;refine K.da rfl (by simpa using hl0) ?_;refine Z6 ?_;refine kX ?_;refine On ?_;refine KO.db (i:=301) rfl rfl isAgg3 .head rfl (sU h3) rfl ?_;refine Fv ?_;refine kr ?_;refine On ?_;refine KO.fX (i:=301) rfl rfl rfl aP zM rfl .head rfl Y34 ?_;rw[y5 h3];refine Z0 ?_;refine iX ?_;refine lq ?_;refine V6 ?_;refine KO.fX (i:=k) rfl rfl rfl aP Xk rfl .head zz Y26 ?_;rw[y4 _ (by exact(by omega :k<D.places.length))];refine pP ?_;refine KQ.bB rfl rfl (fun w' hs=>⟨_,_,rfl,⟨?_,rfl⟩,?_⟩)
   ·unfold kK;rw[if_neg (by simp[ho])];rfl
   ·unfold dG;rw[if_neg (by simp[ho])];exact hs
theorem NG(w0:World)(L:List HP)(b:Nat)(D:Dk)(n:Int)(h3:D.places.length=300):
 KC prog 18 #[.pointer (some ⟨b,0,none⟩),.int .i64 n] w0 (fv b D::L) (fun u M=>u=.tuple #[]/\M=fv b (cu D n)::L):=by
 refine KC.mk (n:=14) func18 rfl ntmps18 aj ?_;refine Z8 ?_;refine lK ?_;refine vD ?_;refine Z1 ?_;refine KO.max2 rfl rfl rfl rfl ?_;refine kr ?_;refine KO.fw (off:=300) rfl runUnderlying28 rfl rfl sizeOf4 rfl ?_;refine KO.fX (i:=300) rfl rfl rfl aP (by exact sizeOf4) rfl .head rfl Y34 ?_;rw[NA h3];refine kr ?_;refine On ?_;refine KO.fX (i:=301) rfl rfl rfl aP zM rfl .head rfl Y26 ?_;rw[y5 (by exact h3)];refine KO.nil ?_;refine KQ.jr rfl (fun w' hs=>⟨_,_,rfl,⟨rfl,rfl⟩,hs⟩)
theorem Gg:(prog.info? 75).map (fun i=>(i.zero,i.size,i.bytes))=some (some (Value.agg #[.string ⟨#[]⟩,.string ⟨#[]⟩,.int .i64 0]),3,40):=by kernel_rfl
theorem Qe(w w0:World)(L:List HP)(v:Value)(n:Nat)(xs vs:List Value)(bv:Nat)(h:St w0 (ke 75 3 v n xs::bI bv (.cells vs.toArray 75 (0,0))::L) w)(hv:vs.length=3)(h1:∀u∈vs,u.oneCell'=true)(hn:n<1000000):
 Calls prog 268 #[v,.int .i64 n,.slice (some ⟨bv,0,none⟩) 1 1] w fun e w'=> ∃v',e=.returned v'/\St w0 (ke 75 3 v' (n+1) (xs++vs)::L) w':=by
 obtain⟨i0,hi,wW,mM,wV⟩:=info_parts Gg;have pB:cr w ⟨bv,0,none⟩ vs:=by
  have h2:=h.pick (.tail .head);exact h2.eJ fun j u hj=>by simpa using hj
 obtain⟨v',w1,hr,kj⟩:=qq (P:=prog) 86 86 75 i0 _ 3 40 underlying86 hi wW mM wV rfl h ⟨bv,0,none⟩ 1 1 vs (by rw[hv]) pB h1 R_ ae;have HR:=Lib.hid hr;have HS:=Lib.hid kj;have qQ:v=.slice none 0 0/\n=0\/∃g cap,v=.slice (some ⟨g,0,none⟩) n cap/\n<=cap:=by
  rcases h.cH with⟨h1,h2,_⟩|⟨g,cap,_,h1,h2,_⟩
  ·exact .inl ⟨h1,h2⟩
  ·exact .inr ⟨g,cap,h1,h2⟩
 clear h hr kj pB hi wW mM wV;rcases qQ with⟨rfl,rfl⟩|⟨g,cap,rfl,vf⟩
 ·go_enter func268,ntmps268
  go_wp2_with (at_builtin;refine Lib.wpList_append_run _ rfl _ _ _ _ rfl _ _ rfl rfl _ _ HR.out ?_)
  go_ret
  exact⟨_,rfl,HS.out.f_.drop⟩
 ·have hE:((n:Int)==(n:Int))=true:=by simp
  by_cases UM:cap=n
  ·have UL:n=cap:=UM.symm;subst UL
   go_enter func268,ntmps268
   go_wp2_with (at_builtin;refine Lib.wpList_append_run _ rfl _ _ _ _ rfl _ _ rfl rfl _ _ HR.out ?_)
   go_ret
   exact⟨_,rfl,HS.out.f_.drop⟩
  ·go_enter func268,ntmps268
   go_wp2_with (at_builtin;refine Lib.wpList_append_run _ rfl _ _ _ _ rfl _ _ rfl rfl _ _ HR.out ?_)
   go_ret
   exact⟨_,rfl,HS.out.f_.drop⟩
theorem ML(w w0:World)(L:List HP)(g n cap k:Nat)(xs vs:List Value)(bv:Nat)(h:St w0 (ke 75 3 (.slice (some ⟨g,0,none⟩) n cap) n xs::bI bv (.cells vs.toArray 75 (0,0))::L) w)(hv:vs.length=3)(h1:∀u∈vs,u.oneCell'=true)(wY:∀u∈xs,u.oneCell'=true)(hn:n<1000000)(hk:k<n)(lD:n+1<=cap):
 Calls prog 268 #[.slice (some ⟨g,0,none⟩) n cap,.int .i64 k,.slice (some ⟨bv,0,none⟩) 1 1] w fun e w'=> ∃v',e=.returned v'/\St w0 (ke 75 3 v' (n+1) (xs.take (k *3)++vs++xs.drop (k *3))::L) w':=by
 obtain⟨i0,hi,wW,mM,wV⟩:=info_parts Gg;rcases h.cH with⟨hc,_⟩|⟨g',nz,cur,hc,vf,vq,kJ,fe,rZ,hblk⟩
 ·simp at hc
 ·simp only[Value.slice.injEq,az,Addr.mk.injEq,and_true,true_and]at hc;obtain⟨rfl,rfl⟩:=hc;have Uu:∀o n c o' n' c',(callFunc 361 #[.slice (some ⟨bv,o,none⟩) n c,.slice (some ⟨g,o',none⟩) n' c']).run prog w=.ok (.value (.bool false)) w:=fun o n c o' n' c'=>by
   rw[run_callFunc_extern func361 bC bC bC (e:=Extern.SlicesOverlaps.overlaps #[86,86] #[4]) bC,
    uZ 86 4 75 i0 underlying86 hi hblk.f_ o n c o' n' c' (by rw[kJ];omega)]
   rfl
  have HB:=Lib.hid hblk;have gh:((k:Int)==(n:Int))=false:=by simp;omega
  have QR:cap<9223372036854775808:=by unfold maxLen at vq;omega
  have dr:(cur.toList.take (n *3)).length=n *3:=by simp;omega
  have qg:cur.toList.length=cap *3:=by simpa using kJ
  have Ck:Nat.min (n+1-k) (n-k)=n-k:=Nat.min_eq_right ae;have Ya:∀u∈(cur.toList.take (n *3)).drop (k *3),u.oneCell'=true:=fun u hu=>wY u (fe▸List.mem_of_mem_drop hu)
  have QI:((cur.toList.take (n *3)).drop (k *3)).length=Nat.min (n+1-k) (n-k)*i0.size:=by
   rw[bu,dr,mM,Ck,Nat.sub_mul]
  have uf:=eQ (P:=prog) w.drew 86 86 3 75 i0 g ((k+1)*3) (n-k) (cap-(k+1)) ⟨g,k *3,none⟩ (n+1-k) (cap-k) cur 75 _ underlying86 hi hblk.drew.look.2 QI
   (hblk.drew.eJ fun j u hj=>by
    rw[List.getElem?_drop,List.getElem?_take]at hj;split at hj
    ·simpa using hj
    ·simp at hj) (by rw[QI,mM,Ck,kJ];omega) Ya
  have sH:=hblk.drew.setRow (c':=(cur.toList.take ((k+1)*3)++(cur.toList.take (n *3)).drop (k *3)++cur.toList.drop ((k+1)*3+((cur.toList.take (n *3)).drop (k *3)).length)).toArray);have EG:((cur.toList.take (n *3)).drop (k *3)).length=n *3-k *3:=by rw[bu,dr]
  generalize Cu:cur.toList.take ((k+1)*3)++(cur.toList.take (n *3)).drop (k *3)++cur.toList.drop ((k+1)*3+((cur.toList.take (n *3)).drop (k *3)).length)=C1 at uf sH;have ry:C1.length=cap *3:=by rw[<-Cu];simp only[aX,bA,EG,bu,qg];omega
  have lg:=eQ (P:=prog) (w.drew.setRow g C1.toArray) 86 86 3 75 i0 g (k *3) (n+1-k) (cap-k) ⟨bv,0,none⟩ 1 1 C1.toArray 75 vs underlying86 hi sH.look.2
   Y9 (sH.drop.eJ fun j u hj=>by simpa using hj) (by rw[hv];simp[ry];omega) h1
  have oR:=sH.setRow (c':=(C1.take (k *3)++vs++C1.drop (k *3+vs.length)).toArray);have ng:Nat.min 1 (n+1-k)=1:=Nat.min_eq_left ae;rw[ng]at lg;rw[Ck]at uf;have iM:((C1.take (k *3)++vs++C1.drop (k *3+vs.length)).toArray).toList.take ((n+1)*3)=xs.take (k *3)++vs++xs.drop (k *3):=by
   have :=mS cur.toList vs (k *3) 3 (n *3) (cap *3) ae hv ae qg;simp only[fe]at this;rw[hv];have e:(k+1)*3=k *3+3:=by omega
   have e2:(n+1)*3=n *3+3:=by omega
   have e3:(k *3+3+(n *3-k *3))=n *3+3:=by omega
   rw[fe,e,show(xs.drop (k *3)).length=n *3-k *3 by rw[bu,rZ],e3]at Cu;rw[<-Cu,e2];exact this
  have t_:=oR.kx (n:=n+1) (size:=3) (cap:=cap) lD vq (by simp[ry,hv];omega) iM;generalize C1.take (k *3)++vs++C1.drop (k *3+vs.length)=C2 at lg t_ oR iM;have Wn:=Lib.hid uf;have Wm:=Lib.hid lg;have HO:=Lib.hid t_;clear h hblk vq hi wW mM wV kJ fe rZ wY h1 hv uf lg t_ sH oR iM Cu EG QI Ya qg dr Ck ng ry
  go_enter func268,ntmps268
  go_wp2_with fail
  refine eu [.pure,.pure,.pure,.pure,.pure,.pure,.pure,.pure,.write] [0,1,2,3,4,5,6,7,8] bC bC ?_;simp only[aJ,List.map_nil,item,List.getD_cons_zero,List.getD_cons_succ]
  repeat((with_reducible refine fh (v:=?_) (a':=?_) ?_ ?_ ?_ ?_);rotate_left 2;(rfl);((intro w';go_simp;(try(go_bits;(try go_simp);(try(go_bits;(try go_simp)))));(repeat(first|rewrite [if_pos ae]|rewrite [if_neg ae])))<;>rfl);(go_simp;rfl))
  refine kN (a':=?_) (v:=?_) (w':=?_) rfl ?_ ?_ ?_
  rotate_left 3
  ·rw[lH _ _ _ _ rfl (.slice (some ⟨g,(k+1)*3,none⟩) (n-k) (cap-(k+1))) (.slice (some ⟨g,k *3,none⟩) (n+1-k) (cap-k)) rfl rfl Wn.out]
  ·go_simp;rfl
  refine nN ?_
  go_wp2_with (refine r7 rfl _ _ _ _ rfl (.slice (some ⟨g,k *3,none⟩) (n+1-k) (cap-k)) (.slice (some ⟨bv,0,none⟩) 1 1) rfl rfl Wm.out ?_;intro K hK;go_simp)
  go_ret
  exact⟨_,rfl,HO.out.f_.drop⟩
theorem MM(w w0:World)(L:List HP)(g n k:Nat)(cap:Nat)(xs vs:List Value)(bv:Nat)(h:St w0 (ke 75 3 (.slice (some ⟨g,0,none⟩) n cap) n xs::bI bv (.cells vs.toArray 75 (0,0))::L) w)(hv:vs.length=3)(h1:∀u∈vs,u.oneCell'=true)(wY:∀u∈xs,u.oneCell'=true)(hn:n<1000000)(hk:k<n)(lD:cap<n+1):
 Calls prog 268 #[.slice (some ⟨g,0,none⟩) n cap,.int .i64 k,.slice (some ⟨bv,0,none⟩) 1 1] w fun e w'=> ∃v',e=.returned v'/\St w0 (ke 75 3 v' (n+1) (xs.take (k *3)++vs++xs.drop (k *3))::L) w':=by
 obtain⟨i0,hi,wW,mM,wV⟩:=info_parts Gg;rcases h.cH with⟨hc,_⟩|⟨g',nz,cur,hc,vf,vq,kJ,fe,rZ,hblk⟩
 ·simp at hc
 ·simp only[Value.slice.injEq,az,Addr.mk.injEq,and_true,true_and]at hc;obtain⟨rfl,rfl⟩:=hc;have UM:cap=n:=by omega
  have gh:((k:Int)==(n:Int))=false:=by simp;omega
  have qg:cur.toList.length=cap *3:=by simpa using kJ
  have Qj:(xs.take (k *3)).length=k *3:=by rw[bA,rZ];omega
  have h_:∀(j:Nat) (u:Value),xs[j]? =some u->cur[j]? =some u:=fun j u hj=>by
   rw[<-fe,List.getElem?_take]at hj;split at hj
   ·simpa using hj
   ·simp at hj
  have hr:=mV (P:=prog) w 86 3 86 75 i0 _ .i64 .i64 underlying86 underlying3 hi wW ⟨g,0,none⟩ k cap (xs.take (k *3)) (by rw[Qj,mM])
   (hblk.eJ fun j u hj=>by
    rw[List.getElem?_take]at hj;split at hj
    ·rw[Nat.zero_add];exact h_ j u hj
    ·simp at hj) (n+1-k) ae (by rw[mM];omega) ae ae (by rw[wV];exact growslice_fits ae ae) (by rw[wV];omega)
  have Da:=grownCap_ge w (k+(n+1-k)) cap 75;have hle:=grownCap_le_maxLen w (k+(n+1-k)) cap 75 R_;have mN:=hblk.drew.alloc (.cells ((xs.take (k *3)).toArray++Builtin.zeroCells (Value.agg #[.string ⟨#[]⟩,.string ⟨#[]⟩,.int .i64 0]).cells (n+1-k)++Builtin.zeroCells (Value.agg #[.string ⟨#[]⟩,.string ⟨#[]⟩,.int .i64 0]).cells (grownCap w (k+(n+1-k)) cap 75-(k+(n+1-k)))) 75);have J6:∀q,(Builtin.zeroCells (Value.agg #[.string ⟨#[]⟩,.string ⟨#[]⟩,.int .i64 0]).cells q).size=q *3:=fun q=>by rw[size_zeroCells];rfl
  generalize hW:w.drew.alloc (.cells ((xs.take (k *3)).toArray++Builtin.zeroCells (Value.agg #[.string ⟨#[]⟩,.string ⟨#[]⟩,.int .i64 0]).cells (n+1-k)++Builtin.zeroCells (Value.agg #[.string ⟨#[]⟩,.string ⟨#[]⟩,.int .i64 0]).cells (grownCap w (k+(n+1-k)) cap 75-(k+(n+1-k)))) 75)=W at hr mN;clear hW;generalize hcp:grownCap w (k+(n+1-k)) cap 75=cp at hr mN Da hle;clear hcp;have e1:k+(n+1-k)=n+1:=by omega
  rw[e1]at hr Da;generalize hB:w.heap.size=B at hr;have YS:w.drew.heap.size=B:=hB;rw[YS]at mN;clear hB YS;generalize hZ:Builtin.zeroCells (Value.agg #[.string ⟨#[]⟩,.string ⟨#[]⟩,.int .i64 0]).cells (n+1-k)++Builtin.zeroCells (Value.agg #[.string ⟨#[]⟩,.string ⟨#[]⟩,.int .i64 0]).cells (cp-(k+(n+1-k)))=Z at mN;have YE:Z.toList.length=(cp-k)*3:=by
   rw[<-hZ];simp only[Array.length_toList,Array.size_append,J6];omega
  have Ko:((xs.take (k *3)).toArray++Builtin.zeroCells (Value.agg #[.string ⟨#[]⟩,.string ⟨#[]⟩,.int .i64 0]).cells (n+1-k)++Builtin.zeroCells (Value.agg #[.string ⟨#[]⟩,.string ⟨#[]⟩,.int .i64 0]).cells (cp-(k+(n+1-k))))=(xs.take (k *3)++Z.toList).toArray:=by
   rw[<-hZ];apply Array.ext';simp
  rw[Ko]at mN;clear Ko hZ J6;have Up:=mN;generalize Ko:xs.take (k *3)++Z.toList=C0 at mN;have GX:C0.length=cp *3:=by rw[<-Ko,aX,Qj,YE];omega
  have yD:Nat.min 1 (n+1-k)=1:=Nat.min_eq_left ae;have Bc:St w0 (bI bv (.cells vs.toArray 75 (0,0))::bI B (.cells C0.toArray 75 (0,0))::bI g (.cells cur 75 (0,0))::L) W:=mN.pick (.tail (.tail .head));have uf:=eQ (P:=prog) W 86 86 3 75 i0 B (k *3) (n+1-k) (cp-k) ⟨bv,0,none⟩ 1 1 C0.toArray 75 vs underlying86 hi mN.look.2
   (by rw[hv,mM,yD,Nat.one_mul]) (Bc.eJ fun j u hj=>by simpa using hj) (by rw[hv];simp[GX];omega) h1
  have sH:=mN.setRow (c':=(C0.take (k *3)++vs++C0.drop (k *3+vs.length)).toArray);rw[yD]at uf;generalize Cu:C0.take (k *3)++vs++C0.drop (k *3+vs.length)=C1 at uf sH;have ry:C1.length=cp *3:=by rw[<-Cu];simp only[aX,bA,bu,GX,hv];omega
  generalize QX:W.setRow B C1.toArray=W1 at uf sH;clear QX;have r0:(xs.drop (k *3)).length=(n-k)*3:=by rw[bu,rZ];omega
  have ng:Nat.min (n-k) (n-k)=n-k:=Nat.min_self _;have qP:St w0 (bI g (.cells cur 75 (0,0))::bI B (.cells C1.toArray 75 (0,0))::bI bv (.cells vs.toArray 75 (0,0))::L) W1.drew:=(sH.pick (.tail .head)).drew;have lg:=eQ (P:=prog) W1.drew 86 86 3 75 i0 B ((k+1)*3) (n-k) (cp-(k+1)) ⟨g,k *3,none⟩ (n-k) (cap-k) C1.toArray 75 (xs.drop (k *3)) underlying86 hi sH.drew.look.2
   (by rw[r0,mM,ng]) (qP.eJ fun j u hj=>by rw[List.getElem?_drop]at hj;exact h_ _ u hj) (by rw[r0];simp[ry];omega) (fun u hu=>wY u (List.mem_of_mem_drop hu))
  have oR:=sH.drew.setRow (c':=(C1.take ((k+1)*3)++xs.drop (k *3)++C1.drop ((k+1)*3+(xs.drop (k *3)).length)).toArray);rw[ng]at lg;have iM:((C1.take ((k+1)*3)++xs.drop (k *3)++C1.drop ((k+1)*3+(xs.drop (k *3)).length)).toArray).toList.take ((n+1)*3)=xs.take (k *3)++vs++xs.drop (k *3):=by
   have :=vx (xs.take (k *3)) Z.toList vs (xs.drop (k *3)) (k *3) 3 ((n-k)*3) Qj hv r0;simp only[Ko]at this;rw[hv]at Cu;rw[Cu]at this;rw[r0,show(k+1)*3=k *3+3 by omega,show(n+1)*3=k *3+3+(n-k)*3 by omega];exact this
  have pD:(C1.take ((k+1)*3)++xs.drop (k *3)++C1.drop ((k+1)*3+(xs.drop (k *3)).length)).length=cp *3:=by
   simp only[aX,bA,bu,ry,rZ];omega
  generalize C1.take ((k+1)*3)++xs.drop (k *3)++C1.drop ((k+1)*3+(xs.drop (k *3)).length)=C2 at lg oR iM pD;have t_:=oR.kx (n:=n+1) (size:=3) (cap:=cp) Da hle (by simpa using pD) iM;have e9:((n+1-k:Nat):Int)=(n:Int)+1-k:=by omega
  rw[e9]at hr;clear e9;have HR:=Lib.hid hr;have Wn:=Lib.hid uf;have Wm:=Lib.hid lg;have HO:=Lib.hid t_;have acO:cp<9223372036854775808:=by unfold maxLen at hle;omega
  clear h hblk vq hi wW mM wV kJ fe rZ wY h1 hv uf lg t_ mN Up sH oR iM pD Ko GX Cu ry hr qP Bc r0 Qj qg h_ YE yD ng hle e1 UM
  go_enter func268,ntmps268
  go_wp2_with (first|(at_builtin;refine Lib.wpList_append_run _ rfl _ _ _ _ rfl _ _ rfl rfl _ _ HR.out ?_)|(refine r7 rfl _ _ _ _ rfl (.slice (some ⟨B,k *3,none⟩) (n+1-k) (cp-k)) (.slice (some ⟨bv,0,none⟩) 1 1) rfl rfl Wn.out ?_;intro K hK;go_simp))
  refine eu [.pure,.pure,.pure,.pure,.pure,.pure,.pure,.pure,.write] [0,1,2,3,4,5,6,7,8] bC bC ?_;simp only[aJ,List.map_nil,item,List.getD_cons_zero,List.getD_cons_succ]
  repeat((with_reducible refine fh (v:=?_) (a':=?_) ?_ ?_ ?_ ?_);rotate_left 2;(rfl);((intro w';go_simp;(try(go_bits;(try go_simp);(try(go_bits;(try go_simp)))));(repeat(first|rewrite [if_pos ae]|rewrite [if_neg ae])))<;>rfl);(go_simp;rfl))
  refine kN (a':=?_) (v:=?_) (w':=?_) rfl ?_ ?_ ?_
  rotate_left 3
  ·rw[lH _ _ _ _ rfl (.slice (some ⟨B,(k+1)*3,none⟩) (n-k) (cp-(k+1))) (.slice (some ⟨g,k *3,none⟩) (n-k) (cap-k)) rfl rfl Wm.out]
  ·go_simp;rfl
  refine nN ?_
  go_wp2_with fail
  go_ret
  exact⟨_,rfl,HO.out.pick (.tail .head) |>.drop.pick (.tail .head) |>.drop⟩
theorem Qf(w w0:World)(L:List HP)(v:Value)(l:List Nm)(x:Nm)(k bv n:Nat)(hn:n=l.length)(h:St w0 (ke 75 3 v n (cj l)::bI bv (.cells x.cells.toArray 75 (0,0))::L) w)(hk:k<=l.length)(zG:l.length<1000000):
 Calls prog 268 #[v,.int .i64 k,.slice (some ⟨bv,0,none⟩) 1 1] w fun e w'=> ∃v',e=.returned v'/\St w0 (ke 75 3 v' (l.length+1) (cj (l.take k++x::l.drop k))::L) w':=by
 subst hn;by_cases pb:k=l.length
 ·subst pb;have :=Qe w w0 L v l.length (cj l) x.cells bv h rfl x.cells_one zG;refine this.mono ?_;rintro e w' ⟨v',he,hs⟩;refine⟨v',he,?_⟩;rw[show cj (l.take l.length++x::l.drop l.length)=cj l++x.cells by simp[cj]];exact hs
 ·have dt:k<l.length:=by omega
  rcases h.cH with⟨_,hz,_⟩|⟨g,cap,cur,rfl,vf,_⟩
  ·omega
  ·rw[<-ye l x k hk];by_cases hr:l.length+1<=cap
   ·exact ML w w0 L g l.length cap k (cj l) x.cells bv h rfl x.cells_one (u3 l) zG dt hr
   ·exact MM w w0 L g l.length k cap (cj l) x.cells bv h rfl x.cells_one (u3 l) zG dt ae
theorem si(x:Nm)(b:Bool)(w:World)(h1:x.name.size<=maxLen)(h2:x.jz.size<=maxLen)(hb:cc x=b):
 Calls prog 267 #[.agg x.cells.toArray] w fun e w'=>e=.returned (.bool b)/\Below w.heap.size w w':=by
 rw[<-hb];exact JA x w h1 h2
theorem PA(b off:Nat)(c:Array Value)(T:TypeId)(v:Value)(l:List Nm)(x:Nm)(w w0:World)(L:List HP)(h:St w0 (bI b (.cells c T (0,0))::ke 75 3 v l.length (cj l)::L) w)(hr:cc x=false)(h1:x.name.size<=maxLen)(h2:x.jz.size<=maxLen):
 Calls prog 170 #[.pointer (some ⟨b,off,none⟩),.agg x.cells.toArray] w fun e w'=>e=.returned (.iface 70 (.int .i64 1))/\
  St w0 (bI b (.cells c T (0,0))::ke 75 3 v l.length (cj l)::L) w':=by
 have HC:=Lib.hid (fun w=>si x false w h1 h2 hr);have mN:=h.alloc (.cells x.cells.toArray 75);have HS:=Lib.hid mN;clear h h1 h2 hr mN;obtain⟨a,t,n⟩:=x;simp only[Nm.cells]at HC HS ⊢
 go_enter func170,ntmps170
 go_wp2_with fail
 refine(HC.out _).mono ?_;rintro e w1 ⟨rfl,jQ⟩;have Am:=Lib.hid (HS.out.aC jQ);clear jQ
 go_wp2_with fail
 go_ret
 exact⟨rfl,Am.out.drop⟩
theorem LW(b off:Nat)(c:Array Value)(T:TypeId)(v:Value)(l:List Nm)(x:Nm)(w w0:World)(L:List HP)(h:St w0 (bI b (.cells c T (0,0))::ke 75 3 v l.length (cj l)::L) w)(hc:c[off]? =some v)(hr:cc x=true)(h1:x.name.size<=maxLen)(h2:x.jz.size<=maxLen)(hm:C7 l x.name)(hl:20<=l.length)(zI:l.length<1000000)(hit:eN l x.name (bK l x.name)=false):
 Calls prog 170 #[.pointer (some ⟨b,off,none⟩),.agg x.cells.toArray] w fun e w'=>e=.returned (.iface 70 (.int .i64 12))/\
  St w0 (bI b (.cells c T (0,0))::ke 75 3 v l.length (cj l)::L) w':=by
 have HC:=Lib.hid (fun w=>si x true w h1 h2 hr);have mN:=h.alloc (.cells x.cells.toArray 75);have HS:=Lib.hid mN;have HF:=Lib.hid (fun(w:World) (h:St w0 (bI b (.cells c T (0,0))::ke 75 3 v l.length (cj l)::L) w)=>nn b off c T (0,0) v l x.name w w0 L h hc zI hm);have HK:=Lib.hid (fun k (hk:H6 l x.name k)=>jS hk);have HI:=Lib.hid hit;have hv:∃a cap,v=.slice a l.length cap:=by
  rcases h.drop.cH with⟨hv,hz,_⟩|⟨g,cap,_,hv,_⟩
  ·exact⟨none,0,by rw[hv,hz]⟩
  ·exact⟨_,_,hv⟩
 obtain⟨a,cap,rfl⟩:=hv;have K7:=Lib.hid hc;clear h h1 h2 hr mN hm hit hc;generalize hN:l.length=n at *;have HN:=Lib.hid hN;clear hN;obtain⟨nm,t,hs⟩:=x;simp only[Nm.cells]at HC HS HF HK HI ⊢
 go_enter func170,ntmps170
 go_wp2_with fail
 refine(HC.out _).mono ?_;rintro e w1 ⟨rfl,jQ⟩;have Am:=Lib.hid (HS.out.aC jQ);have c0:=Am.out.cell (off:=0) rfl;clear jQ
 go_wp2_with fail
 refine(HF.out _ Am.out.drop).mono ?_;rintro e w2 ⟨k,hk,rfl,jC⟩;have wG:=Lib.hid (Am.out.aC jC);rw[HK.out k hk,HI.out];clear jC c0 hk;have c1:w2.cell? ⟨b,off,none⟩=some (.slice a n cap):=wG.out.NM (.tail .head) K7.out
 go_wp2_with fail
 go_ret
 exact⟨rfl,wG.out.drop⟩
theorem Pz(b off:Nat)(c:Array Value)(T:TypeId)(v:Value)(l:List Nm)(x:Nm)(w w0:World)(L:List HP)(h:St w0 (bI b (.cells c T (0,0))::ke 75 3 v l.length (cj l)::L) w)(hc:c[off]? =some v)(hr:cc x=true)(h1:x.name.size<=maxLen)(h2:x.jz.size<=maxLen)(hm:C7 l x.name)(zI:l.length<1000000)(hit:eN l x.name (bK l x.name)=true):
 Calls prog 170 #[.pointer (some ⟨b,off,none⟩),.agg x.cells.toArray] w fun e w'=>e=.returned .nilIface/\
  St w0 (bI b (.cells c T (0,0))::ke 75 3 v l.length (cj (l.set (bK l x.name) x))::L) w':=by
 have HC:=Lib.hid (fun w=>si x true w h1 h2 hr);have mN:=h.alloc (.cells x.cells.toArray 75);have HS:=Lib.hid mN;have HF:=Lib.hid (fun(w:World) (h:St w0 (bI b (.cells c T (0,0))::ke 75 3 v l.length (cj l)::L) w)=>nn b off c T (0,0) v l x.name w w0 L h hc zI hm);have HK:=Lib.hid (fun k (hk:H6 l x.name k)=>jS hk);have HI:=Lib.hid hit;have Yh:bK l x.name<l.length:=by
  unfold eN at hit;rw[a_]at hit;simpa using hit.1
 have aai:=Lib.hid (Ec l x (bK l x.name) Yh);have hv:∃g cap,v=.slice (some ⟨g,0,none⟩) l.length cap:=by
  rcases h.drop.cH with⟨hv,hz,_⟩|⟨g,cap,_,hv,_⟩
  ·omega
  ·exact⟨_,_,hv⟩
 obtain⟨g,cap,rfl⟩:=hv;have K7:=Lib.hid hc;clear h h1 h2 hr mN hm hit hc;generalize hN:l.length=n at *;have HN:=Lib.hid hN;clear hN;obtain⟨nm,t,hs⟩:=x;simp only[Nm.cells]at HC HS HF HK HI aai Yh ⊢;generalize hK:bK l nm=k0 at *;clear hK
 go_enter func170,ntmps170
 go_wp2_with fail
 refine(HC.out _).mono ?_;rintro e w1 ⟨rfl,jQ⟩;have Am:=Lib.hid (HS.out.aC jQ);have c0:=Am.out.cell (off:=0) rfl;clear jQ
 go_wp2_with fail
 refine(HF.out _ Am.out.drop).mono ?_;rintro e w2 ⟨k,hk,rfl,jC⟩;have wG:=Lib.hid (Am.out.aC jC);obtain rfl:=HK.out k hk;rw[HI.out];clear jC c0 hk;have c1:w2.cell? ⟨b,off,none⟩=some (.slice (some ⟨g,0,none⟩) n cap):=wG.out.NM (.tail .head) K7.out;have c2:cr w2 ⟨w.heap.size,0,none⟩ [.string nm,.string t,.int .i64 hs]:=wG.out.eJ fun j u hj=>by simpa using hj
 obtain⟨w3,Gy,Kb⟩:∃w3,(storeVar 75 ⟨g,k *3,none⟩ (.agg #[.string nm,.string t,.int .i64 hs])).run prog w2.drew=.ok () w3/\
  St w0 (bI b (.cells c T (0,0))::ke 75 3 (.slice (some ⟨g,0,none⟩) n cap) n (cj (l.set k ⟨nm,t,hs⟩))::L) w3:=by
  have h4:=(wG.out.drop.pick (.tail .head)).drew;rcases h4.cH with⟨hc,_⟩|⟨g',nz,cur,hc,vf,vq,kJ,fe,rZ,hblk⟩
  ·simp at hc
  ·simp only[Value.slice.injEq,az,Addr.mk.injEq,and_true,true_and]at hc;obtain⟨rfl,rfl⟩:=hc;refine⟨_,jT hblk (by simp[Value.cells]) (by simp[Value.cells];omega) (by simp[Value.cells];exact⟨rfl,rfl,rfl⟩),?_⟩;refine((hblk.setRow).kx vf vq ?_ ?_).f_
   ·simp[Value.cells];omega
   ·rw[<-aai.out,<-fe];exact DH cur.toList [.string nm,.string t,.int .i64 hs] (k *3) 3 (n *3) rfl ae fx
 have HW3:=Lib.hid Gy;have HS3:=Lib.hid Kb;clear Gy Kb
 go_wp2_with fail
 refine eu [.pure,.pure,.pure,.read,.pure,.read,.pure,.write] [0,1,2,3,4,5,6,7] bC bC ?_;simp only[aJ,List.map_nil,item,List.getD_cons_zero,List.getD_cons_succ]
 repeat((with_reducible refine fh (v:=?_) (a':=?_) ?_ ?_ ?_ ?_);rotate_left 2;(rfl);((intro w';go_simp;(try(go_bits;(try go_simp);(try(go_bits;(try go_simp)))));((skip)))<;>rfl);(go_simp;rfl))
 refine wH (a':=?_) (v:=.slice (some ⟨g,0,none⟩) n cap) (ad:=⟨b,off,none⟩) rfl rfl (fun _=>by simp) c1 ?_ ?_
 rotate_left 1
 ·go_simp;rfl
 repeat((with_reducible refine fh (v:=?_) (a':=?_) ?_ ?_ ?_ ?_);rotate_left 2;(rfl);((intro w';go_simp;(try(go_bits;(try go_simp);(try(go_bits;(try go_simp)))));((skip)))<;>rfl);(go_simp;rfl))
 refine Ih (a':=?_) (cs:=[.string nm,.string t,.int .i64 hs]) (ad:=⟨w.heap.size,0,none⟩) rfl rfl (fun _=>by simp) (fun _=>by simp) c2 ?_ ?_
 rotate_left 1
 ·go_simp;rfl
 repeat((with_reducible refine fh (v:=?_) (a':=?_) ?_ ?_ ?_ ?_);rotate_left 2;(rfl);((intro w';go_simp;(try(go_bits;(try go_simp);(try(go_bits;(try go_simp)))));((skip)))<;>rfl);(go_simp;rfl))
 refine qG (a':=?_) (w':=w3) rfl ?_ ?_ ?_
 rotate_left 1
 ·exact yU rfl rfl HW3.out
 ·go_simp;rfl
 refine nN ?_;clear c1 c2
 go_wp2_with fail
 go_ret
 exact⟨rfl,HS3.out⟩
theorem Py(b off:Nat)(c:Array Value)(T:TypeId)(v:Value)(l:List Nm)(x:Nm)(w w0:World)(L:List HP)(h:St w0 (bI b (.cells c T (0,0))::ke 75 3 v l.length (cj l)::L) w)(hc:c[off]? =some v)(hr:cc x=true)(h1:x.name.size<=maxLen)(h2:x.jz.size<=maxLen)(hm:C7 l x.name)(hl:l.length<20)(hit:eN l x.name (bK l x.name)=false):
 Calls prog 170 #[.pointer (some ⟨b,off,none⟩),.agg x.cells.toArray] w fun e w'=>e=.returned .nilIface/\
  ∃v',St w0 (bI b (.cells (c.setIfInBounds off v') T (0,0))::ke 75 3 v' (l.length+1) (cj (l.take (bK l x.name)++x::l.drop (bK l x.name)))::L) w':=by
 have HC:=Lib.hid (fun w=>si x true w h1 h2 hr);have mN:=h.alloc (.cells x.cells.toArray 75);have HS:=Lib.hid mN;have HF:=Lib.hid (fun(w:World) (h:St w0 (bI b (.cells c T (0,0))::ke 75 3 v l.length (cj l)::L) w)=>nn b off c T (0,0) v l x.name w w0 L h hc ae hm);have HK:=Lib.hid (fun k (hk:H6 l x.name k)=>jS hk);have HI:=Lib.hid hit;have Uy:bK l x.name<=l.length:=gW _ _;have Wl:=Lib.hid (fun(w:World) (bv:Nat) (L':List HP) (h:St w0 (ke 75 3 v l.length (cj l)::bI bv (.cells x.cells.toArray 75 (0,0))::L') w)=>Qf w w0 L' v l x (bK l x.name) bv l.length rfl h Uy ae);have hv:∃a cap,v=.slice a l.length cap:=by
  rcases h.drop.cH with⟨hv,hz,_⟩|⟨g,cap,_,hv,_⟩
  ·exact⟨none,0,by rw[hv,hz]⟩
  ·exact⟨_,_,hv⟩
 obtain⟨sa,cap,rfl⟩:=hv;have K7:=Lib.hid hc;have GH:off<c.size:=(Array.getElem?_eq_some_iff.1 hc).1;clear h h1 h2 hr mN hm hit hc;obtain⟨nm,t,hs⟩:=x;simp only[Nm.cells]at HC HS HF HK HI Wl Uy ⊢;generalize hK:bK l nm=k0 at *;generalize hN:l.length=n at HF Wl HS K7 Uy hl ⊢;clear hK
 go_enter func170,ntmps170
 go_wp2_with fail
 refine(HC.out _).mono ?_;rintro e w1 ⟨rfl,jQ⟩;have Am:=Lib.hid (HS.out.aC jQ);have c0:=Am.out.cell (off:=0) rfl;clear jQ
 go_wp2_with fail
 refine(HF.out _ Am.out.drop).mono ?_;rintro e w2 ⟨k,hk,rfl,jC⟩;have wG:=Lib.hid (Am.out.aC jC);obtain rfl:=HK.out k hk;rw[HI.out];clear jC c0 hk;have c1:w2.cell? ⟨b,off,none⟩=some (.slice sa n cap):=wG.out.NM (.tail .head) K7.out;have c2:cr w2 ⟨w.heap.size,0,none⟩ [.string nm,.string t,.int .i64 hs]:=wG.out.eJ fun j u hj=>by simpa using hj
 go_wp2_with fail
 refine eu [.pure,.pure,.pure,.pure,.read,.pure,.read,.c7,.write,.pure,.pure,.write] [0,1,2,3,4,5,6,9,10,7,8,11] bC bC ?_;simp only[aJ,List.map_nil,item,List.getD_cons_zero,List.getD_cons_succ]
 repeat((with_reducible refine fh (v:=?_) (a':=?_) ?_ ?_ ?_ ?_);rotate_left 2;(rfl);((intro w';go_simp;(try(go_bits;(try go_simp);(try(go_bits;(try go_simp)))));((skip)))<;>rfl);(go_simp;rfl))
 refine wH (a':=?_) (v:=.slice sa n cap) (ad:=⟨b,off,none⟩) rfl rfl (fun _=>by simp) c1 ?_ ?_
 rotate_left 1
 ·go_simp;rfl
 repeat((with_reducible refine fh (v:=?_) (a':=?_) ?_ ?_ ?_ ?_);rotate_left 2;(rfl);((intro w';go_simp;(try(go_bits;(try go_simp);(try(go_bits;(try go_simp)))));((skip)))<;>rfl);(go_simp;rfl))
 refine Ih (a':=?_) (cs:=[.string nm,.string t,.int .i64 hs]) (ad:=⟨w.heap.size,0,none⟩) rfl rfl (fun _=>by simp) (fun _=>by simp) c2 ?_ ?_
 rotate_left 1
 ·go_simp;rfl
 repeat((with_reducible refine fh (v:=?_) (a':=?_) ?_ ?_ ?_ ?_);rotate_left 2;(rfl);((intro w';go_simp;(try(go_bits;(try go_simp);(try(go_bits;(try go_simp)))));((skip)))<;>rfl);(go_simp;rfl))
 refine Dx (a':=?_) (v:=.slice (some ⟨w2.heap.size,0,none⟩) 1 1) (w':=(w2.alloc (.cells #[.string nm,.string t,.int .i64 hs] 75)).drew) rfl ?_ ?_ ?_ ?_
 rotate_left 1
 ·go_simp
 ·exact Ext.alloc w2 _
 ·go_simp;rfl
 have Kb:=wG.out.alloc (.cells #[.string nm,.string t,.int .i64 hs] 75);have X2:St w0 (ke 75 3 (.slice sa n cap) n (cj l)::bI w2.heap.size (.cells [Value.string nm,Value.string t,Value.int .i64 hs].toArray 75 (0,0))::bI w.heap.size (.cells #[.string nm,.string t,.int .i64 hs] 75)::bI b (.cells c T (0,0))::L)
  (w2.alloc (.cells #[.string nm,.string t,.int .i64 hs] 75)).drew:=(Kb.pick (.tail (.tail (.tail .head)))).drew
 refine zO rfl (f:=268) (args:=#[.slice sa n cap,.int .i64 k,.slice (some ⟨w2.heap.size,0,none⟩) 1 1]) (w':=(w2.alloc (.cells #[.string nm,.string t,.int .i64 hs] 75)).drew) ?_ (Wl.out _ _ _ X2) ?_
 ·go_simp
 rintro e w3 ⟨v',rfl,hs5⟩;refine⟨v',rfl,?_⟩;have lM:∃OR n' nz,v'=.slice OR n' nz:=by
  rcases hs5.cH with⟨hv,_⟩|⟨g,cap,_,hv,_⟩
  ·exact⟨_,_,_,hv⟩
  ·exact⟨_,_,_,hv⟩
 obtain⟨OR,n',nz,rfl⟩:=lM;have hb6:St w0 (bI b (.cells c T (0,0))::ke 75 3 (.slice OR n' nz) (n+1) (cj (l.take k++⟨nm,t,hs⟩::l.drop k))::bI w.heap.size (.cells #[.string nm,.string t,.int .i64 hs] 75)::L) w3:=hs5.pick (.tail (.tail .head));have kj:=jT (P:=prog) (T:=86) (off:=off) (v:=.slice OR n' nz) hb6 (by simp[Value.cells]) (by simp[Value.cells];omega) (by simp[Value.cells];rfl);have hs7:=hb6.setRow (c':=(c.toList.take off++(Value.slice OR n' nz).cells.toList++c.toList.drop (off+(Value.slice OR n' nz).cells.toList.length)).toArray);have e7:(c.toList.take off++(Value.slice OR n' nz).cells.toList++c.toList.drop (off+(Value.slice OR n' nz).cells.toList.length)).toArray=c.setIfInBounds off (.slice OR n' nz):=F3 GH;rw[e7]at kj hs7;refine qG (a':=?_) (w':=w3.setRow b (c.setIfInBounds off (.slice OR n' nz))) rfl ?_ ?_ ?_
 rotate_left 1
 ·exact yU rfl rfl kj
 ·go_simp;rfl
 have HS7:=Lib.hid (hs7.pick (.tail (.tail .head))).drop;clear Kb X2 hs5 hb6 hs7 kj e7 c1 c2;refine nN ?_
 go_wp2_with fail
 go_ret
 exact⟨rfl,_,HS7.out⟩
theorem PB(b off:Nat)(c:Array Value)(T:TypeId)(v:Value)(l:List Nm)(x:Nm)(w w0:World)(L:List HP)(h:St w0 (bI b (.cells c T (0,0))::ke 75 3 v l.length (cj l)::L) w)(hc:c[off]? =some v)(h1:x.name.size<=maxLen)(h2:x.jz.size<=maxLen)(hm:C7 l x.name)(hl:l.length<=20):
 Calls prog 170 #[.pointer (some ⟨b,off,none⟩),.agg x.cells.toArray] w fun e w'=>e=.returned (cI 70 (cG l x))/\
  ∃v',St w0 (bI b (.cells (c.setIfInBounds off v') T (0,0))::ke 75 3 v' (ew l x).length (cj (ew l x))::L) w':=by
 cases hr:cc x with
 |false=>
  refine(PA b off c T v l x w w0 L h hr h1 h2).mono ?_;rintro e w' ⟨rfl,hs⟩;refine⟨by simp[cI,cG,hr],v,?_⟩;rw[xI hc];simp only[ew,hr,if_true];exact hs
 |true=>
  cases hit:eN l x.name (bK l x.name)with
  |true=>
   refine(Pz b off c T v l x w w0 L h hc hr h1 h2 hm ae hit).mono ?_;rintro e w' ⟨rfl,hs⟩;refine⟨by simp[cI,cG,hr,hit],v,?_⟩;rw[xI hc];simp only[ew,hr,hit,if_true,Bool.true_eq_false,if_false,List.length_set];exact hs
  |false=>
   by_cases hf:20<=l.length
   ·refine(LW b off c T v l x w w0 L h hc hr h1 h2 hm hf ae hit).mono ?_;rintro e w' ⟨rfl,hs⟩;refine⟨by simp[cI,cG,hr,hit,hf],v,?_⟩;rw[xI hc];simp only[ew,hr,hit,hf,if_true,Bool.true_eq_false,Bool.false_eq_true,if_false];exact hs
   ·refine(Py b off c T v l x w w0 L h hc hr h1 h2 hm ae hit).mono ?_;rintro e w' ⟨rfl,v',hs⟩;refine⟨by simp[cI,cG,hr,hit,hf],v',?_⟩;have hk:bK l x.name<=l.length:=gW _ _;have e1:ew l x=l.take (bK l x.name)++x::l.drop (bK l x.name):=by simp[ew,hr,hit,hf]
    rw[e1,show(l.take (bK l x.name)++x::l.drop (bK l x.name)).length=l.length+1 by simp;omega];exact hs
theorem JU(b off:Nat)(c:Array Value)(T:TypeId)(v:Value)(l:List Nm)(s:ak)(w w0:World)(L:List HP)(h:St w0 (bI b (.cells c T (0,0))::ke 75 3 v l.length (cj l)::L) w)(hc:c[off]? =some v)(hm:C7 l s)(hl:l.length<1000000):
 Calls prog 57 #[.pointer (some ⟨b,off,none⟩),.string s] w fun e w'=>e=.returned (.bool (fb l s))/\Below w.heap.size w w':=by
 have HF:=Lib.hid (nn b off c T (0,0) v l s w w0 L h hc hl hm);have HK:=Lib.hid (fun k (hk:H6 l s k)=>jS hk);have HS:=Lib.hid h;have K7:=Lib.hid hc;cases hit:eN l s (bK l s)with
 |false=>
  have HI:=Lib.hid hit;have HE:=Lib.hid (show fb l s=false by simp[fb,AW hit]);clear h hm hit hc
  go_enter func57,ntmps57
  go_wp2_with fail
  refine HF.out.mono ?_;rintro e w2 ⟨k,hk,rfl,jC⟩;have zN:=Lib.hid jC;rw[HK.out k hk,HI.out];clear jC hk
  go_wp2_with fail
  go_ret
  exact⟨fj HE.out.symm,zN.out⟩
 |true=>
  have dt:=ub hit;have hv:∃g cap,v=.slice (some ⟨g,0,none⟩) l.length cap:=by
   rcases h.drop.cH with⟨hv,hz,_⟩|⟨g,cap,_,hv,_⟩
   ·omega
   ·exact⟨_,_,hv⟩
  obtain⟨g,cap,rfl⟩:=hv;have HI:=Lib.hid hit;have HE:=Lib.hid (show fb l s=ie (dW l (bK l s)).jz by simp[fb,AV hit]);have HN:=Lib.hid (show bK l s<l.length from dt);clear h hm hit hc;generalize hN:l.length=n at HF dt hl;generalize hK:bK l s=k0 at HI HE HN HK dt;clear hK;cases he:ie (dW l k0).jz with
  |false=>
   have OZ:(dW l k0).jz.toList.isEmpty=false:=he;have ei:((dW l k0).jz.toList==[])=false:=by simpa[ie]using he
   have HE2:=Lib.hid he;have HNN:=Lib.hid hN;clear he hN
   go_enter func57,ntmps57
   go_wp2_with fail
   refine HF.out.mono ?_;rintro e w2 ⟨k,hk,rfl,jC⟩;have zN:=Lib.hid jC;have wG:=Lib.hid (HS.out.aC jC);obtain rfl:=HK.out k hk;rw[HI.out];clear jC hk;have c1:w2.cell? ⟨b,off,none⟩=some (.slice (some ⟨g,0,none⟩) n cap):=by rw[<-HNN.out];exact wG.out.cell K7.out
   obtain⟨d0,d1,d2⟩:=ly wG.out.drop HN.out
   go_wp2_with fail
   go_ret
   exact⟨fj (by rw[HE.out,HE2.out]),zN.out⟩
  |true=>
   have OZ:(dW l k0).jz.toList.isEmpty=true:=he;have ei:(dW l k0).jz.toList=[]:=by simpa[ie]using he
   have HE2:=Lib.hid he;have HNN:=Lib.hid hN;clear he hN
   go_enter func57,ntmps57
   go_wp2_with fail
   refine HF.out.mono ?_;rintro e w2 ⟨k,hk,rfl,jC⟩;have zN:=Lib.hid jC;have wG:=Lib.hid (HS.out.aC jC);obtain rfl:=HK.out k hk;rw[HI.out];clear jC hk;have c1:w2.cell? ⟨b,off,none⟩=some (.slice (some ⟨g,0,none⟩) n cap):=by rw[<-HNN.out];exact wG.out.cell K7.out
   obtain⟨d0,d1,d2⟩:=ly wG.out.drop HN.out
   go_wp2_with fail
   go_ret
   exact⟨fj (by rw[HE.out,HE2.out]),zN.out⟩
def Wg (l:List Nm) (s:ak) (w:World) (x i:Value) (wr:World):Prop:=
 ∃(k:Nat) (t:ak),k<=l.length+1/\x=.string t/\i=.int .i64 k/\fK l (l.length+1-k) t=fK l (l.length+1) s/\Below w.heap.size w wr
def oy (l:List Nm) (s:ak) (w:World) (e:Ending) (w':World):Prop:=
 e=.returned (.tuple #[.string (fK l (l.length+1) s).1,.int .i64 (fK l (l.length+1) s).2.1,cI 70 (fK l (l.length+1) s).2.2])/\Below w.heap.size w w'
theorem oy.mk{l:List Nm}{s:ak}{w w':World}{r:ak×Int×Int}(h:r=fK l (l.length+1) s)(hb:Below w.heap.size w w'){v:Value}(hv:v=cI 70 r.2.2):
 oy l s w (.returned (.tuple #[.string r.1,.int .i64 r.2.1,v])) w':=by
 subst hv;rw[h];exact⟨rfl,hb⟩
theorem DO(b off:Nat)(c:Array Value)(T:TypeId)(v:Value)(l:List Nm)(s:ak)(w w0:World)(L:List HP)(h:St w0 (bI b (.cells c T (0,0))::ke 75 3 v l.length (cj l)::L) w)(hc:c[off]? =some v)(hm:∀s,C7 l s)(hl:l.length<1000000):
 Calls prog 144 #[.pointer (some ⟨b,off,none⟩),.string s] w (oy l s w):=by
 have hv:∃sa cap,v=.slice sa l.length cap/\(0<l.length->∃g,sa=some ⟨g,0,none⟩):=by
  rcases h.drop.cH with⟨hv,hz,_⟩|⟨g,cap,_,hv,_⟩
  ·exact⟨none,0,by rw[hv,hz],fun h=>by omega⟩
  ·exact⟨_,_,hv,fun _=>⟨g,rfl⟩⟩
 obtain⟨sa,cap,rfl,Ka⟩:=hv;have HF:=Lib.hid (fun(w:World) (t:ak) (h:St w0 (bI b (.cells c T (0,0))::ke 75 3 (.slice sa l.length cap) l.length (cj l)::L) w)=>nn b off c T (0,0) _ l t w w0 L h hc hl (hm t));have HS:=Lib.hid h;have K7:=Lib.hid hc;have HSA:=Lib.hid Ka;have c0:w.cell? ⟨b,off,none⟩=some (.slice sa l.length cap):=h.cell hc;clear h hm hc Ka;obtain⟨n,hN⟩:∃n,l.length=n:=⟨_,rfl⟩;rw[hN]at c0 hl;have HN:=Lib.hid hN;clear hN
 go_enter func144,ntmps144
 go_wp2_with fail
 clear c0
 go_loopw [1,16] (fun x i wr=>Wg l s w x i wr) (fun _ i _=>(n+1-(intOf i).toNat))
 case atStart=>exact⟨0,s,by omega,rfl,rfl,rfl,Below.refl _ _⟩
 case round=>
  obtain⟨k,t,hk,rfl,rfl,hr,Kn⟩:=hrel;rw[HN.out]at hk;have HR:=Lib.hid hr;have HB:=Lib.hid Kn;have Am:=Lib.hid (HS.out.aC Kn);clear hr Kn;by_cases dt:k<n+1
  ·obtain⟨m,hm⟩:∃m,n+1-k=m+1:=⟨n-k,by omega⟩;have HM:=Lib.hid (show l.length+1-k=m+1 by rw[HN.out];exact hm);have HM2:=Lib.hid (show l.length+1-(k+1)=m by rw[HN.out];omega);clear hm;cases hit:eN l t (bK l t)with
   |false=>
    have HI:=Lib.hid hit;have HE:=Lib.hid (show(⟨#[]⟩,0,7)=fK l (l.length+1) s by rw[<-HR.out,HM.out,fK,AW hit]);clear hit
    go_wp2_with fail
    refine(HF.out _ _ Am.out).mono ?_;rintro e w2 ⟨k',Nb,rfl,jC⟩;have zN:=Lib.hid (HB.out.trans (jC.mono HB.out.size));rw[jS Nb,HI.out];clear jC Nb
    go_wp2_with fail
    go_ret3
    exact oy.mk HE.out zN.out rfl
   |true=>
    have sM:=ub hit;obtain⟨g,rfl⟩:=HSA.out ae;have HI:=Lib.hid hit;have HL:=Lib.hid (AV hit);have HLT:=Lib.hid sM;have agp:bK l t<n:=by rw[<-HN.out];exact sM
    clear hit sM;cases he:ie (dW l (bK l t)).jz with
    |true=>
     have HE:=Lib.hid (show(t,-1,0)=fK l (l.length+1) s by rw[<-HR.out,HM.out,fK,HL.out];simp only[he,if_true]);have OZ:(dW l (bK l t)).jz.toList.isEmpty=true:=he;have ei:(dW l (bK l t)).jz.toList=[]:=by simpa[ie]using he
     clear he;generalize hK:bK l t=k0 at *;have HK:=Lib.hid hK;clear hK
     go_wp2_with fail
     refine(HF.out _ _ Am.out).mono ?_;rintro e w2 ⟨k',Nb,rfl,jC⟩;have zN:=Lib.hid (HB.out.trans (jC.mono HB.out.size));have wG:=Lib.hid (Am.out.aC jC);rw[jS Nb,HK.out,HI.out];clear jC Nb;have c1:w2.cell? ⟨b,off,none⟩=some (.slice (some ⟨g,0,none⟩) n cap):=by rw[<-HN.out];exact wG.out.cell K7.out
     obtain⟨d0,d1,d2⟩:=ly wG.out.drop HLT.out
     go_wp2_with fail
     go_ret3
     exact oy.mk HE.out (zN.out.alloc zN.out.size _) rfl
    |false=>
     have OZ:(dW l (bK l t)).jz.toList.isEmpty=false:=he;have ei:((dW l (bK l t)).jz.toList==[])=false:=by simpa[ie]using he
     by_cases hh:0<=(dW l (bK l t)).ck
     ·have HE:=Lib.hid (show((dW l (bK l t)).jz,(dW l (bK l t)).ck,0)=fK l (l.length+1) s by rw[<-HR.out,HM.out,fK,HL.out];simp only[he,hh,if_true,Bool.false_eq_true,if_false]);have hd:decide (0<=(dW l (bK l t)).ck)=true:=by simpa using hh
      clear he hh;generalize hK:bK l t=k0 at *;have HK:=Lib.hid hK;clear hK
      go_wp2_with fail
      refine(HF.out _ _ Am.out).mono ?_;rintro e w2 ⟨k',Nb,rfl,jC⟩;have zN:=Lib.hid (HB.out.trans (jC.mono HB.out.size));have wG:=Lib.hid (Am.out.aC jC);rw[jS Nb,HK.out,HI.out];clear jC Nb;have c1:w2.cell? ⟨b,off,none⟩=some (.slice (some ⟨g,0,none⟩) n cap):=by rw[<-HN.out];exact wG.out.cell K7.out
      obtain⟨d0,d1,d2⟩:=ly wG.out.drop HLT.out
      go_wp2_with fail
      refine eu [.pure,.read,.pure,.read,.pure,.pure,.pure] [0,1,2,3,4,5,6] bC bC ?_;simp only[aJ,List.map_nil,item,List.getD_cons_zero,List.getD_cons_succ]
      repeat((with_reducible refine fh (v:=?_) (a':=?_) ?_ ?_ ?_ ?_);rotate_left 2;(rfl);((intro w';go_simp;(try(go_bits;(try go_simp);(try(go_bits;(try go_simp)))));((skip)))<;>rfl);(go_simp;rfl))
      refine wH (a':=?_) (v:=.string (dW l k0).jz) (ad:=⟨w2.heap.size,1,none⟩) rfl rfl (fun _=>by simp) aj ?_ ?_
      rotate_left 1
      ·go_simp;rfl
      repeat((with_reducible refine fh (v:=?_) (a':=?_) ?_ ?_ ?_ ?_);rotate_left 2;(rfl);((intro w';go_simp;(try(go_bits;(try go_simp);(try(go_bits;(try go_simp)))));((skip)))<;>rfl);(go_simp;rfl))
      refine wH (a':=?_) (v:=.int .i64 (dW l k0).ck) (ad:=⟨w2.heap.size,2,none⟩) rfl rfl (fun _=>by simp) aj ?_ ?_
      rotate_left 1
      ·go_simp;rfl
      repeat((with_reducible refine fh (v:=?_) (a':=?_) ?_ ?_ ?_ ?_);rotate_left 2;(rfl);((intro w';go_simp;(try(go_bits;(try go_simp);(try(go_bits;(try go_simp)))));((skip)))<;>rfl);(go_simp;rfl))
      refine nN ?_
      go_wp2_with fail
      go_ret3
      exact oy.mk HE.out (zN.out.alloc zN.out.size _).drew rfl
     ·have HE:=Lib.hid (show fK l m (dW l (bK l t)).jz=fK l (l.length+1) s by rw[<-HR.out,HM.out,fK,HL.out];simp only[he,hh,Bool.false_eq_true,if_false]);have hd:decide (0<=(dW l (bK l t)).ck)=false:=by simpa using hh
      clear he hh;generalize hK:bK l t=k0 at *;have HK:=Lib.hid hK;clear hK
      go_wp2_with fail
      refine(HF.out _ _ Am.out).mono ?_;rintro e w2 ⟨k',Nb,rfl,jC⟩;have zN:=Lib.hid (HB.out.trans (jC.mono HB.out.size));have wG:=Lib.hid (Am.out.aC jC);rw[jS Nb,HK.out,HI.out];clear jC Nb;have c1:w2.cell? ⟨b,off,none⟩=some (.slice (some ⟨g,0,none⟩) n cap):=by rw[<-HN.out];exact wG.out.cell K7.out
      obtain⟨d0,d1,d2⟩:=ly wG.out.drop HLT.out
      go_wp2_with fail
      go_roundw
      case rel=>exact⟨k+1,(dW l k0).jz,by rw[HN.out];omega,rfl,by go_num,by rw[HM2.out];exact HE.out,zN.out.alloc zN.out.size _⟩
      case measure=>simp[intOf];omega
  ·obtain rfl:k=n+1:=by omega
   have HE:=Lib.hid (show(⟨#[]⟩,0,11)=fK l (l.length+1) s by rw[<-HR.out,HN.out,Nat.sub_self];rfl)
   go_wp2_with fail
   go_ret3
   exact oy.mk HE.out HB.out rfl
abbrev kA (v:Value) (l:List Nm):HP:=SL 75 3 Nm.cells v l
theorem B5:(prog.info? 75).map (fun i=>(i.zero,i.size,i.bytes))=some (some (Value.agg #[.string ⟨#[]⟩,.string ⟨#[]⟩,.int .i64 0]),3,40):=by kernel_rfl
theorem Mp(x:Nm):x.cells.all Value.oneCell'=true:=rfl
section
variable (w0:World) (L R R2:List HP) (b off:Nat) (cs:List Value) (T:TypeId) (v:Value) (l:List Nm) (s:ak) (x:Nm)
theorem U_(hp:bF L (bI b (.cells cs.toArray T (0,0))) R)(hq:bF R (kA v l) R2)(hc:cs[off]? =some v)(hl:l.length<1000000)(hs:dH l):
 KE prog 148 #[.pointer (some ⟨b,off,none⟩),.string s] w0 L (fun u M=>u=.tuple #[.int .i64 (bK l s:Nat),.bool (eN l s (bK l s))]/\M=L):=fun w hw=>
 (nn b off cs.toArray T (0,0) v l s w w0 R2 (hw.fA hp hq) (by simpa using hc) hl (hs.mono s)).mono fun e w' ⟨k,hk,he,hb⟩=>by
  obtain rfl:=jS hk;exact⟨_,_,he,⟨rfl,rfl⟩,hw.aC hb,hb⟩
theorem sC(hp:bF L (bI b (.cells cs.toArray T (0,0))) R)(hq:bF R (kA v l) R2)(hc:cs[off]? =some v)(hl:l.length<1000000)(hs:dH l):
 KE prog 57 #[.pointer (some ⟨b,off,none⟩),.string s] w0 L (fun u M=>u=.bool (fb l s)/\M=L):=fun w hw=>
 (JU b off cs.toArray T v l s w w0 R2 (hw.fA hp hq) (by simpa using hc) (hs.mono s) hl).mono fun e w' ⟨he,hb⟩=>⟨_,_,he,⟨rfl,rfl⟩,hw.aC hb,hb⟩
theorem JB(hp:bF L (bI b (.cells cs.toArray T (0,0))) R)(hq:bF R (kA v l) R2)(hc:cs[off]? =some v)(hl:l.length<1000000)(hs:dH l):
 KE prog 144 #[.pointer (some ⟨b,off,none⟩),.string s] w0 L (fun u M=>u=.tuple #[.string (fK l (l.length+1) s).1,.int .i64 (fK l (l.length+1) s).2.1,cI 70 (fK l (l.length+1) s).2.2]/\M=L):=fun w hw=>
 (DO b off cs.toArray T v l s w w0 R2 (hw.fA hp hq) (by simpa using hc) hs.mono hl).mono fun e w' ⟨he,hb⟩=>⟨_,_,he,⟨rfl,rfl⟩,hw.aC hb,hb⟩
theorem Gf(hp:bF L (bI b (.cells cs.toArray T (0,0))) R)(hq:bF R (kA v l) R2)(hc:cs[off]? =some v)(h1:x.name.size<=maxLen)(h2:x.jz.size<=maxLen)(hl:l.length<=20)(hs:dH l):
 KC prog 170 #[.pointer (some ⟨b,off,none⟩),.agg x.cells.toArray] w0 L (fun u M=>u=cI 70 (cG l x)/\∃v',M=bI b (.cells (cs.set off v').toArray T (0,0))::kA v' (ew l x)::R2):=fun w hw=>
 (PB b off cs.toArray T v l x w w0 R2 (hw.fA hp hq) (by simpa using hc) h1 h2 (hs.mono _) hl).mono fun e w' ⟨he,v',aT⟩=>⟨_,_,he,⟨rfl,v',rfl⟩,by
  rw[List.setIfInBounds_toArray]at aT;exact aT⟩
end
theorem P4(w0:World)(L:List HP)(v:Value)(xs:List Nm)(k:Nat)(hk:k<xs.length)(hn:xs.length<1000000):
 KC prog 338 #[v,.int .i64 (k:Nat),.int .i64 ((k:Int)+1)] w0 (kA v xs::L) (fun v' L'=>L'=kA v' (xs.eraseIdx k)::L):=by
 refine KC.pre (fun w hw=>qw hw hk) ?_;rintro⟨g,cap,rfl⟩;refine KC.pre (fun w hw=>(gp hw).2.1) fun vf=>?_
 refine KC.mk (n:=33) func338 rfl ntmps338 aj ?_;refine oX ?_;refine oZ ?_;refine KO.len rfl underlying86 rfl ?_;refine KO.G8 (lo:=k) (hi:=k+1) (mx:=xs.length) rfl rfl rfl rfl underlying86 sizeOf75 rfl ae rfl ae ae ae rfl (fun q13=>?_);refine Z0 ?_;refine iX ?_;refine uK ?_;refine K.da rfl fx ?_;refine wq ?_;refine KO.len rfl underlying86 rfl ?_;refine V5 ?_;refine lK ?_;refine KO.Bv rfl rfl underlying86 sizeOf75 aP ae rfl ?_;refine lK ?_;refine KO.cutFrom (lo:=k+1) rfl rfl underlying86 sizeOf75 ae ae ae rfl ?_;refine KO.move (j:=k+1) rfl rfl rfl bF.head rfl vf underlying86 B5 (fun _=>rfl) Mp ae ae rfl ?_;refine lL ?_;refine Z1 ?_;refine KO.len rfl underlying86 rfl ?_;refine Z1 ?_;refine KO.G7 (lo:=k+(xs.length-(k+1))) (hi:=xs.length) rfl rfl rfl underlying86 sizeOf75 rfl rfl ae ae rfl ?_;refine KO.clear rfl rfl bF.head vf fx fx underlying86 B5 (fun _=>rfl) rfl rfl ?_;refine Fi ?_;refine iW ?_;refine KQ.bB rfl rfl (fun w' hs=>⟨_,_,rfl,rfl,?_⟩);have e:(List.take (k+(xs.length-(k+1))) (List.take k xs++List.drop (k+1) xs++List.drop (k+(xs.length-(k+1))) xs))=xs.eraseIdx k:=by
  rw[List.take_append_of_le_length fx,List.take_of_length_le fx,List.eraseIdx_eq_take_drop_succ]
 rw[e]at hs;exact hs
theorem P5(w0:World)(L R R2:List HP)(b off:Nat)(cs:List Value)(T:TypeId)(v:Value)(l:List Nm)(s:ak)(hp:bF L (bI b (.cells cs.toArray T (0,0))) R)(hq:bF R (kA v l) R2)(hc:cs[off]? =some v)(hl:l.length<1000000)(hs:dH l):
 KC prog 237 #[.pointer (some ⟨b,off,none⟩),.string s] w0 L (fun u M=>u=cI 70 (qh l s)/\∃v',M=bI b (.cells (cs.set off v').toArray T (0,0))::kA v' (jt l s)::R2):=by
 refine KC.perm (L':=bI b (.cells cs.toArray T (0,0))::kA v l::R2) (fun w hw=>hw.fA hp hq) ?_;have GH:=(au.1 hc).1;refine KC.mk (n:=27) func237 rfl ntmps237 aj ?_;refine Hu ?_;refine KO.ce (cp:=[]) rfl rfl rfl call148 rfl (U_ w0 _ _ _ b off cs T v l s .head .head hc hl hs) ?_;rintro v' L' ⟨rfl,rfl⟩;refine jR ?_;refine oV ?_;refine Z2 ?_;cases hh:eN l s (bK l s)with
 |false=>
  have e1:qh l s=7:=by unfold qh;rw[hh];rfl
  have e2:jt l s=l:=by unfold jt;rw[hh];rfl
  refine uJ ?_;refine rO ?_;refine KQ.bB rfl rfl (fun w' hs=>⟨_,_,rfl,⟨?_,v,rfl⟩,?_⟩)
  ·rw[e1];rfl
  ·rw[e2,List.gE hc];exact hs
 |true=>
  have e1:qh l s=0:=by unfold qh;rw[hh];rfl
  have e2:jt l s=l.eraseIdx (bK l s):=by unfold jt;rw[hh];rfl
  have hk:=ub hh;refine wm ?_;refine Z6 ?_;refine nD ?_;refine VI ?_;refine KO.db (i:=off) rfl rfl isAgg86 .head rfl hc rfl ?_;refine lK ?_;refine xc ?_;refine KO.cl (cp:=[]) rfl rfl rfl call338 rfl (KC.oN (.tail .head) (P4 w0 _ v l (bK l s) hk hl)) ?_;rintro v' L' rfl;refine KO.fact (fun _ hs=>aU hs) ?_;rintro⟨a',c',rfl,-⟩;refine kr ?_;refine VI ?_;refine KO.fX (i:=off) rfl rfl rfl aP (by exact sizeOf86) rfl (.tail .head) rfl GH ?_;refine pP ?_;refine KQ.bB rfl rfl (fun w' hs=>⟨_,_,rfl,⟨?_,.slice a' (l.eraseIdx (bK l s)).length c',rfl⟩,?_⟩)
  ·rw[e1];rfl
  ·rw[e2];exact hs
theorem JP(w0:World)(L:List HP)(v:Value)(xs:List Nm)(hs:∀w,St w0 L w->Src w Nm.cells v xs)(hn:xs.length<1000000):
 KE prog 266 #[v] w0 L (fun u M=>M=kA u xs::L):=by
 refine KE.mk (n:=8) func266 rfl ntmps266 aj ?_;intro w hw;obtain⟨a,cap,rfl,hn0,hc⟩:=hs w hw;refine zm ?_;cases a with
 |none=>
  obtain rfl:=hn0 rfl;refine Z8 ?_;refine KO.Zf rfl underlying86 rfl ?_;refine Ac ?_;refine zu ?_;refine KQ.bB rfl rfl (fun w' hs=>⟨_,_,rfl,rfl,cD (hw.aC hs.below),hs.below⟩)
 |some ad=>
  refine Z8 ?_;refine KO.Zf rfl underlying86 rfl ?_;refine rT ?_;refine dM ?_;refine KO.bs0 Nm.cells rfl underlying86 sizeOf75 rfl ?_;intro b5;refine Z1 ?_;refine KO.RA (z:=Value.agg #[.string ⟨#[]⟩,.string ⟨#[]⟩,.int .i64 0]) (sz:=3) (dI:=40) (ys:=xs) rfl rfl rfl .head (fun w' hs=>Src.ext ⟨some ad,cap,rfl,hn0,hc⟩ (Ext.bW hs.below)) underlying86 B5 rfl (fun _=>rfl) Mp fx ai rfl ?_;intro v';refine iW ?_;refine KQ.bB rfl rfl (fun w' hs=>⟨_,_,rfl,rfl,?_,hs.below⟩);rw[List.nil_append]at hs;exact hw.stack (M:=[kA v' xs]) hs
theorem TR(w0:World)(L R R2:List HP)(b off:Nat)(cs:List Value)(T:TypeId)(v:Value)(l:List Nm)(hp:bF L (bI b (.cells cs.toArray T (0,0))) R)(hq:bF R (kA v l) R2)(hc:cs[off]? =some v)(hl:l.length<1000000):
 KE prog 169 #[.pointer (some ⟨b,off,none⟩)] w0 L (fun u M=>M=kA u l::L):=by
 refine KE.mk (n:=8) func169 rfl ntmps169 aj ?_;intro w hw;have h_:w.cell? ⟨b,off,none⟩=some v:=by rw[World.cell?,(hw.oD hp).2];simpa using hc
 have Ul:=Src.of hq w (hw.pick hp).drop;refine oX ?_;refine kr ?_;refine VI ?_;refine KO.qM rfl rfl isAgg86 h_ rfl ?_;refine KO.ce (cp:=[]) rfl rfl rfl call266 rfl (JP w _ v l (fun w' hs=>Ul.ext (Ext.bW hs.below)) hl) ?_;rintro v' L' rfl;refine iW ?_;refine KQ.bB rfl rfl (fun w' hs=>⟨_,_,rfl,rfl,hw.stack (M:=[kA _ l]) hs,hs.below⟩)
end Go.Proofs.YtjhogocabcdjbabGreatDoor
namespace WB
open Go Go.RowKit
theorem iD{c:UInt8}{a:ak}(ha:oO c a)(r:ak):di c (a++b_ c++r)=a::di c r:=by
 unfold di b_;rw[show(a++⟨#[c]⟩++r).data.toList=a.data.toList++c::r.data.toList by simp,n4 _ ha];rfl
theorem j9{c:UInt8}{a:ak}(ha:oO c a):di c a=[a]:=by
 unfold di;rw[l9 ha];rfl
theorem PU{c:UInt8}{s p:ak}(h:p∈di c s):oO c p:=by
 unfold di at h;obtain⟨q,hq,rfl⟩:=ay.1 h;exact fun b hb=>n0 c _ q hq b (by rw[E7]at hb;exact hb)
theorem fp{c:UInt8}(n:Int)(h:c.toNat≠45/\(c.toNat<48\/57<c.toNat)):oO c (bP n):=fun b hb e=>by
 subst e;have :=yw b hb;omega
theorem pL(n:Int):oO 124 (bP n):=fp n ai
theorem xN(k:Int)(s:ak):dA k s=bP k++b_ 124++(s++b_ 124++bP (vI (jd k s))):=by
 unfold dA;rw[show jd k s=bP k++b_ 124++s from rfl];simp only[ByteArray.append_assoc]
theorem rm{k:Int}{s:ak}(h:oO 124 s):gd k (dA k s)=some s:=by
 unfold gd;have :di 124 (dA k s)=[bP k,s,bP (vI (jd k s))]:=by
  rw[xN,iD (pL k),iD h,j9 (pL _)]
 rw[this];simp
theorem Gd{k:Int}{t w:ak}(h:gd k t=some w):dA k w=t/\oO 124 w:=by
 unfold gd at h;split at h
 ·rename_i a b c e;split at h
  ·rename_i e2;simp only[az]at h;subst h;exact⟨e2,PU (s:=t) (by rw[e];simp)⟩
  ·cases h
 ·cases h
theorem x9{k:Int}{s:ak}{i:Nat}(h:oO 124 s)(hi:i<(dA k s).size):gd k ((dA k s).extract 0 i)=none:=by
 cases ho:gd k ((dA k s).extract 0 i)with
 |none=>rfl
 |some w=>
  obtain⟨h1,h2⟩:=Gd ho;have e1:dA k s=dA k w++(dA k s).extract i (dA k s).size:=by
   rw[h1];generalize dA k s=u at hi;rw[ByteArray.extract_append_extract,Nat.min_eq_left (aV _),Nat.max_eq_right ae,ByteArray.extract_zero_size]
  have p1:di 124 (dA k s)=[bP k,s,bP (vI (jd k s))]:=by
   rw[xN,iD (pL k),iD h,j9 (pL _)]
  have p2:∃r,di 124 (dA k s)=bP k::w::r:=by
   rw[e1,xN k w];rw[show bP k++b_ 124++(w++b_ 124++bP (vI (jd k w)))++(dA k s).extract i (dA k s).size=bP k++b_ 124++(w++b_ 124++(bP (vI (jd k w))++(dA k s).extract i (dA k s).size))by simp only[ByteArray.append_assoc]];exact⟨_,by rw[iD (pL k),iD h2]⟩
  obtain⟨r,p2⟩:=p2;rw[p1]at p2;simp only[List.cons.injEq,true_and]at p2;have hw:w=s:=p2.1.symm;subst hw;have :=congrArg ByteArray.size h1;simp at this;omega
theorem JL(k:Int):gd k ⟨#[]⟩=none:=by
 unfold gd;rw[show di 124 ⟨#[]⟩=[⟨#[]⟩]from j9 (fun b hb=>by simp at hb)]
theorem q9(k:Int)(s:ak):0<(dA k s).size:=by
 have h1:(b_ 124).size=1:=rfl;unfold dA;simp only[aQ];omega
theorem sg{k:Int}{s:ak}(hk:ob k)(hs:s.size<=700000):(dA k s).size<=700100:=by
 have h1:(b_ 124).size=1:=rfl;have h2:=xF (jd k s);have h3:=cv (n:=vI (jd k s)) ⟨by omega,by omega⟩;have h4:=cv hk;have h5:(jd k s).size<=700022:=by unfold jd;simp only[aQ];omega
 unfold dA;simp only[aQ];omega
theorem Et{c:UInt8}(r:List UInt8):∀{l:List UInt8},(∀b∈l,b≠c)->Lib.indexByte (l++c::r) c=(l.length:Nat)
 |[],_=>by simp[Lib.indexByte]
 |b::l,h=>by
  rw[bz];unfold Lib.indexByte;rw[Et r fun x hx=>h x wF];simp[h b aj]
theorem cutB_hit{c:UInt8}{a:ak}(ha:oO c a)(r:ak):cX c (a++b_ c++r)=(a,r,true):=by
 have e:Lib.cut (a++b_ c++r).data.toList [c]=(a.data.toList,r.data.toList,true):=by
  unfold Lib.cut b_;rw[Lib.index_one,show(a++⟨#[c]⟩++r).data.toList=a.data.toList++c::r.data.toList by simp,Et _ ha,if_pos ae];rw[aE,List.take_left,List.length_singleton,<-List.drop_drop,List.drop_left];rfl
 unfold cX;rw[e];rfl
def bZ {α β:Type} (f:α->β->HP) (ps:List α) (xs:List β):HP:=gH (List.zipWith f ps xs)
section
variable {α β:Type} {f:α->β->HP} {w0 w:World} {L:List HP} {ps:List α} {xs:List β} {p:α} {x:β} {i:Nat}
theorem so{A:HP}:∀(l r:List HP),bF (l++A::r) A (l++r)
 |[],_=>.head
 |_::l,r=>.tail (so l r)
theorem EZ(h:St w0 (bZ f ps xs::L) w):St w0 (List.zipWith f ps xs++L) w:=h.splits
theorem uu(h:St w0 (List.zipWith f ps xs++L) w):St w0 (bZ f ps xs::L) w:=h.Em
theorem An(hp:ps[i]? =some p)(hx:xs[i]? =some x):List.zipWith f ps xs=List.zipWith f (ps.take i) (xs.take i)++f p x::List.zipWith f (ps.drop (i+1)) (xs.drop (i+1)):=by
 obtain⟨h1,rfl⟩:=au.1 hp;obtain⟨h2,rfl⟩:=au.1 hx;have e1:ps=ps.take i++ps[i]::ps.drop (i+1):=by rw[<-List.drop_eq_getElem_cons h1,List.take_append_drop]
 have e2:xs=xs.take i++xs[i]::xs.drop (i+1):=by rw[<-List.drop_eq_getElem_cons h2,List.take_append_drop]
 conv=>lhs;rw[e1,e2]
 rw[List.zipWith_append fx];rfl
theorem Ao(hp:i<ps.length)(hx:i<xs.length):List.zipWith f (ps.eraseIdx i) (xs.eraseIdx i)=List.zipWith f (ps.take i) (xs.take i)++List.zipWith f (ps.drop (i+1)) (xs.drop (i+1)):=by
 rw[List.eraseIdx_eq_take_drop_succ,List.eraseIdx_eq_take_drop_succ,List.zipWith_append fx]
theorem dj(hp:ps[i]? =some p)(hx:xs[i]? =some x)(h:St w0 (bZ f ps xs::L) w):St w0 (f p x::bZ f (ps.eraseIdx i) (xs.eraseIdx i)::L) w:=by
 have h1:=EZ h;rw[An hp hx,aL,bz]at h1;have h2:=h1.pick (so _ _);rw[<-aL,<-Ao (au.1 hp).1 (au.1 hx).1]at h2;exact h2.jl fun _ hh=>fS (fun _ h=>h) (fun _ h=>dJ.1 h) hh
theorem ic(hp:i<ps.length)(hx:i<xs.length)(h:St w0 (f p x::bZ f (ps.eraseIdx i) (xs.eraseIdx i)::L) w):St w0 (bZ f (ps.set i p) (xs.set i x)::L) w:=by
 have h1:St w0 (f p x::(List.zipWith f (ps.eraseIdx i) (xs.eraseIdx i)++L)) w:=h.jl fun _ hh=>fS (fun _ h=>h) (fun _ h=>dJ.2 h) hh
 refine uu ?_;rw[An (p:=p) (x:=x) (i:=i) (by rw[List.getElem?_set_self hp]) (by rw[List.getElem?_set_self hx]),aL,bz];refine St.xA ?_ (so _ _);rw[<-aL];rw[Ao hp hx]at h1;simpa[List.take_set_of_le,List.drop_set_of_lt]using h1
theorem w6(hp:ps[i]? =some p)(hx:i<xs.length)(h:St w0 (f p x::bZ f (ps.eraseIdx i) (xs.eraseIdx i)::L) w):St w0 (bZ f ps (xs.set i x)::L) w:=by
 have h1:=ic (au.1 hp).1 hx h;have e:ps.set i p=ps:=by obtain⟨h2,rfl⟩:=au.1 hp;exact List.set_getElem_self h2
 rwa [e]at h1
theorem km(hp:ps[i]? =some p)(hx:xs[i]? =some x)(h:St w0 (f p x::bZ f (ps.eraseIdx i) (xs.eraseIdx i)::L) w):St w0 (bZ f ps xs::L) w:=by
 have h1:=w6 hp (au.1 hx).1 h;have e:xs.set i x=xs:=by obtain⟨h2,rfl⟩:=au.1 hx;exact List.set_getElem_self h2
 rwa [e]at h1
theorem yT(hl:ps.length=xs.length)(h:St w0 (f p x::bZ f ps xs::L) w):St w0 (bZ f (ps++[p]) (xs++[x])::L) w:=by
 have h1:St w0 (f p x::(List.zipWith f ps xs++L)) w:=h.jl fun _ hh=>fS (fun _ h=>h) (fun _ h=>dJ.2 h) hh
 refine uu ?_;rw[List.zipWith_append hl,aL];exact St.xA h1 (so _ _)
theorem Rh(h:St w0 L w):St w0 (bZ f [] []::L) w:=h.Zg
end
structure ox where
 aO:List (Ms×Int)
 bf:List (Int×ak)
instance:Inhabited ox:=⟨⟨[],[]⟩⟩
structure Ho where
 id:Int
 used:Nat
 down:Bool
 cZ:Int
 next:Int
 names:List Nm
 aK:List (ak×Qu)
 ways:List Qu
 aA:List ox
 batch:List (List Int)
 cg:List Int
 aM:List Int
namespace Ho
abbrev all (H:Ho):List Qu:=H.ways++H.aK.map (·.2)
def qI (H:Ho) (s:ak):Option Nat:=H.aK.findIdx? fun x=>decide (x.1=s)
def dP (H:Ho) (i:Nat):Qu:=(H.aK.getD i (⟨#[]⟩,default)).2
def eP (H:Ho) (i:Nat) (q:Qu):Ho:={H with aK:=H.aK.set i ((H.aK.getD i (⟨#[]⟩,default)).1,q)}
def iq (H:Ho) (j:Nat):Qu:=H.ways.getD j default
def iI (H:Ho) (j:Nat) (q:Qu):Ho:={H with ways:=H.ways.set j q}
def fa (H:Ho) (u:Nat):ox:=H.aA.getD u default
end Ho
structure HoX (n:Nat) (b:List (List Int)) (s a:List Int):Prop where
 Ta:∀l∈b,l.length<=100000
 Ws:∀x∈s,0<=x/\x<=(n:Int)
 arr:∀x∈a,0<=x/\x<=(n:Int)
theorem HoX.le{n k:Nat}{b:List (List Int)}{s a:List Int}(h:HoX n b s a)(hk:n<=k):HoX k b s a:=⟨h.Ta,fun x hx=>by have :=h.Ws x hx;omega,fun x hx=>by have :=h.arr x hx;omega⟩
structure cF (n:Nat) (H:Ho):Prop where
 id:0<=H.id/\H.id<4
 used:H.used<=300
 next:0<=H.next/\H.next<=274877906945
 sorted:dH H.names
 lS:H.names.length<=20
 mB:H.aK.length<=n
 qs:∀q∈H.all,QB n q
 nodup:(H.aK.map (·.1)).Nodup
 ways:H.ways.length=4
 aA:H.aA.length=5
 batch:H.batch.length=4
 cg:H.cg.length=4
 aM:H.aM.length=4
 right:∀x∈H.names,cc x=true
 loc:∀x∈H.names,x.jz=⟨#[]⟩->∃i,H.qI x.name=some i
 ext:HoX n H.batch H.cg H.aM
def eT (H:Ho):Int:=if H.down=true then 6 else if 300<=H.used then 4 else 0
def dV (H:Ho) (D:Dk):Int:=if eT H≠0 then eT H else kK D
def dD (H:Ho) (D:Dk):Ho:=if eT H≠0 then H else if kK D≠0 then {H with down:=true}else {H with used:=H.used+1}
def fY (H:Ho) (D:Dk) (s:ak):Dk:=if eT H≠0 then D else dG D H.used (dA H.used s) H.cZ
def iL (H:Ho) (x:Nm):Ho:=
 if cG H.names x=0 then {H with names:=ew H.names x,aK:=if x.jz=⟨#[]⟩/\H.qI x.name=none then H.aK++[(x.name,⟨[],0⟩)]else H.aK}else H
def Ex (H:Ho) (x:Nm):Int:=cG H.names x
def sO (H:Ho) (s:ak):Ho:={H with names:=jt H.names s}
def yG (H:Ho) (s:ak):Int:=qh H.names s
def fC (H:Ho) (m:Ms):Option Ho:=
 let H1:={H with next:=max H.next (m.id/4+1)}
 if m.ck≠H.id then some (H1.iI m.ck.toNat (cP (H.iq m.ck.toNat) m (-1)))else match H.qI m.queue with
  |none=>none
  |some i=>some (H1.eP i (cP (H.dP i) m (-1)))
def eW:Ho->List Ms->Ho×Bool
 |H,[]=>(H,true)
 |H,m::r=>match fC H m with
  |some H1=>eW H1 r
  |none=>({H with next:=max H.next (m.id/4+1)},false)
def gN (H:Ho) (s:ak):Option Ho:=match ep (cX 32 s).1 with
 |none=>none
 |some n=>match H.qI (cX 32 s).2.1 with
  |none=>none
  |some i=>if jH (H.dP i) n=0 then some (H.eP i (eM (H.dP i) n))else none
def gk:Ho->List ak->Ho×Bool
 |H,[]=>(H,true)
 |H,s::r=>match gN H s with
  |some H1=>gk H1 r
  |none=>(H,false)
def eI (H:Ho) (s:ak):Ho×Bool:=
 if(cX 47 s).2.2=false then(H,false)else match rn (cX 47 s).1 with
 |none=>(H,false)
 |some l=>
  if(eW H l).2=false then(eW H l).1|>fun H1=>(H1,false)else
  if(cX 47 s).2.1=⟨#[]⟩then((eW H l).1,true)else gk (eW H l).1 (di 43 (cX 47 s).2.1)
def dash (s:ak):ak:=toB (Lib.trimPrefix s.data.toList [45])
def rr (s:ak):Option Nm:=match di 32 s with
 |[a,b,c]=>(ep c).map fun k=>⟨a,dash b,k⟩
 |_=>none
def oE (s:ak):Option (List Int):=(di 32 s).mapM ep
def cb (H:Ho) (k:Int):Bool:=decide (0<=k/\k<4/\k≠H.id)
def cn (H:Ho) (j:Nat):List Int:=H.batch.getD j []
def dz (H:Ho) (j:Nat):Int:=H.cg.getD j 0
def dc (H:Ho) (j:Nat):Int:=H.aM.getD j 0
def gM (H:Ho) (s:ak):Ho×Bool:=match oE s with
 |some (k::a::r)=>if cb H k=true then({H with batch:=H.batch.set k.toNat (a::r),cg:=H.cg.set k.toNat (dz H k.toNat+1)},true)else(H,false)
 |_=>(H,false)
def dF (q:Qu) (l:List Int):Qu:=l.foldl eM q
def eG (H:Ho) (s:ak):Ho×Bool:=match oE s with
 |some [k]=>if cb H k=true then({H.iI k.toNat (dF (H.iq k.toNat) (cn H k.toNat))with batch:=H.batch.set k.toNat []},true)else(H,false)
 |_=>(H,false)
def dS:Ho->List (Ms×ak)->Ho×Bool
 |H,[]=>(H,true)
 |H,(m,t)::r=>match H.qI t with
  |none=>(H,false)
  |some i=>dS (H.eP i (cP (H.dP i) m (-1))) r
def gO (H:Ho) (s:ak):Ho×Bool:=match di 47 s with
 |[a,b,c]=>match ep a,rn b with
  |some k,some l=>if cb H k=true then
   (if(dS H (l.zip (di 43 c))).2=true then({(dS H (l.zip (di 43 c))).1 with aM:=H.aM.set k.toNat (dc H k.toNat+1)},true)else((dS H (l.zip (di 43 c))).1,false))
   else(H,false)
  |_,_=>(H,false)
 |_=>(H,false)
def bY (H:Ho) (s:ak):Ho×Bool:=
 if(cX 58 s).1=b_ 110 then match rr (cX 58 s).2.1 with
  |none=>(H,false)
  |some x=>(iL H x,decide (Ex H x=0))
 else if(cX 58 s).1=b_ 100 then(sO H (cX 58 s).2.1,decide (yG H (cX 58 s).2.1=0))
 else if(cX 58 s).1=b_ 117 then eI H (cX 58 s).2.1
 else if(cX 58 s).1=b_ 98 then gM H (cX 58 s).2.1
 else if(cX 58 s).1=b_ 97 then eG H (cX 58 s).2.1
 else if(cX 58 s).1=b_ 114 then gO H (cX 58 s).2.1
 else(H,false)
def rq (qs:List (ak×Qu)) (ps:List Nat):List (ak×Value):=List.zipWith (fun x p=>(x.1,Value.pointer (some ⟨p,0,none⟩))) qs ps
theorem sA:∀(qs:List (ak×Qu)) (ps:List Nat) (s:ak),ps.length=qs.length->
 en (rq qs ps) s=(qs.findIdx? fun x=>decide (x.1=s)).bind fun i=>(ps[i]?).map fun p=>Value.pointer (some ⟨p,0,none⟩)
 |[],[],_,_=>rfl
 |x::qs,p::ps,s,h=>by
  have ih:=sA qs ps s H4;unfold rq at *;rw[List.zipWith_cons_cons,en,List.findIdx?_cons];by_cases e:x.1=s
  ·simp[e]
  ·simp only[e,decide_false,if_false];rw[ih];cases List.findIdx? (fun x=>decide (x.1=s)) qs<;>simp
theorem Ej:∀(qs:List (ak×Qu)) (ps:List Nat) (s:ak) (q:Qu) (p:Nat),ps.length=qs.length->(qs.findIdx? fun x=>decide (x.1=s))=none->
 fL (rq qs ps) s (Value.pointer (some ⟨p,0,none⟩))=rq (qs++[(s,q)]) (ps++[p])
 |[],[],_,_,_,_,_=>rfl
 |x::qs,p'::ps,s,q,p,h,h2=>by
  rw[List.findIdx?_cons]at h2;by_cases e:x.1=s
  ·simp[e]at h2
  ·simp only[e,decide_false,Bool.false_eq_true,if_false]at h2;have ih:=Ej qs ps s q p H4 Xi;unfold rq at *;simp only[bz,List.zipWith_cons_cons];rw[fL];simp only[e,if_false];rw[ih]
theorem sh{H:Ho}(h:eT H=0):H.down=false/\H.used<300:=by
 unfold eT at h;split at h
 ·cases h
 ·rename_i h1;split at h
  ·cases h
  ·exact⟨by simpa using h1,by omega⟩
theorem AB{l:List Nm}{x:Nm}(h:cG l x≠0):ew l x=l:=by
 unfold cG at h;unfold ew;split
 ·rfl
 ·rename_i h1;rw[if_neg h1]at h;split
  ·rename_i h2;rw[if_pos h2]at h;exact absurd rfl h
  ·rename_i h2;rw[if_neg h2]at h;split
   ·rfl
   ·rename_i h3;rw[if_neg h3]at h;exact absurd rfl h
def Wt (T:TypeId) (v:Value) (l:List Int):HP:=ex fun c:Option (Nat×Nat×List Value×Nat)=>match c with
 |none=>JF (v=.slice none 0 0/\l=[])
 |some (g,off,cs,cap)=>sep (JF (v=.slice (some ⟨g,off,none⟩) l.length cap/\∀(i:Nat) x,l[i]? =some x->cs[off+i]? =some (Value.int .i64 x))) (bI g (.cells cs.toArray T (0,0)))
section
variable {w0 w:World} {L:List HP} {T:TypeId} {v:Value} {l:List Int}
theorem Im(h:St w0 L w):St w0 (Wt T (.slice none 0 0) []::L) w:=St.zZ none (St.vN ⟨rfl,rfl⟩ h)
theorem L3{g off cap:Nat}{cs:List Value}(hc:∀(i:Nat) x,l[i]? =some x->cs[off+i]? =some (Value.int .i64 x))(h:St w0 (bI g (.cells cs.toArray T (0,0))::L) w):St w0 (Wt T (.slice (some ⟨g,off,none⟩) l.length cap) l::L) w:=
 St.zZ (some (g,off,cs,cap)) (St.join (St.vN ⟨rfl,hc⟩ h))
theorem pw(h:St w0 (Wt T v l::L) w):∃a cap,v=.slice a l.length cap:=by
 obtain⟨c,h⟩:=h.Bp
 match c,h with
 |none,h=>obtain⟨⟨rfl,rfl⟩,_⟩:=h.rf;exact⟨none,0,rfl⟩
 |some (g,off,cs,cap),h=>obtain⟨⟨rfl,_⟩,_⟩:=h.split.rf;exact⟨_,_,rfl⟩
theorem TC(h:St w0 (Wt T v l::L) w):vE w 1 (fun x=>[Value.int .i64 x]) v l:=by
 obtain⟨c,h⟩:=h.Bp
 match c,h with
 |none,h=>obtain⟨⟨rfl,rfl⟩,_⟩:=h.rf;exact⟨none,0,rfl,fun i x hx=>by simp at hx⟩
 |some (g,off,cs,cap),h=>
  obtain⟨⟨hv,hc⟩,h'⟩:=h.split.rf;subst hv;refine⟨_,_,rfl,fun i x hx=>⟨_,rfl,fun j c hj=>?_⟩⟩;have hj0:j=0:=by
   rcases j with _|j
   ·rfl
   ·simp at hj
  subst hj0;simp only[List.getElem?_cons_zero,az]at hj;subst hj;have :=hc i x hx;have h2:w.cell? ⟨g,off+i,none⟩=some (.int .i64 x):=by rw[World.cell?,h'.look.2];simpa using this
  rw[Addr.add_lit,Addr.add_lit];simpa using h2
end
end WB
namespace Go.Proofs.YtjhogocabcdjbabGreatDoor
open Tryz
open Go Go.RowKit WB
def bp (p:Nat):Value:=.pointer (some ⟨p,0,none⟩)
def BZ (x:Ms×Int):List Value:=[.int .i64 x.1.id,.int .i64 x.1.pri,.string x.1.body,.string x.1.queue,.int .i64 x.1.ck,.int .i64 x.2]
def jO (x:Int):List Value:=[.int .i64 x]
def Cw (x:Int×ak):List Value:=[.int .i64 x.1,.string x.2]
def cY (v:Value) (l:List (Ms×Int)):HP:=SL 142 6 BZ v l
def cV (v:Value) (l:List (Int×ak)):HP:=SL 146 2 Cw v l
def dL (v:Value) (l:List Int):HP:=Wt 3 v l
structure r5 where
 nv:Value
 mb:Nat
 ps:List Nat
 us:List (Value×Value)
 bs:List Value
structure iN (V:r5) (H:Ho):Prop where
 ps:V.ps.length=4+H.aK.length
 us:V.us.length=5
 bs:V.bs.length=4
 ways:H.ways.length=4
 aA:H.aA.length=5
 batch:H.batch.length=4
 cg:H.cg.length=4
 aM:H.aM.length=4
def eK (bd:Nat) (V:r5) (H:Ho):List Value:=
 .int .i64 H.id::bp bd::.int .i64 (H.used:Nat)::.bool H.down::.int .i64 H.cZ::.int .i64 H.next::V.nv::.map (some V.mb)::
  ((V.ps.take 4).map bp++(V.us.flatMap (fun p=>[p.1,p.2])++(V.bs++(H.cg.map (Value.int .i64)++H.aM.map (Value.int .i64)))))
abbrev dq (V:r5) (H:Ho):List (ak×Value):=rq H.aK (V.ps.drop 4)
abbrev zF (bh bd:Nat) (V:r5) (H:Ho) (L:List HP):List HP:=
 bI bh (.cells (eK bd V H).toArray 133 (0,0))::kA V.nv H.names::bV Value.string V.mb (dq V H)::bZ iP V.ps H.all::bZ cY (V.us.map (·.1)) (H.aA.map (·.aO))::bZ cV (V.us.map (·.2)) (H.aA.map (·.bf))::bZ dL V.bs H.batch::L
def dy (bh bd:Nat) (H:Ho):HP:=ex fun V:r5=>sep (JF (iN V H)) (gH (zF bh bd V H []))
theorem cx{w0 w:World}{bh bd:Nat}{H:Ho}{L:List HP}(h:St w0 (dy bh bd H::L) w):∃V:{V:r5//iN V H},St w0 (zF bh bd V.1 H L) w:=by
 obtain⟨V,h⟩:=h.Bp;obtain⟨hV,h⟩:=h.split.rf;exact⟨⟨V,hV⟩,by have :=h.splits;exact this⟩
theorem bR{w0 w:World}{bh bd:Nat}{H:Ho}{L:List HP}(V:r5)(hV:iN V H)(h:St w0 (zF bh bd V H L) w):St w0 (dy bh bd H::L) w:=
 St.zZ (F:=fun V=>sep (JF (iN V H)) (gH (zF bh bd V H []))) V (St.join (St.vN hV (St.Em (L:=zF bh bd V H []) h)))
theorem nd{w0 w:World}{bh bd:Nat}{H:Ho}{L R:List HP}(h:St w0 L w)(hp:bF L (dy bh bd H) R):
 ∃V,iN V H/\∀i v,(eK bd V H)[i]? =some v->w.cell? ⟨bh,i,none⟩=some v:=by
 obtain⟨V,h1⟩:=cx (h.pick hp);refine⟨V.1,V.2,fun i v hv=>?_⟩;rw[World.cell?,h1.look.2];simpa using hv
theorem qe{bd:Nat}{V:r5}{H:Ho}(h:iN V H):(eK bd V H).length=34:=by
 have e:(V.us.flatMap (fun p=>[p.1,p.2])).length=10:=by
  have :∀l:List (Value×Value),(l.flatMap (fun p=>[p.1,p.2])).length=2*l.length:=fun l=>by
   induction l with
   |nil=>rfl
   |cons a l ih=>rw[aR,aX,ih];simp;omega
  rw[this,h.us]
 simp[eK,h.ps,h.bs,h.cg,h.aM,e]
theorem TB(w0:World)(L R:List HP)(bh bd:Nat)(H:Ho)(hp:bF L (dy bh bd H) R):KE prog 155 #[bp bh] w0 L (fun u M=>u=cI 70 (eT H)/\M=L):=by
 refine KE.mk (n:=16) func155 rfl ntmps155 aj ?_;intro w hw;obtain⟨V,hV,hc⟩:=nd hw hp;have hc3:=hc 3 _ rfl;have lg:=hc 2 _ rfl;refine rN ?_;refine N8 ?_;cases hd:H.down with
 |true=>
  rw[hd]at hc3;refine Z8 ?_;refine VA ?_;refine Z7 ?_;refine Ac ?_;refine wz ?_;refine KQ.bB rfl rfl (fun w' hs=>⟨_,_,rfl,⟨?_,rfl⟩,hw.aC hs.below,hs.below⟩);unfold eT;rw[hd];rfl
 |false=>
  rw[hd]at hc3;refine Z8 ?_;refine VA ?_;refine Z7 ?_;refine Hj ?_;refine Z3 ?_;refine lq ?_;refine RP ?_;refine KO.qM rfl rfl isAgg3 lg rfl ?_;refine vD ?_;refine qE ?_;refine K.br rfl (fun h5=>?_) (fun h5=>?_)
  ·refine wz ?_;refine KQ.bB rfl rfl (fun w' hs=>⟨_,_,rfl,⟨?_,rfl⟩,hw.aC hs.below,hs.below⟩);unfold eT;rw[hd,if_neg aj,if_pos ae];rfl
  ·refine Vv ?_;refine C4 ?_;refine KQ.bB rfl rfl (fun w' hs=>⟨_,_,rfl,⟨?_,rfl⟩,hw.aC hs.below,hs.below⟩);unfold eT;rw[hd,if_neg aj,if_neg ae];rfl
theorem Un(w0:World)(L:List HP)(bh bd:Nat)(H:Ho)(x:Nm)(h1:x.name.size<=maxLen)(h2:x.jz.size<=maxLen)(hl:H.names.length<=20)(hs:dH H.names):
 KC prog 137 #[bp bh,.agg x.cells.toArray] w0 (dy bh bd H::L) (fun u M=>u=cI 70 (Ex H x)/\M=dy bh bd (iL H x)::L):=by
 obtain⟨xn,xt,xh⟩:=x;dsimp only at h1 h2;refine KC.mk (n:=35) func137 rfl ntmps137 aj ?_;refine oW ?_;refine K.cq (fun _ h=>cx h) ?_;rintro⟨V,hV⟩;dsimp only;have oS:=hV.ps;refine dM ?_;refine KO.box rfl rfl aP rfl ?_;intro b3;refine kE ?_;refine K.draw [.pure,.pure,.pure,.read,.write,.pure] [0,1,2,3,4,5] bC bC ?_;refine lq ?_;refine RB ?_;refine VC ?_;refine KO.cl (cp:=[]) rfl rfl rfl call170 rfl (Gf w0 _ _ _ bh 6 (eK bd V H) 133 V.nv H.names ⟨xn,xt,xh⟩ bn bn rfl h1 h2 hl hs) ?_;rintro v' L' ⟨rfl,v2,rfl⟩;rw[show(eK bd V H).set 6 v2=eK bd {V with nv:=v2} H from rfl];refine wC ?_;refine K.br rfl (fun h=>?_) (fun h=>?_)
 ·refine Fp ?_;refine KQ.bB rfl rfl (fun w' aT=>⟨_,_,rfl,⟨rfl,rfl⟩,?_⟩);rw[show iL H ⟨xn,xt,xh⟩=H from if_neg h];rw[AB h]at aT;exact bR {V with nv:=v2} ⟨hV.ps,hV.us,hV.bs,hV.ways,hV.aA,hV.batch,hV.cg,hV.aM⟩ (aT.all Y1)
 have h0:cG H.names ⟨xn,xt,xh⟩=0:=by simpa using h
 have he:Ex H ⟨xn,xt,xh⟩=0:=h0;refine Z6 ?_;have sP:iN {V with nv:=v2} {H with names:=ew H.names ⟨xn,xt,xh⟩}:=⟨hV.ps,hV.us,hV.bs,hV.ways,hV.aA,hV.batch,hV.cg,hV.aM⟩;have M7:(V.ps.drop 4).length=H.aK.length:=by rw[bu,oS];omega
 by_cases hx:xt=⟨#[]⟩
 ·cases hq:H.qI xn with
  |none=>
   have hg:en (dq V H) xn=none:=by rw[sA _ _ _ M7,show H.aK.findIdx? (fun x=>decide (x.1=xn))=none from hq];rfl
   refine Wb ?_;refine s_ ?_;refine zo ?_;refine s9 ?_;refine Hm ?_;refine RU ?_;refine KO.on rfl rfl wF ?_;refine KO.db (i:=7) rfl rfl isAgg123 bQ rfl rfl rfl ?_;refine kF ?_;refine Oi ?_;refine kF ?_;refine s_ ?_;refine KO.on rfl rfl wF ?_;refine KO.Ek fI xn rfl rfl rfl underlying123 underlying9 zeroValue119 bn rfl ?_;rw[hg];refine KO.on rfl rfl wF ?_;refine KO.Rk rfl underlying119 rfl ?_;refine qY ?_;refine Ac ?_;refine K.draw [.pure,.pure,.pure,.read,.pure,.read,.pure,.c7,.write] [0,1,2,3,4,5,6,7,8] bC bC ?_;refine lq ?_;refine VL ?_;refine Oi ?_;refine s_ ?_;refine VX ?_;refine KO.box rfl rfl aP rfl ?_;intro Tb;refine KO.Tt fI xn rfl rfl rfl rfl underlying123 underlying9 bn ?_;refine pP ?_;refine KQ.bB rfl rfl (fun w' aT=>⟨_,_,rfl,⟨by rw[he];rfl,rfl⟩,?_⟩);rw[show iL H ⟨xn,xt,xh⟩={H with names:=ew H.names ⟨xn,xt,xh⟩,aK:=H.aK++[(xn,⟨[],0⟩)]}by unfold iL;rw[if_pos h0,if_pos ⟨hx,hq⟩]];have hm:=Ej H.aK (V.ps.drop 4) xn ⟨[],0⟩ Tb M7 hq;rw[hm]at aT;have oR:=cD (E:=243) (sz:=8) (cf:=lT) aT
   have Kb:St w0 (iP Tb ⟨[],0⟩::bZ iP V.ps H.all::bI bh (.cells (eK bd {V with nv:=v2} H).toArray 133 (0,0))::kA v2 (ew H.names ⟨xn,xt,xh⟩)::bV Value.string V.mb (rq (H.aK++[(xn,⟨[],0⟩)]) (V.ps.drop 4++[Tb]))::bZ cY (V.us.map (·.1)) (H.aA.map (·.aO))::bZ cV (V.us.map (·.2)) (H.aA.map (·.bf))::bZ dL V.bs H.batch::L) w':=
    jG (oR.all Y5)
   have X2:=yT (by rw[oS];simp[hV.ways]) Kb;have et:(V.ps++[Tb]).take 4=V.ps.take 4:=by rw[List.take_append_of_le_length ae]
   have ed:(V.ps++[Tb]).drop 4=V.ps.drop 4++[Tb]:=by rw[List.drop_append_of_le_length ae]
   have ea:H.all++[(⟨[],0⟩:Qu)]=H.ways++(H.aK++[(xn,(⟨[],0⟩:Qu))]).map (·.2):=by simp
   rw[ea]at X2;refine bR {V with nv:=v2,ps:=V.ps++[Tb]} ⟨by simp[oS];omega,hV.us,hV.bs,hV.ways,hV.aA,hV.batch,hV.cg,hV.aM⟩ ?_;have e1:eK bd {V with nv:=v2,ps:=V.ps++[Tb]} {H with names:=ew H.names ⟨xn,xt,xh⟩,aK:=H.aK++[(xn,⟨[],0⟩)]}=eK bd {V with nv:=v2} H:=by unfold eK;dsimp only;rw[et]
   unfold zF dq;rw[e1];dsimp only;rw[ed];exact X2.all Y3
  |some i=>
   have UC:i<H.aK.length:=(List.findIdx?_eq_some_iff_getElem.1 hq).1;obtain⟨p,hp⟩:∃p,(V.ps.drop 4)[i]? =some p:=⟨_,ao ae⟩;have hg:en (dq V H) xn=some (bp p):=by rw[sA _ _ _ M7,show H.aK.findIdx? (fun x=>decide (x.1=xn))=some i from hq];simp only[Option.bind_some,hp,Option.map_some];rfl
   refine Wb ?_;refine s_ ?_;refine zo ?_;refine s9 ?_;refine Hm ?_;refine RU ?_;refine KO.on rfl rfl wF ?_;refine KO.db (i:=7) rfl rfl isAgg123 bQ rfl rfl rfl ?_;refine kF ?_;refine Oi ?_;refine kF ?_;refine s_ ?_;refine KO.on rfl rfl wF ?_;refine KO.Ek fI xn rfl rfl rfl underlying123 underlying9 zeroValue119 bn rfl ?_;rw[hg];refine KO.on rfl rfl wF ?_;refine KO.yX rfl underlying119 rfl ?_;refine qY ?_;refine rT ?_;refine C4 ?_;refine KQ.bB rfl rfl (fun w' aT=>⟨_,_,rfl,⟨by rw[he];rfl,rfl⟩,?_⟩);rw[show iL H ⟨xn,xt,xh⟩={H with names:=ew H.names ⟨xn,xt,xh⟩}by unfold iL;rw[if_pos h0,if_neg (by rw[hq];simp)]];exact bR {V with nv:=v2} sP (aT.all Y5)
 ·refine Wb ?_;refine s_ ?_;refine zo ?_;refine Fo ?_;refine Tg ?_;refine wi ?_;refine Z2 ?_;refine K.da rfl wF ?_;refine Z6 ?_;refine C4 ?_;refine KQ.bB rfl rfl (fun w' aT=>⟨_,_,rfl,⟨by rw[he];rfl,rfl⟩,?_⟩);rw[show iL H ⟨xn,xt,xh⟩={H with names:=ew H.names ⟨xn,xt,xh⟩}by unfold iL;rw[if_pos h0,if_neg wF]];exact bR {V with nv:=v2} sP (aT.all Y5)
theorem QO(w0:World)(L:List HP)(bh bd:Nat)(H:Ho)(s:ak)(hl:H.names.length<=20)(hs:dH H.names):
 KC prog 139 #[bp bh,.string s] w0 (dy bh bd H::L) (fun u M=>u=cI 70 (yG H s)/\M=dy bh bd (sO H s)::L):=by
 refine KC.mk (n:=14) func139 rfl ntmps139 aj ?_;refine oW ?_;refine K.cq (fun _ h=>cx h) ?_;rintro⟨V,hV⟩;dsimp only;have fin:∀w' v2,St w0 (zF bh bd {V with nv:=v2} (sO H s) L) w'->St w0 (dy bh bd (sO H s)::L) w':=fun w' v2 h=>bR {V with nv:=v2} ⟨hV.ps,hV.us,hV.bs,hV.ways,hV.aA,hV.batch,hV.cg,hV.aM⟩ h
 refine dM ?_;refine uN ?_;refine RB ?_;refine Z1 ?_;refine KO.cl (cp:=[]) rfl rfl rfl call237 rfl (P5 w0 _ _ _ bh 6 (eK bd V H) 133 V.nv H.names s bQ bQ rfl ae hs) ?_;rintro v' L' ⟨rfl,v2,rfl⟩;rw[show(eK bd V H).set 6 v2=eK bd {V with nv:=v2} (sO H s)from rfl];refine wC ?_;refine K.br rfl (fun h=>?_) (fun h=>?_)
 ·refine Fp ?_;refine KQ.bB rfl rfl (fun w' aT=>⟨_,_,rfl,⟨rfl,rfl⟩,?_⟩);exact fin w' v2 (aT.all nI)
 ·refine Z6 ?_;refine C4 ?_;have he:yG H s=0:=by unfold yG;simpa using h
  refine KQ.bB rfl rfl (fun w' aT=>⟨_,_,rfl,⟨by rw[he];rfl,rfl⟩,?_⟩);exact fin w' v2 (aT.all nI)
theorem MA(w0:World)(L:List HP)(bh bd:Nat)(H:Ho)(D:Dk)(s:ak)(hT:o0 w0)(h3:D.places.length=300)(hd: -4000000000000000000<=D.left/\D.left<=9223372036854775807)(hs:s.size<=700000)(hu:H.used<=300):
 KC prog 61 #[bp bh,.string s] w0 (dy bh bd H::fv bd D::L) (fun u M=>u=cI 70 (dV H D)/\M=dy bh bd (dD H D)::fv bd (fY H D s)::L):=by
 refine KC.mk (n:=44) func61 rfl ntmps61 aj ?_;refine oX ?_;refine KO.ce (cp:=[]) rfl rfl rfl call155 rfl (TB w0 _ _ bh bd H .head) ?_;rintro v' L' ⟨rfl,rfl⟩;refine wC ?_;refine K.br rfl (fun h=>?_) (fun h=>?_)
 ·refine Fp ?_;refine KQ.bB rfl rfl (fun w' aT=>⟨_,_,rfl,⟨?_,rfl⟩,?_⟩)
  ·unfold dV;rw[if_pos h]
  ·unfold dD fY;rw[if_pos h,if_pos h];exact aT
 have h0:eT H=0:=by simpa using h
 have hr:=sh h0;have dr:(dA (H.used:Nat) s).size<=1000000:=Nat.le_trans (sg ⟨by omega,by omega⟩ hs) ai;refine Z6 ?_;refine K.cq (fun _ h=>cx h) ?_;rintro⟨V,hV⟩;dsimp only;refine K.draw [.pure,.pure,.pure,.read,.pure,.pure,.pure,.read,.pure,.pure,.pure,.read,.pure,.c7,.pure,.pure,.pure,.read,.write,.pure] [0,1,2,3,4,5,6,7,8,9,10,11,12,14,15,16,17,13,18,19] bC bC ?_;refine lq ?_;refine KO.fw (off:=1) rfl runUnderlying133 rfl rfl sizeOf25 rfl ?_;refine KO.db (i:=1) rfl rfl isAgg25 bQ rfl rfl rfl ?_;refine lq ?_;refine W8 ?_;refine lq ?_;refine W8 ?_;refine rP ?_;refine KO.fw (off:=4) rfl runUnderlying133 rfl rfl sizeOf3 rfl ?_;refine KO.db (i:=4) rfl rfl isAgg3 bQ rfl rfl rfl ?_;refine KO.ce (cp:=[]) rfl rfl rfl call134 rfl (xM w0 _ (H.used:Nat) s ⟨by omega,by omega⟩ ae hT) ?_;rintro v' L' ⟨rfl,rfl⟩;refine KO.cl (cp:=[]) rfl rfl rfl call156 rfl (KC.oN bn (Pa w0 _ bd H.used D (dA (H.used:Nat) s) H.cZ h3 hr.2 hd ⟨q9 _ _,dr⟩)) ?_;rintro v' L' ⟨rfl,rfl⟩;refine wC ?_;refine K.br rfl (fun h2=>?_) (fun h2=>?_)
 ·refine Z3 ?_;refine lq ?_;refine KO.fw (off:=3) rfl runUnderlying133 rfl rfl sizeOf4 rfl ?_;refine KO.fX (i:=3) rfl rfl rfl aP (by exact sizeOf4) rfl bn rfl O8 ?_;rw[show(eK bd V H).set 3 (.bool true)=eK bd V {H with down:=true}from rfl];refine Fi ?_;refine qX ?_;refine KQ.bB rfl rfl (fun w' aT=>⟨_,_,rfl,⟨?_,rfl⟩,?_⟩)
  ·unfold dV;rw[if_neg h]
  ·unfold dD fY;rw[if_neg h,if_neg h,if_pos h2];exact bR V ⟨hV.ps,hV.us,hV.bs,hV.ways,hV.aA,hV.batch,hV.cg,hV.aM⟩ (aT.all Y7)
 ·refine Z6 ?_;refine kX ?_;refine RP ?_;refine KO.db (i:=2) rfl rfl isAgg3 bn rfl rfl rfl ?_;refine Ht ?_;refine RP ?_;refine KO.fX (i:=2) rfl rfl rfl aP zM rfl bn rfl O8 ?_;rw[show(eK bd V H).set 2 (.int .i64 ((H.used:Nat)+1:Int))=eK bd V {H with used:=H.used+1}from rfl];refine pP ?_;have U2:kK D=0:=by simpa using h2
  refine KQ.bB rfl rfl (fun w' aT=>⟨_,_,rfl,⟨?_,rfl⟩,?_⟩)
  ·unfold dV;rw[if_neg h,U2];rfl
  ·unfold dD fY;rw[if_neg h,if_neg h,if_neg h2];exact bR V ⟨hV.ps,hV.us,hV.bs,hV.ways,hV.aA,hV.batch,hV.cg,hV.aM⟩ (aT.all Y7)
end Go.Proofs.YtjhogocabcdjbabGreatDoor
namespace WB
open Go Go.RowKit
theorem KC.oK{P:Program}{f:FuncId}{args:Array Value}{w0:World}{L:List HP}{R R':Value->List HP->Prop}(h:KC P f args w0 L R)(hr:∀v M,R v M->∃M',R' v M'/\∀w,St w0 M w->St w0 M' w):KC P f args w0 L R':=fun w hw=>
 (h w hw).mono fun _ _ ⟨v,M,a,b,c⟩=>by
  obtain⟨M',h1,h2⟩:=hr v M b;exact⟨v,M',a,h1,h2 _ c⟩
theorem KC.lW{α β:Type}{f:α->β->HP}{P:Program}{g:FuncId}{args:Array Value}{w0:World}{L R:List HP}{ps:List α}{xs:List β}{p:α}{x y:β}{i:Nat}{φ:Value->Prop}(hp:ps[i]? =some p)(hx:xs[i]? =some x)(pk:bF L (bZ f ps xs) R)(h:∀L,KC P g args w0 (f p x::L) (fun u M=>φ u/\M=f p y::L)):
 KC P g args w0 L (fun u M=>φ u/\M=bZ f ps (xs.set i y)::R):=
 KC.perm (L':=f p x::bZ f (ps.eraseIdx i) (xs.eraseIdx i)::R) (fun w hw=>dj hp hx (hw.pick pk)) (KC.oK (h _) (by
  rintro v M ⟨h1,rfl⟩
  exact⟨_,⟨h1,rfl⟩,fun w hw=>w6 hp (au.1 hx).1 hw⟩))
theorem KE.E3{α β:Type}{f:α->β->HP}{P:Program}{g:FuncId}{args:Array Value}{w0:World}{L R:List HP}{ps:List α}{xs:List β}{p:α}{x:β}{i:Nat}{φ:Value->Prop}(hp:ps[i]? =some p)(hx:xs[i]? =some x)(pk:bF L (bZ f ps xs) R)(h:∀L,KE P g args w0 (f p x::L) (fun u M=>φ u/\M=f p x::L)):
 KE P g args w0 L (fun u M=>φ u/\M=bZ f ps xs::R):=
 KE.perm (L':=f p x::bZ f (ps.eraseIdx i) (xs.eraseIdx i)::R) (fun w hw=>dj hp hx (hw.pick pk)) (KE.oK (h _) (by
  rintro v M ⟨h1,rfl⟩
  exact⟨_,⟨h1,rfl⟩,fun w hw=>km hp hx hw⟩))
theorem KE.E0{α β:Type}{f:α->β->HP}{P:Program}{g:FuncId}{args:Array Value}{w0:World}{L R:List HP}{ps:List α}{xs:List β}{p:α}{x:β}{i:Nat}{A:Value->HP}{φ:Value->Prop}(hp:ps[i]? =some p)(hx:xs[i]? =some x)(pk:bF L (bZ f ps xs) R)(h:∀L,KE P g args w0 (f p x::L) (fun u M=>φ u/\M=A u::f p x::L)):
 KE P g args w0 L (fun u M=>φ u/\M=A u::bZ f ps xs::R):=
 KE.perm (L':=f p x::bZ f (ps.eraseIdx i) (xs.eraseIdx i)::R) (fun w hw=>dj hp hx (hw.pick pk)) (KE.oK (h _) (by
  rintro v M ⟨h1,rfl⟩
  exact⟨_,⟨h1,rfl⟩,fun w hw=>(km hp hx (hw.all (.cons (.tail .head) (.cons (.tail .head) .refl)))).f_⟩))
section
variable {n:Nat} {H:Ho} {q:Qu} {i j:Nat}
theorem oI(h4:H.ways.length=4)(hi:i<H.aK.length):H.all[4+i]? =some (H.dP i):=by
 unfold Ho.all Ho.dP;rw[aY ae,h4,Nat.add_sub_cancel_left,aG,ao hi,aq,ao hi];rfl
theorem qW(h4:H.ways.length=4)(hj:j<4):H.all[j]? =some (H.iq j):=by
 unfold Ho.all Ho.iq;rw[List.getElem?_append_left ae,ao ae,aq,ao ae];rfl
theorem ot(h4:H.ways.length=4):H.all.length=4+H.aK.length:=by unfold Ho.all;simp[h4]
theorem kq(h4:H.ways.length=4)(i:Nat)(q:Qu):(H.eP i q).all=H.all.set (4+i) q:=by
 unfold Ho.all Ho.eP;rw[List.map_set,List.set_append_right _ _ ae,h4,Nat.add_sub_cancel_left]
theorem nA(hj:j<H.ways.length)(q:Qu):(H.iI j q).all=H.all.set j q:=by
 unfold Ho.all Ho.iI;rw[List.set_append_left _ _ hj]
theorem jb(i:Nat)(q:Qu):(H.eP i q).aK.map (·.1)=H.aK.map (·.1):=by
 unfold Ho.eP;rw[List.map_set];apply List.ext_getElem?;intro k;rw[List.getElem?_set];split
 ·rename_i e;subst e;split
  ·rename_i hk;rw[aW]at hk;rw[aG,ao hk,aq,ao hk];rfl
  ·rename_i hk;rw[bH ae]
 ·rfl
theorem py(s:ak):H.qI s=(H.aK.map (·.1)).findIdx? fun x=>decide (x=s):=by
 unfold Ho.qI;rw[List.findIdx?_map];rfl
theorem PN(i:Nat)(q:Qu)(s:ak):(H.eP i q).qI s=H.qI s:=by rw[py,py,jb]
theorem sB:∀(qs rs:List (ak×Qu)) (ps:List Nat),qs.map (·.1)=rs.map (·.1)->rq qs ps=rq rs ps
 |[],[],_,_=>rfl
 |a::qs,b::rs,[],_=>rfl
 |a::qs,b::rs,p::ps,h=>by
  simp only[aJ,List.cons.injEq]at h;have ih:=sB qs rs ps h.2;unfold rq at *;rw[List.zipWith_cons_cons,List.zipWith_cons_cons,ih,h.1]
 |[],b::rs,_,h=>by simp at h
 |a::qs,[],_,h=>by simp at h
theorem xK(i:Nat)(q:Qu):(H.eP i q).aK.length=H.aK.length:=by simp[Ho.eP]
theorem cF.le{k:Nat}(h:cF n H)(hk:n<=k):cF k H:=⟨h.id,h.used,h.next,h.sorted,h.lS,Nat.le_trans h.mB hk,fun q hq=>(h.qs q hq).le hk,h.nodup,h.ways,h.aA,h.batch,h.cg,h.aM,h.right,h.loc,h.ext.le hk⟩
theorem cF.eP(h:cF n H)(hq:QB n q)(i:Nat):cF n (H.eP i q):=by
 refine⟨h.id,h.used,h.next,h.sorted,h.lS,by rw[xK];exact h.mB,fun q' zT=>?_,by rw[jb];exact h.nodup,h.ways,h.aA,h.batch,h.cg,h.aM,h.right,fun x hx ht=>by(rw[PN];exact h.loc x hx ht),h.ext⟩;rw[kq h.ways]at zT;rcases bj zT with h1|rfl
 ·exact h.qs _ h1
 ·exact hq
theorem cF.iI(h:cF n H)(hq:QB n q)(hj:j<4):cF n (H.iI j q):=by
 refine⟨h.id,h.used,h.next,h.sorted,h.lS,h.mB,fun q' zT=>?_,h.nodup,by simp[Ho.iI,h.ways],h.aA,h.batch,h.cg,h.aM,h.right,h.loc,h.ext⟩;rw[nA (by rw[h.ways];exact hj)]at zT;rcases bj zT with h1|rfl
 ·exact h.qs _ h1
 ·exact hq
theorem cF.qa(h:cF n H)(hi:i<H.aK.length):QB n (H.dP i):=h.qs _ (ax (oI h.ways hi))
theorem cF.w(h:cF n H)(hj:j<4):QB n (H.iq j):=h.qs _ (ax (qW h.ways hj))
theorem cF.P1(h:cF n H){k:Int}(hk:0<=k/\k<=274877906945):cF n {H with next:=k}:=⟨h.id,h.used,hk,h.sorted,h.lS,h.mB,h.qs,h.nodup,h.ways,h.aA,h.batch,h.cg,h.aM,h.right,h.loc,h.ext⟩
theorem ji{s:ak}(h:H.qI s=some i):i<H.aK.length/\(H.aK.getD i (⟨#[]⟩,default)).1=s:=by
 unfold Ho.qI at h;obtain⟨h1,h2,_⟩:=List.findIdx?_eq_some_iff_getElem.1 h;refine⟨h1,?_⟩;rw[aq,ao h1];simpa using h2
theorem tG{l:List Nm}{x y:Nm}(h:y∈ew l x):(y=x/\cG l x=0)\/y∈l:=by
 by_cases h0:cG l x=0
 ·unfold ew at h;split at h
  ·exact .inr h
  ·split at h
   ·rcases bj h with h|h
    ·exact .inr h
    ·exact .inl ⟨h,h0⟩
   ·split at h
    ·exact .inr h
    ·rcases aH.1 h with h|h
     ·exact .inr (List.mem_of_mem_take h)
     ·rcases aD.1 h with h|h
      ·exact .inl ⟨h,h0⟩
      ·exact .inr (List.mem_of_mem_drop h)
 ·rw[AB h0]at h;exact .inr h
theorem jc{l:List Nm}{x:Nm}(h:cG l x=0):cc x=true:=by
 cases hr:cc x with
 |true=>rfl
 |false=>unfold cG at h;rw[if_pos hr]at h;cases h
theorem sd{l:List Nm}(h:dH l)(x:Nm):dH (ew l x):=((⟨h,.refl _⟩:l0 l l).set x).sorted
theorem z8{l:List Nm}(h:dH l)(s:ak):dH (jt l s):=((⟨h,.refl _⟩:l0 l l).drop s).sorted
theorem PL{s t:ak}{q:Qu}{i:Nat}(h:H.qI t=some i):({H with aK:=H.aK++[(s,q)]}:Ho).qI t=some i:=by
 unfold Ho.qI at *;rw[List.findIdx?_append,h];rfl
theorem TM{s:ak}{q:Qu}(h:H.qI s=none):({H with aK:=H.aK++[(s,q)]}:Ho).qI s=some H.aK.length:=by
 unfold Ho.qI at *;rw[List.findIdx?_append,h];simp
theorem cF.set(h:cF n H)(x:Nm):cF (n+1) (iL H x):=by
 unfold iL;split
 ·rename_i h0;have hl:(ew H.names x).length<=20:=Nat.le_trans (Jr _ _) (by have :=h.lS;omega);have hr:∀y∈ew H.names x,cc y=true:=fun y hy=>by
   rcases tG hy with⟨rfl,-⟩|hy
   ·exact jc h0
   ·exact h.right y hy
  by_cases hc:x.jz=⟨#[]⟩/\H.qI x.name=none
  ·rw[if_pos hc];refine⟨h.id,h.used,h.next,sd h.sorted x,hl,by have :=h.mB;simp;omega,fun q hq=>?_,?_,h.ways,h.aA,h.batch,h.cg,h.aM,hr,fun y hy ht=>?_,h.ext.le (Nat.le_succ n)⟩
   ·simp only[Ho.all,aN,aH]at hq;rcases hq with hq|hq|hq
    ·exact(h.qs q (by simp[hq])).le (Nat.le_succ n)
    ·exact(h.qs q (by unfold Ho.all;exact aH.2 (.inr hq))).le (Nat.le_succ n)
    ·simp at hq;subst hq;exact QB.nil
   ·rw[aN,List.nodup_append];refine⟨h.nodup,by simp,fun a ha b hb=>?_⟩;simp at hb;subst hb;rintro rfl;have h2:=hc.2;rw[py,List.findIdx?_eq_none_iff]at h2;simpa using h2 _ ha
   ·rcases tG hy with⟨rfl,-⟩|hy
    ·exact⟨_,TM hc.2⟩
    ·obtain⟨i,hi⟩:=h.loc y hy ht;exact⟨i,PL hi⟩
  ·rw[if_neg hc];refine⟨h.id,h.used,h.next,sd h.sorted x,hl,Nat.le_succ_of_le h.mB,fun q hq=>(h.qs q hq).le (Nat.le_succ n),h.nodup,h.ways,h.aA,h.batch,h.cg,h.aM,hr,fun y hy ht=>?_,h.ext.le (Nat.le_succ n)⟩;rcases tG hy with⟨rfl,-⟩|hy
   ·cases hq:H.qI y.name with
    |none=>exact absurd ⟨ht,hq⟩ hc
    |some i=>exact⟨i,hq⟩
   ·exact h.loc y hy ht
 ·exact h.le (Nat.le_succ n)
theorem cF.drop(h:cF n H)(s:ak):cF n (sO H s):=by
 have hs:∀y∈jt H.names s,y∈H.names:=fun y hy=>by
  unfold jt at hy;split at hy
  ·exact(List.eraseIdx_sublist _ _).subset hy
  ·exact hy
 exact⟨h.id,h.used,h.next,z8 h.sorted s,Nat.le_trans (G4 _ _) h.lS,h.mB,h.qs,h.nodup,h.ways,h.aA,h.batch,h.cg,h.aM,fun y hy=>h.right y (hs y hy),fun y hy=>h.loc y (hs y hy),h.ext⟩
theorem cF.PO(h:cF n H){m:Ms}{H1:Ho}(hm:bM m=true)(hp:fC H m=some H1):cF (n+1) H1:=by
 obtain⟨m1,m2,m3,m4,-,-,m7,m8⟩:=bN hm;have hx:=h.next
 have h1:cF n {H with next:=max H.next (m.id/4+1)}:=h.P1 ⟨by omega,by omega⟩;unfold fC at hp;dsimp only at hp;split at hp
 ·simp only[az]at hp;subst hp;exact(h1.le (Nat.le_succ n)).iI ((h.w ae).mC ⟨m3,m4⟩ ⟨m1,m2⟩ (-1)) ae
 ·split at hp
  ·cases hp
  ·rename_i i hi;simp only[az]at hp;subst hp;exact(h1.le (Nat.le_succ n)).eP ((h.qa (ji hi).1).mC ⟨m3,m4⟩ ⟨m1,m2⟩ (-1)) i
theorem cF.aO(l:List Ms):∀{n:Nat} {H:Ho},cF n H->(∀m∈l,bM m=true)->cF (n+l.length) (eW H l).1:=by
 induction l with
 |nil=>exact fun h _=>h
 |cons m l ih=>
  intro n H h hl;unfold eW;cases hp:fC H m with
  |none=>
   obtain⟨m1,m2,_⟩:=bN (hl m aj);have hx:=h.next
   exact(h.P1 ⟨by omega,by omega⟩).le aj
  |some H1=>
   have :=ih (h.PO (hl m aj) hp) fun m hm=>hl m (by simp[hm])
   exact this.le fx
theorem cF.U8(h:cF n H){s:ak}{H1:Ho}(hp:gN H s=some H1):cF n H1:=by
 unfold gN at hp;split at hp
 ·cases hp
 ·split at hp
  ·cases hp
  ·rename_i k i hi;split at hp
   ·simp only[az]at hp;subst hp;exact h.eP ((h.qa (ji hi).1).take _) i
   ·cases hp
theorem cF.bf(l:List ak):∀{H:Ho},cF n H->cF n (gk H l).1:=by
 induction l with
 |nil=>exact fun h=>h
 |cons s l ih=>
  intro H h;unfold gk;cases hp:gN H s with
  |none=>exact h
  |some H1=>exact ih (h.U8 hp)
theorem cF.ends{s:ak}(h:cF n H)(hr:∀l,rn (cX 47 s).1=some l->∀m∈l,bM m=true){k:Nat}(hk:∀l,rn (cX 47 s).1=some l->n+l.length<=k)(Cn:n<=k):cF k (eI H s).1:=by
 unfold eI;split
 ·exact h.le Cn
 ·split
  ·exact h.le Cn
  ·rename_i l hl;have h1:=(h.aO l (hr l hl)).le (hk l hl);split
   ·exact h1
   ·split
    ·exact h1
    ·exact h1.bf _
theorem cF.log{D:Dk}(h:cF n H):cF n (dD H D):=by
 unfold dD;split
 ·exact h
 ·rename_i h0;have h0:eT H=0:=by simpa using h0
  split
  ·exact⟨h.id,h.used,h.next,h.sorted,h.lS,h.mB,h.qs,h.nodup,h.ways,h.aA,h.batch,h.cg,h.aM,h.right,h.loc,h.ext⟩
  ·exact⟨h.id,(sh h0).2,h.next,h.sorted,h.lS,h.mB,h.qs,h.nodup,h.ways,h.aA,h.batch,h.cg,h.aM,h.right,h.loc,h.ext⟩
def oJ (H:Ho) (D:Dk) (s:ak):Ho:=if dV H D=0 then(bY (dD H D) s).1 else dD H D
theorem bX{k:Int}:cb H k=true↔0<=k/\k<4/\k≠H.id:=by unfold cb;simp
theorem ni{l:List Int}{k:Nat}{n:Nat}(h:∀x∈l,0<=x/\x<=(n:Int)):0<=l.getD k 0/\l.getD k 0<=(n:Int):=by
 rw[aq];cases hk:l[k]? with
 |none=>exact⟨Int.le_refl 0,by show(0:Int)<=n;omega⟩
 |some x=>exact h x (ax hk)
theorem Ei{α β:Type}{f:α->Option β}:∀{l:List α} {r:List β},l.mapM f=some r->r.length=l.length
 |[],r,h=>by cases h;rfl
 |a::l,r,h=>by
  rw[List.mapM_cons]at h;cases ha:f a with
  |none=>rw[ha]at h;cases h
  |some b=>
   rw[ha]at h;cases hl:l.mapM f with
   |none=>rw[hl]at h;cases h
   |some r'=>rw[hl]at h;cases h;simp[Ei hl]
theorem J4{s:ak}{l:List Int}(h:oE s=some l):l.length<=s.size+1:=by
 have :=Ei h;have :=ri 32 s;omega
theorem cF.made(h:cF n H)(s:ak)(hs:s.size<=90000):cF (n+1) (gM H s).1:=by
 unfold gM;split
 ·rename_i k a r hi;split
  ·have h2:=h.le (Nat.le_succ n);refine⟨h2.id,h2.used,h2.next,h2.sorted,h2.lS,h2.mB,h2.qs,h2.nodup,h2.ways,h2.aA,by simp[h.batch],by simp[h.cg],h2.aM,h2.right,h2.loc,⟨fun l hl=>?_,fun x hx=>?_,h2.ext.arr⟩⟩
   ·rcases bj hl with h3|rfl
    ·exact h.ext.Ta l h3
    ·have :=J4 hi;simp at this ⊢;omega
   ·rcases bj hx with h3|rfl
    ·exact h2.ext.Ws x h3
    ·have :=ni (k:=k.toNat) h.ext.Ws;unfold dz;push_cast;omega
  ·exact h.le (Nat.le_succ n)
 ·exact h.le (Nat.le_succ n)
theorem QB.Sl{q:Qu}(h:QB n q)(l:List Int):QB n (dF q l):=by
 unfold dF
 induction l generalizing q with
 |nil=>exact h
 |cons a l ih=>exact ih (h.take a)
theorem cF.known(h:cF n H)(s:ak):cF n (eG H s).1:=by
 unfold eG;split
 ·rename_i k _;split
  ·rename_i h1;have h2:=bX.1 h1;have oe:k.toNat<4:=by omega
   have h3:=h.iI ((h.w (j:=k.toNat) oe).Sl (cn H k.toNat)) oe
   exact⟨h3.id,h3.used,h3.next,h3.sorted,h3.lS,h3.mB,h3.qs,h3.nodup,h3.ways,h3.aA,by simp[h.batch],h3.cg,h3.aM,h3.right,h3.loc,⟨fun l hl=>by
    rcases bj hl with h4|rfl
    ·exact h.ext.Ta l h4
    ·simp,h3.ext.Ws,h3.ext.arr⟩⟩
  ·exact h
 ·exact h
theorem cF.comes:∀(l:List (Ms×ak)) {n:Nat} {H:Ho},cF n H->(∀x∈l,(0<=x.1.pri/\x.1.pri<=9)/\0<=x.1.id/\x.1.id<=1099511627776)->cF (n+l.length) (dS H l).1
 |[],_,_,h,_=>h
 |(m,t)::l,n,H,h,hp=>by
  unfold dS;split
  ·exact h.le ae
  ·rename_i i hi;have h1:=(h.le (Nat.le_succ n)).eP ((h.qa (ji hi).1).mC (hp (m,t) aj).1 (hp (m,t) aj).2 (-1)) i;exact(cF.comes l h1 fun x hx=>hp x wF).le fx
theorem cF.NQ(h:cF n H)(s:ak){k:Nat}(Ba:1<=k)(hk:∀l,(∃a b c,di 47 s=[a,b,c]/\rn b=some l)->l.length<=k):cF (n+k) (gO H s).1:=by
 unfold gO;split
 ·rename_i a b c e;split
  ·rename_i kk l _ hl;have h1:=hk l ⟨a,b,c,e,hl⟩;have hr:=dx (mY hl).1
   have h2:=(cF.comes (l.zip (di 43 c)) h fun x hx=>by
    have :=bN (hr x.1 (List.of_mem_zip hx).1)
    exact⟨⟨this.2.2.1,this.2.2.2.1⟩,this.1,this.2.1⟩).le (k:=n+k) (by rw[List.length_zip];omega)
   split
   ·split
    ·exact⟨h2.id,h2.used,h2.next,h2.sorted,h2.lS,h2.mB,h2.qs,h2.nodup,h2.ways,h2.aA,h2.batch,h2.cg,by simp[h.aM],h2.right,h2.loc,⟨h2.ext.Ta,h2.ext.Ws,fun x hx=>by
      rcases bj hx with h3|rfl
      ·have :=h.ext.arr x h3;omega
      ·have :=ni (k:=kk.toNat) h.ext.arr
       unfold dc;omega⟩⟩
    ·exact h2
   ·exact h.le ae
  ·exact h.le ae
 ·exact h.le ae
structure fF (n:Nat) (s:ak):Prop where
 size:s.size<=80000
 many:(cX 58 s).1=b_ 117->∀l,rn (cX 47 (cX 58 s).2.1).1=some l->l.length<=n
 Rp:(cX 58 s).1=b_ 114->∀a b c l,di 47 (cX 58 s).2.1=[a,b,c]->rn b=some l->l.length<=n/\l.length<=(di 43 c).length
theorem nu(c:UInt8)(s:ak):(cX c s).1.size<=s.size/\(cX c s).2.1.size<=s.size:=by
 unfold cX Lib.cut;split
 ·simp only[toB,jw];constructor<;>simp <;>omega
 ·simp only[toB,jw];constructor<;>simp
theorem cF.AO{k:Nat}{s:ak}(h:cF n H)(hr:fF k s)(hk:1<=k):cF (n+k) (bY H s).1:=by
 have hc:=(nu 58 s).2;have hs:=hr.size;unfold bY;split
 ·split
  ·exact h.le ae
  ·exact(h.set _).le ae
 ·split
  ·exact(h.drop _).le ae
  ·split
   ·rename_i h3;exact h.ends (fun l hl=>dx (mY hl).1) (fun l hl=>by have :=hr.many h3 l hl;omega) ae
   ·split
    ·exact(h.made _ ae).le ae
    ·split
     ·exact(h.known _).le ae
     ·split
      ·rename_i h6;exact h.NQ _ hk fun l hl=>by
        obtain⟨a,b,c,h7,h8⟩:=hl;exact(hr.Rp h6 a b c l h7 h8).1
      ·exact h.le ae
end
end WB
namespace Go.Proofs.YtjhogocabcdjbabGreatDoor
open Tryz
open Go Go.RowKit WB
theorem G9(w0:World)(L:List HP)(s:ak)(c:UInt8)(hs:s.size<=100000000)(hM:o2 w0):
 KE prog 135 #[.string s,.string ⟨#[c]⟩] w0 L (fun u M=>u=.tuple #[.string (cX c s).1,.string (cX c s).2.1,.bool (cX c s).2.2]/\M=L):=KE.bW fun w hw=>by
 obtain⟨⟨m,hm⟩,_⟩:=hM.ext (Ext.bW hw.below);refine(Tryz.strings_Cut s ⟨#[c]⟩ m w ae hm).mono ?_;rintro e w' ⟨rfl,n,rfl⟩;exact⟨rfl,⟨rfl,rfl,rfl,aF _,fun _ _=>rfl⟩⟩
theorem ki{V:r5}{H:Ho}(hV:iN V H)(s:ak):en (dq V H) s=(H.qI s).bind fun i=>(V.ps[4+i]?).map bp:=by
 have oS:=hV.ps;rw[sA _ _ _ (by rw[bu,oS];omega)];unfold Ho.qI;cases List.findIdx? (fun x=>decide (x.1=s)) H.aK with
 |none=>rfl
 |some i=>simp[List.getElem?_drop,bp];rfl
theorem yC{w0 w:World}{bh bd:Nat}{H:Ho}{L:List HP}(V:r5)(hV:iN V H)(i:Nat)(q:Qu)(h:St w0 (bI bh (.cells (eK bd V H).toArray 133 (0,0))::kA V.nv H.names::bV Value.string V.mb (dq V H)::bZ iP V.ps (H.all.set (4+i) q)::bZ cY (V.us.map (·.1)) (H.aA.map (·.aO))::bZ cV (V.us.map (·.2)) (H.aA.map (·.bf))::bZ dL V.bs H.batch::L) w):St w0 (dy bh bd (H.eP i q)::L) w:=by
 refine bR V ⟨by rw[xK];exact hV.ps,hV.us,hV.bs,hV.ways,hV.aA,hV.batch,hV.cg,hV.aM⟩ ?_;unfold zF dq;rw[kq hV.ways,sB (H.eP i q).aK H.aK _ (jb i q)];exact h
theorem M1{w0 w:World}{bh bd:Nat}{H:Ho}{L:List HP}(V:r5)(hV:iN V H)(j:Nat)(hj:j<4)(q:Qu)(h:St w0 (bI bh (.cells (eK bd V H).toArray 133 (0,0))::kA V.nv H.names::bV Value.string V.mb (dq V H)::bZ iP V.ps (H.all.set j q)::bZ cY (V.us.map (·.1)) (H.aA.map (·.aO))::bZ cV (V.us.map (·.2)) (H.aA.map (·.bf))::bZ dL V.bs H.batch::L) w):St w0 (dy bh bd (H.iI j q)::L) w:=by
 refine bR V ⟨hV.ps,hV.us,hV.bs,by simp[Ho.iI,hV.ways],hV.aA,hV.batch,hV.cg,hV.aM⟩ ?_;unfold zF;rw[nA (by rw[hV.ways];exact hj)];exact h
theorem od{bd:Nat}{V:r5}{H:Ho}(hV:iN V H){j p:Nat}(hj:j<4)(hp:V.ps[j]? =some p):(eK bd V H)[8+j]? =some (bp p):=by
 have oS:=hV.ps;have :∀(r:List Value),((V.ps.take 4).map bp++r)[j]? =some (bp p):=fun r=>by
  rw[List.getElem?_append_left fx,aG,List.getElem?_take,if_pos hj,hp];rfl
 unfold eK;rw[show 8+j=j+8 by omega];simpa using this _
theorem JD{q:Qu}{id:Int}(h:jH q id≠0):eM q id=q:=by
 unfold jH at h;unfold eM;split
 ·rfl
 ·rename_i k hk;rw[hk]at h;exact absurd rfl h
theorem nQ{l:List Qu}{i:Nat}{q:Qu}(h:l[i]? =some q):l.set i q=l:=List.gE h
theorem IN(w0:World)(L:List HP)(bh bd n:Nat)(H:Ho)(s:ak)(hT:o0 w0)(hM:o2 w0)(hs:s.size<=80000)(hB:cF n H)(hn:∀l,rn (cX 47 s).1=some l->n+l.length<=90000)(hn0:n<=90000):
 KC prog 65 #[bp bh,.string s] w0 (dy bh bd H::L) (fun u M=>u=.bool (eI H s).2/\M=dy bh bd (eI H s).1::L):=by
 have uf:=(nu 47 s).1;have lg:=(nu 47 s).2;refine KC.mk (n:=130) func65 rfl ntmps65 aj ?_;refine oX ?_;refine KO.ce (cp:=[]) rfl rfl rfl call135 rfl (G9 w0 _ s 47 ae hM) ?_;rintro v' L' ⟨rfl,rfl⟩;refine Fh ?_;refine rS ?_;refine lY ?_;refine kE ?_;cases hm:rn (cX 47 s).1 with
 |none=>
  have he:eI H s=(H,false):=by
   unfold eI;split
   ·rfl
   ·rw[hm]
  rw[he];refine Z8 ?_;refine KO.ce (cp:=[]) rfl rfl rfl call160 rfl (n_ w0 _ (cX 47 s).1 ae hT hM) ?_;rintro v' L' hR;unfold Sd at hR;rw[hm]at hR;obtain⟨rfl,rfl⟩:=hR;refine pQ ?_;cases jY:(cX 47 s).2.2 with
  |false=>
   refine Oh ?_;refine xa ?_;refine HD ?_;refine KQ.bB rfl rfl (fun w' aT=>⟨_,_,rfl,⟨rfl,rfl⟩,aT⟩)
  |true=>
   refine zt ?_;refine CP ?_;refine CM ?_;refine K.cL rfl aj ?_;refine zu ?_;refine KQ.bB rfl rfl (fun w' aT=>⟨_,_,rfl,⟨rfl,rfl⟩,aT⟩)
 |some l=>
  have hl:=hn l hm;obtain⟨eZ,_⟩:=mY hm;have ib:∀m∈l,bM m=true:=fun m hm=>dx eZ m hm
  refine Z8 ?_;refine KO.ce (cp:=[]) rfl rfl rfl call160 rfl (n_ w0 _ (cX 47 s).1 ae hT hM) ?_;rintro v' L' hR;unfold Sd at hR;rw[hm]at hR;obtain⟨v,rfl,rfl⟩:=hR;refine pQ ?_;cases jY:(cX 47 s).2.2 with
  |false=>
   have he:eI H s=(H,false):=by unfold eI;rw[jY];rfl
   rw[he];refine Oh ?_;refine xa ?_;refine HD ?_;refine KQ.bB rfl rfl (fun w' aT=>⟨_,_,rfl,⟨rfl,rfl⟩,aT.drop⟩)
  |true=>
   have he:eI H s=if(eW H l).2=false then((eW H l).1,false)else if(cX 47 s).2.1=⟨#[]⟩then((eW H l).1,true)else gk (eW H l).1 (di 43 (cX 47 s).2.1):=by
    unfold eI;rw[jY,hm];rfl
   refine zt ?_;refine I_ ?_;refine qv ?_;refine HQ ?_;refine Z6 ?_;refine K.fact (fun w hw=>aU (hw.pick (A:=SL 44 5 dh v l) .head)) ?_;rintro⟨ad,cap,rfl,had⟩;refine Z8 ?_;refine CU ?_;refine K.loop (fun p:Nat×Ho=>[(0,bp bh),(6,.string (cX 47 s).2.1),(40,.slice ad l.length cap),(41,.int .i64 (l.length:Nat)),(42,.int .i64 (p.1:Nat))]) (fun p=>dy bh bd p.2::SL 44 5 dh (.slice ad l.length cap) l::L) (fun p=>p.1<=l.length/\cF (n+p.1) p.2/\eW p.2 (l.drop p.1)=eW H l) (fun p=>l.length-p.1) (0,H)
    ⟨aV _,hB,rfl⟩ ⟨rfl,rfl,rfl,rfl,rfl,trivial⟩ (fun _ h=>h.all Y3) ?_
   rintro⟨i,H1⟩ ⟨hi,gP,mH⟩;dsimp only at hi gP mH ⊢;refine hF ?_;refine K.br rfl (fun h=>?_) (fun h=>?_)
   ·obtain⟨m,Kf⟩:∃e,l[i]? =some e:=⟨l[i],ao ae⟩;have zW:=ib m (ax Kf);obtain⟨m1,m2,m3,m4,-,-,m7,m8⟩:=bN zW;obtain⟨g,rfl⟩:=had ae;have r0:l.drop i=m::l.drop (i+1):=by
     obtain⟨h1,rfl⟩:=au.1 Kf;exact List.drop_eq_getElem_cons h1
    rw[r0,eW]at mH;have qN:=gP.next
    have hm4:0<=m.id/4/\m.id/4+1<=274877906945:=by omega
    have zU:∀H2,fC H1 m=some H2->cF (n+(i+1)) H2/\eW H2 (l.drop (i+1))=eW H l:=fun H2 h2=>⟨gP.PO zW h2,by rw[h2]at mH;exact mH⟩
    have qO:fC H1 m=none->eI H s=({H1 with next:=max H1.next (m.id/4+1)},false):=fun h2=>by
     rw[h2]at mH;simp only at mH;rw[he,<-mH,if_pos rfl]
    clear mH;have MX:small m.pri:=by unfold small;omega
    obtain⟨mi,mp,mb,mq,mh⟩:=m;dsimp only at m1 m2 m3 m4 m7 m8 hm4 MX qO;refine oY ?_;refine V7 ?_;refine KO.alloc rfl zeroValue44 aP rfl ?_;intro b11;refine zn ?_;refine K.cq (fun _ h=>cx (h.pick bn)) ?_;rintro⟨V,hV⟩;dsimp only;have oS:=hV.ps;have GV:iN V {H1 with next:=max H1.next (mi/4+1)}:=⟨hV.ps,hV.us,hV.bs,hV.ways,hV.aA,hV.batch,hV.cg,hV.aM⟩;refine K.draw [.pure,.pure,.pure,.pure,.read,.pure,.read,.pure,.pure,.pure,.pure,.pure,.write] [0,1,2,3,4,5,6,7,8,9,10,11,12] bC bC ?_;refine rP ?_;refine Om ?_;refine KO.db (i:=5) rfl rfl isAgg3 bQ rfl rfl rfl ?_;refine Hl ?_;refine KO.div (a:=mi) (c:=4) rfl rfl ai m1 ae rfl ?_;refine xc ?_;refine KO.max2 rfl rfl rfl rfl ?_;refine kr ?_;refine Om ?_;refine KO.fX (i:=5) rfl rfl rfl aP zM rfl bQ rfl O8 ?_;rw[show(eK bd V H1).set 5 (.int .i64 (max H1.next (mi/4+1)))=eK bd V {H1 with next:=max H1.next (mi/4+1)}from rfl];refine Z0 ?_;have hg:=ki hV mq;obtain⟨zv,Gw⟩:∃zv,zv=(en (dq V H1) mq).getD (.pointer none):=⟨_,rfl⟩;refine K.draw [.pure,.pure,.pure,.read,.pure,.read,.read,.pure] [0,1,2,3,4,5,6,7] bC bC ?_;refine lq ?_;refine VL ?_;refine N5 ?_;refine s_ ?_
    refine KO.Ek fI mq rfl rfl rfl underlying123 underlying9 zeroValue119 bn rfl ?_;rw[<-Gw];refine Z7 ?_;refine N8 ?_;refine K.draw [.pure,.read,.pure,.pure,.pure,.read,.pure,.pure] [0,1,2,3,4,5,6,7] bC bC ?_;refine N4 ?_;refine zL ?_;refine lq ?_;refine FA ?_;refine KO.db (i:=0) rfl rfl isAgg3 bQ rfl rfl rfl ?_;refine zp ?_;refine qE ?_;refine K.br rfl (fun FP=>?_) (fun FP=>?_)
    ·have hj:mh.toNat<4:=by omega
     have hmh:mh=((mh.toNat:Nat):Int):=by omega
     obtain⟨p,hp⟩:∃p,V.ps[mh.toNat]? =some p:=⟨_,ao ae⟩;have hw:=od GV (bd:=bd) hj hp;have h2:fC H1 ⟨mi,mp,mb,mq,mh⟩=some (({H1 with next:=max H1.next (mi/4+1)}:Ho).iI mh.toNat (cP (H1.iq mh.toNat) ⟨mi,mp,mb,mq,mh⟩ (-1))):=by unfold fC;exact if_pos FP
     obtain⟨h3,h4⟩:=zU _ h2;refine K.draw [.pure,.pure,.read,.pure,.pure,.pure,.read,.read,.write] [0,1,2,3,4,5,6,7,8] bC bC ?_;refine Z1 ?_;refine N4 ?_;refine zL ?_;refine kr ?_;refine RT ?_;refine KO.jP (i:=mh.toNat) rfl rfl runUnderlying126 sizeOf119 hmh ae rfl ?_;refine KO.db (i:=8+mh.toNat) rfl rfl isAgg119 bQ zz hw rfl ?_;refine Al ?_;refine KO.cl (cp:=[]) rfl rfl rfl call147 rfl (KC.lW (φ:=fun v=>v=.tuple #[]) hp (qW hV.ways hj) bn (fun L=>B1 w0 L p (H1.iq mh.toNat) ⟨mi,mp,mb,mq,mh⟩ (-1) ((gP.w hj).ok ae) MX)) ?_;rintro v' L' ⟨rfl,rfl⟩;refine s8 ?_;refine KQ.round (i+1,_) ⟨by dsimp only;omega,h3,h4⟩ gV ⟨rfl,rfl,rfl,rfl,rfl,trivial⟩ (fun _ h=>?_);exact M1 V GV mh.toNat hj _ (h.all Y5)
    ·have OV:∀(o:Option Nat),H1.qI mq=o->fC H1 ⟨mi,mp,mb,mq,mh⟩=match o with|none=>none|some i=>some (({H1 with next:=max H1.next (mi/4+1)}:Ho).eP i (cP (H1.dP i) ⟨mi,mp,mb,mq,mh⟩ (-1))):=fun o ho=>by
      unfold fC;dsimp only;rw[if_neg FP,show H1.qI mq=o from ho]
      all_goals (cases o<;>rfl)
     cases hq:H1.qI mq with
     |none=>
      rw[hq]at hg;rw[hg]at Gw;subst Gw;refine jB ?_;refine KO.Rk rfl underlying119 rfl ?_;refine Z7 ?_;refine Ac ?_;refine Z3 ?_;refine kG ?_;refine KQ.bB rfl rfl (fun w' aT=>⟨_,_,rfl,⟨?_,rfl⟩,?_⟩)
      ·rw[qO (OV _ hq)]
      ·rw[qO (OV _ hq)];exact bR V GV (aT.all Y5)
     |some k=>
      have hk:=(ji hq).1;obtain⟨p,hp⟩:∃p,V.ps[4+k]? =some p:=⟨_,ao ae⟩;rw[hq]at hg;simp only[Option.bind_some,hp,Option.map_some]at hg;rw[hg]at Gw;subst Gw;have h2:=OV _ hq;obtain⟨h3,h4⟩:=zU _ h2;refine jB ?_;refine KO.yX rfl underlying119 rfl ?_;refine Z7 ?_;refine Hj ?_;refine Z8 ?_;refine Al ?_;refine KO.cl (cp:=[]) rfl rfl rfl call147 rfl (KC.lW (φ:=fun v=>v=.tuple #[]) hp (oI hV.ways hk) bn (fun L=>B1 w0 L p (H1.dP k) ⟨mi,mp,mb,mq,mh⟩ (-1) ((gP.qa hk).ok ae) MX)) ?_;rintro v' L' ⟨rfl,rfl⟩;refine s8 ?_;refine KQ.round (i+1,_) ⟨by dsimp only;omega,h3,h4⟩ gV ⟨rfl,rfl,rfl,rfl,rfl,trivial⟩ (fun _ h=>?_);exact yC V GV k _ (h.all Y5)
   ·have oG:i=l.length:=by omega
    subst oG;rw[List.drop_length,eW]at mH;rw[<-mH]at he;simp only[Bool.true_eq_false,if_false]at he;have w5:=gP.le (show n+l.length<=90000 by omega);refine wo ?_;refine zo ?_;refine Z2 ?_;refine K.br rfl (fun S2=>?_) (fun S2=>?_)
    ·rw[if_pos S2]at he;rw[he];refine zu ?_;refine KQ.bB rfl rfl (fun w' aT=>⟨_,_,rfl,⟨rfl,rfl⟩,aT.all Y1⟩)
    ·rw[if_neg S2]at he;rw[he];have hpz:∀x∈di 43 (cX 47 s).2.1,x.size<=100000000:=fun x hx=>by have :=gJ hx;omega
     have mG:(di 43 (cX 47 s).2.1).length<=(cX 47 s).2.1.size+1:=by unfold di;rw[aW,fM];have :=List.count_le_length (a:=43) (l:=(cX 47 s).2.1.data.toList);rw[jw];omega
     refine wq ?_;refine KO.ce (cp:=[]) rfl rfl rfl call133 rfl (kP w0 _ (cX 47 s).2.1 43 ae hM) ?_;rintro v' L' ⟨b92,rfl,rfl⟩;refine Vz ?_;generalize agd:di 43 (cX 47 s).2.1=ws at hpz mG;refine K.loop (fun p:Nat×Ho=>[(0,bp bh),(92,.slice (some ⟨b92,0,none⟩) ws.length ws.length),(93,.int .i64 (ws.length:Nat)),(94,.int .i64 (p.1:Nat))]) (fun p=>dy bh bd p.2::kO (.slice (some ⟨b92,0,none⟩) ws.length ws.length) ws::L) (fun p=>p.1<=ws.length/\cF 90000 p.2/\gk p.2 (ws.drop p.1)=gk H1 ws) (fun p=>ws.length-p.1) (0,H1)
      ⟨aV _,w5,rfl⟩ ⟨rfl,rfl,rfl,rfl,trivial⟩ (fun _ h=>h.all Y1) ?_
     rintro⟨i,H2⟩ ⟨WS,Q6,kB⟩;dsimp only at WS Q6 kB ⊢;refine hF ?_;refine K.br rfl (fun h=>?_) (fun h=>?_)
     ·obtain⟨x,hx⟩:∃e,ws[i]? =some e:=⟨ws[i],ao ae⟩;have hxz:=hpz x (ax hx);have hxc:=(nu 32 x).1;have r0:ws.drop i=x::ws.drop (i+1):=by
       obtain⟨h1,rfl⟩:=au.1 hx;exact List.drop_eq_getElem_cons h1
      rw[r0,gk]at kB;have kC:∀H3,gN H2 x=some H3->cF 90000 H3/\gk H3 (ws.drop (i+1))=gk H1 ws:=fun H3 h2=>⟨Q6.U8 h2,by rw[h2]at kB;exact kB⟩
      have qO:gN H2 x=none->gk H1 ws=(H2,false):=fun h2=>by rw[h2]at kB;exact kB.symm
      clear kB;refine VV ?_;refine KO.ia rfl rfl isAgg9 bn (fun _=>rfl) tr aP aP rfl ?_;refine lL ?_;refine KO.ce (cp:=[]) rfl rfl rfl call135 rfl (G9 w0 _ x 32 ae hM) ?_;rintro v' L' ⟨rfl,rfl⟩;refine Fh ?_;refine rS ?_;refine lY ?_;refine kE ?_;cases lF:ep (cX 32 x).1 with
      |none=>
       have h2:gN H2 x=none:=by unfold gN;rw[lF]
       refine Z8 ?_;refine KO.ce (cp:=[]) rfl rfl rfl call136 rfl (gR w0 _ (cX 32 x).1 ae hM) ?_;rintro v' L' ⟨hR,rfl⟩;unfold jx at hR;rw[lF]at hR;obtain⟨xx,TT,yy,rfl⟩:=hR;refine pQ ?_;refine K.cq (fun _ h=>cx (h.pick bQ)) ?_;rintro⟨V,hV⟩;dsimp only;refine Fl ?_;refine KO.Ek fI _ rfl rfl rfl underlying123 underlying9 zeroValue119 bn rfl ?_;refine lL ?_;refine uO ?_;refine xa ?_;refine uQ ?_;refine Z3 ?_;refine kG ?_;refine KQ.bB rfl rfl (fun w' aT=>⟨_,_,rfl,⟨?_,rfl⟩,?_⟩)
       ·rw[qO h2]
       ·rw[qO h2];exact bR V hV (aT.all Y5)
      |some id=>
       refine Z8 ?_;refine KO.ce (cp:=[]) rfl rfl rfl call136 rfl (gR w0 _ (cX 32 x).1 ae hM) ?_;rintro v' L' ⟨hR,rfl⟩;unfold jx at hR;rw[lF]at hR;subst hR;refine pQ ?_;refine K.cq (fun _ h=>cx (h.pick bQ)) ?_;rintro⟨V,hV⟩;dsimp only;have hg:=ki hV (cX 32 x).2.1;have oS:=hV.ps;cases hq:H2.qI (cX 32 x).2.1 with
       |none=>
        have h2:gN H2 x=none:=by unfold gN;rw[lF];simp only;rw[hq]
        rw[hq]at hg;refine Fl ?_;refine KO.Ek fI (cX 32 x).2.1 rfl rfl rfl underlying123 underlying9 zeroValue119 bn rfl ?_;rw[hg];refine lL ?_;refine I_ ?_;refine zl ?_;refine KO.on rfl rfl rfl ?_;refine KO.Rk rfl underlying119 rfl ?_;refine qv ?_;refine Ac ?_;refine Z3 ?_;refine kG ?_;refine KQ.bB rfl rfl (fun w' aT=>⟨_,_,rfl,⟨?_,rfl⟩,?_⟩)
        ·rw[qO h2]
        ·rw[qO h2];exact bR V hV (aT.all Y5)
       |some k=>
        have hk:=(ji hq).1;obtain⟨p,hp⟩:∃p,V.ps[4+k]? =some p:=⟨_,ao ae⟩;rw[hq]at hg;simp only[Option.bind_some,hp,Option.map_some]at hg;have FM:=(Q6.qa hk).len;have Da:gN H2 x=if jH (H2.dP k) id=0 then some (H2.eP k (eM (H2.dP k) id))else none:=by unfold gN;rw[lF];simp only;rw[hq]
        refine Fl ?_;refine KO.Ek fI (cX 32 x).2.1 rfl rfl rfl underlying123 underlying9 zeroValue119 bn rfl ?_;rw[hg];refine lL ?_;refine I_ ?_;refine zl ?_;refine KO.on rfl rfl rfl ?_;refine KO.yX rfl underlying119 rfl ?_;refine qv ?_;refine rT ?_;generalize htm:nZ (H2.dP k) id=tm;obtain⟨ti,tp,tb,tq,th⟩:=tm;refine iX ?_;refine KO.cl (cp:=[]) rfl rfl rfl call161 rfl (KC.lW (φ:=fun v=>v=.tuple #[.agg (dh (nZ (H2.dP k) id)).toArray,cI 70 (jH (H2.dP k) id)]) hp (oI hV.ways hk) bn (fun L=>LM w0 L p (H2.dP k) id ae)) ?_;rintro v' L' ⟨rfl,rfl⟩;rw[htm];refine Fh ?_;refine KO.alloc rfl zeroValue44 aP rfl ?_;intro b21;refine Jc ?_;refine wC ?_;refine K.br rfl (fun h27=>?_) (fun h27=>?_)
        ·rw[if_neg h27]at Da;refine Z3 ?_;refine kG ?_;refine KQ.bB rfl rfl (fun w' aT=>⟨_,_,rfl,⟨?_,rfl⟩,?_⟩)
         ·rw[qO Da]
         ·rw[qO Da];rw[JD h27,nQ (oI hV.ways hk)]at aT;exact bR V hV (aT.all Y5)
        ·have adn:jH (H2.dP k) id=0:=by simpa using h27
         rw[if_pos adn]at Da;obtain⟨h3,h4⟩:=kC _ Da;refine qF ?_;refine KQ.round (i+1,_) ⟨by dsimp only;omega,h3,h4⟩ gV ⟨rfl,rfl,rfl,rfl,trivial⟩ (fun _ h=>?_);exact yC V hV k _ (h.all Y5)
     ·have oG:i=ws.length:=by omega
      subst oG;rw[List.drop_length,gk]at kB;rw[<-kB];refine Hv ?_;refine KQ.bB rfl rfl (fun w' aT=>⟨_,_,rfl,⟨rfl,rfl⟩,aT.all Y1⟩)
end Go.Proofs.YtjhogocabcdjbabGreatDoor
namespace WB
open Go Go.RowKit Go.ChangeMaps Go.MapKept
section
variable {κ:Type}
structure itB (kv:κ->Value) (es:Array MapEntry) (fP:Nat) (seen:Array Nat) (m left:List (κ×Value)) (cur:Option (κ×Value)):Prop where
 Ze:W0 kv es.toList fP m
 left:((leftOf es seen).toList.map fun e=>(e.key,e.val))=left.map fun x=>(kv x.1,x.2)
 cur:∀x,cur=some x->∃e∈es.toList,e.key=kv x.1/\e.val=x.2/\∃s:Array Nat,seen=s.push e.born
def FK (kv:κ->Value) (b r:Nat) (m left:List (κ×Value)) (cur:Option (κ×Value)):HP:=
 ex fun es:Array MapEntry=>ex fun fP:Nat=>ex fun seen:Array Nat=>sep (JF (itB kv es fP seen m left cur)) (sep (bI b (.map es fP)) (bI r (.mapIter (some b) fP seen fP)))
variable {kv:κ->Value} {w0 w:World} {L:List HP} {P:Program} {b r:Nat} {m left:List (κ×Value)} {cur:Option (κ×Value)}
theorem yx(h:St w0 (FK kv b r m left cur::L) w):∃es fP seen,itB kv es fP seen m left cur/\St w0 (bI b (.map es fP)::bI r (.mapIter (some b) fP seen fP)::L) w:=by
 obtain⟨es,h⟩:=h.Bp;obtain⟨fP,h⟩:=h.Bp;obtain⟨seen,h⟩:=h.Bp;obtain⟨hi,h⟩:=h.split.rf;exact⟨es,fP,seen,hi,h.split⟩
theorem MJ{es:Array MapEntry}{fP:Nat}{seen:Array Nat}(hi:itB kv es fP seen m left cur)(h:St w0 (bI b (.map es fP)::bI r (.mapIter (some b) fP seen fP)::L) w):St w0 (FK kv b r m left cur::L) w:=
 St.zZ es (St.zZ fP (St.zZ seen (St.join (St.vN hi h.join))))
theorem MK(h:St w0 (FK kv b r m left cur::L) w):St w0 (bV kv b m::L) w:=by
 obtain⟨es,fP,seen,hi,h⟩:=yx h;exact St.zZ es (St.zZ fP (St.join (St.vN hi.Ze (h.pick (.tail .head)).drop)))
theorem Gn(es:Array MapEntry):leftOf es #[]=es:=by
 unfold leftOf;rw[Array.filter_eq_self];intro e _;simp
theorem J2(h:St w0 (bV kv b m::L) w){t k E:TypeId}(ht:P.underlying t=some (.map k E)):
 ∃w',(Instr.range t (.map (some b))).run P w=.ok (.pointer (some ⟨w.heap.size,0,none⟩)) w'/\Ext w w'/\St w0 (FK kv b w.heap.size m m none::L) w':=by
 obtain⟨es,h⟩:=h.Bp;obtain⟨fP,h⟩:=h.Bp;obtain⟨hr,h⟩:=h.split.rf;refine⟨_,run_range_map w t k E b es fP ht h.look.2,Ext.alloc w _,MJ (es:=es) (fP:=fP) (seen:=#[]) ⟨hr,?_,fun x hx=>by cases hx⟩ (h.alloc (.mapIter (some b) fP #[] fP)).f_⟩;rw[Gn];exact hr.Nx
theorem yW:∀{l:List MapEntry} {i:Nat} {e:MapEntry},(l.map (·.born)).Nodup->l[i]? =some e->l.filter (fun f=> !(f.born==e.born))=l.eraseIdx i
 |[],_,_,_,h=>by simp at h
 |a::l,0,e,hn,h=>by
  simp only[List.getElem?_cons_zero,az]at h;subst h;rw[aJ,bJ]at hn;simp only[bT,BEq.rfl,Bool.not_true,Bool.false_eq_true,if_false,List.eraseIdx_cons_zero];rw[bo];intro f hf;have :f.born≠a.born:=fun e=>hn.1 (ay.2 ⟨f,hf,e⟩)
  simp[this]
 |a::l,i+1,e,hn,h=>by
  simp only[List.getElem?_cons_succ]at h;rw[aJ,bJ]at hn;have :a.born≠e.born:=fun ee=>hn.1 (ay.2 ⟨e,ax h,ee.symm⟩)
  simp only[bT,List.eraseIdx_cons_succ];rw[if_pos (by simp[this]),yW hn.2 h]
theorem MI(h:St w0 (FK kv b r m left cur::L) w)(ty:TypeId):
 (left=[]/\(Instr.next (.pointer (some ⟨r,0,none⟩)) false ty).run P w=.ok (.tuple #[.bool false]) w)\/
 ∃(i:Nat) (x:κ×Value) (w':World),left[i]? =some x/\(Instr.next (.pointer (some ⟨r,0,none⟩)) false ty).run P w=.ok (.tuple #[.bool true,kv x.1,x.2]) w'/\St w0 (FK kv b r m (left.eraseIdx i) (some x)::L) w':=by
 obtain⟨es,fP,seen,hi,h⟩:=yx h;have hb:=h.look.2;have hr:=h.drop.look.2;rcases run_next_at (P:=P) w ty r b fP fP seen es fP hr hb hi.Ze.La (aF _)with⟨h0,Uq⟩|⟨e,he,w1,tg,Uq⟩
 ·left;refine⟨?_,Uq⟩;have :=congrArg List.length hi.left;simp[h0]at this;exact List.eq_nil_of_length_eq_zero this.symm
 ·right;obtain⟨i,UC,hie⟩:=List.getElem_of_mem he;have WM:(leftOf es seen).toList.length=left.length:=by have :=congrArg List.length hi.left;simpa using this
  have fq:e∈es.toList:=by
   have :=he;unfold leftOf at this;rw[Array.toList_filter]at this;exact(aB.1 this).1
  have hx:∃x,left[i]? =some x/\e.key=kv x.1/\e.val=x.2:=by
   have oG:i<left.length:=by omega
   refine⟨left[i],ao oG,?_⟩;have :=congrArg (fun l=>l[i]?) hi.left;simp only[aG,ao UC,ao oG,Option.map_some,az,Prod.mk.injEq]at this;rw[hie]at this;exact this
  obtain⟨x,wY,Eu,hx3⟩:=hx;have kj:St w0 (bI b (.map es fP)::bI r (.mapIter (some b) fP seen fP)::L) w1:=by
   rcases tg with rfl|rfl
   ·exact h
   ·exact h.drew
  refine⟨i,x,_,wY,by rw[Uq,Eu,hx3],MJ (es:=es) (fP:=fP) (seen:=seen.push e.born) ⟨hi.Ze,?_,fun y hy=>?_⟩ ?_⟩
  ·have h1:(leftOf es (seen.push e.born)).toList=(leftOf es seen).toList.filter fun f=> !(f.born==e.born):=by
    unfold leftOf;rw[Array.toList_filter,Array.toList_filter,bm];congr 1;funext f;simp only[Array.contains_push,Bool.not_or];exact Bool.and_comm _ _
   have hn:((leftOf es seen).toList.map (·.born)).Nodup:=by
    unfold leftOf;rw[Array.toList_filter];exact(List.filter_sublist.map _).nodup hi.Ze.nodup
   rw[h1,yW hn (i:=i) (by rw[ao UC,hie]),map_eraseIdx,map_eraseIdx,hi.left]
  ·cases hy
   exact⟨e,fq,Eu,hx3,seen,rfl⟩
  ·refine(St.f_ (h.f_.upd (w':=setBlock w1 r (.mapIter (some b) fP (seen.push e.born) fP)) ?_ ?_ ?_ ?_ ?_ ?_))
   ·rcases tg with rfl|rfl<;>rfl
   ·rcases tg with rfl|rfl<;>rfl
   ·rcases tg with rfl|rfl<;>rfl
   ·rcases tg with rfl|rfl<;>simp[setBlock]
   ·have dt:r<w.heap.size:=h.drop.lt;rcases tg with rfl|rfl<;>simp[setBlock,dt]
   ·intro k hk;rcases tg with rfl|rfl
    ·simp[setBlock,Array.getElem?_setIfInBounds,Ne.symm hk]
    ·simp[setBlock,Array.getElem?_setIfInBounds,Ne.symm hk];rfl
theorem J3{x:κ×Value}(h:St w0 (FK kv b r m left (some x)::L) w){w1:World}(he:Ext w w1):
 (Instr.entry (.pointer (some ⟨r,0,none⟩))).run P w1=.ok (.tuple #[kv x.1,x.2]) w1:=by
 obtain⟨es,fP,seen,hi,h⟩:=yx h;obtain⟨e,hm,h1,h2,s,rfl⟩:=hi.cur x rfl;have hb:=h.look.2;have hr:=h.drop.look.2;have jQ:w1.heap[b]? =some (.map es fP):=by rw[he.2 b h.lt];exact hb
 have WD:w1.heap[r]? =some (.mapIter (some b) fP (s.push e.born) fP):=by rw[he.2 r h.drop.lt];exact hr
 rw[run_entry_at w1 r b fP s es fP e WD jQ hm hi.Ze.nodup,h1,h2]
end
section
variable {κ:Type} {kv:κ->Value}
variable {P:Program} {ops:Array Oper} {d:Bool} {Q:Exit->Act->World->Prop} {n:Nat} {D:List Deferred} {w0:World} {G:Env} {L R:List HP} {l:List (Kd×Oper)} {k:Kd}
 {t:Nat} {op:Op} {ty T KT E:TypeId} {pos:String} {af:Array Edge} {x y u:Operand} {v z:Value} {b r:Nat} {m left:List (κ×Value)} {cur:Option (κ×Value)} {e:κ×Value}
theorem KO.wvP{ι:Type}(hk:(!d||k== .write)=true){φ:ι->Value->Prop}{N:ι->List HP}(hr:∀a w,cE n D G a->St w0 L w->∃v w' p,(execOp a.eval ⟨some t,op,ty,pos,af,none⟩).run P w=.ok (.value v) w'/\φ p v/\St w0 (N p) w')(ht:Nat.blt t n=true)(h:∀p v,φ p v->KO P ops d Q n D w0 ((t,v)::G) (N p) l):KO P ops d Q n D w0 G L ((k,⟨some t,op,ty,pos,af,none⟩)::l):=fun a w ha hw=>by
 obtain⟨v,w',p,hr,hp,hs⟩:=hr a w ha hw;refine k9 hk rfl ?_;unfold Oper.wp;rw[hr];exact h p v hp _ w' (gX ha _ ht) hs
theorem KO.rng(hk:(!d||(k== .c7||k== .write))=true)(hx:ev G x=some (.map (some b)))(hT:P.underlying T=some (.map KT E))(hp:bF L (bV kv b m) R)(ht:Nat.blt t n=true)(h:∀r,KO P ops d Q n D w0 ((t,.pointer (some ⟨r,0,none⟩))::G) (FK kv b r m m none::R) l):KO P ops d Q n D w0 G L ((k,⟨some t,.range T x,ty,pos,af,none⟩)::l):=
 KO.qb hk (F:=fun bb=>.pointer (some ⟨bb,0,none⟩)) (N:=fun r=>FK kv b r m m none::R) (fun a w ha hw=>by
  obtain⟨w',h1,h2,h3⟩:=J2 (P:=P) (hw.pick hp) hT
  exact⟨w.heap.size,w',by simp[execOp,ha.eval hx,h1],h2,h3⟩) ht h
theorem KO.P1(hk:(!d||k== .write)=true)(hx:ev G x=some (.pointer (some ⟨r,0,none⟩)))(hp:bF L (FK kv b r m left cur) R)(ht:Nat.blt t n=true)(h0:left=[]->KO P ops d Q n D w0 ((t,.tuple #[.bool false])::G) (bV kv b m::R) l)(h1:∀(i:Nat) (e:κ×Value),left[i]? =some e->KO P ops d Q n D w0 ((t,.tuple #[.bool true,kv e.1,e.2])::G) (FK kv b r m (left.eraseIdx i) (some e)::R) l):
 KO P ops d Q n D w0 G L ((k,⟨some t,.next x false,ty,pos,af,none⟩)::l):=
 KO.wvP (ι:=Option (Nat×(κ×Value))) hk (φ:=fun p v=>match p with|none=>left=[]/\v=.tuple #[.bool false]|some (i,e)=>left[i]? =some e/\v=.tuple #[.bool true,kv e.1,e.2])
  (N:=fun p=>match p with|none=>bV kv b m::R|some (i,e)=>FK kv b r m (left.eraseIdx i) (some e)::R) (fun a w ha hw=>by
   rcases MI (P:=P) (hw.pick hp) ty with⟨g0,g1⟩|⟨i,e,w',g0,g1,g2⟩
   ·exact⟨_,w,none,by simp[execOp,ha.eval hx,g1],⟨g0,rfl⟩,MK (hw.pick hp)⟩
   ·exact⟨_,w',some (i,e),by simp[execOp,ha.eval hx,g1],⟨g0,rfl⟩,g2⟩) ht
  (fun p v Ey=>by
   match p,Ey with
   |none,⟨g0,g1⟩=>subst g1;exact h0 g0
   |some (i,e),⟨g0,g1⟩=>subst g1;exact h1 i e g0)
theorem KO.Ln(hk:(!d||k != .pure)=true)(hx:ev G x=some (.pointer (some ⟨r,0,none⟩)))(hp:bF L (FK kv b r m left (some e)) R)(ht:Nat.blt t n=true)(h:KO P ops d Q n D w0 ((t,.tuple #[kv e.1,e.2])::G) L l):KO P ops d Q n D w0 G L ((k,⟨some t,.entry x,ty,pos,af,none⟩)::l):=
 KO.rd hk (fun a w w' ha hw he=>by
  have :=J3 (P:=P) (hw.pick hp) he
  simp[execOp,ha.eval hx,this]) ht h
end
end WB
