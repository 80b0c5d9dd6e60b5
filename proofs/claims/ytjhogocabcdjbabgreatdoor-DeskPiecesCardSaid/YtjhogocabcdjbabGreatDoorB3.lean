import Derived.Test.YtjhogocabcdjbabGreatDoorB2
set_option linter.unusedSimpArgs false
set_option linter.unusedVariables false
set_option maxRecDepth 100000
set_option maxHeartbeats 8000000
namespace WB
open Go
structure En where
 j:Nat
 m:Ms
 put:Int
 j9:Int
def kA (j:Nat) (e:It):En:=⟨j,e.m,e.put,e.j9⟩
def JW (j:Nat) (l:List It):List En:=l.map (kA j)
def vw (l:List Qu):List En:=l.zipIdx.flatMap fun x=>JW x.2 x.1.l
def vr (l:List Qu) (j:Nat):List En:=(l.zipIdx.eraseIdx j).flatMap fun x=>JW x.2 x.1.l
theorem pL{α:Type}:∀{l:List α} {i:Nat} {x:α},l[i]? =some x->l.Perm (x::l.eraseIdx i)
 |[],i,x,h=>by simp at h
 |a::l,0,x,h=>by simp at h;subst h;exact .refl _
 |a::l,i+1,x,h=>((pL (l:=l) IF).cons a).trans (.swap _ _ _)
theorem CQ{α:Type}:∀{l:List α} {i:Nat} {x:α} (y:α),l[i]? =some x->(l.set i y).Perm (y::l.eraseIdx i)
 |[],i,x,y,h=>by simp at h
 |a::l,0,x,y,h=>.refl _
 |a::l,i+1,x,y,h=>((CQ (l:=l) y IF).cons a).trans (.swap _ _ _)
theorem AW{α β:Type}{f:α->List β}{l l':List α}(h:l.Perm l'):(l.flatMap f).Perm (l'.flatMap f):=by
 induction h with
 |nil=>exact .refl _
 |cons a _ ih=>rw[aO,aO];exact(List.Perm.refl _).append ih
 |swap a b l=>
  rw[aO,aO,aO,aO,<-aK,<-aK];exact List.perm_append_comm.append (.refl _)
 |trans _ _ h1 h2=>exact h1.trans h2
theorem rS{l:List Qu}{j:Nat}{q:Qu}(h:l[j]? =some q):(vw l).Perm (JW j q.l++vr l j):=by
 unfold vw vr;have h1:l.zipIdx[j]? =some (q,j):=by rw[List.getElem?_zipIdx,h];simp
 exact AW (pL h1)
theorem E_(l:List Qu)(j:Nat)(q:Qu):(l.set j q).zipIdx=l.zipIdx.set j (q,j):=by
 apply List.ext_getElem?;intro i;rw[List.getElem?_zipIdx,List.getElem?_set,List.getElem?_set,List.getElem?_zipIdx,List.length_zipIdx];by_cases e:j=i
 ·subst e;rw[if_pos rfl,if_pos rfl];split<;>simp
 ·rw[if_neg e,if_neg e]
theorem TB(l:List Qu)(j:Nat)(q:Qu):vr (l.set j q) j=vr l j:=by
 unfold vr;rw[E_,List.eraseIdx_set_eq]
theorem Fg{l:List Qu}{j:Nat}{q:Qu}(q':Qu)(h:l[j]? =some q):(vw (l.set j q')).Perm (JW j q'.l++vr l j):=by
 have h1:(l.set j q')[j]? =some q':=by rw[List.getElem?_set_self (au.1 h).1]
 have :=rS h1
 rwa [TB]at this
theorem AI{l:List Qu}{e:En}:e∈vw l↔ ∃q,l[e.j]? =some q/\∃x∈q.l,e=kA e.j x:=by
 unfold vw JW;rw[List.mem_flatMap];constructor
 ·rintro⟨⟨q,j⟩,h1,h2⟩;rw[aD]at h2;obtain⟨x,hx,rfl⟩:=h2;rw[List.mem_zipIdx_iff_getElem?]at h1;exact⟨q,h1,x,hx,rfl⟩
 ·rintro⟨q,h1,x,hx,he⟩;refine⟨(q,e.j),List.mem_zipIdx_iff_getElem?.2 h1,?_⟩;rw[aD];exact⟨x,hx,he.symm⟩
theorem vN{l:List Qu}{j:Nat}{q:Qu}(m:Ms)(u:Int)(h:l[j]? =some q):(vw (l.set j (dS q m u))).Perm (⟨j,m,max u (-1),-1⟩::vw l):=by
 refine(Fg _ h).trans (List.Perm.trans ?_ (((rS h).symm).cons _));have h1:(dS q m u).l.Perm (gI q m u::q.l):=by
  unfold dS;dsimp only;refine List.perm_middle.trans ?_;rw[List.take_append_drop]
 have h2:=h1.map (kA j);exact h2.append (.refl _)
theorem Cl{l:List Qu}{j k:Nat}{q:Qu}{x:It}(h:l[j]? =some q)(hx:q.l[k]? =some x)(nx:Int):(vw l).Perm (kA j x::vw (l.set j ⟨q.l.eraseIdx k,nx⟩)):=by
 refine(rS h).trans (List.Perm.trans ?_ ((Fg _ h).symm.cons _));exact((pL hx).map (kA j)).append (.refl _)
theorem IN{l:List Qu}{j k:Nat}{q:Qu}{x:It}(y:It)(h:l[j]? =some q)(hx:q.l[k]? =some x)(nx:Int):∃R,(vw l).Perm (kA j x::R)/\(vw (l.set j ⟨q.l.set k y,nx⟩)).Perm (kA j y::R):=by
 refine⟨JW j (q.l.eraseIdx k)++vr l j,?_,?_⟩
 ·exact(rS h).trans (((pL hx).map (kA j)).append (.refl _))
 ·exact(Fg _ h).trans (((CQ y hx).map (kA j)).append (.refl _))
def iF (u:Int) (e:En):En:=⟨e.j,e.m,if e.put=u then -1 else e.put,if e.j9=u then -1 else e.j9⟩
theorem O6{l:List Qu}{u:Int}(hu:0<=u):vw (l.map fun q=>fp q u true)=((vw l).filter fun e=> !decide (e.put=u)).map (iF u):=by
 unfold vw;rw[List.zipIdx_map,List.flatMap_map,List.filter_flatMap,List.map_flatMap];congr 1;funext x;unfold JW;dsimp only[Prod.map];rw[show(fp x.1 u true).l=(x.1.l.filter fun e=> !oP u true e).map (oq u)by unfold fp;rw[if_neg ae]];rw[List.map_map,List.filter_map,List.map_map];have :(fun e=> !oP u true e)=((fun e:En=> !decide (e.put=u))∘kA x.2):=by
  funext e;unfold oP kA;simp
 rw[this];rfl
def eF (e:En):Int:=e.m.id
def hv (H:Ho):List En:=vw H.all
def jx (e:En):Bool:=decide (e.put<0)
def oM (e:En):Nat×Ms:=(e.j,e.m)
def hk (H:Ho):List (Nat×Ms):=((hv H).filter jx).map oM
def ahA (H:Ho) (s:ak):Option Nat:=(H.qI s).map (4+ ·)
def bN (H:Ho):List ak:=H.aE.map (·.1)
theorem cy{H H':Ho}(h:bN H'=bN H)(s:ak):H'.qI s=H.qI s:=by rw[o5,o5];unfold bN at h;rw[h]
theorem IA{n:Nat}{H:Ho}(hB:cE n H){i:Nat}(hi:i<H.aE.length):H.all[4+i]? =some (H.dX i):=oH hB.ways hi
theorem L7{n:Nat}{H:Ho}(hB:cE n H){m:Ms}{i:Nat}(hm:m.b9=H.id)(hq:H.qI m.queue=some i):∃H1,fO H m=some H1/\(hv H1).Perm (⟨4+i,m,-1,-1⟩::hv H)/\bN H1=bN H/\H1.names=H.names/\H1.ways=H.ways/\H1.next=max H.next (m.id/4+1)/\l4 H H1:=by
 have hi:=(i_ hq).1;let H0:Ho:={H with next:=max H.next (m.id/4+1)};refine⟨H0.ft i (dS (H0.dX i) m (-1)),?_,?_,?_,rfl,rfl,rfl,⟨rfl,rfl,rfl,rfl,rfl,rfl,rfl,rfl⟩⟩
 ·unfold fO;dsimp only;rw[if_neg (by rw[hm];simp)];rw[hq];rfl
 ·unfold hv;rw[lU (H:=H0) hB.ways];have :=vN (l:=H0.all) m (-1) (IA hB hi);exact this
 ·unfold bN;exact ki (H:=H0) i _
theorem ja{α β:Type}{f:α->β}{l:List α}(h:(l.map f).Nodup){x y:α}(hx:x∈l)(hy:y∈l)(e:f x=f y):x=y:=by
 induction l with
 |nil=>cases hx
 |cons a l ih=>
  rw[aT,bZ]at h;rcases aJ.1 hx with h1|h1<;>rcases aJ.1 hy with h2|h2
  ·rw[h1,h2]
  ·exact absurd (by rw[<-h1,e];exact List.mem_map_of_mem (f:=f) h2) h.1
  ·exact absurd (by rw[<-h2,<-e];exact List.mem_map_of_mem (f:=f) h1) h.1
  ·exact ih h.2 h1 h2
theorem Ai{l R:List En}{e:En}(h:(l.map eF).Nodup)(hp:l.Perm (e::R)):R.Perm (l.filter fun x=> !decide (eF x=eF e)):=by
 have h1:=hp.filter (fun x=> !decide (eF x=eF e));have h2:(e::R).filter (fun x=> !decide (eF x=eF e))=R:=by
  rw[fh,if_neg aj];rw[b_];intro x hx;have hn:=(hp.map eF).nodup_iff.1 h;rw[aT,bZ]at hn;have :eF x≠eF e:=fun e2=>hn.1 (e2▸List.mem_map_of_mem (f:=eF) hx)
  simpa using this
 rw[h2]at h1;exact h1.symm
theorem Q9(g:Int×ak):cQ 32 (gX g)=(bH g.1,g.2,true):=by
 unfold gX;rw[show(sp:ak)=bV 32 from rfl];exact cutB_hit (fE _ ai) _
theorem Nl{n:Nat}{H:Ho}(hB:cE n H){g:Int×ak}(hg:0<=g.1/\g.1<=1099511627776/\cS g.2=true){i:Nat}(hq:H.qI g.2=some i)(hn:((hv H).map eF).Nodup){e:En}(he:e∈hv H)(hj:e.j=4+i)(hid:eF e=g.1):
 ∃H1,gQ H (gX g)=some H1/\(hv H1).Perm ((hv H).filter fun x=> !decide (eF x=g.1))/\bN H1=bN H/\H1.names=H.names/\H1.ways=H.ways/\H1.next=H.next/\l4 H H1:=by
 have hi:=(i_ hq).1;obtain⟨q,h1,x,hx,hex⟩:=AI.1 he;rw[hj]at h1;have h2:=IA hB hi;rw[h2]at h1;simp only[ay]at h1;subst h1;have adv:x.m.id=g.1:=by rw[<-hid,hex];rfl
 obtain⟨k,hk⟩:∃k,nX (H.dX i) g.1=some k:=by
  unfold nX;cases hf:(H.dX i).l.findIdx? (MP g.1)with
  |some k=>exact⟨k,rfl⟩
  |none=>
   rw[List.findIdx?_eq_none_iff]at hf;have :=hf x hx;unfold MP at this;simp[adv]at this
 obtain⟨oX,SP,-⟩:=List.findIdx?_eq_some_iff_getElem.1 hk;have Qn:(H.dX i).l[k]? =some (H.dX i).l[k]:=ao oX;have UZ:((H.dX i).l[k]).m.id=g.1:=by unfold MP at SP;simpa using SP
 refine⟨H.ft i (fm (H.dX i) g.1),?_,?_,by unfold bN;exact ki i _,rfl,rfl,rfl,⟨rfl,rfl,rfl,rfl,rfl,rfl,rfl,rfl⟩⟩
 ·unfold gQ;rw[Q9];dsimp only;rw[gW ⟨by omega,by omega⟩];dsimp only;rw[hq];dsimp only;rw[if_pos (by unfold lF;rw[hk])]
 ·unfold hv;rw[lU hB.ways];have e1:fm (H.dX i) g.1=⟨(H.dX i).l.eraseIdx k,(H.dX i).next⟩:=by unfold fm;rw[hk]
  rw[e1];have hp:=Cl (l:=H.all) h2 Qn (H.dX i).next
  have :=Ai hn hp;rw[show eF (kA (4+i) (H.dX i).l[k])=g.1 from UZ]at this;exact this
theorem DW{n:Nat}:∀(l:List (Int×ak)) {H:Ho},cE n H->((hv H).map eF).Nodup->(l.map (·.1)).Nodup->(∀g∈l,(0<=g.1/\g.1<=1099511627776/\cS g.2=true)/\∃i,H.qI g.2=some i/\∃e∈hv H,e.j=4+i/\eF e=g.1)->
 ∃H1,gP H (l.map gX)=(H1,true)/\(hv H1).Perm ((hv H).filter fun x=> !decide (eF x∈l.map (·.1)))/\bN H1=bN H/\H1.names=H.names/\H1.ways=H.ways/\H1.next=H.next/\l4 H H1/\cE n H1
 |[],H,hB,_,_,_=>⟨H,rfl,by rw[b_.2 (fun _ _=>by simp)],rfl,rfl,rfl,rfl,.refl _,hB⟩
 |g::l,H,hB,hn,hd,h=>by
  obtain⟨hr,i,hi,e,he,hj,hid⟩:=h g aj;obtain⟨H1,e1,p1,k1,n1,w1,x1,s1⟩:=Nl hB hr hi hn he hj hid;have kK:=hB.Vp e1;rw[aT,bZ]at hd;have Dy:((hv H1).map eF).Nodup:=by
   refine(p1.map eF).nodup_iff.2 ?_;exact hn.sublist (List.filter_sublist.map _)
  obtain⟨H2,e2,p2,k2,n2,w2,x2,s2,Gr⟩:=DW l kK Dy hd.2 fun g' Zn=>by
   obtain⟨hr',i',hi',e',he',Xk,Zk⟩:=h g' (by simp[Zn]);refine⟨hr',i',by rw[cy k1];exact hi',e',?_,Xk,Zk⟩;rw[p1.mem_iff,aI];refine⟨he',?_⟩;have :eF e'≠g.1:=by rw[Zk];exact fun e=>hd.1 (e▸List.mem_map_of_mem (f:=(·.1)) Zn)
   simpa using this
  refine⟨H2,?_,?_,k2.trans k1,n2.trans n1,w2.trans w1,x2.trans x1,s1.trans s2,Gr⟩
  ·rw[aT,gP,e1];exact e2
  ·refine p2.trans ((p1.filter _).trans ?_);rw[cB];refine List.Perm.of_eq (List.filter_congr fun x _=>?_);rw[aT];by_cases h1:eF x=g.1<;>by_cases h2:eF x∈l.map (·.1)<;>simp[h1,h2]
theorem s_{c:UInt8}:∀{l:List ak},l≠[]->(∀p∈l,n_ c p)->cH c (cJ l (bV c))=l
 |[],h,_=>absurd rfl h
 |[p],_,h=>by rw[jT];exact km (h p aj)
 |p::q::l,_,h=>by
  rw[fM,iK (h p aj),s_ aj fun x hx=>h x sR]
theorem DV{g:Int×ak}(h:cS g.2=true){c:UInt8}(h1:c.toNat≠45/\(c.toNat<48\/57<c.toNat))(h2:isLet c=false)(h3:c≠32):n_ c (gX g):=by
 unfold gX;refine dp (dp (fE _ h1) ?_) ?_
 ·exact fun b hb=>by simp[sp]at hb;subst hb;exact fun e=>h3 e.symm
 ·intro b hb e;subst e;have hw:=gF h;unfold gT at hw;rw[aG]at hw;rw[hw b hb]at h2;cases h2
theorem JP{l:List (Int×ak)}(h:∀g∈l,cS g.2=true)(h0:l≠[]):cJ (l.map gX) plus≠⟨#[]⟩/\cH 43 (cJ (l.map gX) plus)=l.map gX:=by
 have h2:cH 43 (cJ (l.map gX) plus)=l.map gX:=by
  rw[show(plus:ak)=bV 43 from rfl];refine s_ XG fun p hp=>?_
  obtain⟨g,hg,rfl⟩:=aD.1 hp;exact DV (h g hg) ai ai ai
 refine⟨fun e=>?_,h2⟩;rw[e,show cH 43 ⟨#[]⟩=[⟨#[]⟩]from km (fun b hb=>by simp at hb)]at h2
 match l,h0 with
 |g::l,_=>
  rw[aT,List.cons.injEq]at h2;have :=congrArg ByteArray.size h2.1;unfold gX at this;have h3:sp.size=1:=rfl;simp only[aB]at this;have h4:(⟨#[]⟩:ak).size=0:=rfl;omega
inductive lX:Ho->List ak->Ho->Prop
 |nil (H:Ho):lX H [] H
 |cons {H H1 H':Ho} {s:ak} {R:List ak} (h:bO H s=(H1,true)) (t:lX {H1 with used:=H.used+1} R H'):lX H (s::R) H'
theorem lX.snoc{H H' H1:Ho}{R:List ak}{s:ak}(h:lX H R H')(hs:bO H' s=(H1,true)):lX H (R++[s]) {H1 with used:=H'.used+1}:=by
 induction h with
 |nil H=>exact .cons hs (.nil _)
 |cons e _ ih=>exact .cons e (ih hs)
theorem lX.used{H H':Ho}{R:List ak}(h:lX H R H'):H'.used=H.used+R.length:=by
 induction h with
 |nil H=>rfl
 |cons e _ ih=>rw[ih];simp;omega
theorem lX.same{H H':Ho}{R:List ak}(h:lX H R H'):H'.id=H.id/\H'.down=H.down/\H'.c6=H.c6/\H'.az=H.az:=by
 induction h with
 |nil H=>exact⟨rfl,rfl,rfl,rfl⟩
 | @cons H H1 H' s R e _ ih=>
  have :=fP H s;rw[e]at this;obtain⟨a,b,c,d⟩:=ih;exact⟨a.trans this.id,b.trans this.down,c.trans this.c6,d.trans this.az⟩
structure jF (D:Dk) (R:List ak):Prop where
 len:D.places.length=300
 many:R.length<=300
 on:∀(k:Nat) s,R[k]? =some s->D.places[k]? =some (dQ (k:Nat) s)
 off:∀(k:Nat) t,R.length<=k->D.places[k]? =some t->gx (k:Nat) t=none
 size:∀t∈D.places,t.size<=800000
 mr:∀s∈R,eX 250 s/\n_ 124 s
theorem jF.ok{D:Dk}{R:List ak}(h:jF D R)(hl: -4000000000000000000<=D.left/\D.left<=9223372036854775807):Hn D:=by
 refine⟨h.len,hl,h.size,fun k t s ht hs=>?_⟩;rcases Nat.lt_or_ge k R.length with hk|hk
 ·have h1:=h.on k R[k] (ao hk);rw[ht]at h1;simp only[ay]at h1;rw[h1,qX (h.mr _ (List.getElem_mem hk)).2]at hs;simp only[ay]at hs;rw[<-hs];exact(h.mr _ (List.getElem_mem hk)).1
 ·rw[h.off k t hk ht]at hs;cases hs
theorem PG{D:Dk}{R:List ak}(h:jF D R){H H':Ho}{R2:List ak}(hp:lX H R2 H'):∀{pre:List ak},R=pre++R2->H.used=pre.length->∀f,f+H.used=300->h_ D f H=H':=by
 induction hp with
 |nil H=>
  intro pre he hu f hf;rw[List.append_nil]at he;subst he
  match f with
  |0=>rfl
  |f+1=>
   unfold h_;obtain⟨t,ht⟩:∃t,D.places[H.used]? =some t:=⟨_,ao (by rw[h.len];omega)⟩;have e:D.places.getD H.used ⟨#[]⟩=t:=by rw[aq,ht];rfl
   rw[e,h.off H.used t ae ht]
 | @cons H H1 H' s R2 e hp ih=>
  intro pre he hu f hf;have hm:=h.many;have hl:R.length=pre.length+(R2.length+1):=by rw[he];simp
  have hk:R[H.used]? =some s:=by rw[he,bM ae,hu];simp
  obtain⟨f',rfl⟩:∃f',f=f'+1:=⟨f-1,by omega⟩;unfold h_;have ht:=h.on _ _ hk;have e2:D.places.getD H.used ⟨#[]⟩=dQ (H.used:Nat) s:=by rw[aq,ht];rfl
  have hs:s∈R:=ax hk;rw[e2,qX (h.mr s hs).2];dsimp only;rw[e];dsimp only;rw[if_neg aj];exact ih (pre:=pre++[s]) (by rw[he];simp) fV f' ji
theorem qW{D:Dk}{R:List ak}(h:jF D R){id:Int}{H':Ho}(hp:lX (eo id) R H'):gy id D=H':=PG h hp (pre:=[]) rfl rfl 300 rfl
theorem uN(s:ak)(c6:Int):(x7 s c6).size<=s.size:=by unfold x7;simp;omega
theorem jF.cut{D:Dk}{R:List ak}(h:jF D R)(n:Int):jF (cO D n) R:=⟨h.len,h.many,h.on,h.off,h.size,h.mr⟩
theorem jF.bad{D:Dk}{R:List ak}(h:jF D R){s:ak}(hs:s.size<=700000)(hb:n_ 124 s){c6:Int}(ho:nt D=true)(hr:R.length<300):jF (fx D R.length (dQ (R.length:Nat) s) c6) R:=by
 unfold fx;rw[if_pos ho];split
 ·rename_i ht;refine⟨by simpa using h.len,h.many,fun k x hk=>?_,fun k t hk hx=>?_,fun t hx=>?_,h.mr⟩
  ·have :=(au.1 hk).1;dsimp only;rw[List.getElem?_set_ne ae];exact h.on k x hk
  ·dsimp only at hx;rw[List.getElem?_set]at hx;split at hx
   ·rename_i e;subst e;split at hx
    ·simp only[ay]at hx;subst hx;unfold x7;have h0:=qN (R.length:Nat) s;exact xk hb ae
    ·cases hx
   ·exact h.off k t hk hx
  ·dsimp only at hx;rcases br hx with h1|rfl
   ·exact h.size t h1
   ·have :=uN (dQ (R.length:Nat) s) c6;have :=rX (k:=(R.length:Nat)) ⟨by omega,by omega⟩ hs;omega
 ·exact h
theorem jF.ZR{D:Dk}{R:List ak}(h:jF D R){s:ak}(hs:s.size<=700000)(hb:n_ 124 s)(kZ:eX 250 s){c6:Int}(ho:¬nt D=true)(hr:R.length<300):jF (fx D R.length (dQ (R.length:Nat) s) c6) (R++[s]):=by
 unfold fx;rw[if_neg ho];have hl:=h.len;refine⟨by simpa using h.len,by simp;omega,fun k x hk=>?_,fun k t hk hx=>?_,fun t hx=>?_,fun x hx=>?_⟩
 ·dsimp only;rcases Nat.lt_or_ge k R.length with dI|B7
  ·rw[List.getElem?_append_left dI]at hk;rw[List.getElem?_set_ne ae];exact h.on k x hk
  ·have :=(au.1 hk).1;simp at this;obtain rfl:k=R.length:=by omega
   rw[bM (aC _)]at hk;simp at hk;subst hk;rw[List.getElem?_set_self ae]
 ·dsimp only at hx;simp at hk;rw[List.getElem?_set_ne ae]at hx;exact h.off k t ae hx
 ·dsimp only at hx;rcases br hx with h1|rfl
  ·exact h.size t h1
  ·have :=rX (k:=(R.length:Nat)) ⟨by omega,by omega⟩ hs;omega
 ·rcases aP.1 hx with hx|hx
  ·exact h.mr x hx
  ·simp at hx;subst hx;exact⟨kZ,hb⟩
theorem tW:jF lR []:=by
 refine⟨List.length_replicate,by simp,fun k s h=>by simp at h,fun k t _ ht=>?_,fun t ht=>?_,fun s h=>by cases h⟩
 ·have :t=⟨#[]⟩:=List.eq_of_mem_replicate (ax ht);subst this;exact Jc _
 ·have :t=⟨#[]⟩:=List.eq_of_mem_replicate ht;subst this;decide
theorem vX{c:UInt8}(h2:isLet c=false){s:ak}(h:gT s=true):n_ c s:=fun b hb e=>by
 subst e;unfold gT at h;rw[aG]at h;rw[h b hb]at h2;cases h2
theorem Bx{x:rL}(h:ga x):n_ 124 (oK x):=by
 rw[vT];unfold o4;refine dp (dp (dH ai) (dH ai)) (dp (dp (pN ai ai ai fun m hm=>?_) (dH ai)) fun b hb=>?_)
 ·obtain⟨p,hp,rfl⟩:=aD.1 hm;exact h.aU p hp
 ·rcases jc hb with hb|⟨y,hy,hb⟩
  ·simp[plus]at hb;subst hb;decide
  ·obtain⟨g,hg,rfl⟩:=aD.1 hy;exact DV (h.bj g hg).2.2 ai ai ai b hb
theorem NU{x:Nm}(h:bW x=true):n_ 124 (jK x):=by
 obtain⟨h1,h2,-,-⟩:=eJ h;rw[C6];have hd:n_ 124 (jD x.iQ):=by
  unfold jD;split
  ·exact dH ai
  ·rename_i h3;rcases h2 with h2|h2
   ·exact vX ai (gF h2)
   ·exact absurd h2 h3
 exact dp (dp (dH ai) (dH ai)) (dp (dp (vX ai (gF h1)) (dH ai)) (dp (dp hd (dH ai)) (fE _ ai)))
theorem ga.Ym{x:rL}(h:ga x){k:Nat}(hk:x.aU.length<=k):eX k (oK x):=by
 have h1:=h.Yl;refine⟨h1.size,fun _ l hl=>?_,fun qB=>?_⟩
 ·rw[nz,h.read]at hl;simp only[ay]at hl;subst hl;simpa using hk
 ·rw[nz]at qB;exact absurd (show bV 117=bV 114 from qB) ai
theorem eX.mono{k m:Nat}{s:ak}(h:eX k s)(hk:k<=m):eX m s:=⟨h.size,fun e l hl=>Nat.le_trans (h.many e l hl) hk,fun e a b c l h1 h2=>⟨Nat.le_trans (h.Q_ e a b c l h1 h2).1 hk,(h.Q_ e a b c l h1 h2).2⟩⟩
theorem JB{x:Nm}(h:bW x=true):rb (x.name++bV 32++(jD x.iQ++bV 32++bH x.b9))=some x:=by
 obtain⟨h1,h2,h5,h6⟩:=eJ h;have hd:n_ 32 (jD x.iQ):=by
  unfold jD;split
  ·exact dH ai
  ·rename_i h3;rcases h2 with h2|h2
   ·exact vX ai (gF h2)
   ·exact absurd h2 h3
 unfold rb;rw[iK (vX ai (gF h1)),iK hd,km (fE _ ai)];dsimp only;rw[gW ⟨by omega,by omega⟩];have hda:dash (jD x.iQ)=x.iQ:=by
  unfold jD;split
  ·rename_i h3;rw[h3];decide
  ·rename_i h3;unfold dash Lib.trimPrefix;rw[if_neg]
   ·rfl
   ·rcases h2 with h2|h2
    ·have hl:=gF h2;unfold gT at hl;rw[aG]at hl;intro hp;cases ht:x.iQ.data.toList with
     |nil=>rw[ht]at hp;revert hp;decide
     |cons b r=>
      rw[ht]at hp;have hb:(45:UInt8)=b:=by unfold Lib.hasPrefix at hp;simpa using hp
      have :=hl b (by rw[ht];simp);rw[<-hb]at this
      revert this;decide
    ·exact absurd h2 h3
 rw[hda];rfl
theorem uG{H:Ho}{x:Nm}(h:cu H.names x=0):bO H (jK x)=(eP H x,true):=by
 unfold bO;rw[rn];dsimp only;rw[if_pos rfl,JB (kV h)];dsimp only;unfold Dq;rw[h];rfl
theorem Du{H:Ho}(x:rL):bO H (oK x)=fq H (o4 x):=by
 unfold bO;rw[nz];dsimp only;rw[if_neg ai,if_neg ai,if_pos rfl]
theorem kW{c:UInt8}(h:c≠58)(s:ak):cQ 58 (bV c++bV 58++s)=(bV c,s,true):=cutB_hit (dH h) s
theorem l5{c:UInt8}(h:c≠58)(h1:c≠117)(h2:c≠114){s:ak}(hs:s.size<=79000):eX 1 (bV c++bV 58++s):=by
 have e1:(bV c).size=1:=rfl;have e2:(bV 58).size=1:=rfl;have e3:∀d,bV c=bV d->c=d:=fun d e=>by
  have :=congrArg (·.data.toList) e
  simpa[bV]using this
 refine⟨by simp only[aB];omega,fun hk=>?_,fun hk=>?_⟩
 ·rw[kW h]at hk;exact absurd (e3 _ hk) h1
 ·rw[kW h]at hk;exact absurd (e3 _ hk) h2
def r4 (s:ak):ak:=bV 100++bV 58++s
def nQ (H:Ho) (s:ak):Int:=if H.names.any (fun x=>decide (x.name=s))=true then 0 else 7
def Sc (H:Ho) (D:Dk) (s:ak):Int:=if nQ H s≠0 then nQ H s else ep H D
def IT (H:Ho) (D:Dk) (s:ak):Ho:=if nQ H s≠0 then H else oU H D (r4 s)
def Lr (H:Ho) (D:Dk) (s:ak):Dk:=if nQ H s≠0 then D else ig H D (r4 s)
def u3 (k:Int):ak:=bV 97++bV 58++bH k
def mF (H:Ho) (k n:Int):Int:=if bQ H k=false then 2 else if H.down=true then 6 else if bR H k.toNat=[]\/n≠da H k.toNat then 8 else 0
def caE (H:Ho) (D:Dk) (k n:Int):Int:=if mF H k n≠0 then mF H k n else ep H D
def E7 (H:Ho) (D:Dk) (k n:Int):Ho:=if mF H k n≠0 then H else oU H D (u3 k)
def KW (H:Ho) (D:Dk) (k n:Int):Dk:=if mF H k n≠0 then D else ig H D (u3 k)
def kN (k:Int) (l:List Int):ak:=bV 98++bV 58++cJ ((k::l).map bH) sp
def dW (H:Ho) (k:Nat):List Int:=((eK (H.hF k)).take 3).map (·.id)
def py (H:Ho) (k:Int):Int:=if bQ H k=false then 2 else if H.down=true then 6 else if bR H k.toNat=[]/\eK (H.hF k.toNat)=[]then 8 else 0
def gA (H:Ho) (k:Int):Bool:=decide (py H k=0/\bR H k.toNat=[])
def vt (H:Ho) (D:Dk) (k:Int):Int:=if py H k≠0 then py H k else if gA H k=true then ep H D else 0
def ov (H:Ho) (D:Dk) (k:Int):Ho:=if gA H k=true then oU H D (kN k (dW H k.toNat))else H
def wm (H:Ho) (D:Dk) (k:Int):Dk:=if gA H k=true then ig H D (kN k (dW H k.toNat))else D
def MM (l:List Int) (m:Ms):Bool:=decide (m.id∈l)
def Bu (H:Ho) (D:Dk) (k:Int):List Ms:=if vt H D k=0 then(cM ((ov H D k).hF k.toNat)).filter (MM (bR (ov H D k) k.toNat))else[]
def K0 (H:Ho) (D:Dk) (k:Int):Int:=if vt H D k=0 then da (ov H D k) k.toNat else 0
theorem vV{k:Int}(hk:0<=k/\k<4):eX 1 (u3 k):=l5 ai ai ai (by have :=bJ (n:=k) ⟨by omega,by omega⟩;omega)
theorem w_{k:Int}{l:List Int}(hk:0<=k/\k<4)(hl:l.length<=3)(hi:∀x∈l,jG x):(cJ ((k::l).map bH) sp).size<=1000:=by
 have h1:=eM sp 30 ((k::l).map bH) (fun x hx=>by
  obtain⟨n,hn,rfl⟩:=aD.1 hx;have hb:jG n:=by
   rcases aJ.1 hn with rfl|hn
   ·exact⟨by omega,by omega⟩
   ·exact hi n hn
  have :=bJ hb;omega)
 have h2:sp.size=1:=rfl;rw[h2,aV,List.length_cons]at h1;omega
theorem mU{k:Int}{l:List Int}(hk:0<=k/\k<4)(hl:l.length<=3)(hi:∀x∈l,jG x):eX 1 (kN k l):=l5 ai ai ai (by have :=w_ hk hl hi;omega)
def TX (r:List (ak×Int)):List (ak×Value):=r.map fun x=>(x.1,.int .i64 x.2)
def Hz (r:List (ak×Int)) (s:ak):Int:=(gC r s).getD 0
theorem Hy(r:List (ak×Int))(s:ak):(gC (TX r) s).getD (.int .i64 0)=.int .i64 (Hz r s):=by
 unfold TX Hz
 induction r with
 |nil=>rfl
 |cons x r ih=>
  rw[aT,gC,gC];dsimp only;by_cases h:x.1=s
  ·rw[if_pos h,if_pos h];rfl
  ·rw[if_neg h,if_neg h,ih]
theorem Pm(r:List (ak×Int))(s:ak)(v:Int):kj (TX r) s (.int .i64 v)=TX (kj r s v):=by
 unfold TX
 induction r with
 |nil=>rfl
 |cons x r ih=>
  rw[aT,kj,kj];dsimp only;by_cases h:x.1=s
  ·rw[if_pos h,if_pos h];rfl
  ·rw[if_neg h,if_neg h,ih];rfl
theorem Pn(r:List (ak×Int))(s t:ak)(v:Int):Hz (kj r s v) t=if s=t then v else Hz r t:=by
 unfold Hz;rw[tQ];split<;>rfl
def toDead (H:Ho) (m:Ms) (r:List (ak×Int)):Bool:=match H.qI m.queue with
 |none=>true
 |some i=> !dO H.names m.queue||decide (20<=((H.dX i).l.length:Int)+Hz r m.queue)
def eb (H:Ho):List Ms->List (ak×Int)->List ak
 |[],_=>[]
 |m::l,r=>if toDead H m r=true then c_::eb H l r else m.queue::eb H l (kj r m.queue (Hz r m.queue+1))
theorem lA(H:Ho):∀(l:List Ms) (r:List (ak×Int)),(eb H l r).length=l.length
 |[],_=>rfl
 |m::l,r=>by
  unfold eb;split<;>simp[lA H l]
theorem uf(H:Ho):∀(l:List Ms) (r:List (ak×Int)),∀t∈eb H l r,t=c_\/∃m∈l,t=m.queue
 |[],_,t,h=>by cases h
 |m::l,r,t,h=>by
  unfold eb at h;split at h
  ·rcases aJ.1 h with rfl|h
   ·exact .inl rfl
   ·rcases uf H l r t h with h|⟨x,hx,h⟩
    ·exact .inl h
    ·exact .inr ⟨x,by simp[hx],h⟩
  ·rcases aJ.1 h with rfl|h
   ·exact .inr ⟨m,by simp,rfl⟩
   ·rcases uf H l _ t h with h|⟨x,hx,h⟩
    ·exact .inl h
    ·exact .inr ⟨x,by simp[hx],h⟩
def kH (H:Ho) (m:Ms):Bool:=decide (m.b9≠H.id)||decide (m.id%4=H.id)
def wY (m x:Ms):Bool:=decide (x.id=m.id)
def Cs (H:Ho) (l:List Ms) (i:Nat) (m:Ms):Bool:=(l.take i).any (wY m)||H.aE.any fun x=>CL x.2 m.id
def By (H:Ho) (l:List Ms):Bool:=l.zipIdx.any fun x=>Cs H l x.2 x.1
def qO (k:Int) (l:List Ms) (t:List ak):ak:=bV 114++bV 58++(bH k++bV 47++(bL l++bV 47++cJ t plus))
def sF (H:Ho) (k n:Int) (l:List Ms):Int:=
 if bQ H k=false then 2 else if H.down=true then 6 else if n<=cT H k.toNat then 0 else if cT H k.toNat+1<n then 10 else if iX l≠none\/l.any (kH H)=true then 1 else if By H l=true then 9 else 0
def Eh (H:Ho) (k n:Int) (l:List Ms):Bool:=decide (sF H k n l=0/\cT H k.toNat<n)
def Kh (H:Ho) (D:Dk) (k n:Int) (l:List Ms):Int:=if sF H k n l≠0 then sF H k n l else if Eh H k n l=true then ep H D else 0
def qE (H:Ho) (k:Int) (l:List Ms):ak:=qO k l (eb H l [])
def sQ (H:Ho) (D:Dk) (k n:Int) (l:List Ms):Ho:=if Eh H k n l=true then oU H D (qE H k l)else H
def y0 (H:Ho) (D:Dk) (k n:Int) (l:List Ms):Dk:=if Eh H k n l=true then ig H D (qE H k l)else D
def vu (H:Ho) (D:Dk) (k n:Int) (l:List Ms):Int:=if Kh H D k n l=0 then cT (sQ H D k n l) k.toNat else 0
theorem rP{c:UInt8}(h2:isLet c=false){s:ak}(h:cS s=true):n_ c s:=fun b hb e=>by
 subst e;have h:=gF h;unfold gT at h;rw[aG]at h;rw[h b hb]at h2;cases h2
theorem ya:cS c_=true:=by decide+kernel
theorem lT{H:Ho}{l:List Ms}(h:∀m∈l,bG m=true)(r:List (ak×Int)):∀t∈eb H l r,cS t=true:=fun t ht=>by
 rcases uf H l r t ht with rfl|⟨m,hm,rfl⟩
 ·exact ya
 ·obtain⟨-,-,-,-,-,h6,-,-⟩:=bP (h m hm);exact h6
theorem tx{c:UInt8}{sep:ak}(hs:n_ c sep){l:List ak}(h:∀x∈l,n_ c x):n_ c (cJ l sep):=fun b hb=>by
 rcases jc hb with hb|⟨y,hy,hb⟩
 ·exact hs b hb
 ·exact h y hy b hb
theorem zA{l:List ak}(hl:l≠[])(h:∀t∈l,cS t=true):cH 43 (cJ l plus)=l:=by
 have :∀{l:List ak},l≠[]->(∀p∈l,n_ 43 p)->cH 43 (cJ l (bV 43))=l:=by
  intro l
  induction l with
  |nil=>intro h;exact absurd rfl h
  |cons p l ih=>
   intro _ h;cases l with
   |nil=>rw[jT];exact km (h p aj)
   |cons q l=>rw[fM,iK (h p aj),ih aj fun x hx=>h x sR]
 exact this hl fun t ht=>rP ai (h t ht)
theorem w8{k:Int}{l:List Ms}{t:List ak}(h:∀m∈l,bG m=true)(ht:∀x∈t,cS x=true):cH 47 (cQ 58 (qO k l t)).2.1=[bH k,bL l,cJ t plus]:=by
 unfold qO;rw[kW ai];dsimp only;rw[iK (fE _ ai),iK (pN ai ai ai h),km];exact tx (fun b hb=>by simp[plus]at hb;subst hb;decide) fun x hx=>rP ai (ht x hx)
theorem vU{k:Int}{l:List Ms}{t:List ak}(hk:0<=k/\k<4)(h:iX l=none)(hl:l.length<=250)(ht:∀x∈t,cS x=true)(dI:t.length=l.length):eX 250 (qO k l t)/\(qO k l t).size<=40000:=by
 have hr:=dm h;have h1:(bL l).size<=250*101:=by
  have :=eM plus 100 (l.map oL) (fun x hx=>by
   obtain⟨m,hm,rfl⟩:=aD.1 hx
   exact zH (hr m hm))
  have h2:plus.size=1:=rfl;rw[h2,aV]at this;unfold bL;have h3:=Nat.mul_le_mul_right (100+1) hl;omega
 have h4:(cJ t plus).size<=250*9:=by
  have :=eM plus 8 t (fun x hx=>(iO (ht x hx)).2);have h2:plus.size=1:=rfl;rw[h2,dI]at this;have h3:=Nat.mul_le_mul_right (8+1) hl;omega
 have h5:=bJ (n:=k) ⟨by omega,by omega⟩;have e1:(bV 114).size=1:=rfl;have e2:(bV 58).size=1:=rfl;have e3:(bV 47).size=1:=rfl;have hs:(qO k l t).size<=40000:=by unfold qO;simp only[aB];omega
 refine⟨⟨by omega,fun hk=>?_,fun _ a b c l' h6 h7=>?_⟩,hs⟩
 ·unfold qO at hk;rw[kW ai]at hk;exact absurd (show bV 114=bV 117 from hk) ai
 ·rw[w8 hr ht]at h6;simp only[List.cons.injEq,and_true]at h6;obtain⟨-,rfl,rfl⟩:=h6;rw[pP h]at h7;simp only[ay]at h7;subst h7;refine⟨hl,?_⟩;by_cases h0:t=[]
  ·subst h0;simp at dI;omega
  ·rw[zA h0 ht];omega
def WR (H:Ho):Prop:= ∀q∈H.ways,∀e∈q.l,bG e.m=true
theorem WR.of{H H':Ho}(h:WR H)(e:H'.ways=H.ways):WR H':=fun q hq=>h q (by rw[<-e];exact hq)
theorem WR.at'{H:Ho}(h:WR H)(j:Nat):∀e∈(H.hF j).l,bG e.m=true:=fun e he=>by
 unfold Ho.hF at he;rw[aq]at he;cases hj:H.ways[j]? with
 |none=>rw[hj]at he;cases he
 |some q=>rw[hj]at he;exact h q (ax hj) e he
theorem WR.iS{H:Ho}(h:WR H){j:Nat}{q:Qu}(hq:∀e∈q.l,bG e.m=true):WR (H.iS j q):=fun q' h'=>by
 unfold Ho.iS at h';rcases br h' with h1|rfl
 ·exact h q' h1
 ·exact hq
theorem zx{q:Qu}{m:Ms}{u:Int}{e:It}(h:e∈(dS q m u).l):e=gI q m u\/e∈q.l:=by
 unfold dS at h;rcases aP.1 h with h|h
 ·exact .inr (List.mem_of_mem_take h)
 ·rcases aJ.1 h with h|h
  ·exact .inl h
  ·exact .inr (List.mem_of_mem_drop h)
theorem I7{q:Qu}{id:Int}{e:It}(h:e∈(fm q id).l):e∈q.l:=by
 unfold fm at h;split at h
 ·exact h
 ·exact(List.eraseIdx_sublist _ _).subset h
theorem xc{e:It}:∀(l:List Int) (q:Qu),e∈(dA q l).l->e∈q.l
 |[],_,h=>h
 |i::l,q,h=>I7 (xc l (fm q i) h)
theorem M1{H H1:Ho}{m:Ms}(h:WR H)(hm:bG m=true)(h1:fO H m=some H1):WR H1:=by
 unfold fO at h1;dsimp only at h1;split at h1
 ·simp only[ay]at h1;subst h1;refine WR.iS (H:={H with next:=max H.next (m.id/4+1)}) h fun e he=>?_
  rcases zx he with rfl|he
  ·exact hm
  ·exact h.at' _ e he
 ·split at h1
  ·cases h1
  ·simp only[ay]at h1;subst h1;exact h
theorem Ds:∀(l:List Ms) (H:Ho),WR H->(∀m∈l,bG m=true)->WR (fG H l).1
 |[],_,h,_=>h
 |m::r,H,h,hl=>by
  unfold fG;cases h1:fO H m with
  |none=>exact h
  |some H1=>exact Ds r H1 (M1 h (hl m aj) h1) fun x hx=>hl x sR
theorem DK:∀(l:List ak) (H:Ho),WR H->WR (gP H l).1
 |[],_,h=>h
 |s::r,H,h=>by
  unfold gP;cases h1:gQ H s with
  |none=>exact h
  |some H1=>
   refine DK r H1 ?_;unfold gQ at h1;split at h1
   ·cases h1
   ·split at h1
    ·cases h1
    ·split at h1
     ·simp only[ay]at h1;subst h1;exact h
     ·cases h1
theorem tL:∀(l:List (Ms×ak)) (H:Ho),WR H->WR (dP H l).1
 |[],_,h=>h
 |(m,t)::r,H,h=>by
  unfold dP;cases H.qI t with
  |none=>exact h
  |some i=>exact tL r _ h
theorem DN{H:Ho}(h:WR H)(s:ak):WR (fq H s).1:=by
 unfold fq;split
 ·exact h
 ·split
  ·exact h
  ·rename_i l hl;have h1:=Ds l H h (dm (mY hl).1);split
   ·exact h1
   ·split
    ·exact h1
    ·exact DK _ _ h1
theorem M7{H:Ho}(h:WR H)(s:ak):WR (gO H s).1:=by
 unfold gO;split
 ·split<;>exact h
 ·exact h
theorem JG{H:Ho}(h:WR H)(s:ak):WR (eQ H s).1:=by
 unfold eQ;split
 ·split
  ·exact(h.iS fun e he=>h.at' _ e (xc _ _ he)).of rfl
  ·exact h
 ·exact h
theorem Ng{H:Ho}(h:WR H)(s:ak):WR (gR H s).1:=by
 unfold gR;split
 ·split
  ·split
   ·split
    ·exact(tL _ _ h).of rfl
    ·exact tL _ _ h
   ·exact h
  ·exact h
 ·exact h
theorem tC{H:Ho}(h:WR H)(s:ak):WR (bO H s).1:=by
 unfold bO;split
 ·split
  ·exact h
  ·refine h.of ?_;unfold eP;split<;>rfl
 ·split
  ·exact h
  ·split
   ·exact DN h _
   ·split
    ·exact M7 h _
    ·split
     ·exact JG h _
     ·split
      ·exact Ng h _
      ·exact h
theorem CX(D:Dk):∀(f:Nat) (H:Ho),WR H->WR (h_ D f H)
 |0,_,h=>h
 |f+1,H,h=>by
  unfold h_;split
  ·exact h
  ·split
   ·exact tC h _
   ·exact CX D f _ ((tC h _).of rfl)
theorem Il(id:Int):WR (eo id):=fun q hq=>by
 have :q=⟨[],0⟩:=List.eq_of_mem_replicate (n:=4) (by exact hq);subst this;intro e he;cases he
theorem Mg(id:Int)(D:Dk):WR (gy id D):=CX D 300 _ (Il id)
theorem uv{H:Ho}(h:WR H)(j:Nat):∀m∈cM (H.hF j),bG m=true:=fun m hm=>by
 unfold cM at hm;obtain⟨e,he,rfl⟩:=aD.1 hm;exact h.at' j e (aI.1 he).1
theorem zL(H:Ho)(D:Dk):(dY H D).ways=H.ways:=by
 unfold dY;split
 ·rfl
 ·split<;>rfl
theorem Tw{H:Ho}(h:WR H)(D:Dk)(s:ak):WR (oU H D s):=by
 unfold oU;have h1:=h.of (zL H D);split
 ·exact tC h1 s
 ·exact h1
theorem AL(H:Ho)(i:Nat)(q:Qu):(H.ft i q).aE.length=H.aE.length:=by unfold Ho.ft;simp
theorem M0{H H1:Ho}{m:Ms}(h1:fO H m=some H1):H1.aE.length=H.aE.length:=by
 unfold fO at h1;dsimp only at h1;split at h1
 ·simp only[ay]at h1;subst h1;rfl
 ·split at h1
  ·cases h1
  ·simp only[ay]at h1;subst h1;exact AL _ _ _
theorem so:∀(l:List Ms) (H:Ho),(fG H l).1.aE.length=H.aE.length
 |[],_=>rfl
 |m::r,H=>by
  unfold fG;cases h1:fO H m with
  |none=>rfl
  |some H1=>exact(so r H1).trans (M0 h1)
theorem DJ:∀(l:List ak) (H:Ho),(gP H l).1.aE.length=H.aE.length
 |[],_=>rfl
 |s::r,H=>by
  unfold gP;cases h1:gQ H s with
  |none=>rfl
  |some H1=>
   refine(DJ r H1).trans ?_;unfold gQ at h1;split at h1
   ·cases h1
   ·split at h1
    ·cases h1
    ·split at h1
     ·simp only[ay]at h1;subst h1;exact AL _ _ _
     ·cases h1
theorem tK:∀(l:List (Ms×ak)) (H:Ho),(dP H l).1.aE.length=H.aE.length
 |[],_=>rfl
 |(m,t)::r,H=>by
  unfold dP;cases H.qI t with
  |none=>rfl
  |some i=>exact(tK r _).trans (AL _ _ _)
theorem DL(H:Ho)(s:ak):(fq H s).1.aE.length=H.aE.length:=by
 unfold fq;split
 ·rfl
 ·split
  ·rfl
  ·rename_i l hl;split
   ·exact so l H
   ·split
    ·exact so l H
    ·exact(DJ _ _).trans (so l H)
theorem M6(H:Ho)(s:ak):(gO H s).1.aE.length=H.aE.length:=by
 unfold gO;split
 ·split<;>rfl
 ·rfl
theorem JF(H:Ho)(s:ak):(eQ H s).1.aE.length=H.aE.length:=by
 unfold eQ;split
 ·split<;>rfl
 ·rfl
theorem Nf(H:Ho)(s:ak):(gR H s).1.aE.length=H.aE.length:=by
 unfold gR;split
 ·split
  ·split
   ·split
    ·exact tK _ _
    ·exact tK _ _
   ·rfl
  ·rfl
 ·rfl
theorem zT(H:Ho)(s:ak):(bO H s).1.aE.length<=H.aE.length+1:=by
 unfold bO;split
 ·split
  ·exact Nat.le_succ _
  ·dsimp only;unfold eP;split
   ·dsimp only;split
    ·simp
    ·exact Nat.le_succ _
   ·exact Nat.le_succ _
 ·split
  ·exact Nat.le_succ _
  ·split
   ·exact Nat.le_succ_of_le (Nat.le_of_eq (DL _ _))
   ·split
    ·exact Nat.le_succ_of_le (Nat.le_of_eq (M6 _ _))
    ·split
     ·exact Nat.le_succ_of_le (Nat.le_of_eq (JF _ _))
     ·split
      ·exact Nat.le_succ_of_le (Nat.le_of_eq (Nf _ _))
      ·exact Nat.le_succ _
theorem CW(D:Dk):∀(f:Nat) (H:Ho),H.aE.length<=1+H.used->(h_ D f H).aE.length<=2+(h_ D f H).used
 |0,H,h=>by show H.aE.length<=2+H.used;omega
 |f+1,H,h=>by
  unfold h_;split
  ·omega
  ·rename_i s hs;have h1:=zT H s;have h2:=(fP H s).used;split
   ·rw[h2];omega
   ·refine CW D f _ ?_;dsimp only;omega
theorem Mf(id:Int)(D:Dk):(gy id D).aE.length<=2+(gy id D).used:=CW D 300 _ (aC 1)
theorem PU(H:Ho)(D:Dk):(dY H D).aE=H.aE/\H.used<=(dY H D).used:=by
 unfold dY;split
 ·exact⟨rfl,aC _⟩
 ·split
  ·exact⟨rfl,aC _⟩
  ·exact⟨rfl,Nat.le_succ _⟩
theorem Tv{H:Ho}(h:H.aE.length<=2+H.used)(D:Dk)(s:ak):(oU H D s).aE.length<=2+(oU H D s).used:=by
 obtain⟨a,b⟩:=PU H D;unfold oU;split
 ·rename_i h0;have h1:=zT (dY H D) s;have h2:=(fP (dY H D) s).used;have h3:(dY H D).used=H.used+1:=by
   have h4:jJ H=0/\nu D=0:=by
    unfold ep at h0;by_cases h5:jJ H=0
    ·rw[if_neg (by simpa using h5)]at h0;exact⟨h5,h0⟩
    ·rw[if_pos h5]at h0;exact absurd h0 h5
   unfold dY;rw[if_neg (by simpa using h4.1),if_neg (by simpa using h4.2)]
  rw[a]at h1;omega
 ·rw[a];omega
def pc (H:Ho) (m:Ms):Nat:=if m.b9≠H.id then m.b9.toNat else 4+(H.qI m.queue).getD 0
theorem fD{H H':Ho}(h:bN H'=bN H)(hi:H'.id=H.id)(m:Ms):pc H' m=pc H m:=by unfold pc;rw[cy h,hi]
theorem I9{n:Nat}{H:Ho}(hB:cE n H){m:Ms}(hr:bG m=true)(hq:m.b9=H.id->∃i,H.qI m.queue=some i):∃H1,fO H m=some H1/\(hv H1).Perm (⟨pc H m,m,-1,-1⟩::hv H)/\bN H1=bN H/\H1.names=H.names/\H1.next=max H.next (m.id/4+1)/\l4 H H1:=by
 by_cases hm:m.b9=H.id
 ·obtain⟨i,hi⟩:=hq hm;obtain⟨H1,a,b,c,d,-,e,f⟩:=L7 hB hm hi;have hj:pc H m=4+i:=by unfold pc;rw[if_neg (by rw[hm];simp),hi];rfl
  rw[hj];exact⟨H1,a,b,c,d,e,f⟩
 ·obtain⟨m1,m2,m3,m4,-,-,m7,m8⟩:=bP hr;let H0:Ho:={H with next:=max H.next (m.id/4+1)};have hj:m.b9.toNat<4:=by omega
  refine⟨H0.iS m.b9.toNat (dS (H0.hF m.b9.toNat) m (-1)),?_,?_,rfl,rfl,rfl,⟨rfl,rfl,rfl,rfl,rfl,rfl,rfl,rfl⟩⟩
  ·unfold fO;dsimp only;rw[if_pos hm];rfl
  ·unfold hv;rw[nB (H:=H0) (by rw[show H0.ways=H.ways from rfl,hB.ways];exact hj)];have E6:pc H m=m.b9.toNat:=by unfold pc;rw[if_pos hm]
   rw[E6];have :=vN (l:=H0.all) m (-1) (qH (H:=H0) hB.ways hj);exact this
theorem zz{n:Nat}:∀(l:List Ms) {H:Ho},cE n H->(∀m∈l,bG m=true/\(m.b9=H.id->∃i,H.qI m.queue=some i))->
 ∃H1,fG H l=(H1,true)/\(hv H1).Perm (l.map (fun m=>(⟨pc H m,m,-1,-1⟩:En))++hv H)/\bN H1=bN H/\H1.names=H.names/\l4 H H1/\H.next<=H1.next/\(∀m∈l,m.id/4<H1.next)/\(∀k:Int,H.next<=k->(∀m∈l,m.id/4<k)->H1.next<=k)/\cE (n+l.length) H1
 |[],H,hB,_=>⟨H,rfl,.refl _,rfl,rfl,.refl _,Int.le_refl _,(fun m hm=>by cases hm),(fun k h _=>h),hB⟩
 |m::l,H,hB,h=>by
  obtain⟨hr,hm⟩:=h m aj;obtain⟨H1,e1,p1,k1,n1,x1,s1⟩:=I9 hB hr hm;have kK:=hB.T_ hr e1;obtain⟨H2,e2,p2,k2,n2,s2,x2,y2,z2,Gr⟩:=zz (n:=n+1) l kK fun m' F9=>by
   obtain⟨a,b⟩:=h m' (by simp[F9]);exact⟨a,fun hh=>by rw[cy k1];exact b (by rw[hh,s1.id])⟩
  refine⟨H2,?_,?_,k2.trans k1,n2.trans n1,s1.trans s2,by omega,fun m' F9=>?_,fun k hk hl=>z2 k (by rw[x1];have :=hl m aj;omega) fun m' F9=>hl m' (by simp[F9]),Gr.le fV⟩
  ·rw[fG,e1];exact e2
  ·refine p2.trans ?_;rw[aT];have :(l.map fun m'=>(⟨pc H1 m',m',-1,-1⟩:En))=l.map fun m'=>⟨pc H m',m',-1,-1⟩:=by
    apply List.map_congr_left;intro m' _;rw[fD k1 s1.id]
   rw[this];refine((List.Perm.refl _).append p1).trans ?_;rw[bn];exact List.perm_middle
  ·rcases aJ.1 F9 with rfl|F9
   ·omega
   ·exact y2 m' F9
theorem Ak{n:Nat}{H:Ho}{x:rL}(hB:cE n H)(hx:ga x)(hn:((hv H).map eF).Nodup)(hp:∀p∈x.aU,p.1.b9=H.id->∃i,H.qI p.1.queue=some i)(hpn:(x.aU.map fun p=>p.1.id).Nodup)(hpf:∀p∈x.aU,∀e∈hv H,eF e≠p.1.id)(hgn:(x.bj.map (·.1)).Nodup)(hg:∀g∈x.bj,∃i,H.qI g.2=some i/\∃e∈hv H,e.j=4+i/\eF e=g.1):
 ∃H1,fq H (o4 x)=(H1,true)/\(hv H1).Perm ((x.aU.map (fun p=>(⟨pc H p.1,p.1,-1,-1⟩:En))++hv H).filter fun e=> !decide (eF e∈x.bj.map (·.1)))/\bN H1=bN H/\H1.names=H.names/\l4 H H1/\H.next<=H1.next/\(∀p∈x.aU,p.1.id/4<H1.next)/\(∀k:Int,H.next<=k->(∀p∈x.aU,p.1.id/4<k)->H1.next<=k)/\cE (n+x.aU.length) H1:=by
 obtain⟨H1,e1,p1,k1,n1,s1,x1,y1,z1,kK⟩:=zz (x.aU.map (·.1)) hB fun m hm=>by
  obtain⟨p,E0,rfl⟩:=aD.1 hm;exact⟨hx.aU p E0,hp p E0⟩
 rw[List.map_map]at p1;have y2:∀p∈x.aU,p.1.id/4<H1.next:=fun p hp=>y1 _ (List.mem_map_of_mem (f:=(·.1)) hp)
 have z2:∀k:Int,H.next<=k->(∀p∈x.aU,p.1.id/4<k)->H1.next<=k:=fun k hk h=>z1 k hk fun m hm=>by
  obtain⟨p,E0,rfl⟩:=aD.1 hm;exact h p E0
 rw[aV]at kK;have Dy:((hv H1).map eF).Nodup:=by
  refine(p1.map eF).nodup_iff.2 ?_;rw[bu,List.map_map,List.nodup_append];refine⟨?_,hn,fun a ha b hb=>?_⟩
  ·exact hpn
  ·obtain⟨p,E0,rfl⟩:=aD.1 ha;obtain⟨e,he,rfl⟩:=aD.1 hb;exact fun e2=>hpf p E0 e he e2.symm
 have B8:fq H (o4 x)=if cJ (x.bj.map gX) plus=⟨#[]⟩then(H1,true)else gP H1 (cH 43 (cJ (x.bj.map gX) plus)):=by
  unfold fq;have YS:=hx.read;rw[hx.cut]at YS ⊢;dsimp only at YS ⊢;rw[if_neg aj,YS];dsimp only;rw[e1];rfl
 by_cases h0:x.bj=[]
 ·refine⟨H1,?_,?_,k1,n1,s1,x1,y2,z2,kK⟩
  ·rw[B8,h0];rfl
  ·rw[h0];refine p1.trans ?_;rw[b_.2 (fun a _=>by simp)];exact .refl _
 ·obtain⟨t1,t2⟩:=JP (fun g hg=>(hx.bj g hg).2.2) h0;rw[if_neg t1,t2]at B8;obtain⟨H2,e2,p2,k2,n2,w2,x2,s2,Gr⟩:=DW x.bj kK Dy hgn fun g Zn=>by
   obtain⟨i,hi,e,he,hj,hid⟩:=hg g Zn;exact⟨hx.bj g Zn,i,by rw[cy k1];exact hi,e,p1.mem_iff.2 (List.mem_append_right _ he),hj,hid⟩
  exact⟨H2,B8.trans e2,p2.trans (p1.filter _),k2.trans k1,n2.trans n1,s1.trans s2,by omega,fun p hp=>by rw[x2];exact y2 p hp,fun k a b=>by rw[x2];exact z2 k a b,Gr⟩
theorem Cy{α:Type}{l:List α}{j:Nat}{q:α}(h:l[j]? =some q):l.set j q=l:=by
 apply List.ext_getElem?;intro i;rw[List.getElem?_set];split
 ·rename_i e;rw[if_pos (au.1 h).1,<-e,h]
 ·rfl
theorem Lz{l:List Qu}{j:Nat}{q:Qu}{a:Int}(h:l[j]? =some q)(hn:((vw l).map eF).Nodup)(hj:∀e∈vw l,eF e=a->e.j=j):(vw (l.set j (fm q a))).Perm ((vw l).filter fun e=> !decide (eF e=a)):=by
 cases hk:nX q a with
 |none=>
  have e1:fm q a=q:=by unfold fm;rw[hk]
  rw[e1,Cy h,b_.2];intro e he;have h2:eF e≠a:=fun e2=>by
   obtain⟨q',h3,x,hx,hex⟩:=AI.1 he;rw[hj e he e2,h]at h3;simp only[ay]at h3;subst h3;unfold nX at hk;rw[List.findIdx?_eq_none_iff]at hk;have :=hk x hx;unfold MP at this;have h4:x.m.id=a:=by rw[<-e2,hex];rfl
   simp[h4]at this
  simpa using h2
 |some k=>
  obtain⟨oX,SP,-⟩:=List.findIdx?_eq_some_iff_getElem.1 hk;have Qn:q.l[k]? =some q.l[k]:=ao oX;have UZ:(q.l[k]).m.id=a:=by unfold MP at SP;simpa using SP
  have e1:fm q a=⟨q.l.eraseIdx k,q.next⟩:=by unfold fm;rw[hk]
  rw[e1];have :=Ai hn (Cl h Qn q.next);rw[show eF (kA j q.l[k])=a from UZ]at this;exact this
theorem zm{j:Nat}:∀(b:List Int) {l:List Qu} {q:Qu},l[j]? =some q->((vw l).map eF).Nodup->(∀e∈vw l,eF e∈b->e.j=j)->(vw (l.set j (dA q b))).Perm ((vw l).filter fun e=> !decide (eF e∈b))
 |[],l,q,h,hn,hj=>by
  rw[show dA q []=q from rfl,Cy h,b_.2 (fun _ _=>by simp)]
 |a::b,l,q,h,hn,hj=>by
  have dI:=(au.1 h).1;have p1:=Lz (a:=a) h hn fun e he e2=>hj e he (by simp[e2])
  have h1:(l.set j (fm q a))[j]? =some (fm q a):=by rw[List.getElem?_set_self dI]
  have Dy:((vw (l.set j (fm q a))).map eF).Nodup:=(p1.map eF).nodup_iff.2 (hn.sublist (List.filter_sublist.map _));have p2:=zm b h1 Dy fun e he e2=>hj e (aI.1 (p1.mem_iff.1 he)).1 (by simp[e2])
  rw[List.set_set]at p2;refine p2.trans ((p1.filter _).trans (List.Perm.of_eq ?_));rw[cB];refine List.filter_congr fun x _=>?_
  by_cases h1:eF x=a<;>by_cases h2:eF x∈b<;>simp[h1,h2]
theorem tY{n:Nat}:∀(l:List (Ms×ak)) {H:Ho},cE n H->(∀x∈l,((0<=x.1.pri/\x.1.pri<=9)/\0<=x.1.id/\x.1.id<=1099511627776)/\∃i,H.qI x.2=some i)->
 ∃H1,dP H l=(H1,true)/\(hv H1).Perm (l.map (fun x=>(⟨4+(H.qI x.2).getD 0,x.1,-1,-1⟩:En))++hv H)/\bN H1=bN H/\H1.names=H.names/\H1.next=H.next/\l4 H H1/\cE (n+l.length) H1
 |[],H,hB,_=>⟨H,rfl,.refl _,rfl,rfl,rfl,.refl _,hB⟩
 |(m,t)::l,H,hB,h=>by
  obtain⟨hm,i,hi⟩:=h (m,t) aj;have uK:=(i_ hi).1;have kK:=(hB.le (Nat.le_succ n)).ft ((hB.qa uK).s9 hm.1 hm.2 (-1)) i;have p1:(hv (H.ft i (dS (H.dX i) m (-1)))).Perm (⟨4+i,m,-1,-1⟩::hv H):=by
   unfold hv;rw[lU hB.ways];exact vN m (-1) (IA hB uK)
  have k1:bN (H.ft i (dS (H.dX i) m (-1)))=bN H:=by unfold bN;exact ki i _
  obtain⟨H2,e2,p2,k2,n2,x2,s2,Gr⟩:=tY (n:=n+1) l kK fun x hx=>by
   obtain⟨a,j,b⟩:=h x sR;exact⟨a,j,by rw[cy k1];exact b⟩
  refine⟨H2,?_,?_,k2.trans k1,n2,x2,l4.trans (B:=H.ft i (dS (H.dX i) m (-1))) ⟨rfl,rfl,rfl,rfl,rfl,rfl,rfl,rfl⟩ s2,Gr.le fV⟩
  ·rw[dP,hi];exact e2
  ·refine p2.trans ?_;have :(l.map fun x=>(⟨4+((H.ft i (dS (H.dX i) m (-1))).qI x.2).getD 0,x.1,-1,-1⟩:En))=l.map fun x=>⟨4+(H.qI x.2).getD 0,x.1,-1,-1⟩:=by
    apply List.map_congr_left;intro x _;rw[cy k1]
   rw[this,aT];dsimp only;rw[hi,Option.getD_some,bn];refine((List.Perm.refl _).append p1).trans ?_;exact List.perm_middle
theorem zQ{l:List Int}(h0:l≠[])(h:∀x∈l,jG x):oF (cJ (l.map bH) sp)=some l:=by
 unfold oF
 rw[show(sp:ak)=bV 32 from rfl,s_ XG (fun p hp=>by
  obtain⟨n,-,rfl⟩:=aD.1 hp
  exact fE _ ai)]
 clear h0
 induction l with
 |nil=>rfl
 |cons a l ih=>
  rw[aT,List.mapM_cons,gW (h a aj),ih fun x hx=>h x sR];rfl
theorem uH{H:Ho}{k a:Int}{r:List Int}(hr:bQ H k=true)(hi:∀x∈a::r,jG x):
 bO H (kN k (a::r))=({H with batch:=H.batch.set k.toNat (a::r),bU:=H.bU.set k.toNat (da H k.toNat+1)},true):=by
 have h4:=bT.1 hr;have e:oF (cJ ((k::a::r).map bH) sp)=some (k::a::r):=zQ aj fun x hx=>by
  rcases aJ.1 hx with rfl|hx
  ·exact⟨by omega,by omega⟩
  ·exact hi x hx
 unfold bO kN;rw[kW ai];dsimp only;rw[if_neg ai,if_neg ai,if_neg ai,if_pos rfl];unfold gO;rw[e];dsimp only;rw[if_pos hr]
theorem sq{H:Ho}{k:Int}(hr:bQ H k=true):
 bO H (u3 k)=({H.iS k.toNat (dA (H.hF k.toNat) (bR H k.toNat))with batch:=H.batch.set k.toNat []},true):=by
 have h4:=bT.1 hr;have e:oF (bH k)=some [k]:=by
  have :=zQ (l:=[k]) aj (fun x hx=>by simp at hx;subst hx;exact⟨by omega,by omega⟩)
  rwa [aT,List.map_nil,jT]at this
 unfold bO u3;rw[kW ai];dsimp only;rw[if_neg ai,if_neg ai,if_neg ai,if_neg ai,if_pos rfl];unfold eQ;rw[e];dsimp only;rw[if_pos hr]
theorem Ja{l:List Ms}{t:List ak}(ht:∀x∈t,cS x=true)(dI:t.length=l.length):l.zip (cH 43 (cJ t plus))=l.zip t:=by
 by_cases h0:t=[]
 ·subst h0;have :l=[]:=by simpa using dI.symm
  subst this;rfl
 ·rw[zA h0 ht]
theorem uJ{H:Ho}{k:Int}{l:List Ms}{t:List ak}{H1:Ho}(hr:bQ H k=true)(h:iX l=none)(ht:∀x∈t,cS x=true)(dI:t.length=l.length)(h1:dP H (l.zip t)=(H1,true)):
 bO H (qO k l t)=({H1 with aF:=H.aF.set k.toNat (cT H k.toNat+1)},true):=by
 have h4:=bT.1 hr;have hp:=w8 (k:=k) (dm h) ht;have hc:cQ 58 (qO k l t)=(bV 114,bH k++bV 47++(bL l++bV 47++cJ t plus),true):=by unfold qO;exact kW ai _
 unfold bO;rw[hc]at hp ⊢;dsimp only at hp ⊢;rw[if_neg ai,if_neg ai,if_neg ai,if_neg ai,if_neg ai,if_pos rfl];unfold gR;rw[hp];dsimp only;rw[gW ⟨by omega,by omega⟩,pP h];dsimp only;rw[if_pos hr,Ja ht dI,h1];dsimp only;rw[if_pos rfl]
structure Fr where
 gD:Int
 num:Int
 wu:Bool
def ZX (f:Fr) (v:Value):List Value:=[.int .i64 f.gD,.int .i64 f.num,.bool f.wu,v]
def colon:ak:=⟨#[58]⟩
def lM (a:Bool):ak:=if a then⟨#[97]⟩else⟨#[98]⟩
def KV (f:Fr) (xs:List Ms):ak:=cJ [lM f.wu,bH f.gD,bH f.num,bL xs] colon
def okF (f:Fr) (xs:List Ms):Prop:=0<=f.gD/\f.gD<=3/\0<=f.num/\f.num<=1099511627776/\f.wu=decide (xs.length=0)/\xs.length<=3/\iX xs=none
instance (f:Fr) (xs:List Ms):Decidable (okF f xs):=by unfold okF;infer_instance
def ZW (f:Fr) (xs:List Ms):Int:=if okF f xs then 0 else 1
def ZV (f:Fr) (xs:List Ms):ak:=if okF f xs then KV f xs else⟨#[]⟩
theorem oo{f:Fr}{xs:List Ms}(h:¬okF f xs):ZW f xs=1/\ZV f xs=⟨#[]⟩:=⟨if_neg h,if_neg h⟩
theorem Iq{f:Fr}{xs:List Ms}(h:okF f xs):ZW f xs=0/\ZV f xs=KV f xs:=⟨if_pos h,if_pos h⟩
def QK (s:ak):Option (Fr×List Ms):=
 match cH 58 s with
 |[a,b,c,d]=>match dM b,dM c,qZ d with
  |some x,some y,some xs=>if okF ⟨x,y,decide (a=⟨#[97]⟩)⟩ xs/\KV ⟨x,y,decide (a=⟨#[97]⟩)⟩ xs=s then some (⟨x,y,decide (a=⟨#[97]⟩)⟩,xs)else none
  |_,_,_=>none
 |_=>none
theorem lN{n:Int}:∀b∈(bH n).data.toList,b≠58:=fun b hb=>by
 have :=xC b hb;rintro rfl;revert this;decide
theorem zM{s:ak}(h:gT s=true):∀b∈s.data.toList,b≠58:=fun b hb=>by
 unfold gT at h;have :=aG.1 h b hb;rintro rfl;revert this;decide
theorem Jg{m:Ms}(h:bG m=true):∀b∈(oL m).data.toList,b≠58:=fun b hb=>by
 obtain⟨h1,h2,h3,h4,h5,h6,h7,h8⟩:=bP h;rw[pO]at hb;rcases jc hb with hb|⟨x,hx,hb⟩
 ·have :b=32:=by simpa[sp]using hb
  subst this;decide
 ·simp only[aJ,List.not_mem_nil,or_false]at hx;rcases hx with rfl|rfl|rfl|rfl|rfl
  ·exact lN b hb
  ·exact lN b hb
  ·exact zM (sD h5) b hb
  ·exact zM (gF h6) b hb
  ·exact lN b hb
theorem Ce{xs:List Ms}(h:iX xs=none):∀b∈(bL xs).data.toList,b≠58:=fun b hb=>by
 unfold bL at hb;rcases jc hb with hb|⟨x,hx,hb⟩
 ·have :b=43:=by simpa[plus]using hb
  subst this;decide
 ·obtain⟨m,hm,rfl⟩:=aD.1 hx;exact Jg (dm h m hm) b hb
theorem QL{f:Fr}{xs:List Ms}(h:okF f xs):cH 58 (KV f xs)=[lM f.wu,bH f.gD,bH f.num,bL xs]:=by
 unfold okF at h;unfold KV;refine xg (c:=58) aj fun x hx b hb=>?_
 simp only[aJ,List.not_mem_nil,or_false]at hx;rcases hx with rfl|rfl|rfl|rfl
 ·unfold lM at hb;split at hb
  ·have :b=97:=by simpa using hb
   subst this;decide
  ·have :b=98:=by simpa using hb
   subst this;decide
 ·exact lN b hb
 ·exact lN b hb
 ·exact Ce h.2.2.2.2.2.2 b hb
theorem ME(a:Bool):decide (lM a=⟨#[97]⟩)=a:=by cases a<;>decide
theorem Ab{f:Fr}{xs:List Ms}(h:okF f xs):QK (KV f xs)=some (f,xs):=by
 have hp:=QL h;have h2:=h;unfold okF at h2;obtain⟨h3,h4,h5,h6,h7,h8,h9⟩:=h2;unfold QK;rw[hp];have e1:=gW (n:=f.gD) ⟨by omega,by omega⟩;have e2:=gW (n:=f.num) ⟨by omega,by omega⟩;have e3:=pP h9;simp only[e1,e2,e3,ME];rw[if_pos ⟨h,trivial⟩]
theorem Np{f:Fr}{xs:List Ms}(h:okF f xs):(KV f xs).size<=2000:=by
 have h2:=h;unfold okF at h2;obtain⟨h3,h4,h5,h6,h7,h8,h9⟩:=h2;have a1:=bJ (n:=f.gD) ⟨by omega,by omega⟩;have a2:=bJ (n:=f.num) ⟨by omega,by omega⟩;have a3:=gE (dm h9);have a4:(lM f.wu).size<=1:=by unfold lM;split<;>decide
 have :=eM colon 400 [lM f.wu,bH f.gD,bH f.num,bL xs] Y11;have h2:colon.size=1:=rfl;unfold KV;simp at this;omega
structure Gm where
 dto:Int
 f:Fr
 l:List Ms
def ZS (g:Gm):ak:=KV g.f g.l
instance:Inhabited Gm:=⟨⟨0,⟨0,0,false⟩,[]⟩⟩
instance:Inhabited (Ho×Dk):=⟨(eo 0,lR)⟩
structure Wo where
 hs:List (Ho×Dk)
 dy:List Gm
 lost:Int
namespace Wo
def n (W:Wo):Nat:=W.hs.length
def is (W:Wo) (k:Int):Bool:=decide (0<=k/\k<(W.hs.length:Int))
def at' (W:Wo) (k:Nat):Ho×Dk:=W.hs.getD k default
def H (W:Wo) (k:Nat):Ho:=(W.at' k).1
def D (W:Wo) (k:Nat):Dk:=(W.at' k).2
def bX (W:Wo) (k:Nat) (x:Ho×Dk):Wo:={W with hs:=W.hs.set k x}
end Wo
def eE (n:Nat):Wo:=⟨(List.range n).map fun k:Nat=>(eo (k:Int),lR),[],0⟩
def oC (W:Wo) (k:Int):Int:=if W.is k=true then 0 else 2
def sX (W:Wo) (k n t:Int):Wo:=if W.is k=true then W.bX k.toNat ({W.H k.toNat with c6:=t},cO (W.D k.toNat) n)else W
def EV (W:Wo) (k:Nat):Wo:=W.bX k (gy (k:Int) (cO (W.D k) (-1)),cO (W.D k) (-1))
def Ff (W:Wo) (k:Int):Wo:=if W.is k=true then EV W k.toNat else W
def sW (W:Wo) (g:Gm):Wo:=if 100<=W.dy.length then {W with lost:=W.lost+1}else {W with dy:=W.dy++[g]}
def mO (W:Wo) (dst:Int) (f:Fr) (l:List Ms):Wo:=if okF f l then sW W ⟨dst,f,l⟩else W
def Fv (W:Wo) (k dst:Int):Int:=if W.is k=true/\W.is dst=true then vt (W.H k.toNat) (W.D k.toNat) dst else 2
def rY (W:Wo) (k dst:Int):Wo:=W.bX k.toNat (ov (W.H k.toNat) (W.D k.toNat) dst,wm (W.H k.toNat) (W.D k.toNat) dst)
def AP (W:Wo) (k dst:Int):Wo:=if W.is k=true/\W.is dst=true then
 (if Fv W k dst=0 then mO (rY W k dst) dst ⟨k,K0 (W.H k.toNat) (W.D k.toNat) dst,false⟩ (Bu (W.H k.toNat) (W.D k.toNat) dst)else rY W k dst)
 else W
def vL (W:Wo) (i:Int):Int:=if 0<=i/\i<(W.dy.length:Int)then 0 else 2
def xO (W:Wo) (i:Nat):Gm:=W.dy.getD i default
def qb (W:Wo) (i:Nat):Wo:={W with dy:=W.dy.eraseIdx i}
def J5 (W:Wo) (g:Gm):Wo:=
 if g.f.wu=true then W.bX g.dto.toNat (E7 (W.H g.dto.toNat) (W.D g.dto.toNat) g.f.gD g.f.num,KW (W.H g.dto.toNat) (W.D g.dto.toNat) g.f.gD g.f.num)
 else if Kh (W.H g.dto.toNat) (W.D g.dto.toNat) g.f.gD g.f.num g.l=0 then
  mO (W.bX g.dto.toNat (sQ (W.H g.dto.toNat) (W.D g.dto.toNat) g.f.gD g.f.num g.l,y0 (W.H g.dto.toNat) (W.D g.dto.toNat) g.f.gD g.f.num g.l)) g.f.gD ⟨g.dto,vu (W.H g.dto.toNat) (W.D g.dto.toNat) g.f.gD g.f.num g.l,true⟩ []
 else W.bX g.dto.toNat (sQ (W.H g.dto.toNat) (W.D g.dto.toNat) g.f.gD g.f.num g.l,y0 (W.H g.dto.toNat) (W.D g.dto.toNat) g.f.gD g.f.num g.l)
def tX (W:Wo) (i:Int):Wo:=if vL W i=0 then J5 (qb W i.toNat) (xO W i.toNat)else W
def FO (W:Wo) (i:Int):Wo:=if vL W i=0 then qb W i.toNat else W
def Fl (W:Wo) (i:Int):Wo:=if vL W i=0 then sW W (xO W i.toNat)else W
structure jj (c K:Nat) (k:Nat) (x:Ho×Dk):Prop where
 id:x.1.id=(k:Int)
 B:cE (300+c+250*x.1.used) x.1
 len:x.2.places.length=300
 left: -(K:Int)<=x.2.left/\x.2.left<=9223372036854775807
 size:∀t∈x.2.places,t.size<=800000
 mr:∀(i:Nat) t s,x.2.places[i]? =some t->gx (i:Nat) t=some s->eX 250 s
 az:∀u∈x.1.az,ga u/\u.aU.length<=c
 ways:WR x.1
 ql:x.1.aE.length<=2+x.1.used
structure GmB (n:Nat) (g:Gm):Prop where
 dto:0<=g.dto/\g.dto<(n:Int)
 gD:0<=g.f.gD/\g.f.gD<(n:Int)
 ok:okF g.f g.l
structure dr (c K:Nat) (W:Wo):Prop where
 n1:1<=W.hs.length/\W.hs.length<=4
 hs:∀k x,W.hs[k]? =some x->jj c K k x
 dy:∀g∈W.dy,GmB W.hs.length g
 wl:W.dy.length<=100
 lost:0<=W.lost/\W.lost<=(K:Int)
structure Cr where
 bg:List (Nat×Ms)
 bt:Nat->List Int
 sn:Nat->Int
 av:Nat->Int
 nx:Int
def ec (C:Nat->Cr) (k:Nat) (c:Cr):Nat->Cr:=fun i=>if i=k then c else C i
theorem cC(C:Nat->Cr)(k:Nat)(c:Cr):ec C k c k=c:=if_pos rfl
theorem cI{C:Nat->Cr}{k i:Nat}{c:Cr}(h:i≠k):ec C k c i=C i:=if_neg h
def nM (y:Nat×Ms):Int:=y.2.id
def uP (n:Nat) (C:Nat->Cr) (k d:Nat):Bool:=decide ((C k).bt d≠[]/\d<n/\(C k).sn d<=(C d).av k)
def gB (n:Nat) (C:Nat->Cr) (k:Nat) (y:Nat×Ms):Bool:=decide (4<=y.1)||(decide (y.1≠k)&& !(uP n C k y.1&&decide (nM y∈(C k).bt y.1)))
def view (n:Nat) (C:Nat->Cr) (k:Nat):List Ms:=((C k).bg.filter (gB n C k)).map (·.2)
def xy (n:Nat) (C:Nat->Cr):List Ms:=(List.range n).flatMap (view n C)
def pz (c:Cr) (d:Nat) (y:Nat×Ms):Bool:=decide (y.1=d)&&decide (nM y∈c.bt d)
def ru (c:Cr) (d:Nat):List Ms:=(c.bg.filter (pz c d)).map (·.2)
structure Kt (n:Nat) (C:Nat->Cr) (g:Gm):Prop where
 ok:∃a b:Nat,g.f.gD=(a:Int)/\g.dto=(b:Int)/\a<n/\b<n/\a≠b/\
  (g.f.wu=true->g.f.num<=(C a).av b)/\
  (g.f.wu=false->g.f.num<=(C a).sn b/\(g.f.num=(C a).sn b->(C b).av a<g.f.num->(C a).bt b≠[]/\g.l.Perm (ru (C a) b)))
structure GC (n:Nat) (C:Nat->Cr) (dy:List Gm) (T:List Ms):Prop where
 Ia:(xy n C).Perm T
 tn:(T.map (·.id)).Nodup
 W5:∀m∈T,∃o:Nat,o<n/\m.id%4=(o:Int)/\m.id/4<(C o).nx
 oD:∀k,k<n->((C k).bg.map nM).Nodup
 bin:∀k,k<n->∀d,∀i∈(C k).bt d,d<4/\∃y∈(C k).bg,y.1=d/\nM y=i
 pr:∀k d,k<n->d<n->k≠d->(C d).av k<=(C k).sn d/\(C k).sn d<=(C d).av k+1/\((C k).bt d=[]->(C d).av k=(C k).sn d)
 fr:∀g∈dy,Kt n C g
theorem Bj{α:Type}{f g:Nat->List α}:∀{l:List Nat},(∀x∈l,f x=g x)->l.flatMap f=l.flatMap g
 |[],_=>rfl
 |a::l,h=>by rw[aO,aO,h a aj,Bj fun x hx=>h x sR]
theorem Ag{α:Type}{n k:Nat}(hk:k<n)(f:Nat->List α):∃R,∀f':Nat->List α,(∀i,i≠k->f' i=f i)->((List.range n).flatMap f').Perm (f' k++R):=by
 have hp:(List.range n).Perm (k::(List.range n).erase k):=List.perm_cons_erase (bz.2 hk);have hn:=hp.nodup_iff.1 List.nodup_range;rw[bZ]at hn;refine⟨((List.range n).erase k).flatMap f,fun f' h=>?_⟩;refine(hp.flatMap_right f').trans (List.Perm.of_eq ?_);rw[aO];congr 1;exact Bj fun i hi=>h i fun e=>hn.1 (e▸hi)
theorem JS{α:Type}{n k d:Nat}(hk:k<n)(hd:d<n)(KH:k≠d)(f:Nat->List α):∃R,∀f':Nat->List α,(∀i,i≠k->i≠d->f' i=f i)->((List.range n).flatMap f').Perm (f' k++(f' d++R)):=by
 have hp:(List.range n).Perm (k::(List.range n).erase k):=List.perm_cons_erase (bz.2 hk);have hn:=hp.nodup_iff.1 List.nodup_range;rw[bZ]at hn;have U9:d∈(List.range n).erase k:=by
  rcases aJ.1 (hp.mem_iff.1 (bz.2 hd))with e|e
  ·exact absurd e.symm KH
  ·exact e
 have kJ:=List.perm_cons_erase U9;have zY:=kJ.nodup_iff.1 hn.2;rw[bZ]at zY;refine⟨(((List.range n).erase k).erase d).flatMap f,fun f' h=>?_⟩;refine((hp.trans (kJ.cons k)).flatMap_right f').trans (List.Perm.of_eq ?_);rw[aO,aO];congr 2;exact Bj fun i hi=>h i (fun e=>hn.1 (e▸kJ.mem_iff.2 (List.mem_cons_of_mem _ hi))) fun e=>zY.1 (e▸hi)
theorem kY{α β:Type}{f:α->β}{l:List α}(h:(l.map f).Nodup){x y:α}(hx:x∈l)(hy:y∈l)(e:f x=f y):x=y:=by
 induction l with
 |nil=>cases hx
 |cons a l ih=>
  rw[aT,bZ]at h;rcases aJ.1 hx with h1|h1<;>rcases aJ.1 hy with h2|h2
  ·rw[h1,h2]
  ·exact absurd (by rw[<-h1,e];exact List.mem_map_of_mem (f:=f) h2) h.1
  ·exact absurd (by rw[<-h2,<-e];exact List.mem_map_of_mem (f:=f) h1) h.1
  ·exact ih h.2 h1 h2
theorem GC.sub{n:Nat}{C:Nat->Cr}{dy Lj:List Gm}{T:List Ms}(h:GC n C dy T)(hw:∀g∈Lj,g∈dy\/Kt n C g):GC n C Lj T:=
 ⟨h.Ia,h.tn,h.W5,h.oD,h.bin,h.pr,fun g hg=>(hw g hg).elim (h.fr g) id⟩
section
variable {n k d:Nat} {C:Nat->Cr} {dy:List Gm} {T:List Ms} {c:Cr}
theorem nO{C':Nat->Cr}{i:Nat}(h1:(C' i).bg=(C i).bg)(h2:∀y,gB n C' i y=gB n C i y):view n C' i=view n C i:=by
 unfold view;rw[h1];congr 1;exact List.filter_congr fun y _=>h2 y
theorem GC.ye(h:GC n C dy T)(hk:k<n){P:List (Nat×Ms)}{G:List Int}(xM:c.bg.Perm ((P++(C k).bg).filter fun y=> !decide (nM y∈G)))(rI:c.bt=(C k).bt)(EZ:c.sn=(C k).sn)(KM:c.av=(C k).av)(B6:(C k).nx<=c.nx)(hP:∀y∈P,(4<=y.1\/y.1≠k)/\nM y%4=(k:Int)/\nM y/4<c.nx)(hPn:(P.map nM).Nodup)(hPf:∀y∈P,nM y∉T.map (·.id))(hPb:∀y∈P,nM y∉(C k).bg.map nM)(hG:∀i∈G,∃y∈(C k).bg,4<=y.1/\nM y=i):
 GC n (ec C k c) dy ((P.map (·.2)++T).filter fun m=> !decide (m.id∈G)):=by
 have e1:∀a,(ec C k c a).bt=(C a).bt:=fun a=>by by_cases e:a=k;(rw[e,cC,rI]);(rw[cI e])
 have e2:∀a,(ec C k c a).sn=(C a).sn:=fun a=>by by_cases e:a=k;(rw[e,cC,EZ]);(rw[cI e])
 have e3:∀a,(ec C k c a).av=(C a).av:=fun a=>by by_cases e:a=k;(rw[e,cC,KM]);(rw[cI e])
 have Bf:∀a b,uP n (ec C k c) a b=uP n C a b:=fun a b=>by unfold uP;rw[e1,e2,e3]
 have xE:∀a y,gB n (ec C k c) a y=gB n C a y:=fun a y=>by unfold gB;rw[Bf,e1]
 have hPt:∀y∈P,∀b,nM y∉(C k).bt b:=fun y hy b hb=>by
  obtain⟨-,z,hz,-,e⟩:=h.bin k hk b _ hb;exact hPb y hy (e▸j_ hz)
 have hPv:∀y∈P,gB n C k y=true:=fun y hy=>by
  unfold gB;rcases(hP y hy).1 with h1|h1
  ·simp[h1]
  ·simp[h1,hPt y hy]
 obtain⟨R,hR⟩:=Ag hk (view n C);have hV:=hR (view n C) fun _ _=>rfl
 have ZD:=hR (view n (ec C k c)) fun i hi=>nO (by rw[cI hi]) (xE i)
 have ni:(((view n C k++R)).map (·.id)).Nodup:=(((hV.symm.trans h.Ia).map (·.id)).nodup_iff).2 h.tn
 have YH:(view n (ec C k c) k).Perm ((P.map (·.2)++view n C k).filter fun m=> !decide (m.id∈G)):=by
  unfold view;rw[cC];refine((xM.filter _).map _).trans (List.Perm.of_eq ?_);rw[show(gB n (ec C k c) k)=gB n C k from funext (xE k)];have :(P.map (·.2)++(((C k).bg.filter (gB n C k)).map (·.2)))=((P++(C k).bg).filter (gB n C k)).map (·.2):=by
   rw[dG,bu,b_.2 hPv]
  rw[this,List.filter_map,cB,cB];congr 1;apply List.filter_congr;intro y _;rw[Bool.and_comm];rfl
 have hRG:R.filter (fun m=> !decide (m.id∈G))=R:=by
  rw[b_];intro m hm;have :m.id∉G:=fun hg=>by
   obtain⟨y,hy,h4,e⟩:=hG _ hg;have hyV:y.2∈view n C k:=by
    unfold view;exact j_ (aI.2 ⟨hy,by unfold gB;simp[h4]⟩)
   rw[bu,List.nodup_append]at ni;exact ni.2.2 _ (List.mem_map_of_mem (f:=(·.id)) hyV) _ (List.mem_map_of_mem (f:=(·.id)) hm) e
  simpa using this
 have UW:(xy n (ec C k c)).Perm ((P.map (·.2)++T).filter fun m=> !decide (m.id∈G)):=by
  refine ZD.trans ((YH.append_right R).trans ?_);have h5:((P.map (·.2)++T).filter fun m=> !decide (m.id∈G)).Perm ((P.map (·.2)++(view n C k++R)).filter fun m=> !decide (m.id∈G)):=
   List.Perm.filter _ ((List.Perm.refl _).append (h.Ia.symm.trans hV))
  refine List.Perm.trans (List.Perm.of_eq ?_) h5.symm;rw[<-aK,List.filter_append (l₁:=List.map (fun x=>x.snd) P++view n C k),hRG]
 refine⟨UW,?_,fun m hm=>?_,fun a ha=>?_,fun a ha b i hi=>?_,fun a b ha hb wi=>?_,fun g hg=>?_⟩
 ·refine List.Nodup.sublist (List.filter_sublist.map _) ?_;rw[bu,List.map_map,List.nodup_append];refine⟨hPn,h.tn,fun x hx y hy=>?_⟩;obtain⟨z,hz,rfl⟩:=aD.1 hx;exact fun e=>hPf z hz (by rw[show nM z=y from e];exact hy)
 ·rcases aP.1 (aI.1 hm).1 with h1|h1
  ·obtain⟨y,hy,rfl⟩:=aD.1 h1;exact⟨k,hk,(hP y hy).2.1,by rw[cC];exact(hP y hy).2.2⟩
  ·obtain⟨o,ho,a,b⟩:=h.W5 m h1;refine⟨o,ho,a,?_⟩;by_cases e:o=k
   ·subst e;rw[cC];omega
   ·rw[cI e];exact b
 ·by_cases e:a=k
  ·subst e;rw[cC];refine(xM.map nM).nodup_iff.2 (List.Nodup.sublist (List.filter_sublist.map _) ?_);rw[bu,List.nodup_append];refine⟨hPn,h.oD a ha,fun x hx y hy=>?_⟩;obtain⟨z,hz,rfl⟩:=aD.1 hx;exact fun e=>hPb z hz (e▸hy)
  ·rw[cI e];exact h.oD a ha
 ·rw[e1]at hi;obtain⟨Zy,y,hy,e4,e5⟩:=h.bin a ha b i hi;refine⟨Zy,y,?_,e4,e5⟩;by_cases e:a=k
  ·subst e;rw[cC,xM.mem_iff,aI];refine⟨List.mem_append_right _ hy,?_⟩;have :nM y∉G:=fun hg=>by
    obtain⟨z,hz,h4,e6⟩:=hG _ hg;have :=kY (h.oD a ha) hz hy e6;subst this;omega
   simpa using this
  ·rw[cI e];exact hy
 ·rw[e1,e2,e3];exact h.pr a b ha hb wi
 ·obtain⟨a,b,f1,f2,f3,f4,f5,f6,f7⟩:=(h.fr g hg).ok;refine⟨a,b,f1,f2,f3,f4,f5,fun hh=>by rw[e3];exact f6 hh,fun hh=>?_⟩;obtain⟨f8,f9⟩:=f7 hh;refine⟨by rw[e2];exact f8,fun g1 g2=>?_⟩;rw[e2]at g1;rw[e3]at g2;obtain⟨f10,f11⟩:=f9 g1 g2;refine⟨by rw[e1];exact f10,f11.trans ?_⟩;by_cases e:a=k
  ·subst e;rw[cC];unfold ru;refine List.Perm.map _ (List.Perm.trans (List.Perm.of_eq ?_) (xM.filter _).symm);rw[cB,dG];have a1:P.filter (fun y=>pz c b y&& !decide (nM y∈G))=[]:=by
    rw[List.filter_eq_nil_iff];intro y hy;unfold pz;rw[rI];simp[hPt y hy b]
   rw[a1,List.nil_append];apply List.filter_congr;intro y hy;unfold pz;rw[rI];by_cases hm:y.1=b/\nM y∈(C a).bt b
   ·have :nM y∉G:=fun hg=>by
     obtain⟨z,hz,h4,e6⟩:=hG _ hg;have :=kY (h.oD a hk) hz hy e6;subst this;have :=(h.bin a hk b _ hm.2).1;omega
    simp[hm.1,hm.2,this]
   ·by_cases h1:y.1=b
    ·have h2:nM y∉(C a).bt b:=fun h2=>hm ⟨h1,h2⟩
     simp[h1,h2]
    ·simp[h1]
  ·rw[cI e]
theorem GC.made(h:GC n C dy T)(hk:k<n)(hd:d<n)(KH:k≠d)(Qs:d<4){l:List Int}(hl:l≠[])(h0:(C k).bt d=[])(hli:∀i∈l,∃y∈(C k).bg,y.1=d/\nM y=i)(xM:c.bg=(C k).bg)(rI:∀b,c.bt b=if b=d then l else(C k).bt b)(EZ:∀b,c.sn b=if b=d then(C k).sn d+1 else(C k).sn b)(KM:c.av=(C k).av)(B6:c.nx=(C k).nx):
 GC n (ec C k c) dy T:=by
 have e3:∀a,(ec C k c a).av=(C a).av:=fun a=>by by_cases e:a=k;(rw[e,cC,KM]);(rw[cI e])
 have e4:∀a,(ec C k c a).bg=(C a).bg:=fun a=>by by_cases e:a=k;(rw[e,cC,xM]);(rw[cI e])
 have e1:∀a b,(a=k/\b=d)\/((ec C k c a).bt b=(C a).bt b/\(ec C k c a).sn b=(C a).sn b/\¬(a=k/\b=d)):=fun a b=>by
  by_cases e:a=k
  ·by_cases e':b=d
   ·exact .inl ⟨e,e'⟩
   ·rw[e,cC,rI,EZ,if_neg e',if_neg e'];exact .inr ⟨rfl,rfl,fun x=>e' x.2⟩
  ·rw[cI e];exact .inr ⟨rfl,rfl,fun x=>e x.1⟩
 have ek:(ec C k c k).bt d=l/\(ec C k c k).sn d=(C k).sn d+1:=by rw[cC,rI,EZ,if_pos rfl,if_pos rfl];exact⟨rfl,rfl⟩
 have SN:=h.pr k d hk hd KH;have Bf:∀a b,uP n (ec C k c) a b=uP n C a b:=fun a b=>by
  rcases e1 a b with⟨rfl,rfl⟩|⟨x,y,-⟩
  ·unfold uP;rw[ek.1,ek.2,e3,h0];have :¬((C a).sn b+1<=(C b).av a):=by have :=SN.1;omega
   simp[this]
  ·unfold uP;rw[x,y,e3]
 have Xp:uP n C k d=false:=by unfold uP;rw[h0];simp
 have xE:∀a y,gB n (ec C k c) a y=gB n C a y:=fun a y=>by
  unfold gB;rw[Bf];rcases e1 a y.1 with⟨rfl,h2⟩|⟨x,-,-⟩
  ·rw[h2,Xp];simp
  ·rw[x]
 refine⟨?_,h.tn,fun m hm=>?_,fun a ha=>by rw[e4];exact h.oD a ha,fun a ha b i hi=>?_,fun a b ha hb wi=>?_,fun g hg=>?_⟩
 ·have :xy n (ec C k c)=xy n C:=by
   unfold xy;congr 1;funext i;exact nO (e4 i) (xE i)
  rw[this];exact h.Ia
 ·obtain⟨o,ho,a,b⟩:=h.W5 m hm;refine⟨o,ho,a,?_⟩;by_cases e:o=k
  ·subst e;rw[cC,B6];exact b
  ·rw[cI e];exact b
 ·rw[e4];rcases e1 a b with⟨rfl,rfl⟩|⟨x,-,-⟩
  ·rw[ek.1]at hi;exact⟨Qs,hli i hi⟩
  ·rw[x]at hi;exact h.bin a ha b i hi
 ·rw[e3];rcases e1 a b with⟨rfl,rfl⟩|⟨x,y,-⟩
  ·rw[ek.1,ek.2];have :=SN.2.2 h0;exact⟨by omega,by omega,fun h2=>absurd h2 hl⟩
  ·rw[x,y];exact h.pr a b ha hb wi
 ·obtain⟨a,b,f1,f2,f3,f4,f5,f6,f7⟩:=(h.fr g hg).ok;refine⟨a,b,f1,f2,f3,f4,f5,fun hh=>by rw[e3];exact f6 hh,fun hh=>?_⟩;obtain⟨f8,f9⟩:=f7 hh;rcases e1 a b with⟨rfl,rfl⟩|⟨x,y,-⟩
  ·rw[ek.2];exact⟨by omega,fun h2=>by omega⟩
  ·rw[x,y,e3];refine⟨f8,fun g1 g2=>⟨(f9 g1 g2).1,(f9 g1 g2).2.trans (List.Perm.of_eq ?_)⟩⟩;unfold ru;rw[e4];congr 2;funext z;unfold pz;rw[x]
theorem GC.NQ(h:GC n C dy T)(hk:k<n)(hd:d<n)(KH:k≠d)(KG:n<=4){P:List (Nat×Ms)}(hP:∀y∈P,4<=y.1)(Bg:(C k).bt d≠[])(hs:(C k).sn d=(C d).av k+1)(hl:(P.map (·.2)).Perm (ru (C k) d))(xM:c.bg.Perm (P++(C d).bg))(adT:(c.bg.map nM).Nodup)(rI:c.bt=(C d).bt)(EZ:c.sn=(C d).sn)(KM:∀b,c.av b=if b=k then(C d).av k+1 else(C d).av b)(B6:c.nx=(C d).nx):
 GC n (ec C d c) dy T:=by
 have e1:∀a,(ec C d c a).bt=(C a).bt:=fun a=>by by_cases e:a=d;(rw[e,cC,rI]);(rw[cI e])
 have e2:∀a,(ec C d c a).sn=(C a).sn:=fun a=>by by_cases e:a=d;(rw[e,cC,EZ]);(rw[cI e])
 have e3:∀a b,(a=d/\b=k)\/((ec C d c a).av b=(C a).av b/\¬(a=d/\b=k)):=fun a b=>by
  by_cases e:a=d
  ·by_cases e':b=k
   ·exact .inl ⟨e,e'⟩
   ·rw[e,cC,KM,if_neg e'];exact .inr ⟨rfl,fun x=>e' x.2⟩
  ·rw[cI e];exact .inr ⟨rfl,fun x=>e x.1⟩
 have ek:(ec C d c d).av k=(C d).av k+1:=by rw[cC,KM,if_pos rfl]
 have Bf:∀a b,¬(b=d/\a=k)->uP n (ec C d c) a b=uP n C a b:=fun a b wi=>by
  rcases e3 b a with h1|⟨x,-⟩
  ·exact absurd h1 wi
  ·unfold uP;rw[e1,e2,x]
 have Zs:uP n (ec C d c) k d=true:=by unfold uP;rw[e1,e2,ek];simp[Bg,hd,hs]
 have Xp:uP n C k d=false:=by unfold uP;rw[hs];simp;intros;omega
 have xE:∀a y,¬(a=k/\y.1=d)->gB n (ec C d c) a y=gB n C a y:=fun a y hay=>by
  unfold gB;rw[Bf a y.1 (fun x=>hay ⟨x.2,x.1⟩),e1]
 have Qs:d<4:=by omega
 obtain⟨R,hR⟩:=JS hk hd KH (view n C);have hV:=hR (view n C) fun _ _ _=>rfl
 have ZD:=hR (view n (ec C d c)) fun i hi hi2=>nO (by rw[cI hi2]) fun y=>xE i y fun x=>hi x.1
 have YH:(view n C k).Perm (ru (C k) d++view n (ec C d c) k):=by
  unfold view ru;rw[cI KH,<-bu];refine List.Perm.map _ ?_;have h1:(C k).bg.filter (gB n (ec C d c) k)=((C k).bg.filter (gB n C k)).filter fun y=> !pz (C k) d y:=by
   rw[cB];apply List.filter_congr;intro y _;by_cases e:y.1=d
   ·unfold gB pz;rw[e,Zs,Xp,e1];have :¬4<=d:=by omega
    have :d≠k:=fun e=>KH e.symm
    by_cases hm:nM y∈(C k).bt d<;>simp[*]
   ·rw[xE k y fun x=>e x.2];unfold pz;simp[e]
  have h2:(C k).bg.filter (pz (C k) d)=((C k).bg.filter (gB n C k)).filter (pz (C k) d):=by
   rw[cB];apply List.filter_congr;intro y _;by_cases e:y.1=d
   ·unfold gB pz;rw[e,Xp];have :d≠k:=fun e=>KH e.symm
    simp[this]
   ·unfold pz;simp[e]
  rw[h1,h2];exact(List.filter_append_perm _ _).symm
 have hvd:(view n (ec C d c) d).Perm (P.map (·.2)++view n C d):=by
  unfold view;rw[cC];refine((xM.filter _).map _).trans (List.Perm.of_eq ?_);rw[dG,bu];congr 1
  ·rw[b_.2];intro y hy;unfold gB;simp[hP y hy]
  ·congr 1;exact List.filter_congr fun y _=>xE d y fun x=>KH x.1.symm
 have UW:(xy n (ec C d c)).Perm (xy n C):=by
  refine ZD.trans (List.Perm.trans ?_ hV.symm);refine((List.Perm.refl _).append ((hvd.trans (hl.append_right _)).append_right R)).trans ?_;refine List.Perm.trans ?_ (YH.append_right _).symm;have h5:∀A B E F:List Ms,(A++((B++E)++F)).Perm ((B++A)++(E++F)):=fun A B E F=>by
   rw[aK,<-aK];exact List.perm_append_comm.append_right _
  exact h5 _ _ _ _
 have Vf:∀a b,b<n->(ru (C a) b).Perm (ru (ec C d c a) b):=fun a b hb=>by
  by_cases e:a=d
  ·subst e;rw[cC];unfold ru;refine List.Perm.map _ (List.Perm.trans (List.Perm.of_eq ?_) (xM.filter _).symm);rw[dG];have a1:P.filter (pz c b)=[]:=by
    rw[List.filter_eq_nil_iff];intro y hy;have :=hP y hy;unfold pz;have :y.1≠b:=by omega
    simp[this]
   rw[a1,List.nil_append];apply List.filter_congr;intro y _;unfold pz;rw[rI]
  ·rw[cI e]
 refine⟨UW.trans h.Ia,h.tn,fun m hm=>?_,fun a ha=>?_,fun a ha b i hi=>?_,fun a b ha hb wi=>?_,fun g hg=>?_⟩
 ·obtain⟨o,ho,a,b⟩:=h.W5 m hm;refine⟨o,ho,a,?_⟩;by_cases e:o=d
  ·subst e;rw[cC,B6];exact b
  ·rw[cI e];exact b
 ·by_cases e:a=d
  ·subst e;rw[cC];exact adT
  ·rw[cI e];exact h.oD a ha
 ·rw[e1]at hi;obtain⟨Zy,y,hy,e4,e5⟩:=h.bin a ha b i hi;refine⟨Zy,y,?_,e4,e5⟩;by_cases e:a=d
  ·subst e;rw[cC,xM.mem_iff];exact List.mem_append_right _ hy
  ·rw[cI e];exact hy
 ·rw[e1,e2];have :=h.pr a b ha hb wi;rcases e3 b a with⟨rfl,rfl⟩|⟨x,-⟩
  ·rw[ek];exact⟨by omega,by omega,fun h2=>absurd h2 Bg⟩
  ·rw[x];exact this
 ·obtain⟨a,b,f1,f2,f3,f4,f5,f6,f7⟩:=(h.fr g hg).ok;refine⟨a,b,f1,f2,f3,f4,f5,fun hh=>?_,fun hh=>?_⟩
  ·rcases e3 a b with⟨rfl,rfl⟩|⟨x,-⟩
   ·have :=f6 hh;omega
   ·rw[x];exact f6 hh
  ·obtain⟨f8,f9⟩:=f7 hh;rw[e2];refine⟨f8,fun g1 g2=>?_⟩;rcases e3 b a with⟨rfl,rfl⟩|⟨x,-⟩
   ·rw[ek]at g2;omega
   ·rw[x]at g2;rw[e1];exact⟨(f9 g1 g2).1,(f9 g1 g2).2.trans (Vf a b f4)⟩
theorem GC.known(h:GC n C dy T)(hk:k<n)(hd:d<n)(KH:k≠d)(KG:n<=4)(Bg:(C k).bt d≠[])(hs:(C k).sn d<=(C d).av k)(xM:c.bg.Perm ((C k).bg.filter fun y=> !decide (nM y∈(C k).bt d)))(rI:∀b,c.bt b=if b=d then[]else(C k).bt b)(EZ:c.sn=(C k).sn)(KM:c.av=(C k).av)(B6:c.nx=(C k).nx):
 GC n (ec C k c) dy T:=by
 have e2:∀a,(ec C k c a).sn=(C a).sn:=fun a=>by by_cases e:a=k;(rw[e,cC,EZ]);(rw[cI e])
 have e3:∀a,(ec C k c a).av=(C a).av:=fun a=>by by_cases e:a=k;(rw[e,cC,KM]);(rw[cI e])
 have e1:∀a b,(a=k/\b=d)\/((ec C k c a).bt b=(C a).bt b/\¬(a=k/\b=d)):=fun a b=>by
  by_cases e:a=k
  ·by_cases e':b=d
   ·exact .inl ⟨e,e'⟩
   ·rw[e,cC,rI,if_neg e'];exact .inr ⟨rfl,fun x=>e' x.2⟩
  ·rw[cI e];exact .inr ⟨rfl,fun x=>e x.1⟩
 have ek:(ec C k c k).bt d=[]:=by rw[cC,rI,if_pos rfl]
 have Qs:d<4:=by omega
 have hdk:d≠k:=fun e=>KH e.symm
 have Bf:∀a b,¬(a=k/\b=d)->uP n (ec C k c) a b=uP n C a b:=fun a b wi=>by
  rcases e1 a b with h1|⟨x,-⟩
  ·exact absurd h1 wi
  ·unfold uP;rw[x,e2,e3]
 have Zs:uP n C k d=true:=by unfold uP;simp[Bg,hd,hs]
 have Xp:uP n (ec C k c) k d=false:=by unfold uP;rw[ek];simp
 have xE:∀a y,¬(a=k/\y.1=d)->gB n (ec C k c) a y=gB n C a y:=fun a y hay=>by
  unfold gB;rw[Bf a y.1 hay];rcases e1 a y.1 with h1|⟨x,-⟩
  ·exact absurd h1 hay
  ·rw[x]
 have vg:∀y∈(C k).bg,nM y∈(C k).bt d->y.1=d:=fun y hy hm=>by
  obtain⟨-,z,hz,e4,e5⟩:=h.bin k hk d _ hm;rw[<-kY (h.oD k hk) hz hy e5];exact e4
 obtain⟨R,hR⟩:=Ag hk (view n C);have hV:=hR (view n C) fun _ _=>rfl
 have ZD:=hR (view n (ec C k c)) fun i hi=>nO (by rw[cI hi]) fun y=>xE i y fun x=>hi x.1
 have YH:(view n (ec C k c) k).Perm (view n C k):=by
  unfold view;rw[cC];refine((xM.filter _).map _).trans (List.Perm.of_eq ?_);rw[cB];congr 1;apply List.filter_congr;intro y hy;by_cases e:y.1=d
  ·unfold gB;rw[e,Zs,Xp];have :¬4<=d:=by omega
   by_cases hm:nM y∈(C k).bt d<;>simp[*]
  ·rw[xE k y fun x=>e x.2];have :nM y∉(C k).bt d:=fun hm=>e (vg y hy hm)
   simp[this]
 have Vf:∀a b,¬(a=k/\b=d)->(ru (C a) b).Perm (ru (ec C k c a) b):=fun a b wi=>by
  by_cases e:a=k
  ·subst e;rw[cC];unfold ru;refine List.Perm.map _ (List.Perm.trans (List.Perm.of_eq ?_) (xM.filter _).symm);rw[cB];apply List.filter_congr;intro y hy;unfold pz;have Zw:b≠d:=fun e=>wi ⟨rfl,e⟩
   rw[rI,if_neg Zw];by_cases e:y.1=b
   ·have :nM y∉(C a).bt d:=fun hm=>Zw (e.symm.trans (vg y hy hm))
    simp[this]
   ·simp[e]
  ·rw[cI e]
 refine⟨ZD.trans ((YH.append_right R).trans (hV.symm.trans h.Ia)),h.tn,fun m hm=>?_,fun a ha=>?_,fun a ha b i hi=>?_,fun a b ha hb wi=>?_,fun g hg=>?_⟩
 ·obtain⟨o,ho,a,b⟩:=h.W5 m hm;refine⟨o,ho,a,?_⟩;by_cases e:o=k
  ·subst e;rw[cC,B6];exact b
  ·rw[cI e];exact b
 ·by_cases e:a=k
  ·subst e;rw[cC];exact(xM.map nM).nodup_iff.2 ((h.oD a ha).sublist (List.filter_sublist.map _))
  ·rw[cI e];exact h.oD a ha
 ·rcases e1 a b with⟨rfl,rfl⟩|⟨x,wi⟩
  ·rw[ek]at hi;cases hi
  ·rw[x]at hi;obtain⟨Zy,y,hy,e4,e5⟩:=h.bin a ha b i hi;refine⟨Zy,y,?_,e4,e5⟩;by_cases e:a=k
   ·subst e;rw[cC,xM.mem_iff,aI];refine⟨hy,?_⟩;have :nM y∉(C a).bt d:=fun hm=>wi ⟨rfl,e4.symm.trans (vg y hy hm)⟩
    simpa using this
   ·rw[cI e];exact hy
 ·rw[e2,e3];have :=h.pr a b ha hb wi;rcases e1 a b with⟨rfl,rfl⟩|⟨x,-⟩
  ·exact⟨this.1,this.2.1,fun _=>by omega⟩
  ·rw[x];exact this
 ·obtain⟨a,b,f1,f2,f3,f4,f5,f6,f7⟩:=(h.fr g hg).ok;refine⟨a,b,f1,f2,f3,f4,f5,fun hh=>by rw[e3];exact f6 hh,fun hh=>?_⟩;obtain⟨f8,f9⟩:=f7 hh;rw[e2,e3];refine⟨f8,fun g1 g2=>?_⟩;rcases e1 a b with⟨rfl,rfl⟩|⟨x,wi⟩
  ·omega
  ·rw[x];exact⟨(f9 g1 g2).1,(f9 g1 g2).2.trans (Vf a b wi)⟩
end
structure UI (H:Ho) (u:Nat) (x:rL) (c:Nat):Prop where
 many:x.aU.length+x.bj.length<=c
 aU:∀p∈x.aU,bG p.1=true/\p.1.b9=H.id/\∃i,H.qI p.1.queue=some i/\∃e∈hv H,e.j=4+i/\e.m=p.1/\e.put=(u:Int)
 pn:(x.aU.map fun p=>p.1.id).Nodup
 bj:∀g∈x.bj,cS g.2=true/\∃i,H.qI g.2=some i/\∃e∈hv H,e.j=4+i/\eF e=g.1/\e.put<0/\e.j9=(u:Int)
 gn:(x.bj.map (·.1)).Nodup
structure afq (W:ak->Prop) (id:Int) (c:Nat) (H H0:Ho) (D:Dk) (R:List ak) (T:List Int) (P G:Nat->List Int):Prop where
 hid:H.id=id
 B:cE (1000+250*c) H
 dk:jF D R
 rl:R.length<=3+c
 left: -(10+(c:Int))<=D.left/\D.left<=10
 pl:lX (eo id) R H0
 used:H.used=R.length
 names:H0.names=H.names
 keys:bN H0=bN H
 ways:(∀q∈H.ways,q.l=[])/\∀q∈H0.ways,q.l=[]
 nq:∀e∈hv H0,e.put= -1/\e.j9= -1
 uX:(hk H).Perm ((hv H0).map oM)
 oD:((hv H).map eF).Nodup
 lt:∀e∈hv H,0<=e.m.id/\e.m.id<=1099511627776/\e.m.id/4<H.next
 Jj:∀e∈hv H0,e.m.id/4<H0.next
 unit:∀(u:Nat) x,H.az[u]? =some x->UI H u x c/\(x.aU.map fun p=>p.1.id)=P u/\x.bj.map (·.1)=G u
 tn:T.Nodup
 te:T.Perm ((hk H).map (·.2.id))
 loc:∀s,W s->cS s=true/\kE H s=(s,-1,0)
section
variable {W:ak->Prop} {id:Int} {c:Nat} {H H0:Ho} {D:Dk} {R:List ak} {T:List Int} {P G:Nat->List Int}
theorem U1(H:Ho):(hk H).map (·.2.id)=((hv H).filter jx).map eF:=by unfold hk;rw[List.map_map];rfl
theorem kf{us:List rL}{u v:Nat}{x y:rL}(hu:u<us.length)(h:(us.set u y)[v]? =some x):(v=u/\x=y)\/(v≠u/\us[v]? =some x):=by
 rw[List.getElem?_set]at h;split at h
 ·rename_i e;simp only[hu,if_true,ay]at h;exact .inl ⟨e.symm,h.symm⟩
 ·rename_i e;exact .inr ⟨fun e2=>e e2.symm,h⟩
def upd (P:Nat->List Int) (u:Nat) (l:List Int):Nat->List Int:=fun v=>if v=u then l else P v
theorem mo{u:Nat}(h:cE c H)(hu:u<5):H.az[u]? =some (H.iJ u):=by
 unfold Ho.iJ;rw[aq,ao (by rw[h.az];exact hu)];rfl
end
section
variable {W:ak->Prop} {id:Int} {c:Nat} {H H0:Ho} {D:Dk} {R:List ak} {T:List Int} {P G:Nat->List Int}
def afg (T:List Int) (k:Int):List Int:=if k∈T then T else T++[k]
def ae4 (T:List Int) (k:Int):List Int:=T.filter fun x=> !decide (x=k)
def agO (T p g:List Int):List Int:=g.foldl ae4 (p.foldl afg T)
theorem DU(H:Ho){u:Int}(hu:0<=u):hv (cY H u)=((hv H).filter fun e=> !decide (e.put=u)).map (iF u):=by
 unfold hv;rw[tP,O6 hu]
end
section
variable {W:ak->Prop} {id:Int} {c:Nat} {H H0:Ho} {D:Dk} {R:List ak} {T:List Int} {P G:Nat->List Int}
theorem Ao{D:Dk}:nu D=0↔ ¬nt D=true:=by
 unfold nu;split<;>simp_all
theorem sA{D:Dk}{k:Nat}{s:ak}{c6:Int}:(fx D k s c6).left=if nt D=true then D.left else D.left-1:=by
 unfold fx;split
 ·split<;>rfl
 ·rfl
end
def ML:ak:=⟨#[105,110]⟩
def FF:ak:=⟨#[111,117,116]⟩
def Nv:ak:=⟨#[102,97,114]⟩
def AX (j:Int) (i:Nat):Nm:=if i=0 then⟨ML,⟨#[]⟩,-1⟩else if i=1 then⟨FF,⟨#[]⟩,-1⟩else⟨Nv,ML,j⟩
def nmH (j:Int) (s:Ho×Dk):Nat->Ho×Dk
 |0=>s
 |i+1=>(gL (nmH j s i).1 (nmH j s i).2 (AX j i),jb (nmH j s i).1 (nmH j s i).2 (AX j i))
def PO (id j:Int) (u:Nat) (ns:List Nm) (qs:List (ak×Qu)):Ho:=⟨id,u,false,-1,0,ns,qs,List.replicate 4 ⟨[],0⟩,List.replicate 5 ⟨[],[]⟩,List.replicate 4 [],List.replicate 4 0,List.replicate 4 0⟩
def adf (id j:Int):Ho:=PO id j 3 [⟨Nv,ML,j⟩,⟨ML,⟨#[]⟩,-1⟩,⟨FF,⟨#[]⟩,-1⟩] [(c_,⟨[],0⟩),(ML,⟨[],0⟩),(FF,⟨[],0⟩)]
def ade (j:Int):List ak:=[jK (AX j 0),jK (AX j 1),jK (AX j 2)]
def TA (s:ak):Prop:=s=ML\/s=FF
open Go Go.RowKit Go.ChangeMaps Go.MapKept
section
variable {κ:Type} [DecidableEq κ] {d:TypeDesc} {kv:κ->Value} {w0 w:World} {L:List HP} {P:Program} {b:Nat} {m:List (κ×Value)}
end
section
variable {κ:Type} [DecidableEq κ] {kd:TypeDesc} {kv:κ->Value}
variable {P:Program} {ops:Array Oper} {d:Bool} {Q:Exit->Act->World->Prop} {n:Nat} {D:List Deferred} {w0:World} {G:Env} {L R:List HP} {l:List (Kd×Oper)} {k:Kd}
 {t:Nat} {ty T KT E:TypeId} {pos:String} {af:Array Edge} {x y u:Operand} {v z:Value} {b:Nat} {m:List (κ×Value)}
end
def ahi (T:List Int):List (Int×Value):=T.map fun k=>(k,.bool true)
open Go Go.RowKit
section
variable {P:Program} {ops:Array Oper} {d:Bool} {Q:Exit->Act->World->Prop} {n:Nat} {D:List Deferred} {w0:World} {G:Env} {L R:List HP} {l:List (Kd×Oper)} {k:Kd}
 {t:Nat} {ty T:TypeId} {pos:String} {af:Array Edge} {x y z:Operand} {i:Nat} {a c:Int} {kk kk':IntKind}
end
def qS:ak:=⟨#[113]⟩
def aS:ak:=⟨#[97]⟩
def bS:ak:=⟨#[98]⟩
def nmQ:Nm:=⟨qS,⟨#[]⟩,-1⟩
def ka (u:Nat) (nx:Int) (q:Qu) (u0 u2:rL):Ho:=⟨1,u,false,-1,nx,[nmQ],[(c_,⟨[],0⟩),(qS,q)],List.replicate 4 ⟨[],0⟩,[u0,⟨[],[]⟩,u2,⟨[],[]⟩,⟨[],[]⟩],List.replicate 4 [],List.replicate 4 0,List.replicate 4 0⟩
def W8:Ms:=⟨1,3,aS,qS,1⟩
def kbM:Ms:=⟨5,3,bS,qS,1⟩
def k1:Ho:=ka 1 0 ⟨[],0⟩ ⟨[],[]⟩ ⟨[],[]⟩
def k2:Ho:=ka 1 1 ⟨[⟨W8,0,0,-1⟩],1⟩ ⟨[(W8,-1)],[]⟩ ⟨[],[]⟩
def k3:Ho:=ka 2 1 ⟨[⟨W8,1,-1,-1⟩],2⟩ ⟨[],[]⟩ ⟨[],[]⟩
def k4:Ho:=ka 2 2 ⟨[⟨W8,1,-1,-1⟩,⟨kbM,2,2,-1⟩],3⟩ ⟨[],[]⟩ ⟨[(kbM,-1)],[]⟩
def k5:Ho:=ka 2 1 ⟨[⟨W8,0,-1,-1⟩],1⟩ ⟨[],[]⟩ ⟨[],[]⟩
def kd1:Dk:=jb (eo 1) lR nmQ
def kd3:Dk:=t_ k2 kd1 0
def kU:rL:=⟨[(W8,-1)],[]⟩
theorem D6:Hn lR:=tW.ok ⟨by show(-4000000000000000000:Int)<=0;omega,by show(0:Int)<=9223372036854775807;omega⟩
theorem Me(id:Int):gy id lR=eo id:=qW tW (.nil _)
theorem jj.ok{c kb k:Nat}{x:Ho×Dk}(h:jj c kb k x)(hK:kb<=1000000000000):Hn x.2:=⟨h.len,by have :=h.left;omega,h.size,h.mr⟩
theorem jj.cut{c kb k:Nat}{x:Ho×Dk}(h:jj c kb k x){n:Int}(hn:n<=9223372036854775807):jj c kb k (x.1,cO x.2 n):=⟨h.id,h.B,h.len,by unfold cO;dsimp only;omega,h.size,h.mr,h.az,h.ways,h.ql⟩
theorem jj.c6{c kb k:Nat}{x:Ho×Dk}(h:jj c kb k x)(n:Int):jj c kb k ({x.1 with c6:=n},x.2):=⟨h.id,h.B.XN n,h.len,h.left,h.size,h.mr,h.az,h.ways.of rfl,h.ql⟩
theorem jj.mono{c c' kb P0 k:Nat}{x:Ho×Dk}(h:jj c kb k x)(h1:c<=c')(h2:kb<=P0):jj c' P0 k x:=⟨h.id,h.B.le ae,h.len,by have :=h.left;omega,h.size,h.mr,fun u hu=>⟨(h.az u hu).1,Nat.le_trans (h.az u hu).2 h1⟩,h.ways,h.ql⟩
theorem ll(H:Ho)(D:Dk):(dY H D).id=H.id/\(dY H D).az=H.az/\(dY H D).names=H.names/\(dY H D).aE=H.aE/\(dY H D).ways=H.ways/\(dY H D).batch=H.batch/\(dY H D).bU=H.bU/\(dY H D).aF=H.aF/\(dY H D).next=H.next/\(dY H D).c6=H.c6:=by
 unfold dY;split
 ·exact⟨rfl,rfl,rfl,rfl,rfl,rfl,rfl,rfl,rfl,rfl⟩
 ·split<;>exact⟨rfl,rfl,rfl,rfl,rfl,rfl,rfl,rfl,rfl,rfl⟩
theorem lB(H:Ho)(D:Dk)(s:ak):(oU H D s).id=H.id/\(oU H D s).az=H.az:=by
 unfold oU;obtain⟨a,b,-⟩:=ll H D;split
 ·have h:=fP (dY H D) s;exact⟨h.id.trans a,h.az.trans b⟩
 ·exact⟨a,b⟩
theorem Mx{H:Ho}{D:Dk}(h:ep H D=0):jJ H=0/\nu D=0:=by
 unfold ep at h;by_cases h1:jJ H=0
 ·rw[if_neg WK]at h;exact⟨h1,h⟩
 ·rw[if_pos h1]at h;exact absurd h h1
theorem PV{D:Dk}{H:Ho}{s:ak}(hl:D.places.length=300)(cj:∀t∈D.places,t.size<=800000)(hr:∀(i:Nat) t s,D.places[i]? =some t->gx (i:Nat) t=some s->eX 250 s)(hs:eX 250 s)(hb:n_ 124 s)(hu:H.used<=300):
 (ig H D s).places.length=300/\(∀t∈(ig H D s).places,t.size<=800000)/\(∀(i:Nat) t r,(ig H D s).places[i]? =some t->gx (i:Nat) t=some r->eX 250 r)/\D.left-1<=(ig H D s).left/\(ig H D s).left<=D.left:=by
 have hss:=hs.size;have SI:=rX (k:=(H.used:Nat)) ⟨by omega,by omega⟩ (show s.size<=700000 by omega);have h0:=qN (H.used:Nat) s;unfold ig;split
 ·exact⟨hl,cj,hr,by omega,Int.le_refl _⟩
 ·refine⟨?_,?_,?_,by rw[sA];split<;>omega,by rw[sA];split<;>omega⟩
  ·unfold fx;split
   ·split
    ·simpa using hl
    ·exact hl
   ·simpa using hl
  ·intro t ht;unfold fx at ht;split at ht
   ·split at ht
    ·rcases br ht with h1|rfl
     ·exact cj t h1
     ·have :=uN (dQ (H.used:Nat) s) H.c6;omega
    ·exact cj t ht
   ·rcases br ht with h1|rfl
    ·exact cj t h1
    ·omega
  ·intro i t s' ht ho;have key:∀v,(D.places.set H.used v)[i]? =some t->(v=t/\i=H.used)\/D.places[i]? =some t:=fun v hv=>by
    rw[List.getElem?_set]at hv;split at hv
    ·rename_i e;split at hv
     ·simp only[ay]at hv;exact .inl ⟨hv,e.symm⟩
     ·cases hv
    ·exact .inr hv
   unfold fx at ht;split at ht
   ·split at ht
    ·rcases key _ ht with⟨rfl,rfl⟩|h1
     ·unfold x7 at ho;rw[xk hb ae]at ho;cases ho
     ·exact hr i t s' h1 ho
    ·exact hr i t s' ht ho
   ·rcases key _ ht with⟨rfl,rfl⟩|h1
    ·rw[qX hb]at ho;simp only[ay]at ho;rw[<-ho];exact hs
    ·exact hr i t s' h1 ho
theorem jj.write{c kb k:Nat}{x:Ho×Dk}(h:jj c kb k x){s:ak}(hs:eX 250 s)(hb:n_ 124 s):jj c (kb+1) k (oU x.1 x.2 s,ig x.1 x.2 s):=by
 obtain⟨a1,a2⟩:=lB x.1 x.2 s;obtain⟨d1,d2,d3,d4,d5⟩:=PV (H:=x.1) h.len h.size h.mr hs hb h.B.used;refine⟨a1.trans h.id,?_,d1,by have :=h.left;dsimp only;omega,d2,d3,fun u hu=>h.az u (by rw[<-a2];exact hu),Tw h.ways _ _,Tv h.ql _ _⟩;dsimp only;unfold oU;split
 ·rename_i h0;obtain⟨h1,h2⟩:=Mx h0;have eL:dY x.1 x.2={x.1 with used:=x.1.used+1}:=by unfold dY;rw[if_neg WK,if_neg Y55]
  have h3:=(h.B.log (D:=x.2)).HZ hs ae;have h4:=(fP (dY x.1 x.2) s).used;refine h3.le ?_;rw[h4,eL];dsimp only;omega
 ·rename_i h0;have h3:(dY x.1 x.2).used=x.1.used:=by
   unfold dY;split
   ·rfl
   ·rename_i h1;split
    ·rfl
    ·rename_i h2;exact absurd (by unfold ep;rw[if_neg h1];simpa using h2) h0
  rw[h3];exact h.B.log
theorem jj.cg{c kb k:Nat}{x:Ho×Dk}(h:jj c kb k x)(hk:k<4)(hK:kb<=1000000000000):jj c kb k (gy (k:Int) x.2,x.2):=by
 have hD:=h.ok hK;have h2:=qY x.2 300 (eo (k:Int));refine⟨h2.1,(Mh (id:=(k:Int)) ⟨by omega,by omega⟩ hD).le ji,h.len,h.left,h.size,h.mr,fun u hu=>?_,Mg _ _,Mf _ _⟩;have h3:u∈(eo (k:Int)).az:=by rw[<-h2.2.2.2];exact hu
 have :u=⟨[],[]⟩:=List.eq_of_mem_replicate h3;subst this;exact⟨⟨(fun p hp=>by cases hp),(fun p hp=>by cases hp),by decide⟩,aR _⟩
theorem NW(k:Int):n_ 124 (u3 k):=dp (dp (dH ai) (dH ai)) (fE _ ai)
theorem GN(k:Int)(l:List Int):n_ 124 (kN k l):=dp (dp (dH ai) (dH ai)) (tx (fun b hb=>by simp[sp]at hb;subst hb;decide) fun x hx=>by
 obtain⟨n,-,rfl⟩:=aD.1 hx
 exact fE _ ai)
theorem NV(k:Int){l:List Ms}{t:List ak}(h:∀m∈l,bG m=true)(ht:∀x∈t,cS x=true):n_ 124 (qO k l t):=
 dp (dp (dH ai) (dH ai)) (dp (dp (fE _ ai) (dH ai)) (dp (dp (pN ai ai ai h) (dH ai)) (tx (fun b hb=>by simp[plus]at hb;subst hb;decide) fun x hx=>rP ai (ht x hx))))
theorem jj.bt{c kb k:Nat}{x:Ho×Dk}(h:jj c kb k x)(dst:Int):jj c (kb+1) k (ov x.1 x.2 dst,wm x.1 x.2 dst):=by
 unfold ov wm;split
 ·rename_i qe;have qB:bQ x.1 dst=true:=by
   unfold gA py at qe;cases hk:bQ x.1 dst with
   |true=>rfl
   |false=>rw[hk]at qe;simp at qe
  obtain⟨vf,tG,-⟩:=bT.1 qB;refine h.write ((mU ⟨vf,tG⟩ (by unfold dW;simp;omega) fun y hy=>?_).mono ae) (GN _ _);obtain⟨m,hm,rfl⟩:=aD.1 hy;have hm:=List.mem_of_mem_take hm;unfold eK at hm;obtain⟨e,he,rfl⟩:=aD.1 hm;have :=(h.B.w (j:=dst.toNat) ae).ids e (aI.1 he).1;exact⟨by omega,by omega⟩
 ·exact h.mono (aC _) ae
theorem jj.ca{c kb k:Nat}{x:Ho×Dk}(h:jj c kb k x)(dst m:Int):jj c (kb+1) k (E7 x.1 x.2 dst m,KW x.1 x.2 dst m):=by
 unfold E7 KW;by_cases h0:mF x.1 dst m≠0
 ·rw[if_pos h0,if_pos h0];exact h.mono (aC _) ae
 ·rw[if_neg h0,if_neg h0];have qB:bQ x.1 dst=true:=by
   unfold mF at h0;cases hk:bQ x.1 dst with
   |true=>rfl
   |false=>rw[hk]at h0;simp at h0
  obtain⟨vf,tG,-⟩:=bT.1 qB;exact h.write ((vV ⟨vf,tG⟩).mono ae) (NW _)
theorem jj.ar{c kb k:Nat}{x:Ho×Dk}(h:jj c kb k x)(Ir m:Int){l:List Ms}(hl:l.length<=250):jj c (kb+1) k (sQ x.1 x.2 Ir m l,y0 x.1 x.2 Ir m l):=by
 unfold sQ y0;split
 ·rename_i hw;unfold Eh at hw;simp only[decide_eq_true_eq]at hw;have h0:=hw.1;have qB:bQ x.1 Ir=true:=by
   unfold sF at h0;cases hk:bQ x.1 Ir with
   |true=>rfl
   |false=>rw[hk]at h0;simp at h0
  obtain⟨vf,tG,-⟩:=bT.1 qB;have fg:iX l=none:=by
   unfold sF at h0;rw[if_neg (by rw[qB];simp)]at h0;split at h0
   ·cases h0
   ·rw[if_neg ae]at h0;split at h0
    ·cases h0
    ·split at h0
     ·cases h0
     ·rename_i h5;cases hb:iX l with
      |none=>rfl
      |some i=>exact absurd (.inl (by rw[hb];simp)) h5
  have jU:=dm fg;exact h.write (vU ⟨vf,tG⟩ fg hl (lT jU []) (lA x.1 l [])).1 (NV _ jU (lT jU []))
 ·exact h.mono (aC _) ae
theorem dr.mono{c c' kb P0:Nat}{W:Wo}(h:dr c kb W)(h1:c<=c')(h2:kb<=P0):dr c' P0 W:=⟨h.n1,fun k x hx=>(h.hs k x hx).mono h1 h2,h.dy,h.wl,by have :=h.lost;omega⟩
theorem dr.set{c kb:Nat}{W:Wo}(h:dr c kb W){k:Nat}{x:Ho×Dk}(hx:jj c kb k x):dr c kb (W.bX k x):=by
 refine⟨by simpa[Wo.bX]using h.n1,fun j y hy=>?_,fun g hg=>by have :=h.dy g hg;unfold Wo.bX;dsimp only;rw[List.length_set];exact this,h.wl,h.lost⟩;unfold Wo.bX at hy;dsimp only at hy;rw[List.getElem?_set]at hy;split at hy
 ·rename_i e;subst e;split at hy
  ·simp only[ay]at hy;subst hy;exact hx
  ·cases hy
 ·exact h.hs j y hy
theorem dr.put{c kb:Nat}{W:Wo}(h:dr c kb W){g:Gm}(hg:GmB W.hs.length g):dr c (kb+1) (sW W g):=by
 have h2:=h.mono (aC c) (Nat.le_succ kb);unfold sW;split
 ·exact⟨h2.n1,h2.hs,h2.dy,h2.wl,by have :=h.lost;dsimp only;omega⟩
 ·refine⟨h2.n1,h2.hs,fun x hx=>?_,by simp;omega,h2.lost⟩;rcases aP.1 hx with hx|hx
  ·exact h.dy x hx
  ·simp at hx;subst hx;exact hg
theorem dr.send{c kb:Nat}{W:Wo}(h:dr c kb W){dst:Int}{f:Fr}{l:List Ms}(h1:0<=dst/\dst<(W.hs.length:Int))(h2:0<=f.gD/\f.gD<(W.hs.length:Int)):dr c (kb+1) (mO W dst f l):=by
 unfold mO;split
 ·rename_i ku;exact h.put ⟨h1,h2,ku⟩
 ·exact h.mono (aC _) ae
theorem eZ{W:Wo}{j:Nat}(h:j<W.hs.length):∃x,W.hs[j]? =some x/\W.H j=x.1/\W.D j=x.2:=by
 refine⟨W.hs[j],ao h,?_⟩;unfold Wo.H Wo.D Wo.at';rw[aq,ao h];exact⟨rfl,rfl⟩
theorem gG{W:Wo}{k:Int}(h:W.is k=true):0<=k/\k<(W.hs.length:Int):=by
 unfold Wo.is at h;simpa using h
theorem dr.ae_{c kb:Nat}{W:Wo}(h:dr c kb W)(k t:Int){n:Int}(hn:n<=9223372036854775807):dr c kb (sX W k n t):=by
 unfold sX;split
 ·rename_i hk;have hk:=gG hk;obtain⟨x,hx,e1,e2⟩:=eZ (W:=W) (j:=k.toNat) ae;rw[e1,e2];exact h.set (((h.hs _ x hx).cut hn).c6 t)
 ·exact h
theorem dr.re{c kb:Nat}{W:Wo}(h:dr c kb W)(hK:kb<=1000000000000)(k:Int):dr c kb (Ff W k):=by
 unfold Ff;split
 ·rename_i hk;have hk:=gG hk;have hn:=h.n1;obtain⟨x,hx,e1,e2⟩:=eZ (W:=W) (j:=k.toNat) ae;unfold EV;rw[e2];exact h.set (((h.hs _ x hx).cut (n:= -1) ae).cg ae hK)
 ·exact h
theorem dr.se{c kb:Nat}{W:Wo}(h:dr c kb W)(k dst:Int):dr c (kb+2) (AP W k dst):=by
 unfold AP;split
 ·rename_i hk;have h1:=gG hk.1;have h2:=gG hk.2;obtain⟨x,hx,e1,e2⟩:=eZ (W:=W) (j:=k.toNat) ae;have rH:dr c (kb+1) (rY W k dst):=by
   unfold rY;rw[e1,e2];exact(h.mono (aC _) (Nat.le_succ kb)).set ((h.hs _ x hx).bt dst)
  have hl:(rY W k dst).hs.length=W.hs.length:=by unfold rY Wo.bX;simp
  split
  ·exact rH.send (by rw[hl];exact h2) (by rw[hl];exact h1)
  ·exact rH.mono (aC _) ae
 ·exact h.mono (aC _) ae
theorem Ht{W:Wo}{i:Int}(h:vL W i=0):0<=i/\i<(W.dy.length:Int):=by
 unfold vL at h;split at h
 ·assumption
 ·cases h
theorem om{W:Wo}{i:Nat}(h:i<W.dy.length):W.dy[i]? =some (xO W i):=by
 unfold xO;rw[aq,ao h];rfl
theorem dr.out{c kb:Nat}{W:Wo}(h:dr c kb W)(i:Nat):dr c kb (qb W i):=⟨h.n1,h.hs,fun g hg=>h.dy g ((List.eraseIdx_sublist _ _).subset hg),Nat.le_trans (List.eraseIdx_sublist _ _).length_le h.wl,h.lost⟩
theorem dr.cm{c kb:Nat}{W:Wo}(h:dr c kb W){g:Gm}(hg:GmB W.hs.length g):dr c (kb+2) (J5 W g):=by
 obtain⟨t1,t2⟩:=hg.dto;obtain⟨x,hx,e1,e2⟩:=eZ (W:=W) (j:=g.dto.toNat) ae;have h1:=h.mono (aC c) (Nat.le_succ kb);unfold J5;rw[e1,e2];split
 ·exact(h1.set ((h.hs _ x hx).ca _ _)).mono (aC _) ae
 ·have hl:g.l.length<=250:=by have :=hg.ok;unfold okF at this;omega
  have h2:=h1.set ((h.hs _ x hx).ar g.f.gD g.f.num hl);split
  ·refine h2.send ?_ ?_
   ·unfold Wo.bX;dsimp only;rw[List.length_set];exact hg.gD
   ·unfold Wo.bX;dsimp only;rw[List.length_set];exact hg.dto
  ·exact h2.mono (aC _) ae
theorem dr.de{c kb:Nat}{W:Wo}(h:dr c kb W)(i:Int):dr c (kb+2) (tX W i):=by
 unfold tX;split
 ·rename_i h0;obtain⟨h1,h2⟩:=Ht h0;exact(h.out i.toNat).cm (h.dy _ (ax (om (W:=W) (i:=i.toNat) ae)))
 ·exact h.mono (aC _) ae
theorem dr.lo{c kb:Nat}{W:Wo}(h:dr c kb W)(i:Int):dr c kb (FO W i):=by
 unfold FO;split
 ·exact h.out _
 ·exact h
theorem dr.tw{c kb:Nat}{W:Wo}(h:dr c kb W)(i:Int):dr c (kb+1) (Fl W i):=by
 unfold Fl;split
 ·rename_i h0;obtain⟨h1,h2⟩:=Ht h0;exact h.put (h.dy _ (ax (om (W:=W) (i:=i.toNat) ae)))
 ·exact h.mono (aC _) ae
def kM (H:Ho):Cr:=⟨(hv H).map oM,bR H,da H,cT H,H.next⟩
structure UJ (H:Ho) (u:Nat) (x:rL):Prop where
 aU:∀p∈x.aU,(p.1.b9=H.id->∃i,H.qI p.1.queue=some i)/\p.1.id%4=H.id/\∃e∈hv H,e.j=pc H p.1/\e.m=p.1/\e.put=(u:Int)
 pn:(x.aU.map fun p=>p.1.id).Nodup
 bj:∀g∈x.bj,∃i,H.qI g.2=some i/\∃e∈hv H,e.j=4+i/\eF e=g.1/\e.put<0/\e.j9=(u:Int)
 gn:(x.bj.map (·.1)).Nodup
structure HI (k:Nat) (H:Ho) (D:Dk) (H0:Ho):Prop where
 hid:H.id=(k:Int)
 Sz:∃R,jF D R/\lX (eo k) R H0/\H.used=R.length
 names:H0.names=H.names
 keys:bN H0=bN H
 bt:H0.batch=H.batch
 sn:H0.bU=H.bU
 av:H0.aF=H.aF
 dead:∃i,H.qI c_=some i
 nq:∀e∈hv H0,e.put= -1/\e.j9= -1
 uX:(hk H).Perm ((hv H0).map oM)
 oD:((hv H).map eF).Nodup
 wy:∀e∈hv H,e.j<4->e.m.id%4=(k:Int)
 lt:∀e∈hv H,e.m.id%4=(k:Int)->e.m.id/4<H.next
 Jj:∀e∈hv H0,e.m.id%4=(k:Int)->e.m.id/4<H0.next
 nx:H0.next<=H.next
 unit:∀(u:Nat) x,H.az[u]? =some x->UJ H u x
 bin:∀d,∀i∈bR H d,∃y∈hk H,y.1=d/\nM y=i
section
variable {c kb k n:Nat} {H H0:Ho} {D:Dk}
theorem HI.upd(h:HI k H D H0){H':Ho}(e1:H'.id=H.id)(e2:H'.used=H.used)(e3:H'.names=H.names)(e4:bN H'=bN H)(e5:H'.batch=H.batch)(e6:H'.bU=H.bU)(e7:H'.aF=H.aF)(uX:(hk H').Perm (hk H))(oD:((hv H').map eF).Nodup)(wy:∀e∈hv H',e.j<4->e.m.id%4=(k:Int))(lt:∀e∈hv H',e.m.id%4=(k:Int)->e.m.id/4<H'.next)(nx:H.next<=H'.next)(unit:∀(u:Nat) x,H'.az[u]? =some x->UJ H' u x):HI k H' D H0:=by
 obtain⟨R,r1,r2,r3⟩:=h.Sz;obtain⟨i,hi⟩:=h.dead;refine⟨by rw[e1,h.hid],⟨R,r1,r2,by rw[e2,r3]⟩,by rw[e3,h.names],by rw[e4,h.keys],by rw[e5,h.bt],by rw[e6,h.sn],by rw[e7,h.av],⟨i,by rw[cy e4];exact hi⟩,h.nq,uX.trans h.uX,oD,wy,lt,h.Jj,by have :=h.nx;omega,unit,fun d i hi=>?_⟩;have :bR H' d=bR H d:=by unfold bR;rw[e5]
 rw[this]at hi;obtain⟨y,hy,a,b⟩:=h.bin d i hi;exact⟨y,uX.mem_iff.2 hy,a,b⟩
theorem UJ.same{H':Ho}{u:Nat}{x:rL}(h:UJ H u x)(e1:H'.id=H.id)(e2:H'.aE=H.aE)(e3:H'.ways=H.ways):UJ H' u x:=by
 have e4:hv H'=hv H:=by unfold hv Ho.all;rw[e2,e3]
 have e5:bN H'=bN H:=by unfold bN;rw[e2]
 refine⟨fun p hp=>?_,h.pn,fun g hg=>?_,h.gn⟩
 ·obtain⟨a,b,e,he,r⟩:=h.aU p hp;exact⟨fun hh=>by rw[cy e5];exact a (by rw[hh,e1]),by rw[e1];exact b,e,by rw[e4];exact he,by rw[fD e5 e1];exact r⟩
 ·obtain⟨i,a,e,he,r⟩:=h.bj g hg;exact⟨i,by rw[cy e5];exact a,e,by rw[e4];exact he,r⟩
theorem HI.c6(h:HI k H D H0)(t:Int):HI k {H with c6:=t} D H0:=
 h.upd rfl rfl rfl rfl rfl rfl rfl (.refl _) h.oD h.wy h.lt (Int.le_refl _) fun u x hx=>(h.unit u x hx).same rfl rfl rfl
theorem HI.Vy(h:HI k H D H0):HI k {H with down:=true} D H0:=
 h.upd rfl rfl rfl rfl rfl rfl rfl (.refl _) h.oD h.wy h.lt (Int.le_refl _) fun u x hx=>(h.unit u x hx).same rfl rfl rfl
theorem HI.aam(h:HI k H D H0){D':Dk}(hd:∀R,H.used=R.length->jF D R->jF D' R):HI k H D' H0:=by
 obtain⟨R,r1,r2,r3⟩:=h.Sz;exact⟨h.hid,⟨R,hd R r3 r1,r2,r3⟩,h.names,h.keys,h.bt,h.sn,h.av,h.dead,h.nq,h.uX,h.oD,h.wy,h.lt,h.Jj,h.nx,h.unit,h.bin⟩
theorem HI.cut(h:HI k H D H0)(t:Int):HI k H (cO D t) H0:=h.aam fun R _ hd=>hd.cut t
theorem HI.opened(h:HI k H D H0):gy (k:Int) D=H0:=by
 obtain⟨R,r1,r2,r3⟩:=h.Sz;exact qW r1 r2
theorem HI.vf(h:HI k H D H0):hk H0=(hv H0).map oM:=by
 unfold hk;rw[b_.2];intro e he;have :=(h.nq e he).1;unfold jx;simp[this]
theorem HI.YB(h:HI k H D H0):H0.id=(k:Int):=by
 obtain⟨R,r1,r2,r3⟩:=h.Sz;rw[r2.same.1];rfl
theorem HI.Lq(h:HI k H D H0):H0.az=List.replicate 5 ⟨[],[]⟩:=by
 obtain⟨R,r1,r2,r3⟩:=h.Sz;rw[r2.same.2.2.2];rfl
theorem HI.P6(h:HI k H D H0):((hv H0).map eF).Nodup:=by
 have h1:((hv H0).map eF).Perm ((hk H).map (·.2.id)):=by
  refine List.Perm.trans (List.Perm.of_eq ?_) (h.uX.map (·.2.id)).symm
  rw[List.map_map];rfl
 rw[h1.nodup_iff,U1];exact h.oD.sublist (List.filter_sublist.map _)
theorem HI.in0(h:HI k H D H0){e:En}(he:e∈hv H0):∃e'∈hv H,e'.j=e.j/\e'.m=e.m/\e'.put<0:=by
 have h1:oM e∈hk H:=h.uX.mem_iff.2 (j_ he);unfold hk at h1;obtain⟨e',h2,h3⟩:=aD.1 h1;obtain⟨h4,h5⟩:=aI.1 h2;unfold oM at h3;simp only[Prod.mk.injEq]at h3;exact⟨e',h4,h3.1,h3.2,by unfold jx at h5;simpa using h5⟩
theorem HI.to0(h:HI k H D H0){e:En}(he:e∈hv H)(hp:e.put<0):∃e'∈hv H0,e'.j=e.j/\e'.m=e.m:=by
 have h1:oM e∈(hv H0).map oM:=h.uX.mem_iff.1 (by
  unfold hk
  exact j_ (aI.2 ⟨he,by unfold jx;simpa using hp⟩))
 obtain⟨e',h2,h3⟩:=aD.1 h1;unfold oM at h3;simp only[Prod.mk.injEq]at h3;exact⟨e',h2,h3.1,h3.2⟩
theorem UJ.nil(H:Ho)(u:Nat):UJ H u ⟨[],[]⟩:=⟨(fun p hp=>by cases hp),List.nodup_nil,(fun p hp=>by cases hp),List.nodup_nil⟩
theorem HI.T8(h:HI k H D H0):HI k H0 D H0:=by
 obtain⟨R,r1,r2,r3⟩:=h.Sz;obtain⟨i,hi⟩:=h.dead;refine⟨h.YB,⟨R,r1,r2,by rw[r2.used];simp[eo]⟩,rfl,rfl,rfl,rfl,rfl,⟨i,by rw[cy h.keys];exact hi⟩,h.nq,by rw[h.vf],h.P6,fun e he hj=>?_,h.Jj,h.Jj,Int.le_refl _,fun u x hx=>?_,fun d i hi=>?_⟩
 ·obtain⟨e',h1,h2,h3,-⟩:=h.in0 he;rw[<-h3];exact h.wy e' h1 (by rw[h2];exact hj)
 ·rw[h.Lq]at hx;have :=List.eq_of_mem_replicate (ax hx);subst this;exact UJ.nil _ _
 ·have :bR H0 d=bR H d:=by unfold bR;rw[h.bt]
  rw[this]at hi;obtain⟨y,hy,a,b⟩:=h.bin d i hi;exact⟨y,by rw[h.vf];exact h.uX.mem_iff.1 hy,a,b⟩
theorem HI.fail(h:HI k H D H0){s:ak}(hs:s.size<=700000)(hb:n_ 124 s)(he:ep H D≠0):HI k (dY H D) (ig H D s) H0:=by
 unfold ep at he;unfold dY ig;by_cases h1:jJ H≠0
 ·rw[if_pos h1,if_pos h1];exact h
 ·rw[if_neg h1]at he;rw[if_neg h1,if_neg h1,if_pos he];have hr:=(vR (H:=H) WK).2;have ho:nt D=true:=by
   cases hd:nt D with
   |true=>rfl
   |false=>exact absurd (Ao.2 (by rw[hd];simp)) he
  refine h.Vy.aam fun R hu hd=>?_
  have hu:H.used=R.length:=hu;rw[hu];exact hd.bad hs hb ho (by rw[<-hu];exact hr)
theorem fS(h2:ep H D=0)(s:ak):dY H D={H with used:=H.used+1}/\ig H D s=fx D H.used (dQ H.used s) H.c6/\H.used<300/\¬nt D=true:=by
 obtain⟨h3,h4⟩:=Mx h2;refine⟨?_,?_,(vR h3).2,Ao.1 h4⟩
 ·unfold dY;rw[if_neg (by simpa using h3),if_neg (by simpa using h4)]
 ·unfold ig;rw[if_neg (by simpa using h3)]
theorem HI.xr(h:HI k H D H0)(h2:ep H D=0){s:ak}(hs:s.size<=700000)(hb:n_ 124 s)(kZ:eX 250 s){H' H3:Ho}(hp:bO H0 s=(H3,true))(e1:H'.id=H.id)(e2:H'.used=H.used+1)(e3:H3.names=H'.names)(e4:bN H3=bN H')(e5:H3.batch=H'.batch)(e6:H3.bU=H'.bU)(e7:H3.aF=H'.aF)(e8:bN H'=bN H)(nq:∀e∈hv H3,e.put= -1/\e.j9= -1)(uX:(hk H').Perm ((hv H3).map oM))(oD:((hv H').map eF).Nodup)(wy:∀e∈hv H',e.j<4->e.m.id%4=(k:Int))(lt:∀e∈hv H',e.m.id%4=(k:Int)->e.m.id/4<H'.next)(Jj:∀e∈hv H3,e.m.id%4=(k:Int)->e.m.id/4<H3.next)(nx:H3.next<=H'.next)(unit:∀(u:Nat) x,H'.az[u]? =some x->UJ H' u x)(bin:∀d,∀i∈bR H' d,∃y∈hk H',y.1=d/\nM y=i):HI k H' (ig H D s) {H3 with used:=H0.used+1}:=by
 obtain⟨R,r1,r2,r3⟩:=h.Sz;obtain⟨i,hi⟩:=h.dead;obtain⟨-,eD,hu,ho⟩:=fS h2 s;refine⟨by rw[e1,h.hid],⟨R++[s],?_,r2.snoc hp,by rw[e2,r3];simp⟩,e3,e4,e5,e6,e7,⟨i,by rw[cy e8];exact hi⟩,nq,uX,oD,wy,lt,Jj,nx,unit,bin⟩;rw[eD,r3];exact r1.ZR hs hb kZ ho (by rw[<-r3];exact hu)
theorem L_{s:ak}(h:(kE H s).2.2=0)(hk:¬(kE H s).2.1<0):(kE H s).2.1≠H.id:=by
 unfold kE at h hk ⊢;split
 ·rename_i h1;rw[if_pos h1]at h;exact absurd h h1
 ·rename_i h1;rw[if_neg h1]at h hk;split
  ·rename_i h2;rw[if_pos h2]at h hk;split
   ·rename_i h3;rw[if_pos h3]at h;cases h
   ·rename_i h3;rw[if_neg h3]at hk;exact absurd (by dsimp only;decide) hk
  ·rename_i h2;exact fun e=>h2 (.inr e)
theorem L6{u:Int}{s:ak}{pri:Int}{body:ak}(he:ic H u s pri body=0):(kE H s).2.2=0/\jr (H.uR (lI H s)) (fk H s pri body)=0/\bG (fk H s pri body)=true/\H.down=false:=by
 have h0:=he;unfold ic at h0;split at h0
 ·cases h0
 ·split at h0
  ·cases h0
  ·split at h0
   ·exact absurd h0 uT
   ·rename_i h1;split at h0
    ·cases h0
    ·rename_i h2;refine⟨by simpa using h1,h0,?_,by simpa using h2⟩;unfold jr at h0;cases hr:bG (fk H s pri body)with
     |true=>rfl
     |false=>rw[if_pos hr]at h0;cases h0
theorem HI.put(h:HI k H D H0)(hB:cE n H){u:Nat}(hu:u<5){s:ak}{pri:Int}{body:ak}(he:ic H u s pri body=0):
 HI k (jt H u s pri body) D H0/\(fk H s pri body).id=H.next *4+k:=by
 obtain⟨kJ,F2,Dz,-⟩:=L6 he;obtain⟨hj,h2,h3⟩:=xe hB kJ;have Bb:(fk H s pri body).id=H.next *4+k:=by rw[<-h.hid];rfl
 have hjm:pc H (fk H s pri body)=lI H s/\((fk H s pri body).b9=H.id->∃i,H.qI (fk H s pri body).queue=some i):=by
  unfold pc;by_cases hn:(kE H s).2.1<0
  ·obtain⟨-,i,MZ,hji⟩:=h2 hn;have e1:(fk H s pri body).b9=H.id:=by unfold fk;dsimp only;rw[if_pos hn]
   have e2:(fk H s pri body).queue=(kE H s).1:=rfl;rw[if_neg (by rw[e1];simp),e2,MZ];exact⟨by rw[hji];rfl,fun _=>⟨i,rfl⟩⟩
  ·obtain⟨a,b⟩:=h3 hn;have e1:(fk H s pri body).b9=(kE H s).2.1:=by unfold fk;dsimp only;rw[if_neg hn]
   rw[if_pos (by rw[e1];exact L_ kJ hn),e1,b];exact⟨by simp,fun hh=>absurd (b.trans hh) (L_ kJ hn)⟩
 refine⟨?_,Bb⟩;have yV:=mo hB hu;generalize hx:H.iJ u=x at yV;have e1:jt H u s pri body=dc {H.eI (lI H s) (dS (H.uR (lI H s)) (fk H s pri body) u)with next:=H.next+1} u ⟨x.aU++[(fk H s pri body,(kE H s).2.1)],x.bj⟩:=by
  unfold jt;rw[if_pos he];unfold nY;rw[if_pos F2,aM,hx]
 rw[e1];generalize fk H s pri body=m at F2 Dz Bb hjm;have fZ:H.all[lI H s]? =some (H.uR (lI H s)):=Ej hj;generalize qg:dc {H.eI (lI H s) (dS (H.uR (lI H s)) m u)with next:=H.next+1} u ⟨x.aU++[(m,(kE H s).2.1)],x.bj⟩=H';have pU:(hv H').Perm (⟨lI H s,m,(u:Int),-1⟩::hv H):=by
  have h3:H'.all=(H.eI (lI H s) (dS (H.uR (lI H s)) m u)).all:=by rw[<-qg];rfl
  unfold hv;rw[h3,Ei hB.ways];have :=vN m u fZ;rw[show max (u:Int) (-1)=u by omega]at this;exact this
 have oh:bN H'=bN H:=by rw[<-qg];exact wT _ _
 have k_:H'.id=H.id:=by rw[<-qg];exact AN _ _
 have B6:H'.next=H.next+1:=by rw[<-qg];rfl
 have l9:H'.az=H.az.set u ⟨x.aU++[(m,(kE H s).2.1)],x.bj⟩:=by rw[<-qg];unfold dc;dsimp only;rw[iT]
 have M_:(hk H').Perm (hk H):=by
  unfold hk;refine((pU.filter _).map _).trans (List.Perm.of_eq ?_);rw[fh,if_neg (by unfold jx;simp)]
 have k9:∀e∈hv H,e∈hv H':=fun e he=>pU.mem_iff.2 (List.mem_cons_of_mem _ he)
 have YY:∀e∈hv H,eF e≠m.id:=fun e he e2=>by
  unfold eF at e2;have :=h.lt e he (by rw[e2,Bb];have :=h.hid;have :=hB.id;omega);rw[e2,Bb]at this;have :=h.hid;have :=hB.id;omega
 have tG:(k:Int)<4:=by have :=h.hid;have :=hB.id;omega
 refine h.upd k_ (by rw[<-qg];exact pJ _ _) (by rw[<-qg];exact qL _ _) oh (by rw[<-qg];exact qM _ _) (by rw[<-qg];exact s5 _ _) (by rw[<-qg];exact nU _ _) M_ ?_ (fun e iM E6=>?_) (fun e iM E6=>?_) ae fun v y hy=>?_
 ·refine(pU.map eF).nodup_iff.2 ?_;rw[aT,bZ];refine⟨fun OM=>?_,h.oD⟩;obtain⟨e,iM,U8⟩:=aD.1 OM;exact YY e iM U8
 ·rcases aJ.1 (pU.mem_iff.1 iM)with rfl|U8
  ·dsimp only;rw[Bb];omega
  ·exact h.wy e U8 E6
 ·rw[B6];rcases aJ.1 (pU.mem_iff.1 iM)with rfl|U8
  ·dsimp only;rw[Bb];omega
  ·have :=h.lt e U8 E6;omega
 ·rw[l9]at hy;rcases kf WM hy with⟨rfl,rfl⟩|⟨kF,hy⟩
  ·have ui:=h.unit v x yV;refine⟨fun p hp=>?_,?_,fun g hg=>?_,ui.gn⟩
   ·rcases aP.1 hp with hp|hp
    ·obtain⟨a,b,e,iM,e3⟩:=ui.aU p hp;exact⟨fun hh=>by rw[cy oh];exact a XF,by rw[k_];exact b,e,k9 e iM,by rw[fD oh k_];exact e3⟩
    ·simp at hp;subst hp;refine⟨fun hh=>by rw[cy oh];exact hjm.2 (by rw[<-k_];exact hh),by rw[k_,h.hid];dsimp only;rw[Bb];omega,_,pU.mem_iff.2 List.mem_cons_self,by rw[fD oh k_];exact hjm.1.symm,rfl,rfl⟩
   ·dsimp only;rw[bu,List.nodup_append];refine⟨ui.pn,by simp,fun a ha b hb=>?_⟩;obtain⟨p,hp,rfl⟩:=aD.1 ha;obtain⟨-,-,e,iM,-,e3,-⟩:=ui.aU p hp;simp at hb;subst hb;have :=YY e iM;unfold eF at this;rw[e3]at this;exact this
   ·obtain⟨i',d,e,iM,e3⟩:=ui.bj g hg;exact⟨i',by rw[cy oh];exact d,e,k9 e iM,e3⟩
  ·have ui:=h.unit v y hy;refine⟨fun p hp=>?_,ui.pn,fun g hg=>?_,ui.gn⟩
   ·obtain⟨a,b,e,iM,e3⟩:=ui.aU p hp;exact⟨fun hh=>by rw[cy oh];exact a XF,by rw[k_];exact b,e,k9 e iM,by rw[fD oh k_];exact e3⟩
   ·obtain⟨i',d,e,iM,e3⟩:=ui.bj g hg;exact⟨i',by rw[cy oh];exact d,e,k9 e iM,e3⟩
theorem HI.get(h:HI k H D H0)(hB:cE n H){u:Nat}(hu:u<5){s:ak}(he:gm H u s=0):
 HI k (iE H u s) D H0/\∃i,(i,getM H u s)∈hk H/\4<=i:=by
 obtain⟨i,MZ,F2⟩:∃i,H.qI s=some i/\lH (H.dX i)=0:=by
  have h0:=he;unfold gm at h0;split at h0
  ·cases h0
  ·cases hq:H.qI s with
   |none=>rw[hq]at h0;cases h0
   |some i=>
    rw[hq]at h0;dsimp only at h0;split at h0
    ·cases h0
    ·split at h0
     ·cases h0
     ·exact⟨i,rfl,h0⟩
 have uK:=(i_ MZ).1;obtain⟨q,Xl⟩:∃q,xd (H.dX i)=some q:=by
  unfold lH at F2;split at F2
  ·cases F2
  ·rename_i q ON;exact⟨q,ON⟩
 obtain⟨oX,Qo,-⟩:=List.findIdx?_eq_some_iff_getElem.1 Xl;have Qn:(H.dX i).l[q]? =some (H.dX i).l[q]:=ao oX;generalize hy:(H.dX i).l[q]=y at Qn Qo;have hit:FW (H.dX i).l q=y:=ob Qn;have JH:lG (H.dX i)=y.m:=by unfold lG;rw[Xl];dsimp only;rw[hit]
 have hgq:mW (H.dX i) u=⟨(H.dX i).l.set q {y with j9:=(u:Int)},(H.dX i).next⟩:=by unfold mW;rw[Xl];dsimp only;rw[if_neg ae,hit]
 have hM:getM H u s=y.m:=by unfold getM;rw[if_pos he,MZ];exact JH
 unfold fU at Qo;simp only[aW,decide_eq_true_eq]at Qo;obtain⟨Rr,p1,p2⟩:=IN {y with j9:=(u:Int)} (IA hB uK) Qn (H.dX i).next
 have yV:=mo hB hu;generalize hx:H.iJ u=x at yV;have e1:iE H u s=dc (H.ft i (mW (H.dX i) u)) u ⟨x.aU,x.bj++[(y.m.id,s)]⟩:=by
  unfold iE;rw[if_pos he,aM,hx,MZ];simp only[Option.getD_some];rw[JH]
 rw[e1,hM];generalize qg:dc (H.ft i (mW (H.dX i) u)) u ⟨x.aU,x.bj++[(y.m.id,s)]⟩=H';have pU:(hv H').Perm (kA (4+i) {y with j9:=(u:Int)}::Rr):=by
  have h3:H'.all=(H.ft i (mW (H.dX i) u)).all:=by rw[<-qg];rfl
  unfold hv;rw[h3,lU hB.ways,hgq];exact p2
 have YI:(hv H).Perm (kA (4+i) y::Rr):=p1;have oh:bN H'=bN H:=by rw[<-qg];exact ki _ _
 have k_:H'.id=H.id:=by rw[<-qg];rfl
 have B6:H'.next=H.next:=by rw[<-qg];rfl
 have l9:H'.az=H.az.set u ⟨x.aU,x.bj++[(y.m.id,s)]⟩:=by rw[<-qg];rfl
 have M_:(hk H').Perm (hk H):=by
  unfold hk;refine((pU.filter _).map _).trans (List.Perm.trans (List.Perm.of_eq ?_) ((YI.filter _).map _).symm);rw[fh,fh];have :jx (kA (4+i) y)=true:=by unfold jx kA;simpa using Qo.1
  rw[if_pos this,if_pos (show jx (kA (4+i) {y with j9:=(u:Int)})=true from this)];rfl
 have ni:((hv H').map eF).Perm ((hv H).map eF):=(pU.map eF).trans (YI.map eF).symm;have k9:∀e∈hv H,e∈hv H'\/e=kA (4+i) y:=fun e he=>by
  rcases aJ.1 (YI.mem_iff.1 he)with rfl|h1
  ·exact .inr rfl
  ·exact .inl (pU.mem_iff.2 (List.mem_cons_of_mem _ h1))
 have hyv:kA (4+i) y∈hv H:=YI.mem_iff.2 List.mem_cons_self;have adr:kA (4+i) {y with j9:=(u:Int)}∈hv H':=pU.mem_iff.2 List.mem_cons_self;have DQ:∀e∈hv H',∃e'∈hv H,e'.j=e.j/\e'.m=e.m:=fun e he=>by
  rcases aJ.1 (pU.mem_iff.1 he)with rfl|h1
  ·exact⟨_,hyv,rfl,rfl⟩
  ·exact⟨e,YI.mem_iff.2 (List.mem_cons_of_mem _ h1),rfl,rfl⟩
 have F4:∀v p (j':Nat) (e:En),e∈hv H->e.j=j'->e.m=p->e.put=((v:Nat):Int)->∃e∈hv H',e.j=j'/\e.m=p/\e.put=((v:Nat):Int):=fun v p i' e he a b d=>by
  rcases k9 e he with h1|rfl
  ·exact⟨e,h1,a,b,d⟩
  ·have :y.put=(v:Int):=d;omega
 have tI:∀(v:Nat) k' (i':Nat) (e:En),e∈hv H->e.j=4+i'->eF e=k'->e.put<0->e.j9=((v:Nat):Int)->∃e∈hv H',e.j=4+i'/\eF e=k'/\e.put<0/\e.j9=((v:Nat):Int):=fun v k' i' e he a b d f=>by
  rcases k9 e he with h1|rfl
  ·exact⟨e,h1,a,b,d,f⟩
  ·have :y.j9=(v:Int):=f;omega
 refine⟨h.upd k_ Oq Oq oh Oq Oq Oq M_ (ni.nodup_iff.2 h.oD) (fun e iM E6=>?_) (fun e iM E6=>?_) ae fun v z hz=>?_,4+i,?_,by omega⟩
 ·obtain⟨e',a,b,d⟩:=DQ e iM;rw[<-d];exact h.wy e' a (by rw[b];exact E6)
 ·obtain⟨e',a,b,d⟩:=DQ e iM;rw[<-d]at E6 ⊢;rw[B6];exact h.lt e' a E6
 ·rw[l9]at hz;rcases kf WM hz with⟨rfl,rfl⟩|⟨kF,hz⟩
  ·have ui:=h.unit v x yV;refine⟨fun p hp=>?_,ui.pn,fun g hg=>?_,?_⟩
   ·obtain⟨a,b,e,iM,e3,e4,e5⟩:=ui.aU p hp;exact⟨fun hh=>by rw[cy oh];exact a XF,by rw[k_];exact b,by rw[fD oh k_];exact F4 v _ _ e iM e3 e4 e5⟩
   ·rcases aP.1 hg with hg|hg
    ·obtain⟨i',d,e,iM,e3,e4,e5,e6⟩:=ui.bj g hg;exact⟨i',by rw[cy oh];exact d,tI v _ i' e iM e3 e4 e5 e6⟩
    ·simp at hg;subst hg;exact⟨i,by rw[cy oh];exact MZ,_,adr,rfl,rfl,Qo.1,rfl⟩
   ·dsimp only;rw[bu,List.nodup_append];refine⟨ui.gn,by simp,fun a ha b hb=>?_⟩;obtain⟨g,hg,rfl⟩:=aD.1 ha;obtain⟨i',-,e,iM,-,e4,-,e6⟩:=ui.bj g hg;simp at hb;subst hb;intro e7;have :e=kA (4+i) y:=ja h.oD iM hyv (by rw[e4,e7];rfl);rw[this]at e6;have :y.j9=(v:Int):=e6;omega
  ·have ui:=h.unit v z hz;refine⟨fun p hp=>?_,ui.pn,fun g hg=>?_,ui.gn⟩
   ·obtain⟨a,b,e,iM,e3,e4,e5⟩:=ui.aU p hp;exact⟨fun hh=>by rw[cy oh];exact a XF,by rw[k_];exact b,by rw[fD oh k_];exact F4 v _ _ e iM e3 e4 e5⟩
   ·obtain⟨i',d,e,iM,e3,e4,e5,e6⟩:=ui.bj g hg;exact⟨i',by rw[cy oh];exact d,tI v _ i' e iM e3 e4 e5 e6⟩
 ·unfold hk;exact aD.2 ⟨kA (4+i) y,aI.2 ⟨hyv,by unfold jx kA;simpa using Qo.1⟩,rfl⟩
theorem HI.back(h:HI k H D H0)(hB:cE n H){u:Nat}(hu:u<5)(he:wq H u=0):HI k (uQ H u) D H0:=by
 have e1:uQ H u=dc (cY H u) u dt:=by unfold uQ;rw[if_pos he,aM]
 rw[e1];have pU:hv (dc (cY H u) u dt)=((hv H).filter fun e=> !decide (e.put=(u:Int))).map (iF u):=DU H ae;have oh:bN (dc (cY H u) u dt)=bN H:=by unfold bN dc cY;simp
 generalize qg:dc (cY H u) u dt=H' at pU oh;have k_:H'.id=H.id:=by rw[<-qg];rfl
 have B6:H'.next=H.next:=by rw[<-qg];rfl
 have l9:H'.az=H.az.set u dt:=by rw[<-qg];rfl
 have k9:∀e∈hv H,e.put≠(u:Int)->iF u e∈hv H':=fun e he hp=>by
  rw[pU];exact j_ (aI.2 ⟨he,by simpa using hp⟩)
 have DQ:∀e∈hv H',∃e'∈hv H,e'.j=e.j/\e'.m=e.m:=fun e he=>by
  rw[pU]at he;obtain⟨e',h1,rfl⟩:=aD.1 he;exact⟨e',(aI.1 h1).1,rfl,rfl⟩
 have M_:hk H'=hk H:=by
  unfold hk;rw[pU,List.filter_map,List.map_map,cB];rw[show(oM∘iF u)=oM from rfl];congr 1;apply List.filter_congr;intro e _;unfold jx iF;dsimp only[Function.comp];by_cases e1:e.put=(u:Int)
  ·have :¬e.put<0:=by omega
   simp[e1]
  ·simp[e1]
 refine h.upd k_ Oq Oq oh Oq Oq Oq (by rw[M_]) ?_ (fun e iM E6=>?_) (fun e iM E6=>?_) ae fun v y hy=>?_
 ·rw[pU,List.map_map,show(eF∘iF u)=eF from rfl];exact h.oD.sublist (List.filter_sublist.map _)
 ·obtain⟨e',a,b,d⟩:=DQ e iM;rw[<-d];exact h.wy e' a (by rw[b];exact E6)
 ·obtain⟨e',a,b,d⟩:=DQ e iM;rw[<-d]at E6 ⊢;rw[B6];exact h.lt e' a E6
 ·rw[l9]at hy;rcases kf WM hy with⟨rfl,rfl⟩|⟨kF,hy⟩
  ·exact UJ.nil _ _
  ·have ui:=h.unit v y hy;have UA:((v:Nat):Int)≠(u:Int):=fun e=>kF ae
   refine⟨fun p hp=>?_,ui.pn,fun g hg=>?_,ui.gn⟩
   ·obtain⟨a,b,e,iM,e3,e4,e5⟩:=ui.aU p hp;refine⟨fun hh=>by rw[cy oh];exact a XF,by rw[k_];exact b,_,k9 e iM (by rw[e5];exact UA),by rw[fD oh k_];exact e3,e4,?_⟩;unfold iF;dsimp only;rw[if_neg (by rw[e5];exact UA)];exact e5
   ·obtain⟨i',d,e,iM,e3,e4,e5,e6⟩:=ui.bj g hg;have SM:e.put≠(u:Int):=by omega
    refine⟨i',by rw[cy oh];exact d,_,k9 e iM SM,e3,e4,?_,?_⟩
    ·unfold iF;dsimp only;rw[if_neg SM];exact e5
    ·unfold iF;dsimp only;rw[if_neg (by rw[e6];exact UA)];exact e6
end
section
variable {c kb k n:Nat} {H H0:Ho} {D:Dk}
theorem HI.B0(h:HI k H D H0)(hb:jj c kb k (H,D))(hk:k<4)(hK:kb<=1000000000000):cE (300+c+250*H0.used) H0/\WR H0:=by
 have h1:=hb.cg hk hK;rw[h.opened]at h1;exact⟨h1.B,h1.ways⟩
theorem jz{α:Type}{l:List α}{d:Nat}(hd:d<l.length)(x z:α)(b:Nat):(l.set d x).getD b z=if b=d then x else l.getD b z:=by
 rw[aq,aq,List.getElem?_set];by_cases e:b=d
 ·rw[if_pos e,if_pos e.symm,if_pos hd];rfl
 ·rw[if_neg e,if_neg fun e2=>e e2.symm]
theorem bc4(hB:cE n H){d:Nat}(hd:4<=d):bR H d=[]:=by
 unfold bR;rw[aq,cG (by rw[hB.batch];exact hd)];rfl
theorem Av{u:Int}(he:vq H D u=0):kC H u=0/\ep H D=0:=by
 unfold vq at he;by_cases h1:kC H u≠0
 ·rw[if_pos h1]at he;exact absurd he h1
 ·rw[if_neg h1]at he;exact⟨by simpa using h1,he⟩
theorem p4(u:Int):(p5 H D u).az=if vq H D u=0 then H.az.set u.toNat dt else H.az:=by
 by_cases he:vq H D u=0
 ·rw[if_pos he];obtain⟨h1,h2⟩:=Av he;unfold p5;rw[if_neg WK,if_neg Y55];rw[(oi _ _).az];unfold dc cY;dsimp only;rw[xu]
 ·rw[if_neg he];unfold vq at he;unfold p5;by_cases h1:kC H u≠0
  ·rw[if_pos h1]
  ·rw[if_neg h1]at he ⊢;rw[if_pos he,xu]
theorem w7{x:rL}(F5:ga x):(oK x).size<=700000:=by
 have cj:=F5.size;rw[vT];have e1:(bV 117).size=1:=rfl;have e2:(bV 58).size=1:=rfl;simp only[aB];omega
theorem HI.Bt(h:HI k H D H0)(hb:jj c kb k (H,D)){u:Nat}(hu:u<5)(he:vq H D u≠0):HI k (p5 H D u) (t_ H D u) H0:=by
 unfold vq at he;unfold p5 t_;by_cases h1:kC H u≠0
 ·rw[if_pos h1,if_pos h1];exact h
 ·rw[if_neg h1]at he;rw[if_neg h1,if_neg h1,if_pos he,aM];have F5:=(hb.az _ (ax (mo hb.B hu))).1;exact h.fail (w7 F5) (Bx F5) he
theorem HI.ye(h:HI k H D H0)(hb:jj c kb k (H,D))(hk:k<4)(hK:kb<=1000000000000)(hc:c<=250){u:Nat}(hu:u<5)(he:vq H D u=0):
 ∃H3,HI k (p5 H D u) (t_ H D u) H3/\(kM H3).bg.Perm (((H.iJ u).aU.map (fun p=>(pc H p.1,p.1))++(kM H0).bg).filter fun y=> !decide (nM y∈(H.iJ u).bj.map (·.1)))/\H3.batch=H0.batch/\H3.bU=H0.bU/\H3.aF=H0.aF/\H0.next<=H3.next/\∀p∈(H.iJ u).aU,p.1.id/4<H3.next:=by
 obtain⟨h1,h2⟩:=Av he;have hB:=hb.B;have yV:=mo hB hu;unfold p5 t_;rw[if_neg (show ¬kC H (u:Int)≠0 by simpa using h1),if_neg (show ¬kC H (u:Int)≠0 by simpa using h1),if_neg (show ¬ep H D≠0 by simpa using h2),aM];dsimp only at yV hB;generalize hx:H.iJ u=x at yV;obtain⟨F5,hpm⟩:=hb.az x (ax yV);have UM:=w7 F5;obtain⟨eL,-,-,-⟩:=fS h2 (oK x);rw[eL];have ui:=h.unit u x yV;have kK:cE (300+c+250*H.used) (dc (cY {H with used:=H.used+1} u) u dt):=by
  have :=hB.log (D:=D);rw[eL]at this;exact(this.cY _).dc _ _
 have P_:hv (dc (cY {H with used:=H.used+1} u) u dt)=((hv H).filter fun e=> !decide (e.put=(u:Int))).map (iF u):=DU {H with used:=H.used+1} ae;have oh:bN (dc (cY {H with used:=H.used+1} u) u dt)=bN H:=by unfold bN dc cY;simp
 generalize QC:dc (cY {H with used:=H.used+1} u) u dt=H1 at kK P_ oh;have E4:H1.names=H.names:=by rw[<-QC];rfl
 have k_:H1.id=H.id:=by rw[<-QC];rfl
 have MT:H1.used=H.used+1:=by rw[<-QC];rfl
 have B6:H1.next=H.next:=by rw[<-QC];rfl
 have l9:H1.az=H.az.set u dt:=by rw[<-QC];rfl
 have rI:H1.batch=H.batch:=by rw[<-QC];rfl
 have EZ:H1.bU=H.bU:=by rw[<-QC];rfl
 have KM:H1.aF=H.aF:=by rw[<-QC];rfl
 have k9:∀e∈hv H,e.put≠(u:Int)->iF u e∈hv H1:=fun e he hp=>by
  rw[P_];exact j_ (aI.2 ⟨he,by simpa using hp⟩)
 have Nc:∀e∈hv H1,∃e'∈hv H,e'.put≠(u:Int)/\e=iF u e':=fun e he=>by
  rw[P_]at he;obtain⟨e',h5,rfl⟩:=aD.1 he;obtain⟨h6,h7⟩:=aI.1 h5;exact⟨e',h6,by simpa using h7,rfl⟩
 have Dy:((hv H1).map eF).Nodup:=by
  rw[P_,List.map_map,show(eF∘iF u)=eF from rfl];exact h.oD.sublist (List.filter_sublist.map _)
 obtain⟨H2,e2,p2,k2,n2,s2,x2,y2,z2,Gr⟩:=Ak kK F5 Dy
  (fun p hp hh=>by
   obtain⟨i,hi⟩:=(ui.aU p hp).1 XF
   exact⟨i,by rw[cy oh];exact hi⟩) ui.pn
  (fun p hp e he e3=>by
   obtain⟨e',h5,h6,rfl⟩:=Nc e he;obtain⟨-,-,e4,h7,-,h8,h9⟩:=ui.aU p hp;have :e'=e4:=ja h.oD h5 h7 (by rw[show eF e'=p.1.id from e3];unfold eF;rw[h8])
   rw[this]at h6;exact h6 h9) ui.gn
  (fun g hg=>by
   obtain⟨i,d,e,h5,h6,h7,h8,-⟩:=ui.bj g hg
   exact⟨i,by rw[cy oh];exact d,_,k9 e h5 ae,h6,h7⟩)
 have Nj:=(h.B0 hb hk hK).1;have Zj:H0.id=H.id:=by rw[h.YB,h.hid]
 obtain⟨H3,e3,p3,k3,n3,s3,x3,y3,z3,hB3⟩:=Ak Nj F5 h.P6
  (fun p hp hh=>by
   obtain⟨i,hi⟩:=(ui.aU p hp).1 (by rw[hh,Zj])
   exact⟨i,by rw[cy h.keys];exact hi⟩) ui.pn
  (fun p hp e he e3=>by
   obtain⟨e',h5,-,h6,h7⟩:=h.in0 he;obtain⟨-,-,e4,h8,-,h9,KU⟩:=ui.aU p hp;have :e'=e4:=ja h.oD h5 h8 (by unfold eF at *;rw[h6,h9];exact e3)
   rw[this,KU]at h7;omega) ui.gn
  (fun g hg=>by
   obtain⟨i,d,e,h5,h6,h7,h8,-⟩:=ui.bj g hg;obtain⟨e',h9,KU,Gt⟩:=h.to0 h5 h8
   exact⟨i,by rw[cy h.keys];exact d,e',h9,by rw[KU];exact h6,by unfold eF at *;rw[Gt];exact h7⟩)
 rw[e2];dsimp only;have tG:(k:Int)<4:=by omega
 have hj1:∀m,pc H1 m=pc H m:=fD oh k_;have hj0:∀m,pc H0 m=pc H m:=fD h.keys Zj;have hN1:(x.aU.map fun p=>(⟨pc H1 p.1,p.1,-1,-1⟩:En))=x.aU.map fun p=>⟨pc H p.1,p.1,-1,-1⟩:=by
  apply List.map_congr_left;intro p _;rw[hj1]
 have ZG:(x.aU.map fun p=>(⟨pc H0 p.1,p.1,-1,-1⟩:En))=x.aU.map fun p=>⟨pc H p.1,p.1,-1,-1⟩:=by
  apply List.map_congr_left;intro p _;rw[hj0]
 rw[hN1]at p2;rw[ZG]at p3;have hNj:(x.aU.map fun p=>(pc H p.1,p.1))=(x.aU.map fun p=>(⟨pc H p.1,p.1,-1,-1⟩:En)).map oM:=by rw[List.map_map];rfl
 rw[hNj];generalize hN:(x.aU.map fun p=>(⟨pc H p.1,p.1,-1,-1⟩:En))=N at p2 p3;have JN:∀e∈N,e.put= -1/\e.j9= -1/\∃p∈x.aU,e.m=p.1:=fun e he=>by
  rw[<-hN]at he;obtain⟨p,hp,rfl⟩:=aD.1 he;exact⟨rfl,rfl,p,hp,rfl⟩
 have hNi:N.map eF=x.aU.map fun p=>p.1.id:=by rw[<-hN,List.map_map];rfl
 have ON:((hv H1).filter jx).map oM=WB.hk H:=by
  unfold WB.hk;rw[P_,List.filter_map,List.map_map,cB];rw[show(oM∘iF u)=oM from rfl];congr 1;apply List.filter_congr;intro e _;unfold jx iF;dsimp only[Function.comp];by_cases e1:e.put=(u:Int)
  ·have :¬e.put<0:=by omega
   simp[e1]
  ·simp[e1]
 have Ve:((hv H3).map oM).Perm ((N.map oM++(hv H0).map oM).filter fun y=> !decide (nM y∈x.bj.map (·.1))):=by
  refine(p3.map oM).trans (List.Perm.of_eq ?_);rw[<-bu,List.filter_map];rfl
 have Dp:(WB.hk H2).Perm ((hv H3).map oM):=by
  have a1:(WB.hk H2).Perm ((((N++hv H1).filter jx).map oM).filter fun y=> !decide (nM y∈x.bj.map (·.1))):=by
   unfold WB.hk;refine((p2.filter jx).map oM).trans (List.Perm.of_eq ?_);rw[List.filter_map,cB,cB];congr 1;apply List.filter_congr;intro e _;rw[Bool.and_comm];rfl
  refine a1.trans (List.Perm.trans (List.Perm.filter _ ?_) Ve.symm);rw[dG,bu,ON];rw[b_.2 (fun e he=>by unfold jx;simp[(JN e he).1])];exact(List.Perm.refl _).append h.uX
 have YX:((hv H2).map eF).Nodup:=by
  refine(p2.map eF).nodup_iff.2 (List.Nodup.sublist (List.filter_sublist.map _) ?_);rw[bu,List.nodup_append,hNi];refine⟨ui.pn,Dy,fun a ha b hb=>?_⟩;obtain⟨p,hp,rfl⟩:=aD.1 ha;obtain⟨e,he,rfl⟩:=aD.1 hb;obtain⟨e',h5,h6,rfl⟩:=Nc e he;obtain⟨-,-,e4,h7,-,h8,h9⟩:=ui.aU p hp;intro e5;have :e'=e4:=ja h.oD h5 h7 (by unfold eF at *;rw[h8];exact e5.symm);rw[this]at h6;exact h6 h9
 have OM:∀e∈hv H2,(∃p∈x.aU,e.m=p.1)\/∃e'∈hv H,e.j=e'.j/\e.m=e'.m:=fun e he=>by
  rw[p2.mem_iff,aI]at he;rcases aP.1 he.1 with h5|h5
  ·exact .inl (JN e h5).2.2
  ·obtain⟨e',h6,-,rfl⟩:=Nc e h5;exact .inr ⟨e',h6,rfl,rfl⟩
 have Dm:∀e∈hv H,e.put≠(u:Int)->eF e∉x.bj.map (·.1)->iF u e∈hv H2:=fun e he h5 h6=>by
  rw[p2.mem_iff,aI];exact⟨List.mem_append_right _ (k9 e he h5),by rw[show eF (iF u e)=eF e from rfl];simpa using h6⟩
 have U5:∀e∈hv H,eF e∈x.bj.map (·.1)->e.put<0/\e.j9=(u:Int)/\4<=e.j:=fun e he h5=>by
  obtain⟨g,hg,h6⟩:=aD.1 h5;obtain⟨i,-,e4,h7,Gt,h8,h9,KU⟩:=ui.bj g hg;have :e=e4:=ja h.oD he h7 (by rw[h8];exact h6.symm);rw[this];exact⟨h9,KU,by omega⟩
 have KF:∀s,H2.qI s=H.qI s:=fun s=>by rw[cy k2,cy oh]
 have hjj:∀m,pc H2 m=pc H m:=fun m=>by rw[fD k2 s2.id,hj1]
 have hle:H.next<=H2.next:=by rw[<-B6];exact x2
 refine⟨{H3 with used:=H0.used+1},?_,Ve,s3.batch,s3.bU,s3.aF,x3,y3⟩;refine h.xr h2 UM (Bx F5) (F5.Ym ae) (by rw[Du];exact e3) (by rw[s2.id,k_]) (by rw[s2.used,MT]) (by rw[n2,E4];exact n3.trans h.names) (by rw[k2,oh];exact k3.trans h.keys) (by rw[s2.batch,rI];exact s3.batch.trans h.bt) (by rw[s2.bU,EZ];exact s3.bU.trans h.sn) (by rw[s2.aF,KM];exact s3.aF.trans h.av) (k2.trans oh)
  (fun e he=>?_) Dp YX (fun e he hj=>?_) (fun e he hj=>?_) (fun e he hj=>?_) (z3 _ (by have :=h.nx;omega) y2) (fun v y hy=>?_) (fun d i hi=>?_)
 ·rw[p3.mem_iff,aI]at he;rcases aP.1 he.1 with h5|h5
  ·exact⟨(JN e h5).1,(JN e h5).2.1⟩
  ·exact h.nq e h5
 ·rcases OM e he with⟨p,hp,h5⟩|⟨e',h6,h5,h7⟩
  ·rw[h5,(ui.aU p hp).2.1,h.hid]
  ·rw[h7];exact h.wy e' h6 (by rw[<-h5];exact hj)
 ·rcases OM e he with⟨p,hp,h5⟩|⟨e',h6,h5,h7⟩
  ·rw[h5];exact y2 p hp
  ·rw[h7]at hj ⊢;have :=h.lt e' h6 hj;omega
 ·rw[p3.mem_iff,aI]at he;rcases aP.1 he.1 with h5|h5
  ·obtain⟨-,-,p,hp,h6⟩:=JN e h5;rw[h6];exact y3 p hp
  ·have :=h.Jj e h5 hj;omega
 ·rw[s2.az,l9]at hy;rcases kf WM hy with⟨rfl,rfl⟩|⟨kF,hy⟩
  ·exact UJ.nil _ _
  ·have vi:=h.unit v y hy;have UA:((v:Nat):Int)≠(u:Int):=fun e=>kF ae
   refine⟨fun p hp=>?_,vi.pn,fun g hg=>?_,vi.gn⟩
   ·obtain⟨a,b,e,iM,e3,e4,e5⟩:=vi.aU p hp;have SM:e.put≠(u:Int):=by rw[e5];exact UA
    refine⟨fun hh=>by rw[KF];exact a (by rw[hh,s2.id,k_]),by rw[s2.id,k_];exact b,_,Dm e iM SM (fun hh=>?_),by rw[hjj];exact e3,e4,?_⟩
    ·have :=(U5 e iM hh).1;omega
    ·unfold iF;dsimp only;rw[if_neg SM];exact e5
   ·obtain⟨i',d,e,iM,e3,e4,e5,e6⟩:=vi.bj g hg;have SM:e.put≠(u:Int):=by omega
    refine⟨i',by rw[KF];exact d,_,Dm e iM SM (fun hh=>?_),e3,e4,?_,?_⟩
    ·have :=(U5 e iM hh).2.1;exact UA (by rw[<-e6,this])
    ·unfold iF;dsimp only;rw[if_neg SM];exact e5
    ·unfold iF;dsimp only;rw[if_neg (by rw[e6];exact UA)];exact e6
 ·have Zx:bR H2 d=bR H d:=by unfold bR;rw[s2.batch,rI]
  rw[Zx]at hi;obtain⟨y,hy,a,b⟩:=h.bin d i hi;refine⟨y,Dp.mem_iff.2 (Ve.mem_iff.2 (aI.2 ⟨List.mem_append_right _ (h.uX.mem_iff.1 hy),?_⟩)),a,b⟩;have Qs:d<4:=by
   rcases Nat.lt_or_ge d 4 with h5|h5
   ·exact h5
   ·rw[bc4 hB h5]at hi;cases hi
  obtain⟨e,he,rfl⟩:=aD.1 hy;have :eF e∉x.bj.map (·.1):=fun hh=>by
   have :=(U5 e (aI.1 he).1 hh).2.2;have :e.j=d:=a;omega
  show(!decide (eF e∈x.bj.map (·.1)))=true
  rw[decide_eq_false this];rfl
end
section
variable {c kb k n:Nat} {H H0:Ho} {D:Dk}
theorem s6{H H':Ho}(h:H'.id=H.id)(a:Int):bQ H' a=bQ H a:=by unfold bQ;rw[h]
theorem mj{a:Int}(h:gA H a=true):bQ H a=true/\H.down=false/\bR H a.toNat=[]/\eK (H.hF a.toNat)≠[]:=by
 unfold gA at h;rw[decide_eq_true_eq]at h;obtain⟨h1,h2⟩:=h;unfold py at h1;split at h1
 ·cases h1
 ·rename_i h3;split at h1
  ·cases h1
  ·rename_i h4;split at h1
   ·cases h1
   ·rename_i h5;exact⟨by simpa using h3,by simpa using h4,h2,fun h6=>h5 ⟨h2,h6⟩⟩
theorem Lw(hB:cE n H){j:Nat}(hj:j<4){m:Ms}(hm:m∈eK (H.hF j)):(j,m)∈hk H:=by
 unfold eK at hm;obtain⟨e,he,rfl⟩:=aD.1 hm;obtain⟨h1,h2⟩:=aI.1 he;unfold fU at h2;simp only[aW,decide_eq_true_eq]at h2;unfold hk;refine aD.2 ⟨kA j e,aI.2 ⟨AI.2 ⟨H.hF j,qH hB.ways hj,e,h1,rfl⟩,?_⟩,rfl⟩;unfold jx kA;simpa using h2.1
theorem HI.made(h:HI k H D H0)(hb:jj c kb k (H,D)){a:Int}(hn:gA H a=true)(he:ep H D=0):
 ∃H3,HI k (ov H D a) (wm H D a) H3/\hv H3=hv H0/\H3.batch=H0.batch.set a.toNat (dW H a.toNat)/\H3.bU=H0.bU.set a.toNat (da H0 a.toNat+1)/\H3.aF=H0.aF/\H3.next=H0.next/\dW H a.toNat≠[]/\(∀i∈dW H a.toNat,∃y∈(kM H0).bg,y.1=a.toNat/\nM y=i)/\bR (ov H D a) a.toNat=dW H a.toNat/\da (ov H D a) a.toNat=da H a.toNat+1/\(ov H D a).hF a.toNat=H.hF a.toNat:=by
 obtain⟨h1,-,h3,h4⟩:=mj hn;have hr:=bT.1 h1;have hB:=hb.B;dsimp only at hB;have hj:a.toNat<4:=by omega
 have kF:dW H a.toNat≠[]:=by
  unfold dW;intro h5;rw[List.map_eq_nil_iff,List.take_eq_nil_iff]at h5;rcases h5 with h5|h5
  ·cases h5
  ·exact h4 h5
 have vg:∀i∈dW H a.toNat,∃m,(a.toNat,m)∈hk H/\m.id=i:=fun i hi=>by
  unfold dW at hi;obtain⟨m,hm,rfl⟩:=aD.1 hi;exact⟨m,Lw hB hj (List.mem_of_mem_take hm),rfl⟩
 have hint:∀i∈dW H a.toNat,jG i:=fun i hi=>by
  unfold dW at hi;obtain⟨m,hm,rfl⟩:=aD.1 hi;have h5:=List.mem_of_mem_take hm;unfold eK at h5;obtain⟨e,he,rfl⟩:=aD.1 h5;have :=(hB.w hj).ids e (aI.1 he).1;exact⟨by omega,by omega⟩
 have hlen:(dW H a.toNat).length<=3:=by unfold dW;simp;omega
 have hbl:H.batch.length=4:=hB.batch;have SI:H.bU.length=4:=hB.bU;obtain⟨eL,-,-,-⟩:=fS he (kN a (dW H a.toNat));have cj:(kN a (dW H a.toNat)).size<=700000:=by
  have :=(mU (k:=a) ⟨hr.1,hr.2.1⟩ hlen hint).size;omega
 have kZ:eX 250 (kN a (dW H a.toNat)):=(mU (k:=a) ⟨hr.1,hr.2.1⟩ hlen hint).mono ae;have e0:H0.id=H.id:=by rw[h.YB,h.hid]
 unfold ov wm;rw[if_pos hn,if_pos hn];unfold oU;rw[if_pos he,eL];obtain⟨i,r,hir⟩:=List.exists_cons_of_ne_nil kF;have p1:bO {H with used:=H.used+1} (kN a (dW H a.toNat))=({H with used:=H.used+1,batch:=H.batch.set a.toNat (dW H a.toNat),bU:=H.bU.set a.toNat (da H a.toNat+1)},true):=by
  rw[hir];exact uH (H:={H with used:=H.used+1}) h1 (by rw[<-hir];exact hint)
 have p0:bO H0 (kN a (dW H a.toNat))=({H0 with batch:=H0.batch.set a.toNat (dW H a.toNat),bU:=H0.bU.set a.toNat (da H0 a.toNat+1)},true):=by
  rw[hir];exact uH (H:=H0) (by rw[s6 e0];exact h1) (by rw[<-hir];exact hint)
 rw[p1];dsimp only;have EZ:da H0 a.toNat=da H a.toNat:=by unfold da;rw[h.sn]
 refine⟨{H0 with batch:=H0.batch.set a.toNat (dW H a.toNat),bU:=H0.bU.set a.toNat (da H0 a.toNat+1),used:=H0.used+1},?_,rfl,rfl,rfl,rfl,rfl,kF,fun i hi=>?_,?_,?_,rfl⟩
 ·refine h.xr he cj (GN _ _) kZ p0 rfl rfl h.names h.keys (by dsimp only;rw[h.bt]) (by dsimp only;rw[EZ,h.sn]) h.av rfl h.nq h.uX h.oD h.wy h.lt h.Jj h.nx (fun u x hx=>(h.unit u x hx).same rfl rfl rfl) fun d i hi=>?_
  have e5:bR ({H with used:=H.used+1,batch:=H.batch.set a.toNat (dW H a.toNat),bU:=H.bU.set a.toNat (da H a.toNat+1)}:Ho) d=if d=a.toNat then dW H a.toNat else bR H d:=by
   unfold bR;exact jz ae _ _ _
  rw[e5]at hi;split at hi
  ·rename_i e6;obtain⟨m,hm,e7⟩:=vg i hi;exact⟨(a.toNat,m),hm,e6.symm,e7⟩
  ·exact h.bin d i hi
 ·obtain⟨m,hm,e7⟩:=vg i hi;exact⟨(a.toNat,m),h.uX.mem_iff.1 hm,rfl,e7⟩
 ·unfold bR;rw[show({H with used:=H.used+1,batch:=H.batch.set a.toNat (dW H a.toNat),bU:=H.bU.set a.toNat (da H a.toNat+1)}:Ho).batch=H.batch.set a.toNat (dW H a.toNat)from rfl,jz ae,if_pos rfl]
 ·show(H.bU.set a.toNat (da H a.toNat+1)).getD a.toNat 0=da H a.toNat+1
  rw[jz ae,if_pos rfl]
theorem HI.Yu(h:HI k H D H0)(hb:jj c kb k (H,D)){a:Int}(hn:gA H a=false\/ep H D≠0):HI k (ov H D a) (wm H D a) H0:=by
 unfold ov wm;by_cases h1:gA H a=true
 ·rw[if_pos h1,if_pos h1];rcases hn with hn|hn
  ·rw[hn]at h1;cases h1
  ·have hr:=bT.1 (mj h1).1;have hB:=hb.B;dsimp only at hB;have hj:a.toNat<4:=by omega
   unfold oU;rw[if_neg hn];refine h.fail ?_ (GN _ _) hn
   have :=(mU (k:=a) (l:=dW H a.toNat) ⟨hr.1,hr.2.1⟩ (by unfold dW;simp;omega) (fun i hi=>by
    unfold dW at hi;obtain⟨m,hm,rfl⟩:=aD.1 hi;have h5:=List.mem_of_mem_take hm;unfold eK at h5;obtain⟨e,he,rfl⟩:=aD.1 h5;have :=(hB.w hj).ids e (aI.1 he).1
    exact⟨by omega,by omega⟩)).size
   omega
 ·rw[if_neg h1,if_neg h1];exact h
theorem rr{a num:Int}(h:mF H a num=0):bQ H a=true/\H.down=false/\bR H a.toNat≠[]/\num=da H a.toNat:=by
 unfold mF at h;split at h
 ·cases h
 ·rename_i h1;split at h
  ·cases h
  ·rename_i h2;split at h
   ·cases h
   ·rename_i h3;refine⟨by simpa using h1,by simpa using h2,fun h4=>h3 (.inl h4),Decidable.byContradiction fun h4=>h3 (.inr h4)⟩
theorem wK{j:Nat}(hB:cE n H)(hj:j<4)(hn:((hv H).map eF).Nodup){b:List Int}(hb:∀e∈hv H,eF e∈b->e.j=j):(hv (H.iS j (dA (H.hF j) b))).Perm ((hv H).filter fun e=> !decide (eF e∈b)):=by
 unfold hv;rw[nB (by rw[hB.ways];exact hj)];exact zm b (qH hB.ways hj) hn hb
theorem HI.known(h:HI k H D H0)(hb:jj c kb k (H,D))(hk:k<4)(hK:kb<=1000000000000){a num:Int}(hp:mF H a num=0)(he:ep H D=0):
 ∃H3,HI k (E7 H D a num) (KW H D a num) H3/\(kM H3).bg.Perm ((kM H0).bg.filter fun y=> !decide (nM y∈bR H0 a.toNat))/\H3.batch=H0.batch.set a.toNat []/\H3.bU=H0.bU/\H3.aF=H0.aF/\H3.next=H0.next:=by
 obtain⟨h1,-,h3,h4⟩:=rr hp;have hr:=bT.1 h1;have hB:=hb.B;dsimp only at hB;have Nj:=(h.B0 hb hk hK).1;have hj:a.toNat<4:=by omega
 have hbl:H.batch.length=4:=hB.batch;have e0:H0.id=H.id:=by rw[h.YB,h.hid]
 have ebc:bR H0 a.toNat=bR H a.toNat:=by unfold bR;rw[h.bt]
 obtain⟨eL,-,-,-⟩:=fS he (u3 a);have kZ:eX 250 (u3 a):=(vV (k:=a) ⟨hr.1,hr.2.1⟩).mono ae;have cj:(u3 a).size<=700000:=by have :=kZ.size;omega
 have vg:∀e∈hv H,eF e∈bR H a.toNat->e.j=a.toNat/\e.put<0:=fun e he hm=>by
  obtain⟨y,hy,a1,a2⟩:=h.bin _ _ hm;obtain⟨e',he',rfl⟩:=aD.1 hy;obtain⟨b1,b2⟩:=aI.1 he';have :e=e':=ja h.oD he b1 a2.symm;rw[this];exact⟨a1,by unfold jx at b2;simpa using b2⟩
 have ad6:∀e∈hv H0,eF e∈bR H a.toNat->e.j=a.toNat:=fun e he hm=>by
  obtain⟨e',b1,b2,b3,-⟩:=h.in0 he;rw[<-b2];exact(vg e' b1 (by unfold eF at *;rw[b3];exact hm)).1
 unfold E7 KW;rw[if_neg (show ¬mF H a num≠0 by simpa using hp),if_neg (show ¬mF H a num≠0 by simpa using hp)];unfold oU;rw[if_pos he,eL];rw[sq (H:={H with used:=H.used+1}) h1];dsimp only;have q0:=sq (H:=H0) (k:=a) (by rw[s6 e0];exact h1);rw[ebc]at q0;have v0:(hv (H0.iS a.toNat (dA (H0.hF a.toNat) (bR H a.toNat)))).Perm ((hv H0).filter fun e=> !decide (eF e∈bR H a.toNat)):=wK Nj hj h.P6 ad6;have v1:(hv (H.iS a.toNat (dA (H.hF a.toNat) (bR H a.toNat)))).Perm ((hv H).filter fun e=> !decide (eF e∈bR H a.toNat)):=wK hB hj h.oD fun e he hm=>(vg e he hm).1
 generalize qg:({({H with used:=H.used+1}:Ho).iS a.toNat (dA (({H with used:=H.used+1}:Ho).hF a.toNat) (bR {H with used:=H.used+1} a.toNat))with batch:=H.batch.set a.toNat []}:Ho)=H';generalize KS:({H0.iS a.toNat (dA (H0.hF a.toNat) (bR H a.toNat))with batch:=H0.batch.set a.toNat []}:Ho)=H3 at q0;have v3:(hv H3).Perm ((hv H0).filter fun e=> !decide (eF e∈bR H a.toNat)):=by rw[<-KS];exact v0
 have v2:(hv H').Perm ((hv H).filter fun e=> !decide (eF e∈bR H a.toNat)):=by rw[<-qg];exact v1
 have xM:((hv H3).map oM).Perm (((hv H0).map oM).filter fun y=> !decide (nM y∈bR H a.toNat)):=by
  refine(v3.map oM).trans (List.Perm.of_eq ?_);rw[List.filter_map];rfl
 have Dp:(WB.hk H').Perm ((hv H3).map oM):=by
  refine List.Perm.trans ?_ xM.symm;refine List.Perm.trans ?_ (h.uX.filter _);unfold WB.hk;refine((v2.filter _).map _).trans (List.Perm.of_eq ?_);rw[List.filter_map,cB,cB];congr 1;apply List.filter_congr;intro e _;rw[Bool.and_comm];rfl
 have k1:bN H'=bN H:=by rw[<-qg];rfl
 have hid:H'.id=H.id:=by rw[<-qg];rfl
 have MV:∀e∈hv H',e∈hv H:=fun e he=>(aI.1 (v2.mem_iff.1 he)).1
 refine⟨{H3 with used:=H0.used+1},?_,by rw[ebc];exact xM,by rw[<-KS],by rw[<-KS];rfl,by rw[<-KS];rfl,by rw[<-KS];rfl⟩;refine h.xr he cj (NW _) kZ q0 hid Oq (by rw[<-qg,<-KS];exact h.names) (by rw[k1,<-h.keys,<-KS];rfl) (by rw[<-qg,<-KS];dsimp only;rw[h.bt]) (by rw[<-qg,<-KS];exact h.sn) (by rw[<-qg,<-KS];exact h.av) k1
  (fun e he=>h.nq e (aI.1 (v3.mem_iff.1 he)).1) Dp ((v2.map eF).nodup_iff.2 (h.oD.sublist (List.filter_sublist.map _))) (fun e he=>h.wy e (MV e he)) (fun e he hj=>by rw[show H'.next=H.next from by rw[<-qg];rfl];exact h.lt e (MV e he) hj)
  (fun e he hj=>by rw[show H3.next=H0.next from by rw[<-KS];rfl];exact h.Jj e (aI.1 (v3.mem_iff.1 he)).1 hj) (by rw[<-qg,<-KS];exact h.nx) (fun u x hx=>?_) fun d i hi=>?_
 ·have hx:H.az[u]? =some x:=by rw[<-qg]at hx;exact hx
  have ui:=h.unit u x hx;have Dm:∀e∈hv H,(0<=e.put\/4<=e.j)->e∈hv H':=fun e he hh=>by
   rw[v2.mem_iff,aI];have :eF e∉bR H a.toNat:=fun hm=>by
    have :=vg e he hm;omega
   exact⟨he,by rw[decide_eq_false this];rfl⟩
  refine⟨fun p hp=>?_,ui.pn,fun g hg=>?_,ui.gn⟩
  ·obtain⟨a1,a2,e,a3,a4,a5,a6⟩:=ui.aU p hp;exact⟨fun hh=>by rw[cy k1];exact a1 (by rw[hh,hid]),by rw[hid];exact a2,e,Dm e a3 (.inl ae),by rw[fD k1 hid];exact a4,a5,a6⟩
  ·obtain⟨i,a1,e,a2,a3,a4⟩:=ui.bj g hg;exact⟨i,by rw[cy k1];exact a1,e,Dm e a2 (.inr ae),a3,a4⟩
 ·have e5:bR H' d=if d=a.toNat then[]else bR H d:=by
   rw[<-qg];unfold bR;exact jz ae _ _ _
  rw[e5]at hi;split at hi
  ·cases hi
  ·rename_i hd;obtain⟨y,hy,a1,a2⟩:=h.bin d i hi;refine⟨y,Dp.mem_iff.2 (xM.mem_iff.2 (aI.2 ⟨h.uX.mem_iff.1 hy,?_⟩)),a1,a2⟩;have :nM y∉bR H a.toNat:=fun hm=>by
    obtain⟨e,he,rfl⟩:=aD.1 hy;exact hd (a1.symm.trans (vg e (aI.1 he).1 hm).1)
   rw[decide_eq_false this];rfl
theorem HI.Us(h:HI k H D H0){a num:Int}(hp:mF H a num≠0\/ep H D≠0):HI k (E7 H D a num) (KW H D a num) H0:=by
 unfold E7 KW;by_cases h1:mF H a num≠0
 ·rw[if_pos h1,if_pos h1];exact h
 ·rw[if_neg h1,if_neg h1];have hp:ep H D≠0:=hp.resolve_left h1;unfold oU;rw[if_neg hp];have hr:=bT.1 (rr WK).1;refine h.fail ?_ (NW _) hp;have :=(vV (k:=a) ⟨hr.1,hr.2.1⟩).size;omega
theorem ud{a num:Int}{l:List Ms}(h:Eh H a num l=true):bQ H a=true/\H.down=false/\num=cT H a.toNat+1/\iX l=none/\(∀m∈l,kH H m=false)/\By H l=false:=by
 unfold Eh at h;rw[decide_eq_true_eq]at h;obtain⟨h1,h2⟩:=h;unfold sF at h1;split at h1
 ·cases h1
 ·rename_i g1;split at h1
  ·cases h1
  ·rename_i g2;split at h1
   ·rename_i g3;omega
   ·split at h1
    ·cases h1
    ·rename_i g4;split at h1
     ·cases h1
     ·rename_i g5;split at h1
      ·cases h1
      ·rename_i g6;have g7:iX l=none:=Decidable.byContradiction fun g=>g5 (.inl g)
       have g8:l.any (kH H)=false:=by
        cases hh:l.any (kH H)with
        |false=>rfl
        |true=>exact absurd (.inr hh) g5
       rw[List.any_eq_false]at g8;exact⟨by simpa using g1,by simpa using g2,by omega,g7,fun m hm=>by simpa using g8 m hm,by simpa using g6⟩
theorem Bz:∀(l:List Ms) (r:List (ak×Int)),∀t∈eb H l r,t=c_\/∃i,H.qI t=some i
 |[],_,t,h=>by cases h
 |m::l,r,t,h=>by
  unfold eb at h;split at h
  ·rcases aJ.1 h with rfl|h
   ·exact .inl rfl
   ·exact Bz l r t h
  ·rename_i h1;rcases aJ.1 h with rfl|h
   ·right;unfold toDead at h1;cases hq:H.qI m.queue with
    |none=>rw[hq]at h1;exact absurd rfl h1
    |some i=>exact⟨i,rfl⟩
   ·exact Bz l _ t h
theorem GR{l:List Ms}(h:By H l=false):(l.map (·.id)).Nodup/\∀m∈l,∀x∈H.aE,CL x.2 m.id=false:=by
 unfold By at h;rw[List.any_eq_false]at h;have key:∀(i:Nat) m,l[i]? =some m->Cs H l i m=false:=fun i m hm=>by
  have :=h (m,i) (List.mem_zipIdx_iff_getElem?.2 hm);simpa using this
 constructor
 ·rw[List.nodup_iff_pairwise_ne,List.pairwise_map,List.pairwise_iff_getElem];intro i j hi hj Zi e;have :=key j l[j] (ao hj);unfold Cs at this;rw[Bool.or_eq_false_iff,List.any_eq_false]at this;have h3:l[i]∈l.take j:=List.mem_take_iff_getElem.2 ⟨i,by omega,rfl⟩;have :=this.1 _ h3;unfold wY at this;simp[e]at this
 ·intro m hm x hx;obtain⟨i,hi,rfl⟩:=List.getElem_of_mem hm;have :=key i l[i] (ao hi);unfold Cs at this;rw[Bool.or_eq_false_iff,List.any_eq_false]at this;have h8:=this.2;rw[List.any_eq_false]at h8;simpa using h8 x hx
theorem HI.NQ(h:HI k H D H0)(hb:jj c kb k (H,D))(hk:k<4)(hK:kb<=1000000000000){a num:Int}{l:List Ms}(hl:l.length<=250)(hw:Eh H a num l=true)(he:ep H D=0):
 ∃H3 P,HI k (sQ H D a num l) (y0 H D a num l) H3/\P.map (·.2)=l/\(∀y∈P,4<=y.1)/\(kM H3).bg.Perm (P++(kM H0).bg)/\H3.batch=H0.batch/\H3.bU=H0.bU/\H3.aF=H0.aF.set a.toNat (cT H0 a.toNat+1)/\H3.next=H0.next/\cT (sQ H D a num l) a.toNat=cT H a.toNat+1:=by
 obtain⟨h1,-,h3,h4,h5,h6⟩:=ud hw;obtain⟨t1,t2⟩:=GR h6;have hr:=bT.1 h1;have hB:=hb.B;dsimp only at hB;have Nj:=(h.B0 hb hk hK).1;have hj:a.toNat<4:=by omega
 have e0:H0.id=H.id:=by rw[h.YB,h.hid]
 have eav:cT H0 a.toNat=cT H a.toNat:=by unfold cT;rw[h.av]
 have Xh:=dm h4;have KA:=lT (H:=H) Xh [];have Ie:=lA H l [];have htq:∀t∈eb H l [],∃i,H.qI t=some i:=fun t ht=>by
  rcases Bz l [] t ht with rfl|hh
  ·exact h.dead
  ·exact hh
 obtain⟨eL,-,-,-⟩:=fS he (qE H a l);obtain⟨kZ,cj⟩:=vU (k:=a) ⟨hr.1,hr.2.1⟩ h4 hl KA Ie;have hz:∀x∈l.zip (eb H l []),((0<=x.1.pri/\x.1.pri<=9)/\0<=x.1.id/\x.1.id<=1099511627776)/\∃i,H.qI x.2=some i:=fun x hx=>by
  obtain⟨x1,x2⟩:=x;have h7:=List.of_mem_zip hx;obtain⟨m1,m2,m3,m4,-⟩:=bP (Xh _ h7.1);exact⟨⟨⟨m3,m4⟩,m1,m2⟩,htq _ h7.2⟩
 have hBl:cE (300+c+250*H.used) {H with used:=H.used+1}:=by
  have :=hB.log (D:=D);rw[eL]at this;exact this
 obtain⟨H2,e2,p2,k2,n2,x2,s2,-⟩:=tY (l.zip (eb H l [])) hBl hz;obtain⟨H3,e3,p3,k3,n3,x3,s3,-⟩:=tY (l.zip (eb H l [])) Nj fun x hx=>by
  obtain⟨b1,i,b2⟩:=hz x hx;exact⟨b1,i,by rw[cy h.keys];exact b2⟩
 have ek0:∀s,H0.qI s=H.qI s:=fun s=>cy h.keys s
 have ek2:∀s,({H with used:=H.used+1}:Ho).qI s=H.qI s:=fun s=>rfl
 have ZG:((l.zip (eb H l [])).map fun x=>(⟨4+(H0.qI x.2).getD 0,x.1,-1,-1⟩:En))=(l.zip (eb H l [])).map fun x=>⟨4+(H.qI x.2).getD 0,x.1,-1,-1⟩:=by
  apply List.map_congr_left;intro p _;rw[ek0]
 rw[ZG]at p3;have p2:(hv H2).Perm (((l.zip (eb H l [])).map fun x=>(⟨4+(H.qI x.2).getD 0,x.1,-1,-1⟩:En))++hv H):=p2;generalize hN:((l.zip (eb H l [])).map fun x=>(⟨4+(H.qI x.2).getD 0,x.1,-1,-1⟩:En))=N at p2 p3;have JN:∀e∈N,e.put= -1/\e.j9= -1/\4<=e.j/\e.m∈l:=fun e he=>by
  rw[<-hN]at he;obtain⟨p,hp,rfl⟩:=aD.1 he;obtain⟨p1,p2⟩:=p;exact⟨rfl,rfl,by dsimp only;omega,(List.of_mem_zip hp).1⟩
 have Kx:(l.zip (eb H l [])).map (·.1)=l:=List.map_fst_zip (by rw[Ie];exact aC _)
 have hNm:N.map (·.m)=l:=by
  rw[<-hN,List.map_map];exact Kx
 have hNi:N.map eF=l.map (·.id):=by
  rw[<-hNm,List.map_map];rfl
 have U6:∀m∈l,∀e∈hv H,eF e≠m.id:=fun m hm e he e5=>by
  have g1:=h5 m hm;unfold kH at g1;rw[Bool.or_eq_false_iff]at g1;have g2:m.id%4≠H.id:=by simpa using g1.2
  rcases Nat.lt_or_ge e.j 4 with h7|h7
  ·have :=h.wy e he h7;unfold eF at e5;rw[e5,<-h.hid]at this;exact g2 this
  ·obtain⟨q,a1,x,a2,a3⟩:=AI.1 he;unfold Ho.all at a1;rw[bM (by rw[hB.ways];exact h7),aH]at a1;obtain⟨z,b1,b2⟩:=Option.map_eq_some_iff.1 a1;have g3:=t2 m hm z (ax b1);rw[b2]at g3;unfold CL at g3;rw[List.any_eq_false]at g3;have :=g3 x a2;unfold MP at this;have g4:x.m.id=m.id:=by rw[<-e5,a3];rfl
   simp[g4]at this
 have q0:bO H0 (qE H a l)=({H3 with aF:=H0.aF.set a.toNat (cT H0 a.toNat+1)},true):=uJ (by rw[s6 e0];exact h1) h4 KA Ie e3;have q1:bO {H with used:=H.used+1} (qE H a l)=({H2 with aF:=H.aF.set a.toNat (cT H a.toNat+1)},true):=uJ (H:={H with used:=H.used+1}) h1 h4 KA Ie e2;unfold sQ y0;rw[if_pos hw,if_pos hw];unfold oU;rw[if_pos he,eL,q1];dsimp only;have xM:((hv H3).map oM).Perm (N.map oM++(hv H0).map oM):=by rw[<-bu];exact p3.map oM
 have Dp:(WB.hk H2).Perm ((hv H3).map oM):=by
  refine List.Perm.trans ?_ xM.symm;refine List.Perm.trans ?_ ((List.Perm.refl _).append h.uX);unfold WB.hk;refine((p2.filter _).map _).trans (List.Perm.of_eq ?_);rw[dG,bu,b_.2 (fun e he=>by unfold jx;simp[(JN e he).1])]
 have ni:H2.id=H.id:=s2.id;have oh:bN H2=bN H:=k2;have k9:∀e∈hv H,e∈hv H2:=fun e he=>p2.mem_iff.2 (List.mem_append_right _ he)
 have qC:∀e∈hv H2,(4<=e.j/\e.m∈l)\/e∈hv H:=fun e he=>by
  rcases aP.1 (p2.mem_iff.1 he)with g1|g1
  ·exact .inl ⟨(JN e g1).2.2.1,(JN e g1).2.2.2⟩
  ·exact .inr g1
 have xH:∀m∈l,m.id%4≠(k:Int):=fun m hm=>by
  have g1:=h5 m hm;unfold kH at g1;rw[Bool.or_eq_false_iff]at g1;rw[<-h.hid];simpa using g1.2
 refine⟨{H3 with aF:=H0.aF.set a.toNat (cT H0 a.toNat+1),used:=H0.used+1},N.map oM,?_,by rw[List.map_map];exact hNm,fun y hy=>?_,xM,s3.batch,s3.bU,rfl,x3,?_⟩
 ·refine h.xr he (Nat.le_trans cj ai) (NV _ Xh KA) kZ q0 ni s2.used (by dsimp only;rw[n2];exact n3.trans h.names) (by show bN H3=bN H2;rw[oh];exact k3.trans h.keys) (by dsimp only;rw[s2.batch];exact s3.batch.trans h.bt) (by dsimp only;rw[s2.bU];exact s3.bU.trans h.sn) (by dsimp only;rw[eav,h.av]) oh
   (fun e he=>?_) Dp ?_ (fun e he hj=>?_) (fun e he hj=>?_) (fun e he hj=>?_) (by dsimp only;rw[x3,x2];exact h.nx) (fun u x hx=>?_) fun d i hi=>?_
  ·rcases aP.1 (p3.mem_iff.1 he)with g1|g1
   ·exact⟨(JN e g1).1,(JN e g1).2.1⟩
   ·exact h.nq e g1
  ·refine(p2.map eF).nodup_iff.2 ?_;rw[bu,List.nodup_append,hNi];refine⟨t1,h.oD,fun x hx y hy=>?_⟩;obtain⟨m,hm,rfl⟩:=aD.1 hx;obtain⟨e,he,rfl⟩:=aD.1 hy;exact fun e5=>U6 m hm e he e5.symm
  ·rcases qC e he with g1|g1
   ·omega
   ·exact h.wy e g1 hj
  ·rcases qC e he with g1|g1
   ·exact absurd hj (xH _ g1.2)
   ·rw[show({H2 with aF:=H.aF.set a.toNat (cT H a.toNat+1)}:Ho).next=H.next from x2];exact h.lt e g1 hj
  ·rcases aP.1 (p3.mem_iff.1 he)with g1|g1
   ·exact absurd hj (xH _ (JN e g1).2.2.2)
   ·rw[show({H3 with aF:=H0.aF.set a.toNat (cT H0 a.toNat+1)}:Ho).next=H0.next from x3];exact h.Jj e g1 hj
  ·have hx:H.az[u]? =some x:=by rw[<-show H2.az=H.az from s2.az];exact hx
   have ui:=h.unit u x hx;refine UJ.same (H:=H2) ⟨fun p hp=>?_,ui.pn,fun g hg=>?_,ui.gn⟩ rfl rfl rfl
   ·obtain⟨a1,a2,e,a3,a4⟩:=ui.aU p hp;exact⟨fun hh=>by rw[cy oh];exact a1 (by rw[hh,ni]),by rw[ni];exact a2,e,k9 e a3,by rw[fD oh ni];exact a4⟩
   ·obtain⟨i,a1,e,a2,a3⟩:=ui.bj g hg;exact⟨i,by rw[cy oh];exact a1,e,k9 e a2,a3⟩
  ·have hi:i∈bR H d:=by unfold bR at hi ⊢;rw[<-show H2.batch=H.batch from s2.batch];exact hi
   obtain⟨y,hy,a1,a2⟩:=h.bin d i hi;exact⟨y,Dp.mem_iff.2 (xM.mem_iff.2 (List.mem_append_right _ (h.uX.mem_iff.1 hy))),a1,a2⟩
 ·obtain⟨e,he,rfl⟩:=aD.1 hy;exact(JN e he).2.2.1
 ·unfold cT;rw[show({H2 with aF:=H.aF.set a.toNat (H.aF.getD a.toNat 0+1)}:Ho).aF=H.aF.set a.toNat (H.aF.getD a.toNat 0+1)from rfl,jz (by rw[hB.aF];exact hj),if_pos rfl]
theorem HI.aay(h:HI k H D H0){a num:Int}{l:List Ms}(hl:l.length<=250)(hp:Eh H a num l=false\/ep H D≠0):HI k (sQ H D a num l) (y0 H D a num l) H0:=by
 unfold sQ y0;by_cases h1:Eh H a num l=true
 ·rw[if_pos h1,if_pos h1];rcases hp with hp|hp
  ·rw[hp]at h1;cases h1
  ·obtain⟨g1,-,-,h4,-,-⟩:=ud h1;have hr:=bT.1 g1;have Xh:=dm h4;have KA:=lT (H:=H) Xh [];obtain⟨kZ,cj⟩:=vU (k:=a) ⟨hr.1,hr.2.1⟩ h4 hl KA (lA H l []);unfold oU;rw[if_neg hp];exact h.fail (Nat.le_trans cj ai) (NV _ Xh KA) hp
 ·rw[if_neg h1,if_neg h1];exact h
end
def Ip (g:Gm):Nat:=if g.f.wu=true then 1 else 2
def iP (W:Wo):Nat:=(W.dy.map Ip).sum
def kL:Nat->Wo->Wo
 |0,W=>W
 |f+1,W=>if W.dy=[]then W else kL f (tX W 0)
def qh (W:Wo):Wo:=kL (iP W) W
theorem Li(W:Wo)(g:Gm):iP (sW W g)<=iP W+Ip g:=by
 unfold sW iP;split
 ·exact Nat.le_add_right _ _
 ·simp
theorem Ra(W:Wo)(g:Gm):iP (J5 W g)+1<=iP W+Ip g:=by
 have key:∀(W1:Wo) (dst:Int) (f:Fr) (l:List Ms),f.wu=true->iP (mO W1 dst f l)<=iP W1+1:=fun W1 dst f l hf=>by
  unfold mO;split
  ·refine Nat.le_trans (Li _ _) ?_;unfold Ip;rw[if_pos hf];exact aC _
  ·omega
 unfold J5;split
 ·rename_i h;unfold Ip;rw[if_pos h];exact aC _
 ·rename_i h;have e:Ip g=2:=by unfold Ip;rw[if_neg h]
  rw[e];split
  ·exact Nat.add_le_add_right (key _ _ _ _ rfl) 1
  ·show iP W+1<=_
   omega
theorem QG(g:Gm):1<=Ip g:=by unfold Ip;split<;>decide
theorem wk{W:Wo}(h:W.dy≠[]):iP (tX W 0)+1<=iP W:=by
 obtain⟨g,r,hw⟩:=List.exists_cons_of_ne_nil h;have e0:vL W 0=0:=by
  unfold vL;rw[hw,if_pos ⟨by omega,by simp⟩]
 have e1:xO W 0=g:=by unfold xO;rw[hw];rfl
 have e2:iP W=Ip g+iP (qb W 0):=by unfold iP qb;rw[hw];simp
 unfold tX;rw[if_pos e0]
 show iP (J5 (qb W 0) (xO W 0))+1<=_
 rw[e1,e2];have :=Ra (qb W 0) g;omega
theorem DY:∀(f:Nat) (W:Wo),iP W<=f->(kL f W).dy=[]
 |0,W,h=>by
  cases hw:W.dy with
  |nil=>exact hw
  |cons g r=>
   have :=QG g;unfold iP at h;rw[hw]at h;simp at h;omega
 |f+1,W,h=>by
  unfold kL;split
  ·assumption
  ·rename_i h1;have :=wk h1;exact DY f _ ae
theorem Ad:∀(f:Nat) (W:Wo) (d:Nat),iP W<=f->kL (f+d) W=kL f W
 |0,W,d,h=>by
  have h1:W.dy=[]:=DY 0 W h;cases d with
  |zero=>rfl
  |succ d=>rw[Nat.zero_add];unfold kL;rw[if_pos h1]
 |f+1,W,d,h=>by
  rw[show f+1+d=f+d+1 by omega];unfold kL;split
  ·rfl
  ·rename_i h1;have :=wk h1;exact Ad f _ d ae
theorem JR{W:Wo}(h:W.dy≠[]):qh W=qh (tX W 0):=by
 have h1:=wk h;unfold qh;obtain⟨d,hd⟩:∃d,iP W=iP (tX W 0)+d+1:=⟨iP W-iP (tX W 0)-1,by omega⟩;rw[hd];rw[show kL (iP (tX W 0)+d+1) W=kL (iP (tX W 0)+d) (tX W 0)from by conv=>lhs;unfold kL;rw[if_neg h]];exact Ad _ _ d (aC _)
theorem Nq{W:Wo}(h:W.dy=[]):qh W=W:=by
 unfold qh;have :iP W=0:=by unfold iP;rw[h];rfl
 rw[this];rfl
theorem AG{c kb:Nat}{W:Wo}(h:dr c kb W):iP W<=200:=by
 have key:∀l:List Gm,(l.map Ip).sum<=2*l.length:=by
  intro l
  induction l with
  |nil=>simp
  |cons g l ih=>have :Ip g<=2:=by unfold Ip;split<;>decide
                simp;omega
 have :=key W.dy;have :=h.wl;unfold iP;omega
theorem dr.S4{c:Nat}:∀(f:Nat) (kb:Nat) (W:Wo),dr c kb W->dr c (kb+2*f) (kL f W)
 |0,_,_,h=>h
 |f+1,kb,W,h=>by
  unfold kL;split
  ·exact h.mono (aC _) ae
  ·have :=dr.S4 f (kb+2) _ (h.de 0);exact this.mono (aC _) ae
theorem dr.Vq{c kb:Nat}{W:Wo}(h:dr c kb W):dr c (kb+400) (qh W):=(dr.S4 _ kb W h).mono (aC _) (by have :=AG h;omega)
theorem lD(W:Wo)(k:Nat)(x:Ho×Dk):(W.bX k x).hs.length=W.hs.length:=by unfold Wo.bX;simp
theorem Hu(W:Wo)(g:Gm):(sW W g).hs=W.hs:=by unfold sW;split<;>rfl
theorem wH(W:Wo)(dst:Int)(f:Fr)(l:List Ms):(mO W dst f l).hs=W.hs:=by
 unfold mO;split
 ·exact Hu _ _
 ·rfl
theorem aau(W:Wo)(g:Gm):(J5 W g).hs.length=W.hs.length:=by
 unfold J5;split
 ·exact lD _ _ _
 ·split
  ·rw[wH];exact lD _ _ _
  ·exact lD _ _ _
theorem aap(W:Wo)(i:Int):(tX W i).hs.length=W.hs.length:=by
 unfold tX;split
 ·exact aau _ _
 ·rfl
theorem Ns:∀(f:Nat) (W:Wo),(kL f W).hs.length=W.hs.length
 |0,_=>rfl
 |f+1,W=>by
  unfold kL;split
  ·rfl
  ·rw[Ns f,aap]
theorem Nr(W:Wo):(qh W).hs.length=W.hs.length:=Ns _ W
theorem Sh(W:Wo)(k dst:Int):(AP W k dst).hs.length=W.hs.length:=by
 unfold AP;split
 ·split
  ·rw[wH];unfold rY;exact lD _ _ _
  ·unfold rY;exact lD _ _ _
 ·rfl
def p6 (W:Wo) (k:Nat):Wo:=if(W.H k).down=true then EV (W.bX k (W.H k,cO (W.D k) (-1))) k else W.bX k (W.H k,cO (W.D k) (-1))
def uO (W:Wo) (k dst:Nat):Wo:=if Fv W k dst=0 then qh (AP W k dst)else AP W k dst
def B_ (W:Wo):Wo:=qh ((List.range W.hs.length).foldl p6 W)
def yN (n:Nat) (W:Wo) (k:Nat):Wo:=(List.range n).foldl (fun W dst=>uO W k dst) W
def Eb (W:Wo):Wo:=(List.range W.hs.length).foldl (yN W.hs.length) (B_ W)
def calm:Nat->Wo->Wo
 |0,W=>W
 |r+1,W=>calm r (Eb W)
theorem NO(W:Wo)(k:Nat):(p6 W k).hs.length=W.hs.length:=by
 unfold p6;split
 ·unfold EV;rw[lD,lD]
 ·rw[lD]
theorem aax(W:Wo)(k dst:Nat):(uO W k dst).hs.length=W.hs.length:=by
 unfold uO;split
 ·rw[Nr,Sh]
 ·rw[Sh]
theorem xP{α:Type}{f:Wo->α->Wo}(h:∀W a,(f W a).hs.length=W.hs.length):∀(l:List α) (W:Wo),(l.foldl f W).hs.length=W.hs.length
 |[],_=>rfl
 |a::l,W=>by rw[List.foldl_cons,xP h l,h]
theorem aaw(n:Nat)(W:Wo)(k:Nat):(yN n W k).hs.length=W.hs.length:=xP (fun W a=>aax W k a) _ W
theorem aav(W:Wo):(B_ W).hs.length=W.hs.length:=by unfold B_;rw[Nr,xP NO]
theorem dr.p6{c kb:Nat}{W:Wo}(h:dr c kb W)(hK:kb<=1000000000000){k:Nat}(hk:k<W.hs.length):dr c kb (p6 W k):=by
 obtain⟨x,hx,e1,e2⟩:=eZ hk;have hn:=h.n1;have h1:=h.set (((h.hs _ x hx).cut (n:= -1) ae));unfold WB.p6;rw[e1,e2];split
 ·have Dj:(W.bX k (x.1,cO x.2 (-1))).hs[k]? =some (x.1,cO x.2 (-1)):=List.getElem?_set_self hk;obtain⟨y,hy,f1,f2⟩:=eZ (W:=W.bX k (x.1,cO x.2 (-1))) (j:=k) (by rw[lD];exact hk);rw[Dj]at hy;simp only[ay]at hy;subst hy;unfold EV;rw[f2];exact h1.set (((h1.hs _ _ Dj).cut (n:= -1) ae).cg ae hK)
 ·exact h1
theorem dr.uO{c kb:Nat}{W:Wo}(h:dr c kb W)(k dst:Nat):dr c (kb+402) (uO W k dst):=by
 unfold WB.uO;split
 ·exact(h.se k dst).Vq
 ·exact(h.se k dst).mono (aC _) ae
theorem DX{α:Type}{f:Wo->α->Wo}{c b:Nat}(h:∀W a kb,dr c kb W->dr c (kb+b) (f W a)):∀(l:List α) (W:Wo) (kb:Nat),dr c kb W->dr c (kb+b *l.length) (l.foldl f W)
 |[],_,_,hw=>hw
 |a::l,W,kb,hw=>by
  have :=DX h l _ _ (h W a kb hw);rw[List.foldl_cons];refine this.mono (aC _) ?_;rw[List.length_cons,Nat.mul_succ];omega
theorem dr.yN{c kb n:Nat}{W:Wo}(h:dr c kb W)(k:Nat)(hn:n<=4):dr c (kb+1608) (yN n W k):=
 (DX (fun W a kb hw=>hw.uO k a) (List.range n) W kb h).mono (aC _) Y30
theorem dr.yZ{c kb:Nat}(hK:kb<=1000000000000):∀(l:List Nat) (W:Wo),dr c kb W->(∀k∈l,k<W.hs.length)->dr c kb (l.foldl WB.p6 W)
 |[],_,h,_=>h
 |k::l,W,h,hl=>dr.yZ hK l _ (h.p6 hK (hl k aj)) fun j hj=>by rw[NO];exact hl j (by simp[hj])
theorem dr.B_{c kb:Nat}{W:Wo}(h:dr c kb W)(hK:kb<=1000000000000):dr c (kb+400) (B_ W):=(dr.yZ hK _ W h fun k hk=>bz.1 hk).Vq
theorem dr.Eb{c kb:Nat}{W:Wo}(h:dr c kb W)(hK:kb<=1000000000000):dr c (kb+10000) (Eb W):=by
 have hn:=h.n1;have :=DX (fun W' a P0 hw=>hw.yN a hn.2) (List.range W.hs.length) _ _ (h.B_ hK);refine this.mono (aC _) ?_;rw[List.length_range];omega
def fT (H:Ho):List Ms:=H.aE.flatMap fun q=>cM q.2
theorem L5{H:Ho}(hn:(H.aE.map (·.1)).Nodup){i:Nat}{x:ak×Qu}(hx:H.aE[i]? =some x):H.qI x.1=some i/\H.dX i=x.2:=by
 have hi:=(au.1 hx).1;have hxe:=(au.1 hx).2;refine⟨?_,?_⟩
 ·unfold Ho.qI;rw[List.findIdx?_eq_some_iff_getElem];refine⟨hi,by rw[hxe];simp,fun j hj=>?_⟩;have h2:=List.pairwise_iff_getElem.1 hn j i fV (by simpa using hi) hj;simp only[List.getElem_map]at h2;rw[hxe]at h2;simpa using h2
 ·unfold Ho.dX;rw[aq,hx];rfl
theorem xT{f g:ak×Qu->List Ms}:∀{l:List (ak×Qu)},(∀x∈l,f x=g x)->l.flatMap f=l.flatMap g
 |[],_=>rfl
 |a::l,h=>by rw[aO,aO,h a aj,xT fun x hx=>h x sR]
theorem zN{n:Nat}{H:Ho}(hB:cE n H){ns:List ak}(h:ns.Perm (H.aE.map (·.1))):((dZ ns).flatMap (gN H)).Perm (fT H):=by
 have h1:=((qK ns).trans h).flatMap_right (gN H);refine h1.trans (List.Perm.of_eq ?_);unfold fT;rw[List.flatMap_map];have key:∀x∈H.aE,gN H x.1=cM x.2:=fun x hx=>by
  obtain⟨i,hi,rfl⟩:=List.getElem_of_mem hx;obtain⟨a,b⟩:=L5 hB.nodup (ao hi);unfold gN;rw[a];dsimp only;rw[b]
 exact xT key
def px (W:Wo) (k dst:Nat):Bool:=decide (bR (W.H k) dst≠[]/\W.is dst=true/\bQ (W.H k) dst=true/\da (W.H k) dst<=(if bQ (W.H dst) k=true then cT (W.H dst) k else 0))
def gM (W:Wo) (k dst:Nat):List Ms:=if bQ (W.H k) dst=true then(cM ((W.H k).hF dst)).filter fun m=> !px W k dst|| !decide (m.id∈bR (W.H k) dst)else[]
def si (W:Wo) (k:Nat):List Ms:=fT (W.H k)++(List.range 4).flatMap (gM W k)
def tv (W:Wo):List Ms:=(List.range W.hs.length).flatMap (si W)
theorem pK(q:Qu):(cM q).length<=q.l.length:=by
 unfold cM;rw[aV];exact List.length_filter_le _ _
theorem Ga{n:Nat}{H:Ho}(hB:cE n H):(fT H).length<=H.aE.length *n:=by
 unfold fT;have key:∀l:List (ak×Qu),(∀x∈l,x∈H.aE)->(l.flatMap fun q=>cM q.2).length<=l.length *n:=by
  intro l
  induction l with
  |nil=>intro _;simp
  |cons a l ih=>
   intro hl;have h1:=ih fun x hx=>hl x sR
   have h2:(cM a.2).length<=n:=by
    obtain⟨i,hi,e⟩:=List.getElem_of_mem (hl a aj);obtain⟨c,d⟩:=L5 hB.nodup (ao hi);have h3:=(hB.qa hi).len;rw[d,e]at h3;exact Nat.le_trans (pK _) h3
   rw[aO,aQ,List.length_cons,Nat.succ_mul];omega
 exact key _ fun _ h=>h
theorem FQ{c kb:Nat}{W:Wo}(h:dr c kb W)(hc:c<=4000){k:Nat}(hk:k<W.hs.length)(dst:Nat):(gM W k dst).length<=80000:=by
 unfold gM;split
 ·rename_i hr;obtain⟨x,hx,e1,e2⟩:=eZ hk;have hB:cE 79600 x.1:=(h.hs k x hx).B.le (by have :=(h.hs k x hx).B.used;omega);obtain⟨h0,h4,-⟩:=bT.1 hr;have h1:=(hB.w (j:=dst) ae).len;rw[e1];refine Nat.le_trans (List.length_filter_le _ _) (Nat.le_trans (pK _) ae)
 ·simp
theorem zy{n:Nat}{q:Qu}(h:QB n q):∀m∈cM q,0<=m.id/\m.id<=1099511627776:=fun m hm=>by
 unfold cM at hm;obtain⟨e,he,rfl⟩:=aD.1 hm;exact h.ids e (aI.1 he).1
theorem Gb{n:Nat}{H:Ho}(hB:cE n H):∀m∈fT H,0<=m.id/\m.id<=1099511627776:=fun m hm=>by
 unfold fT at hm;obtain⟨a,ha,hm⟩:=List.mem_flatMap.1 hm;obtain⟨i,hi,e⟩:=List.getElem_of_mem ha;obtain⟨c,d⟩:=L5 hB.nodup (ao hi);have h3:=hB.qa hi;rw[d,e]at h3;exact zy h3 m hm
theorem MC{c kb:Nat}{W:Wo}(h:dr c kb W)(hc:c<=4000):∀m∈tv W,0<=m.id/\m.id<=1099511627776:=fun m hm=>by
 unfold tv at hm;obtain⟨k,hk,hm⟩:=List.mem_flatMap.1 hm;have hk:=bz.1 hk;obtain⟨x,hx,e1,e2⟩:=eZ hk;have hB:cE 79600 x.1:=(h.hs k x hx).B.le (by have :=(h.hs k x hx).B.used;omega);unfold si at hm;rw[e1]at hm;rcases aP.1 hm with hm|hm
 ·exact Gb hB m hm
 ·obtain⟨j,hj,hm⟩:=List.mem_flatMap.1 hm;have hj:=bz.1 hj;unfold gM at hm;rw[e1]at hm;split at hm
  ·exact zy (hB.w hj) m (aI.1 hm).1
  ·cases hm
def nmL (k n:Nat):List Nm:=[⟨Nv,ML,((k:Int)+1)%n⟩,⟨ML,⟨#[]⟩,-1⟩,⟨FF,⟨#[]⟩,-1⟩]
def CC (C0:Nat->Ho):Nat->Cr:=fun k=>kM (C0 k)
def yS (C0:Nat->Ho) (k:Nat) (H:Ho):Nat->Ho:=fun i=>if i=k then H else C0 i
structure GI (n:Nat) (W:Wo) (C0:Nat->Ho) (T:List Ms):Prop where
 hn:W.hs.length=n
 hi:∀(k:Nat) x,W.hs[k]? =some x->HI k x.1 x.2 (C0 k)
 gc:GC n (CC C0) W.dy T
 fresh:∀(k:Nat) x,W.hs[k]? =some x->∀(u:Nat) y,x.1.az[u]? =some y->∀p∈y.aU,p.1.id∉T.map (·.id)
 AX:∀(k:Nat) x,W.hs[k]? =some x->x.1.names=nmL k n
theorem OF(C0:Nat->Ho)(k:Nat)(H:Ho):CC (yS C0 k H)=ec (CC C0) k (kM H):=by
 funext i;unfold CC yS ec;by_cases e:i=k
 ·rw[if_pos e,if_pos e]
 ·rw[if_neg e,if_neg e]
theorem zk(C0:Nat->Ho)(k:Nat):yS C0 k (C0 k)=C0:=by
 funext i;unfold yS;by_cases e:i=k
 ·rw[if_pos e,e]
 ·rw[if_neg e]
theorem AK{W:Wo}{k i:Nat}{x y:Ho×Dk}(h:(W.bX k x).hs[i]? =some y):(i=k/\y=x)\/(i≠k/\W.hs[i]? =some y):=by
 unfold Wo.bX at h;dsimp only at h;rw[List.getElem?_set]at h;by_cases e:k=i
 ·rw[if_pos e]at h;split at h
  ·simp only[ay]at h;exact .inl ⟨e.symm,h.symm⟩
  ·cases h
 ·rw[if_neg e]at h;exact .inr ⟨fun e2=>e e2.symm,h⟩
section
variable {c kb n:Nat} {W:Wo} {C0:Nat->Ho} {T:List Ms}
theorem zt(C0:Nat->Ho)(k:Nat):ec (CC C0) k (kM (C0 k))=CC C0:=by rw[<-OF,zk]
theorem Qp(H:Ho)(p:Nat×Ms->Bool):((hk H).filter p).map (·.2)=H.all.zipIdx.flatMap fun x=>(cM x.1).filter fun m=>p (x.2,m):=by
 unfold hk hv vw;rw[List.filter_flatMap,List.map_flatMap,List.filter_flatMap,List.map_flatMap];congr 1;funext x;unfold JW cM;rw[List.filter_map,List.filter_map,List.filter_map,List.map_map,List.map_map,List.filter_map,cB,cB];rfl
theorem QM{α:Type}{l:List α}(h:l.length=4):∃a b c d,l=[a,b,c,d]:=by
 match l,h with
 |[a,b,c,d],_=>exact⟨a,b,c,d,rfl⟩
theorem wA{α β:Type}(f:Nat->α->List β)(g:α->List β):∀(l:List α) (s:Nat),(∀j,s<=j->∀x,f j x=g x)->((l.zipIdx s).flatMap fun x=>f x.2 x.1)=l.flatMap g
 |[],_,_=>rfl
 |a::l,s,h=>by rw[List.zipIdx_cons,aO,aO,h s (aC _),wA f g l (s+1) fun j hj=>h j ae]
theorem DH{H:Ho}(h4:H.ways.length=4)(p:Nat×Ms->Bool):((hk H).filter p).map (·.2)=((List.range 4).flatMap fun j=>(cM (H.hF j)).filter fun m=>p (j,m))++((H.aE.map (·.2)).zipIdx 4).flatMap fun x=>(cM x.1).filter fun m=>p (x.2,m):=by
 rw[Qp];unfold Ho.all Ho.hF;obtain⟨a,b,c,d,e⟩:=QM h4;rw[e]
 show(([a,b,c,d]++H.aE.map (·.2)).zipIdx).flatMap _=_
 rw[List.zipIdx_append,List.flatMap_append];congr 1
theorem Zh{H:Ho}(h4:H.ways.length=4){j:Nat}(hj:j<4)(p:Ms->Bool):((hk H).filter fun y=>decide (y.1=j)&&p y.2).map (·.2)=(cM (H.hF j)).filter p:=by
 rw[DH h4];have h2:(((H.aE.map (·.2)).zipIdx 4).flatMap fun x=>(cM x.1).filter fun m=>decide (x.2=j)&&p m)=(H.aE.map (·.2)).flatMap fun _=>([]:List Ms):=by
  refine wA (fun i q=>(cM q).filter fun m=>decide (i=j)&&p m) (fun _=>[]) _ 4 fun i hi x=>?_
  rw[List.filter_eq_nil_iff];intro m _;have :i≠j:=by omega
  simp[this]
 have h3:((H.aE.map (·.2)).flatMap fun _=>([]:List Ms))=[]:=by simp
 dsimp only at h2 ⊢;rw[h2,h3,List.append_nil];have :∀i,((cM (H.hF i)).filter fun m=>decide (i=j)&&p m)=if i=j then(cM (H.hF j)).filter p else[]:=fun i=>by
  by_cases e:i=j
  ·subst e;simp
  ·rw[if_neg e,List.filter_eq_nil_iff];intro m _;simp[e]
 simp only[this];have SR:j=0\/j=1\/j=2\/j=3:=by omega
 rcases SR with rfl|rfl|rfl|rfl<;>simp[List.range_succ]
theorem qq{α β:Type}{f g:α->List β}:∀{l:List α},(∀x∈l,f x=g x)->l.flatMap f=l.flatMap g
 |[],_=>rfl
 |a::l,h=>by rw[aO,aO,h a aj,qq fun x hx=>h x sR]
end
theorem Dt{H H1:Ho}{m:Ms}(h:fO H m=some H1):H1.names=H.names:=by
 unfold fO at h;dsimp only at h;split at h
 ·simp only[ay]at h;subst h;rfl
 ·split at h
  ·cases h
  ·simp only[ay]at h;subst h;rfl
theorem mc:∀(l:List Ms) (H:Ho),(fG H l).1.names=H.names
 |[],H=>rfl
 |m::l,H=>by
  unfold fG;cases hp:fO H m with
  |none=>rfl
  |some H1=>exact(mc l H1).trans (Dt hp)
theorem uL:∀(l:List ak) (H:Ho),(gP H l).1.names=H.names
 |[],H=>rfl
 |s::l,H=>by
  unfold gP;cases hp:gQ H s with
  |none=>rfl
  |some H1=>
   refine(uL l H1).trans ?_;unfold gQ at hp;split at hp
   ·cases hp
   ·split at hp
    ·cases hp
    ·split at hp
     ·simp only[ay]at hp;subst hp;rfl
     ·cases hp
theorem DM(H:Ho)(s:ak):(fq H s).1.names=H.names:=by
 unfold fq;split
 ·rfl
 ·split
  ·rfl
  ·rename_i l hl;split
   ·exact mc l H
   ·split
    ·exact mc l H
    ·exact(uL _ _).trans (mc l H)
theorem DD(H:Ho)(s:ak):(gO H s).1.names=H.names:=by
 unfold gO;split
 ·split<;>rfl
 ·rfl
theorem Bd(H:Ho)(s:ak):(eQ H s).1.names=H.names:=by
 unfold eQ;split
 ·split<;>rfl
 ·rfl
theorem oj:∀(l:List (Ms×ak)) (H:Ho),(dP H l).1.names=H.names
 |[],H=>rfl
 |(m,t)::l,H=>by
  unfold dP;split
  ·rfl
  ·exact oj l _
theorem DP(H:Ho)(s:ak):(gR H s).1.names=H.names:=by
 unfold gR;split
 ·split
  ·split
   ·split
    ·exact oj _ _
    ·exact oj _ _
   ·rfl
  ·rfl
 ·rfl
theorem sS(H:Ho)(D:Dk){c:UInt8}{s:ak}(hc:c=97\/c=98\/c=114):(oU H D (bV c++bV 58++s)).names=H.names:=by
 unfold oU;split
 ·refine Eq.trans ?_ (ll H D).2.2.1;unfold bO;rw[kW (by rcases hc with rfl|rfl|rfl<;>decide)];rcases hc with rfl|rfl|rfl
  ·dsimp only;rw[if_neg ai,if_neg ai,if_neg ai,if_neg ai,if_pos rfl];exact Bd _ _
  ·dsimp only;rw[if_neg ai,if_neg ai,if_neg ai,if_pos rfl];exact DD _ _
  ·dsimp only;rw[if_neg ai,if_neg ai,if_neg ai,if_neg ai,if_neg ai,if_pos rfl];exact DP _ _
 ·exact(ll H D).2.2.1
theorem Au(H:Ho)(D:Dk)(u:Int):(p5 H D u).names=H.names:=by
 unfold p5;split
 ·rfl
 ·split
  ·exact(ll H D).2.2.1
  ·exact(DM _ _).trans (ll H D).2.2.1
theorem Ax(H:Ho)(D:Dk)(a:Int):(ov H D a).names=H.names:=by
 unfold ov;split
 ·exact sS H D (.inr (.inl rfl))
 ·rfl
theorem Aw(H:Ho)(D:Dk)(a m:Int):(E7 H D a m).names=H.names:=by
 unfold E7;split
 ·rfl
 ·exact sS H D (.inl rfl)
theorem AA(H:Ho)(D:Dk)(a m:Int)(l:List Ms):(sQ H D a m l).names=H.names:=by
 unfold sQ;split
 ·exact sS H D (.inr (.inr rfl))
 ·rfl
theorem FD(H:Ho)(u:Int)(s:ak)(pri:Int)(body:ak):(jt H u s pri body).names=H.names:=by
 unfold jt;split
 ·exact qL _ _
 ·rfl
theorem Gu(H:Ho)(u:Int)(s:ak):(iE H u s).names=H.names:=by
 unfold iE;split<;>rfl
theorem Kb(H:Ho)(u:Int):(uQ H u).names=H.names:=by
 unfold uQ;split<;>rfl
theorem ub(H:Ho)(D:Dk)(a:Int):(ov H D a).az=H.az:=by
 unfold ov;split
 ·exact(lB _ _ _).2
 ·rfl
theorem ua(H:Ho)(D:Dk)(a m:Int):(E7 H D a m).az=H.az:=by
 unfold E7;split
 ·rfl
 ·exact(lB _ _ _).2
theorem p7(H:Ho)(D:Dk)(a m:Int)(l:List Ms):(sQ H D a m l).az=H.az:=by
 unfold sQ;split
 ·exact(lB _ _ _).2
 ·rfl
section
variable {c kb n:Nat} {W:Wo} {C0:Nat->Ho} {T:List Ms}
def CU (T:List Ms) (x:rL):List Ms:=(x.aU.map (·.1)++T).filter fun m=> !decide (m.id∈x.bj.map (·.1))
end
section
variable {c kb n:Nat} {W:Wo} {C0:Nat->Ho} {T:List Ms}
theorem wS{W:Wo}{k:Nat}{x:Ho×Dk}(i:Nat):(W.bX k x).H i=if i=k/\k<W.hs.length then x.1 else W.H i:=by
 unfold Wo.H Wo.at' Wo.bX;dsimp only;rw[aq,aq,List.getElem?_set];by_cases e:k=i
 ·subst e;by_cases h:k<W.hs.length
  ·rw[if_pos rfl,if_pos h,if_pos ⟨rfl,h⟩];rfl
  ·rw[if_pos rfl,if_neg h,if_neg (fun x=>h x.2),cG ae]
 ·rw[if_neg e,if_neg (fun x=>e x.1.symm)]
def gd (W W':Wo):Prop:= ∀i,(W'.H i).az=(W.H i).az
theorem gd.refl(W:Wo):gd W W:=fun _=>rfl
theorem gd.trans{A B C:Wo}(h:gd A B)(g:gd B C):gd A C:=fun i=>(g i).trans (h i)
theorem gd.set{k:Nat}{x:Ho×Dk}(h:x.1.az=(W.H k).az):gd W (W.bX k x):=fun i=>by
 rw[wS];split
 ·rename_i h1;rw[h1.1];exact h
 ·rfl
theorem gd.hs{W W':Wo}(h:W'.hs=W.hs):gd W W':=fun i=>by unfold Wo.H Wo.at';rw[h]
theorem gd.OZ(W:Wo)(g:Gm):gd W (sW W g):=gd.hs (Hu _ _)
theorem gd.Cd(W:Wo)(dst:Int)(f:Fr)(l:List Ms):gd W (mO W dst f l):=gd.hs (wH _ _ _ _)
theorem gd.se(W:Wo)(k dst:Int):gd W (AP W k dst):=by
 unfold AP;split
 ·have h1:gd W (rY W k dst):=by unfold rY;exact gd.set (ub _ _ _)
  split
  ·exact h1.trans (gd.Cd _ _ _ _)
  ·exact h1
 ·exact gd.refl W
theorem gd.cm(W:Wo)(g:Gm):gd W (J5 W g):=by
 unfold J5;split
 ·exact gd.set (ua _ _ _ _)
 ·split
  ·exact(gd.set (p7 _ _ _ _ _)).trans (gd.Cd _ _ _ _)
  ·exact gd.set (p7 _ _ _ _ _)
theorem gd.out(W:Wo)(i:Nat):gd W (qb W i):=gd.hs rfl
theorem gd.de(W:Wo)(i:Int):gd W (tX W i):=by
 unfold tX;split
 ·exact(gd.out W _).trans (gd.cm _ _)
 ·exact gd.refl W
theorem gd.lo(W:Wo)(i:Int):gd W (FO W i):=by
 unfold FO;split
 ·exact gd.out W _
 ·exact gd.refl W
theorem gd.tw(W:Wo)(i:Int):gd W (Fl W i):=by
 unfold Fl;split
 ·exact gd.OZ _ _
 ·exact gd.refl W
theorem gd.kL:∀(f:Nat) (W:Wo),gd W (kL f W)
 |0,W=>gd.refl W
 |f+1,W=>by
  unfold WB.kL;split
  ·exact gd.refl W
  ·exact(gd.de W 0).trans (gd.kL f _)
theorem gd.ZY(W:Wo):gd W (qh W):=gd.kL _ W
theorem gd.uO(W:Wo)(k dst:Nat):gd W (uO W k dst):=by
 unfold WB.uO;split
 ·exact(gd.se W k dst).trans (gd.ZY _)
 ·exact gd.se W k dst
theorem gd.fold{α:Type}{f:Wo->α->Wo}(h:∀W a,gd W (f W a)):∀(l:List α) (W:Wo),gd W (l.foldl f W)
 |[],W=>gd.refl W
 |a::l,W=>by rw[List.foldl_cons];exact(h W a).trans (gd.fold h l _)
theorem gd.yN(m:Nat)(W:Wo)(k:Nat):gd W (yN m W k):=gd.fold (fun W a=>gd.uO W k a) _ W
theorem I3{k d:Int}(h:Fv W k d=0):W.is k=true/\W.is d=true/\vt (W.H k.toNat) (W.D k.toNat) d=0:=by
 unfold Fv at h;split at h
 ·rename_i h1;exact⟨h1.1,h1.2,h⟩
 ·cases h
theorem J_{H:Ho}{D:Dk}{a:Int}(h:vt H D a=0):py H a=0/\(gA H a=true->ep H D=0):=by
 unfold vt at h;by_cases h1:py H a≠0
 ·rw[if_pos h1]at h;exact absurd h h1
 ·rw[if_neg h1]at h;refine⟨by simpa using h1,fun h2=>?_⟩;rw[if_pos h2]at h;exact h
theorem GM{H:Ho}{a:Int}(h:py H a=0):bQ H a=true:=by
 unfold py at h;split at h
 ·cases h
 ·rename_i h1;simpa using h1
theorem Rk{H0 H:Ho}{D:Dk}{k m:Nat}(h:HI k H D H0)(hB:cE m H){d:Nat}(hd:d<4):((cM (H.hF d)).filter (MM (bR H d))).Perm (ru (kM H0) d):=by
 rw[<-Zh hB.ways hd];unfold ru;refine(h.uX.filter _).map _ |>.trans (List.Perm.of_eq ?_)
 have e:bR H0 d=bR H d:=by unfold bR;rw[h.bt]
 congr 2;funext y;unfold pz MM;rw[show(kM H0).bt d=bR H0 d from rfl,e];rfl
end
def OC (_k _n:Nat) (_l:List Nm):Prop:=True
structure GJ (n:Nat) (W:Wo) (C0:Nat->Ho) (T:List Ms):Prop where
 hn:W.hs.length=n
 hi:∀(k:Nat) x,W.hs[k]? =some x->HI k x.1 x.2 (C0 k)
 gc:GC n (CC C0) W.dy T
 fresh:∀(k:Nat) x,W.hs[k]? =some x->∀(u:Nat) y,x.1.az[u]? =some y->∀p∈y.aU,p.1.id∉T.map (·.id)
 AX:∀(k:Nat) x,W.hs[k]? =some x->OC k n x.1.names
section
variable {c kb n:Nat} {W:Wo} {C0:Nat->Ho} {T:List Ms}
theorem GJ.set(g:GJ n W C0 T){k:Nat}{H' H3:Ho}{D':Dk}{T':List Ms}(hi:HI k H' D' H3)(gc:GC n (ec (CC C0) k (kM H3)) W.dy T')(E4:OC k n H'.names)(fr:∀(u:Nat) y,H'.az[u]? =some y->∀p∈y.aU,p.1.id∉T'.map (·.id))(fro:∀(i:Nat) x,i≠k->W.hs[i]? =some x->∀(u:Nat) y,x.1.az[u]? =some y->∀p∈y.aU,p.1.id∉T'.map (·.id)):
 GJ n (W.bX k (H',D')) (yS C0 k H3) T':=by
 refine⟨by rw[lD];exact g.hn,fun i x hx=>?_,by rw[OF];exact gc,fun i x hx=>?_,fun i x hx=>?_⟩
 ·unfold yS;rcases AK hx with⟨rfl,rfl⟩|⟨kF,hx⟩
  ·rw[if_pos rfl];exact hi
  ·rw[if_neg kF];exact g.hi i x hx
 ·rcases AK hx with⟨rfl,rfl⟩|⟨kF,hx⟩
  ·exact fr
  ·exact fro i x kF hx
 ·rcases AK hx with⟨rfl,rfl⟩|⟨kF,hx⟩
  ·exact E4
  ·exact g.AX i x hx
theorem GJ.same(g:GJ n W C0 T){k:Nat}{H':Ho}{D':Dk}(hi:HI k H' D' (C0 k))(E4:OC k n H'.names)(fr:∀(u:Nat) y,H'.az[u]? =some y->∀p∈y.aU,p.1.id∉T.map (·.id)):GJ n (W.bX k (H',D')) C0 T:=by
 have :=g.set (T':=T) hi (by rw[zt];exact g.gc) E4 fr (fun i x _ hx=>g.fresh i x hx);rw[zk]at this;exact this
theorem GJ.az(g:GJ n W C0 T){k:Nat}{x:Ho×Dk}(hx:W.hs[k]? =some x){H':Ho}(hu:H'.az=x.1.az):∀(u:Nat) y,H'.az[u]? =some y->∀p∈y.aU,p.1.id∉T.map (·.id):=fun u y hy=>g.fresh k x hx u y (by rw[<-hu];exact hy)
theorem GJ.dy(g:GJ n W C0 T){Lj:List Gm}{lost:Int}(hw:∀m∈Lj,m∈W.dy\/Kt n (CC C0) m):GJ n {W with dy:=Lj,lost:=lost} C0 T:=
 ⟨g.hn,g.hi,g.gc.sub hw,g.fresh,g.AX⟩
theorem GJ.OZ(g:GJ n W C0 T){m:Gm}(hm:Kt n (CC C0) m):GJ n (sW W m) C0 T:=by
 unfold sW;split
 ·exact g.dy fun m hm=>.inl hm
 ·have :GJ n {W with dy:=W.dy++[m],lost:=W.lost} C0 T:=g.dy fun m' F9=>by
   rcases aP.1 F9 with h|h
   ·exact .inl h
   ·simp at h;subst h;exact .inr hm
  exact this
theorem GJ.Cd(g:GJ n W C0 T){dst:Int}{f:Fr}{l:List Ms}(hm:Kt n (CC C0) ⟨dst,f,l⟩):GJ n (mO W dst f l) C0 T:=by
 unfold mO;split
 ·exact g.OZ hm
 ·exact g
theorem GJ.out(g:GJ n W C0 T)(i:Nat):GJ n (qb W i) C0 T:=by
 have :GJ n {W with dy:=W.dy.eraseIdx i,lost:=W.lost} C0 T:=g.dy fun m hm=>.inl ((List.eraseIdx_sublist _ _).subset hm)
 exact this
theorem Jo(hw:dr c kb W)(g:GJ n W C0 T){k:Nat}(hk:k<n):(si W k).Perm (view n (CC C0) k):=by
 have hn:=g.hn;have KG:=hw.n1;obtain⟨x,hx,e1,e2⟩:=eZ (W:=W) (j:=k) ae;have h:=g.hi k x hx;have hB:=(hw.hs k x hx).B;unfold view;rw[show(CC C0 k).bg=(hv (C0 k)).map oM from rfl];refine List.Perm.trans ?_ ((h.uX.filter _).map _);rw[DH hB.ways];have hq:(((x.1.aE.map (·.2)).zipIdx 4).flatMap fun y=>(cM y.1).filter fun m=>gB n (CC C0) k (y.2,m))=fT x.1:=by
  have :(((x.1.aE.map (·.2)).zipIdx 4).flatMap fun y=>(fun(j:Nat) (q:Qu)=>(cM q).filter fun m=>gB n (CC C0) k (j,m)) y.2 y.1)=(x.1.aE.map (·.2)).flatMap cM:=by
   refine wA (fun(j:Nat) (q:Qu)=>(cM q).filter fun m=>gB n (CC C0) k (j,m)) cM _ 4 fun j hj q=>?_
   rw[b_];intro m _;unfold gB;simp[hj]
  refine this.trans ?_;unfold fT;rw[List.flatMap_map]
 rw[hq];unfold si;rw[e1];refine List.perm_append_comm.trans (List.Perm.of_eq ?_);congr 1;refine qq fun j hj=>?_
 have hj:=bz.1 hj;unfold gM;rw[e1];have rI:bR (C0 k) j=bR x.1 j:=by unfold bR;rw[h.bt]
 have EZ:da (C0 k) j=da x.1 j:=by unfold da;rw[h.sn]
 have hr:bQ x.1 (j:Int)=decide (j≠k):=by
  unfold bQ;rw[h.hid];by_cases e:j=k
  ·subst e;simp
  ·have :(j:Int)≠(k:Int):=fun e2=>e ae
   simp[e,this];omega
 have Bf:j≠k->uP n (CC C0) k j=px W k j:=fun E5=>by
  unfold uP px;rw[e1,hr]
  show decide (bR (C0 k) j≠[]/\j<n/\da (C0 k) j<=cT (C0 j) k)=_
  rw[rI,EZ];by_cases U2:j<n
  ·obtain⟨y,hy,f1,-⟩:=eZ (W:=W) (j:=j) ae;have h2:=g.hi j y hy;have hrr:bQ y.1 (k:Int)=true:=by
    rw[bT,h2.hid];refine⟨by omega,by omega,fun e=>E5 ae⟩
   have KM:cT (C0 j) k=cT y.1 k:=by unfold cT;rw[h2.av]
   rw[f1,if_pos hrr,KM];have :W.is (j:Int)=true:=by unfold Wo.is;rw[decide_eq_true_eq];omega
   simp[E5,U2,this]
  ·have :W.is (j:Int)=false:=by unfold Wo.is;rw[decide_eq_false_iff_not];omega
   simp[U2,this]
 rw[hr];by_cases E5:j=k
 ·rw[if_neg (by simp[E5]),eq_comm,List.filter_eq_nil_iff];intro m _;unfold gB;have :¬4<=j:=by omega
  simp[this,E5];omega
 ·rw[if_pos (by simp[E5])];apply List.filter_congr;intro m _;unfold gB;rw[Bf E5]
  show _=(decide (4<=j)||(decide (j≠k)&& !(px W k j&&decide (m.id∈bR (C0 k) j))))
  rw[rI];have :¬4<=j:=by omega
  simp[this,E5,Bool.not_and]
theorem GJ.Ia(g:GJ n W C0 T)(hw:dr c kb W):(tv W).Perm T:=by
 refine List.Perm.trans ?_ g.gc.Ia;unfold tv xy;rw[g.hn];have key:∀l:List Nat,(∀k∈l,k<n)->(l.flatMap (si W)).Perm (l.flatMap (view n (CC C0))):=by
  intro l
  induction l with
  |nil=>intro _;exact .refl _
  |cons a l ih=>
   intro h;rw[aO,aO];exact(Jo hw g (h a aj)).append (ih fun k hk=>h k (by simp[hk]))
 exact key _ fun k hk=>bz.1 hk
end
section
variable {c kb n:Nat} {W:Wo} {C0:Nat->Ho} {T:List Ms}
theorem GJ.at(g:GJ n W C0 T){k:Nat}(hk:k<n):∃x,W.hs[k]? =some x/\W.H k=x.1/\W.D k=x.2/\HI k x.1 x.2 (C0 k):=by
 obtain⟨x,hx,e1,e2⟩:=eZ (W:=W) (j:=k) (by rw[g.hn];exact hk);exact⟨x,hx,e1,e2,g.hi k x hx⟩
theorem GJ.PZ(g:GJ n W C0 T){k:Nat}(hk:k<n){y:Nat×Ms}(hy:y∈WB.hk (W.H k))(h4:4<=y.1):y.2∈T:=by
 obtain⟨x,hx,e1,-,h⟩:=g.at hk;rw[e1]at hy;rw[<-g.gc.Ia.mem_iff];unfold xy view;refine List.mem_flatMap.2 ⟨k,bz.2 hk,j_ (aI.2 ⟨h.uX.mem_iff.1 hy,?_⟩)⟩;unfold gB;simp[h4]
theorem GJ.put(g:GJ n W C0 T)(hw:dr c kb W){k u:Nat}(hk:k<n)(hu:u<5){s:ak}{pri:Int}{body:ak}(he:ic (W.H k) u s pri body=0):GJ n (W.bX k (jt (W.H k) u s pri body,W.D k)) C0 T:=by
 obtain⟨x,hx,e1,e2,h⟩:=g.at hk;rw[e1]at he ⊢;rw[e2];have hB:=(hw.hs k x hx).B;obtain⟨h1,hid⟩:=h.put hB hu he;refine g.same h1 (by rw[FD];exact g.AX k x hx) fun v y hy p hp=>?_
 have l9:(jt x.1 u s pri body).az=x.1.az.set u ⟨(x.1.iJ u).aU++[(fk x.1 s pri body,(kE x.1 s).2.1)],(x.1.iJ u).bj⟩:=by
  unfold jt;rw[if_pos he];unfold dc;dsimp only;rw[iT,aM]
 have yV:=mo hB hu;rw[l9]at hy;rcases kf WM hy with⟨rfl,rfl⟩|⟨kF,hy⟩
 ·rcases aP.1 hp with hp|hp
  ·exact g.fresh k x hx v _ yV p hp
  ·simp at hp;subst hp;dsimp only;intro hm;obtain⟨m,hm,e⟩:=aD.1 hm;obtain⟨o,ho,a,b⟩:=g.gc.W5 m hm;have KG:=hw.n1;rw[g.hn]at KG;have :o=k:=by rw[e,hid]at a;omega
   subst this;have h2:=h.nx;have b:m.id/4<(C0 o).next:=b
   rw[e,hid]at b;omega
 ·exact g.fresh k x hx v y hy p hp
theorem GJ.get(g:GJ n W C0 T)(hw:dr c kb W){k u:Nat}(hk:k<n)(hu:u<5){s:ak}(he:gm (W.H k) u s=0):GJ n (W.bX k (iE (W.H k) u s,W.D k)) C0 T/\getM (W.H k) u s∈T:=by
 obtain⟨x,hx,e1,e2,h⟩:=g.at hk;rw[e1]at he ⊢;rw[e2];have hB:=(hw.hs k x hx).B;obtain⟨h1,i,hid,h4⟩:=h.get hB hu he;refine⟨g.same h1 (by rw[Gu];exact g.AX k x hx) fun v y hy p hp=>?_,g.PZ hk (y:=(i,_)) (by rw[e1];exact hid) h4⟩;have l9:(iE x.1 u s).az=x.1.az.set u ⟨(x.1.iJ u).aU,(x.1.iJ u).bj++[((lG (x.1.dX ((x.1.qI s).getD 0))).id,s)]⟩:=by
  unfold iE;rw[if_pos he];rfl
 have yV:=mo hB hu;rw[l9]at hy;rcases kf WM hy with⟨rfl,rfl⟩|⟨kF,hy⟩
 ·exact g.fresh k x hx v _ yV p hp
 ·exact g.fresh k x hx v y hy p hp
theorem GJ.back(g:GJ n W C0 T)(hw:dr c kb W){k u:Nat}(hk:k<n)(hu:u<5)(he:wq (W.H k) u=0):GJ n (W.bX k (uQ (W.H k) u,W.D k)) C0 T:=by
 obtain⟨x,hx,e1,e2,h⟩:=g.at hk;rw[e1]at he ⊢;rw[e2];have hB:=(hw.hs k x hx).B;refine g.same (h.back hB hu he) (by rw[Kb];exact g.AX k x hx) fun v y hy p hp=>?_
 have l9:(uQ x.1 u).az=x.1.az.set u dt:=by
  unfold uQ;rw[if_pos he];rfl
 rw[l9]at hy;rcases kf WM hy with⟨rfl,rfl⟩|⟨kF,hy⟩
 ·cases hp
 ·exact g.fresh k x hx v y hy p hp
theorem GJ.Bt(g:GJ n W C0 T)(hw:dr c kb W){k u:Nat}(hk:k<n)(hu:u<5)(he:vq (W.H k) (W.D k) u≠0):GJ n (W.bX k (p5 (W.H k) (W.D k) u,t_ (W.H k) (W.D k) u)) C0 T:=by
 obtain⟨x,hx,e1,e2,h⟩:=g.at hk;rw[e1,e2]at he ⊢;refine g.same (h.Bt (hw.hs k x hx) hu he) (by rw[Au];exact g.AX k x hx) (g.az hx ?_);rw[p4,if_neg he]
theorem GJ.ye(g:GJ n W C0 T)(hw:dr c kb W)(hK:kb<=1000000000000)(hc:c<=250){k u:Nat}(hk:k<n)(hu:u<5)(he:vq (W.H k) (W.D k) u=0):
 ∃C1,GJ n (W.bX k (p5 (W.H k) (W.D k) u,t_ (W.H k) (W.D k) u)) C1 (CU T ((W.H k).iJ u)):=by
 obtain⟨x,hx,e1,e2,h⟩:=g.at hk;rw[e1,e2]at he ⊢;have hb:=hw.hs k x hx;have KG:=hw.n1;rw[g.hn]at KG;obtain⟨H3,h1,h2,h3,h4,h5,h6,h7⟩:=h.ye hb ae hK hc hu he;have yV:=mo hb.B hu;have l9:=p4 (H:=x.1) (D:=x.2) (u:Int);rw[if_pos he,aM]at l9;generalize hy:x.1.iJ u=y at h2 h7 yV ⊢;have ui:=h.unit u y yV;obtain⟨F5,-⟩:=hb.az y (ax yV);have hPm:(y.aU.map fun p=>(pc x.1 p.1,p.1)).map (·.2)=y.aU.map (·.1):=by rw[List.map_map];rfl
 have hPi:(y.aU.map fun p=>(pc x.1 p.1,p.1)).map nM=y.aU.map fun p=>p.1.id:=by rw[List.map_map];rfl
 have Zp:=g.fresh k x hx u y yV;have SS:=GC.ye (c:=kM H3) g.gc hk (P:=y.aU.map fun p=>(pc x.1 p.1,p.1)) (G:=y.bj.map (·.1)) h2
  (by show bR H3=bR (C0 k);funext d;unfold bR;rw[h3]) (by show da H3=da (C0 k);funext d;unfold da;rw[h4]) (by show cT H3=cT (C0 k);funext d;unfold cT;rw[h5]) h6
  (fun z hz=>by
   obtain⟨p,hp,rfl⟩:=aD.1 hz;obtain⟨-,a,-⟩:=ui.aU p hp;obtain⟨-,-,-,-,-,-,m7,m8⟩:=bP (F5.aU p hp);refine⟨?_,by rw[<-h.hid];exact a,h7 p hp⟩;dsimp only;unfold pc;split
   ·rename_i hh;right;intro e;have :=h.hid;exact hh ae
   ·left;omega)
  (by rw[hPi];exact ui.pn)
  (fun z hz=>by
   obtain⟨p,hp,rfl⟩:=aD.1 hz
   exact Zp p hp)
  (fun z hz=>by
   obtain⟨p,hp,rfl⟩:=aD.1 hz;obtain⟨-,-,e,OO,-,iM,U8⟩:=ui.aU p hp;intro hm;obtain⟨w,F0,MQ⟩:=aD.1 hm;obtain⟨e',hw3,rfl⟩:=aD.1 F0;obtain⟨e4,a1,a2,a3,a4⟩:=h.in0 hw3;have a5:e4.m.id=p.1.id:=by rw[a3];exact MQ
   have :e4=e:=ja h.oD a1 OO (by unfold eF;rw[iM];exact a5)
   rw[this,U8]at a4;omega)
  (fun i hi=>by
   obtain⟨p,hp,rfl⟩:=aD.1 hi;obtain⟨i,-,e,a1,a2,a3,a4,-⟩:=ui.bj p hp;obtain⟨e',b1,b2,b3⟩:=h.to0 a1 a4
   exact⟨oM e',j_ b1,by show 4<=e'.j;omega,by rw[<-a3];show e'.m.id=e.m.id;rw[b3]⟩)
 rw[hPm]at SS;have MV:∀q,q∉T.map (·.id)->q∉(y.aU.map fun p=>p.1.id)->q∉(CU T y).map (·.id):=fun q YU KF hm=>by
  unfold CU at hm;obtain⟨m,hm5,rfl⟩:=aD.1 hm;rcases aP.1 (aI.1 hm5).1 with h8|h8
  ·obtain⟨p,hp,rfl⟩:=aD.1 h8;exact KF (List.mem_map_of_mem (f:=fun p:Ms×Int=>p.1.id) hp)
  ·exact YU (List.mem_map_of_mem (f:=(·.id)) h8)
 refine⟨_,g.set h1 SS (by rw[Au];exact g.AX k x hx) (fun v z hz p hp=>?_) fun i x' kF Uy v z hz p hp=>?_⟩
 ·rw[l9]at hz;rcases kf (by rw[hb.B.az];exact hu) hz with⟨rfl,rfl⟩|⟨kF,hz⟩
  ·cases hp
  ·refine MV _ (g.fresh k x hx v z hz p hp) fun hm=>?_
   obtain⟨q,hq,e⟩:=aD.1 hm;obtain⟨-,-,e3,a1,-,a2,a3⟩:=(h.unit v z hz).aU p hp;obtain⟨-,-,e4,b1,-,b2,b3⟩:=ui.aU q hq;have :e3=e4:=ja h.oD a1 b1 (by unfold eF;rw[a2,b2];exact e.symm);rw[this,b3]at a3;exact kF ae
 ·refine MV _ (g.fresh i x' Uy v z hz p hp) fun hm=>?_
  obtain⟨q,hq,e⟩:=aD.1 hm;have a1:=((g.hi i x' Uy).unit v z hz).aU p hp |>.2.1
  have b1:=(ui.aU q hq).2.1;rw[(g.hi i x' Uy).hid]at a1;rw[h.hid]at b1;have e:q.1.id=p.1.id:=e;exact kF ae
end
section
variable {c kb n:Nat} {W:Wo} {C0:Nat->Ho} {T:List Ms}
theorem GJ.cut(g:GJ n W C0 T){k:Nat}(hk:k<n)(t m:Int):GJ n (W.bX k ({W.H k with c6:=t},cO (W.D k) m)) C0 T:=by
 obtain⟨x,hx,e1,e2,h⟩:=g.at hk;rw[e1,e2];exact g.same ((h.c6 t).cut m) (g.AX k x hx) (g.az hx rfl)
theorem GJ.aaq(g:GJ n W C0 T){k:Nat}(hk:k<n)(m:Int):GJ n (W.bX k (W.H k,cO (W.D k) m)) C0 T:=by
 obtain⟨x,hx,e1,e2,h⟩:=g.at hk;rw[e1,e2];exact g.same (h.cut m) (g.AX k x hx) (g.az hx rfl)
theorem GJ.EV(g:GJ n W C0 T){k:Nat}(hk:k<n):GJ n (EV W k) C0 T/\((EV W k).H k).az=List.replicate 5 ⟨[],[]⟩:=by
 obtain⟨x,hx,e1,e2,h⟩:=g.at hk;unfold WB.EV;rw[e2];have h1:=(h.cut (-1)).T8;rw[(h.cut (-1)).opened];have hu:=h.Lq;refine⟨g.same h1 (by rw[h.names];exact g.AX k x hx) (fun u y hy p hp=>?_),?_⟩
 ·rw[hu]at hy;have :=List.eq_of_mem_replicate (ax hy);subst this;cases hp
 ·rw[wS,if_pos ⟨rfl,by rw[g.hn];exact hk⟩];exact hu
theorem GJ.se(g:GJ n W C0 T)(hw:dr c kb W)(hK:kb<=1000000000000)(k d:Int):∃C1,GJ n (AP W k d) C1 T:=by
 unfold AP;split
 ·rename_i hh;have hk:=gG hh.1;have hd:=gG hh.2;have hn:=g.hn;have KG:=hw.n1;obtain⟨x,hx,e1,e2,h⟩:=g.at (k:=k.toNat) ae;have hb:=hw.hs _ x hx;have rI:=hb.bt d;have E4:=g.AX _ x hx;have M_:((k.toNat:Nat):Int)=k:=by omega
  have hdd:((d.toNat:Nat):Int)=d:=by omega
  have Qs:d.toNat<4:=by omega
  have key:∃C1,GJ n (rY W k d) C1 T/\HI k.toNat (ov x.1 x.2 d) (wm x.1 x.2 d) (C1 k.toNat)/\(∀i,i≠k.toNat->C1 i=C0 i):=by
   unfold rY;rw[e1,e2];by_cases hN:gA x.1 d=true/\ep x.1 x.2=0
   ·obtain⟨H3,h1,h2,h3,h4,h5,h6,h7,h8,-⟩:=h.made hb hN.1 hN.2;have hr:=bT.1 (mj hN.1).1;have h0:bR (C0 k.toNat) d.toNat=[]:=by
     have :=(mj hN.1).2.2.1;unfold bR at this ⊢;rw[h.bt];exact this
    have Nj:=(h.B0 hb ae hK).1;have SS:=GC.made (c:=kM H3) g.gc (k:=k.toNat) (d:=d.toNat) ae ae (by have :=h.hid;omega) Qs h7 h0 h8 (by unfold kM;rw[h2];rfl)
     (fun b=>by show bR H3 b=_;unfold bR;rw[h3,jz (by rw[Nj.batch];exact Qs)];rfl)
     (fun b=>by show da H3 b=_;unfold da;rw[h4,jz (by rw[Nj.bU];exact Qs)];rfl)
     (by show cT H3=cT (C0 k.toNat);funext b;unfold cT;rw[h5]) h6
    refine⟨yS C0 k.toNat H3,g.set h1 SS (by rw[Ax];exact E4) (g.az hx (ub _ _ _)) (fun i x _ hx=>g.fresh i x hx),?_,fun i hi=>?_⟩
    ·unfold yS;rw[if_pos rfl];exact h1
    ·unfold yS;rw[if_neg hi]
   ·have h1:=h.Yu hb (a:=d) (by
     by_cases h2:gA x.1 d=true
     ·exact .inr fun h3=>hN ⟨h2,h3⟩
     ·exact .inl Y55)
    exact⟨C0,g.same h1 (by rw[Ax];exact E4) (g.az hx (ub _ _ _)),h1,fun _ _=>rfl⟩
  obtain⟨C1,g1,h1,hC⟩:=key;split
  ·rename_i Xb;obtain⟨-,-,SZ⟩:=I3 Xb;rw[e1,e2]at SZ;obtain⟨hp,-⟩:=J_ SZ;have hr:=bT.1 (GM hp);have kF:k.toNat≠d.toNat:=by have :=h.hid;omega
   refine⟨C1,g1.Cd ⟨k.toNat,d.toNat,M_.symm,hdd.symm,by omega,by omega,kF,(fun hh=>by cases hh),fun _=>?_⟩⟩;dsimp only;rw[e1,e2];have hN:K0 x.1 x.2 d=da (C1 k.toNat) d.toNat:=by
    unfold K0;rw[if_pos SZ];unfold da;rw[h1.sn]
   have hL:(Bu x.1 x.2 d).Perm (ru (kM (C1 k.toNat)) d.toNat):=by
    unfold Bu;rw[if_pos SZ];exact Rk h1 rI.B Qs
   rw[hN];refine⟨Int.le_refl _,fun _ h2=>⟨fun h3=>?_,hL⟩⟩;have :=(g1.gc.pr k.toNat d.toNat ae ae kF).2.2 h3;have h2:cT (C1 d.toNat) k.toNat<da (C1 k.toNat) d.toNat:=h2;have this:cT (C1 d.toNat) k.toNat=da (C1 k.toNat) d.toNat:=this;omega
  ·exact⟨C1,g1⟩
 ·exact⟨C0,g⟩
theorem GJ.cm(g:GJ n W C0 T)(hw:dr c kb W)(hK:kb<=1000000000000){m:Gm}(hm:Kt n (CC C0) m)(YZ:GmB W.hs.length m):∃C1,GJ n (J5 W m) C1 T:=by
 obtain⟨a,b,f1,f2,ha,hb,wi,f3,f4⟩:=hm.ok;have hn:=g.hn;have KG:=hw.n1;have hbn:m.dto.toNat=b:=by rw[f2];rfl
 have han:m.f.gD.toNat=a:=by rw[f1];rfl
 obtain⟨x,hx,e1,e2,h⟩:=g.at (k:=b) hb;have hxb:=hw.hs _ x hx;have E4:=g.AX _ x hx;have Nj:=(h.B0 hxb ae hK).1;have ha4:a<4:=by omega
 unfold J5;rw[hbn,e1,e2];split
 ·rename_i hack;by_cases hc:mF x.1 m.f.gD m.f.num=0/\ep x.1 x.2=0
  ·obtain⟨q1,-,q3,q4⟩:=rr hc.1;obtain⟨H3,h1,h2,h3,h4,h5,h6⟩:=h.known hxb ae hK hc.1 hc.2;rw[han]at h2 h3 q3 q4;have hfa:=f3 hack;have ebt:bR (C0 b) a=bR x.1 a:=by unfold bR;rw[h.bt]
   have esn:da (C0 b) a=da x.1 a:=by unfold da;rw[h.sn]
   have SS:=GC.known (c:=kM H3) g.gc (k:=b) (d:=a) hb ha (fun e=>wi e.symm) ae (by show bR (C0 b) a≠[];rw[ebt];exact q3) (by show da (C0 b) a<=cT (C0 a) b;have :m.f.num<=cT (C0 a) b:=hfa;omega) h2
    (fun d=>by show bR H3 d=_;unfold bR;rw[h3,jz (by rw[Nj.batch];exact ha4)];rfl)
    (by show da H3=da (C0 b);funext d;unfold da;rw[h4]) (by show cT H3=cT (C0 b);funext d;unfold cT;rw[h5]) h6
   exact⟨_,g.set h1 SS (by rw[Aw];exact E4) (g.az hx (ua _ _ _ _)) (fun i x _ hx=>g.fresh i x hx)⟩
  ·have h1:=h.Us (a:=m.f.gD) (num:=m.f.num) (by
    by_cases h2:mF x.1 m.f.gD m.f.num=0
    ·exact .inr fun h3=>hc ⟨h2,h3⟩
    ·exact .inl h2)
   exact⟨C0,g.same h1 (by rw[Aw];exact E4) (g.az hx (ua _ _ _ _))⟩
 ·rename_i hack;have hack:m.f.wu=false:=by simpa using hack
  obtain⟨f5,f6⟩:=f4 hack;have hl:m.l.length<=250:=by have :=YZ.ok;unfold okF at this;omega
  have key:∃C1,GJ n (W.bX b (sQ x.1 x.2 m.f.gD m.f.num m.l,y0 x.1 x.2 m.f.gD m.f.num m.l)) C1 T/\HI b (sQ x.1 x.2 m.f.gD m.f.num m.l) (y0 x.1 x.2 m.f.gD m.f.num m.l) (C1 b):=by
   by_cases hc:Eh x.1 m.f.gD m.f.num m.l=true/\ep x.1 x.2=0
   ·obtain⟨q1,-,q3,-⟩:=ud hc.1;obtain⟨H3,P,h1,h2,h3,h4,h5,h6,h7,h8,-⟩:=h.NQ hxb ae hK hl hc.1 hc.2;rw[han]at h7 q3;have eav:cT (C0 b) a=cT x.1 a:=by unfold cT;rw[h.av]
    have SN:=g.gc.pr a b ha hb wi;have p1:cT (C0 b) a<=da (C0 a) b/\da (C0 a) b<=cT (C0 b) a+1:=⟨SN.1,SN.2.1⟩;have f5':m.f.num<=da (C0 a) b:=f5;have EZ:da (C0 a) b=cT (C0 b) a+1:=by omega
    obtain⟨q5,q6⟩:=f6 (show m.f.num=da (C0 a) b by omega) (show cT (C0 b) a<m.f.num by omega);have SS:=GC.NQ (c:=kM H3) g.gc (k:=a) (d:=b) ha hb wi ae h3 q5 EZ (by rw[h2];exact q6) h4
     (by
      have :=h1.P6;unfold kM
      rw[List.map_map];exact this)
     (by show bR H3=bR (C0 b);funext d;unfold bR;rw[h5]) (by show da H3=da (C0 b);funext d;unfold da;rw[h6])
     (fun d=>by show cT H3 d=_;unfold cT;rw[h7,jz (by rw[Nj.aF];exact ha4)];rfl) h8
    refine⟨_,g.set h1 SS (by rw[AA];exact E4) (g.az hx (p7 _ _ _ _ _)) (fun i x _ hx=>g.fresh i x hx),?_⟩;unfold yS;rw[if_pos rfl];exact h1
   ·have h1:=h.aay (a:=m.f.gD) (num:=m.f.num) hl (by
     by_cases h2:Eh x.1 m.f.gD m.f.num m.l=true
     ·exact .inr fun h3=>hc ⟨h2,h3⟩
     ·exact .inl Y55)
    exact⟨C0,g.same h1 (by rw[AA];exact E4) (g.az hx (p7 _ _ _ _ _)),h1⟩
  obtain⟨C1,g1,h1⟩:=key;split
  ·rename_i Gi;refine⟨C1,g1.Cd ⟨b,a,f2,f1,hb,ha,fun e=>wi e.symm,fun _=>?_,fun hh=>by cases hh⟩⟩;dsimp only
   show vu x.1 x.2 m.f.gD m.f.num m.l<=cT (C1 b) a
   unfold vu;rw[if_pos Gi,han];unfold cT;rw[h1.av];exact Int.le_refl _
  ·exact⟨C1,g1⟩
theorem GJ.de(g:GJ n W C0 T)(hw:dr c kb W)(hK:kb<=1000000000000)(i:Int):∃C1,GJ n (tX W i) C1 T:=by
 unfold tX;split
 ·rename_i h0;obtain⟨h1,h2⟩:=Ht h0;have hm:=ax (om (W:=W) (i:=i.toNat) ae);exact(g.out i.toNat).cm (hw.out i.toNat) hK (g.gc.fr _ hm) (hw.dy _ hm)
 ·exact⟨C0,g⟩
theorem GJ.lo(g:GJ n W C0 T)(i:Int):GJ n (FO W i) C0 T:=by
 unfold FO;split
 ·exact g.out _
 ·exact g
theorem GJ.tw(g:GJ n W C0 T)(i:Int):GJ n (Fl W i) C0 T:=by
 unfold Fl;split
 ·rename_i h0;obtain⟨h1,h2⟩:=Ht h0;have hm:=ax (om (W:=W) (i:=i.toNat) ae);exact g.OZ (g.gc.fr _ hm)
 ·exact g
theorem GJ.kL:∀(f:Nat) {kb:Nat} {W:Wo} {C0:Nat->Ho},GJ n W C0 T->dr c kb W->kb+2*f<=1000000000000->∃C1,GJ n (kL f W) C1 T
 |0,_,_,C0,g,_,_=>⟨C0,g⟩
 |f+1,kb,W,C0,g,hw,hK=>by
  unfold WB.kL;split
  ·exact⟨C0,g⟩
  ·obtain⟨C1,g1⟩:=g.de hw ae 0;exact GJ.kL f g1 (hw.de 0) ae
theorem GJ.ZY(g:GJ n W C0 T)(hw:dr c kb W)(hK:kb+400<=1000000000000):∃C1,GJ n (qh W) C1 T:=g.kL _ hw (by have :=AG hw;omega)
theorem GJ.uO(g:GJ n W C0 T)(hw:dr c kb W)(hK:kb+402<=1000000000000)(k d:Nat):∃C1,GJ n (uO W k d) C1 T:=by
 obtain⟨C1,g1⟩:=g.se hw ae k d;unfold WB.uO;split
 ·exact g1.ZY (hw.se k d) ae
 ·exact⟨C1,g1⟩
theorem GJ.fold{α:Type}{f:Wo->α->Wo}{b:Nat}(h:∀W a kb C0,GJ n W C0 T->dr c kb W->kb+b<=1000000000000->dr c (kb+b) (f W a)/\∃C1,GJ n (f W a) C1 T):∀(l:List α) {kb:Nat} {W:Wo} {C0:Nat->Ho},GJ n W C0 T->dr c kb W->kb+b *l.length<=1000000000000->∃C1,GJ n (l.foldl f W) C1 T
 |[],_,_,C0,g,_,_=>⟨C0,g⟩
 |a::l,kb,W,C0,g,hw,hK=>by
  rw[List.length_cons,Nat.mul_succ]at hK;obtain⟨h1,C1,g1⟩:=h W a kb C0 g hw ae;rw[List.foldl_cons];exact GJ.fold h l g1 h1 ae
theorem GJ.yN(g:GJ n W C0 T)(hw:dr c kb W)(hK:kb+1608<=1000000000000)(k:Nat){m:Nat}(hm:m<=4):∃C1,GJ n (yN m W k) C1 T:=
 g.fold (f:=fun W d=>WB.uO W k d) (b:=402) (fun W a kb C0 g hw hK=>⟨hw.uO k a,g.uO hw hK k a⟩) (List.range m) hw Y30
theorem GJ.p6(g:GJ n W C0 T){k:Nat}(hk:k<n):GJ n (p6 W k) C0 T:=by
 unfold WB.p6;have g1:=g.aaq hk (-1);split
 ·exact(g1.EV hk).1
 ·exact g1
theorem GJ.yZ:∀(l:List Nat) {W:Wo},GJ n W C0 T->(∀k∈l,k<n)->GJ n (l.foldl WB.p6 W) C0 T
 |[],_,g,_=>g
 |k::l,W,g,h=>GJ.yZ l (g.p6 (h k aj)) fun j hj=>h j (by simp[hj])
theorem GJ.B_(g:GJ n W C0 T)(hw:dr c kb W)(hK:kb+400<=1000000000000):∃C1,GJ n (B_ W) C1 T:=by
 have hn:=g.hn;unfold WB.B_;exact(GJ.yZ _ g fun k hk=>by rw[<-hn];exact bz.1 hk).ZY (dr.yZ ae _ W hw fun k hk=>bz.1 hk) ae
theorem GJ.Eb(g:GJ n W C0 T)(hw:dr c kb W)(hK:kb+10000<=1000000000000):∃C1,GJ n (Eb W) C1 T:=by
 have hn:=hw.n1;obtain⟨C1,g1⟩:=g.B_ hw ae;unfold WB.Eb;exact g1.fold (b:=1608) (fun W' a P0 C0 g hw hK=>⟨hw.yN a hn.2,g.yN hw hK a hn.2⟩) (List.range W.hs.length) (hw.B_ ae) Y30
theorem GJ.calm:∀(r:Nat) {kb:Nat} {W:Wo} {C0:Nat->Ho},GJ n W C0 T->dr c kb W->kb+10000*r<=1000000000000->∃C1,GJ n (calm r W) C1 T/\dr c (kb+10000*r) (calm r W)
 |0,_,_,C0,g,hw,_=>⟨C0,g,hw⟩
 |r+1,kb,W,C0,g,hw,hK=>by
  rw[Nat.mul_succ]at hK ⊢;have hz:∀z:Nat,kb+(z+10000)<=1000000000000->kb+10000<=1000000000000/\kb<=1000000000000/\kb+10000+z<=1000000000000/\kb+10000+z<=kb+(z+10000):=fun z h=>by omega
  obtain⟨hK1,hK2,hK3,hK4⟩:=hz _ hK;obtain⟨C1,g1⟩:=g.Eb hw hK1;have F0:=hw.Eb hK2;obtain⟨C2,g2,h2⟩:=GJ.calm r g1 F0 hK3;exact⟨C2,g2,h2.mono (aC _) hK4⟩
theorem GK(g:GJ n W C0 T){k:Nat}(hk:k<n)(i:Nat):((p6 W k).H i).az=if i=k/\(W.H k).down=true then List.replicate 5 ⟨[],[]⟩else(W.H i).az:=by
 have hn:=g.hn;unfold WB.p6;have u1:gd W (W.bX k (W.H k,cO (W.D k) (-1))):=gd.set rfl;split
 ·rename_i hd;by_cases e:i=k
  ·subst e;rw[if_pos ⟨rfl,hd⟩];exact((g.aaq hk (-1)).EV hk).2
  ·rw[if_neg (fun x=>e x.1)];unfold EV;rw[wS,if_neg (fun x=>e x.1)];exact u1 i
 ·rename_i hd;rw[if_neg (fun x=>hd x.2)];exact u1 i
end
structure AcK where
 cq:Int
 k:Int
 n:Int
 m:Int
 unit:Int
def ajU (x:AcK):List Value:=[.int .i64 x.cq,.int .i64 x.k,.int .i64 x.n,.int .i64 x.m,.int .i64 x.unit]
def iC (x:Int):List Value:=[.int .i64 x]
structure Hs where
 i:Nat
 bh:Nat
 H:Ho
 H0:Ho
 D:Dk
 R:List ak
 T:List Int
 us:List Value
 P:List (List Int)
 vs:List Value
 G:List (List Int)
structure aj8 (c:Nat) (s:Hs):Prop where
 L:afq TA 0 c s.H s.H0 s.D s.R s.T (fun u=>s.P.getD u []) (fun u=>s.G.getD u [])
 us:s.us.length=5
 P:s.P.length=5
 vs:s.vs.length=5
 G:s.G.length=5
def qOf (k:Nat):ak:=if k=0 then ML else FF
structure Dd where
 put:Bool
 m:Ms
 q:Nat
instance:Inhabited Dd:=⟨⟨false,default,0⟩⟩
structure Rh where
 id:Int
 names:List Nm
 keys:List ak
 all:List (List Ri)
 az:List (List Dd)
 count:Int
 Ee:Int
 qD:List (List Int)
 made:List Int
 aF:List Int
 used:Int
 down:Bool
 off:Bool
 left:Int
namespace Rh
def kI (R:Rh) (s:ak):Option Nat:=R.keys.findIdx? fun x=>decide (x=s)
def lq (R:Rh) (q:Nat):List Ri:=R.all.getD q []
def uq (R:Rh) (u:Nat):List Dd:=R.az.getD u []
def Q5 (R:Rh) (k:Nat):List Int:=R.qD.getD k []
def md (R:Rh) (k:Nat):Int:=R.made.getD k 0
def ar (R:Rh) (k:Nat):Int:=R.aF.getD k 0
def IY (R:Rh) (q:Nat) (l:List Ri):Rh:={R with all:=R.all.set q l}
end Rh
def LU (id:Int):Rh:=⟨id,[],[c_],List.replicate 5 [],List.replicate 5 [],0,0,List.replicate 4 [],List.replicate 4 0,List.replicate 4 0,0,false,false,0⟩
def Sm (R:Rh) (n:Int):Rh:={R with off:=decide (0<=n),left:=n}
def AR (R:Rh) (u:Nat):Rh:={R with all:=R.all.map (fun l=>Sy l (u:Int) true),az:=R.az.set u []}
def AS (R:Rh):Rh:={(List.range 5).foldl AR R with down:=false,count:=R.Ee}
def s7 (R:Rh):Int:=if R.down=true then 6 else if 300<=R.used then 4 else if R.off=true/\R.left=0 then 14 else 0
def Ku (R:Rh):Rh:=if R.down=true then R else if 300<=R.used then R else if R.off=true/\R.left=0 then {R with down:=true}else {R with left:=wrap64 (R.left-1),used:=R.used+1}
def HJ (R:Rh) (x:Nm):Int:=if tk R.names x≠0 then tk R.names x else if x.name=c_ then 5 else s7 R
def Yd (R:Rh) (s:ak):Rh:={R with keys:=R.keys++[s],all:=R.all++[[]]}
def X7 (R:Rh) (x:Nm):Rh:=
 let R1:={R with names:=My R.names x}
 if x.iQ=⟨#[]⟩/\R.kI x.name=none then Yd R1 x.name else R1
def LV (R:Rh) (x:Nm):Rh:=if tk R.names x≠0 then R else if x.name=c_ then R else if s7 R≠0 then Ku R else X7 (Ku R) x
def X6 (R:Rh) (s:ak):Int:=if lk R.names s=none then 7 else if s7 R≠0 then s7 R else PX R.names s
def acW (R:Rh) (s:ak):Rh:=if lk R.names s=none then R else if s7 R≠0 then Ku R else {Ku R with names:=q_ R.names s}
def LS (R:Rh) (s:ak):Option Nat:=if s=c_\/pR R.names s=true then(R.kI s).map (4+ ·)else none
def wZ (R:Rh) (s:ak):ak×Int×Int:=Yh R.names (R.names.length+1) [] s
def Pp (R:Rh) (s:ak):Int:=if(wZ R s).2.1<0 then R.id else(wZ R s).2.1
def HQ (R:Rh) (s:ak):Nat:=if Pp R s=R.id then 4+(R.kI (wZ R s).1).getD 0 else(Pp R s).toNat
def rhM (R:Rh) (s:ak) (pri:Int) (body:ak):Ms:=⟨R.count *4+R.id,pri,body,(wZ R s).1,Pp R s⟩
def Fx (R:Rh) (u:Int) (s:ak) (pri:Int) (body:ak):Int:=
 if ¬(0<=u/\u<=4)then 2 else if ¬(0<=pri/\pri<=9/\jN body=true)then 1 else if(wZ R s).2.2≠0 then(wZ R s).2.2
 else if Pp R s=R.id/\pR R.names (wZ R s).1=false then 7 else if R.down=true then 6 else Sj (R.lq (HQ R s)) (rhM R s pri body)
def X8 (R:Rh) (u:Int) (s:ak) (pri:Int) (body:ak):Rh:=
 if Fx R u s pri body≠0 then R else
 {R.IY (HQ R s) (CA (R.lq (HQ R s)) (rhM R s pri body) u)with count:=R.count+1,az:=R.az.set u.toNat (R.uq u.toNat++[⟨true,rhM R s pri body,HQ R s⟩])}
def TY (R:Rh) (u:Int) (s:ak) (pri:Int) (body:ak):Int:=if Fx R u s pri body≠0 then 0 else R.count *4+R.id
def LW (R:Rh) (u:Int) (s:ak):Int:=
 if ¬(0<=u/\u<=4)then 2 else match LS R s with
 |none=>7
 |some q=>if R.down=true then 6 else Ye (R.lq q)
def T2 (R:Rh) (u:Int) (s:ak):Ms:=if ¬(0<=u/\u<=4)then mm else match LS R s with
 |none=>mm
 |some q=>if R.down=true then mm else Sv (R.lq q)
def X9 (R:Rh) (u:Int) (s:ak):Rh:=if LW R u s≠0 then R else match LS R s with
 |none=>R
 |some q=>{R.IY q (ac0 (R.lq q) u)with az:=R.az.set u.toNat (R.uq u.toNat++[⟨false,Sv (R.lq q),q⟩])}
def HH (R:Rh) (d:Dd):Rh:=if d.put=true then {R.IY d.q (CA (R.lq d.q) d.m (-1))with Ee:=max R.Ee (d.m.id/4+1)}else R
def HG (R:Rh) (d:Dd):Rh:=if d.put=true then R else R.IY d.q (LN (R.lq d.q) d.m.id)
def T3 (R:Rh) (u:Int):Int:=if ¬(0<=u/\u<=4)then 2 else if R.uq u.toNat=[]then 8 else s7 R
def acX (R:Rh) (u:Nat):Rh:=let l:=R.uq u;l.foldl HG (l.foldl HH (AR R u))
def X_ (R:Rh) (u:Int):Rh:=if ¬(0<=u/\u<=4)then R else if R.uq u.toNat=[]then R else if s7 R≠0 then Ku R else
 (R.uq u.toNat).foldl HG ((R.uq u.toNat).foldl HH (AR (Ku R) u.toNat))
def Sq (R:Rh) (u:Int):Int:=if ¬(0<=u/\u<=4)then 2 else if R.uq u.toNat=[]then 8 else if R.down=true then 6 else 0
def acZ (R:Rh) (u:Int):Rh:=if Sq R u≠0 then R else AR R u.toNat
def LQ (R:Rh) (s:ak):Int:=match LS R s with|none=>7|some _=>0
def Pq (R:Rh) (s:ak):List Ms:=match LS R s with|none=>[]|some q=>AQ (R.lq q)
def r0 (R:Rh) (k:Int):Bool:=decide (0<=k)&&decide (k<=3)&&decide (k≠R.id)
def abF (R:Rh) (k:Int):Int:=if r0 R k=true then 0 else 2
def acV (R:Rh) (k:Int):List Ms:=if r0 R k=true then CD (R.lq k.toNat)else[]
def Pr (R:Rh) (k:Int):Bool:=r0 R k&& !R.down&&decide (R.Q5 k.toNat=[])&&decide (AQ (R.lq k.toNat)≠[])
def CF (R:Rh) (k:Int):Int:=if r0 R k=false then 2 else if R.down=true then 6 else if R.Q5 k.toNat≠[]then 0 else if AQ (R.lq k.toNat)=[]then 8 else s7 R
def LZ (R:Rh) (k:Int):Rh:=if Pr R k=false then R else if s7 R≠0 then Ku R else
 {Ku R with qD:=R.qD.set k.toNat (((AQ (R.lq k.toNat)).take 3).map (·.id)),made:=R.made.set k.toNat (R.md k.toNat+1)}
def afb (m:Ms) (ds:List Int):List Ms:=ds.flatMap fun i=>if m.id=i then[m]else[]
def Yc (R:Rh) (k:Int):List Ms:=(CD (R.lq k.toNat)).flatMap fun m=>afb m (R.Q5 k.toNat)
def Sp (R:Rh) (k:Int):Int:=if CF R k≠0 then 0 else(LZ R k).md k.toNat
def Sn (R:Rh) (k:Int):List Ms:=if CF R k≠0 then[]else Yc (LZ R k) k
def Ya (R:Rh) (k n:Int):Int:=if r0 R k=false then 2 else if R.down=true then 6 else if R.Q5 k.toNat=[]\/n≠R.md k.toNat then 8 else s7 R
def Yb (R:Rh) (k n:Int):Rh:=if r0 R k=false then R else if R.down=true then R else if R.Q5 k.toNat=[]\/n≠R.md k.toNat then R else if s7 R≠0 then Ku R else
 {(Ku R).IY k.toNat ((R.Q5 k.toNat).foldl LN (R.lq k.toNat))with qD:=R.qD.set k.toNat []}
def Sr (R:Rh) (m:Ms):Bool:= !bG m|| !decide (m.b9=R.id)||decide (m.id%4=R.id)
def LR (R:Rh) (i:Int):Bool:=(R.all.drop 4).any fun l=>l.any fun e=>decide (e.m.id=i)
def Fk:List Int->(Int->Bool)->Bool
 |[],_=>false
 |i::r,p=>p i||Fk r (fun j=>p j||decide (j=i))
def LY (R:Rh) (m:Ms):Nat:=if pR R.names m.queue=true/\((R.lq (4+(R.kI m.queue).getD 0)).length<20)then 4+(R.kI m.queue).getD 0 else 4+(R.kI c_).getD 0
def HU (R:Rh) (m:Ms):Rh:=R.IY (LY R m) (CA (R.lq (LY R m)) m (-1))
def Ps (R:Rh) (k n:Int):Bool:=r0 R k&& !R.down&&decide (n=R.ar k.toNat+1)
def L0 (R:Rh) (k n:Int) (l:List Ms):Int:=if r0 R k=false then 2 else if R.down=true then 6 else if n<=R.ar k.toNat then 0 else if R.ar k.toNat+1<n then 10
 else if l.any (Sr R)=true then 1 else if Fk (l.map (·.id)) (LR R)=true then 9 else s7 R
def T4 (R:Rh) (k n:Int) (l:List Ms):Bool:=Ps R k n&& !l.any (Sr R)&& !Fk (l.map (·.id)) (LR R)
def T5 (R:Rh) (k n:Int) (l:List Ms):Rh:=if T4 R k n l=false then R else if s7 R≠0 then Ku R else l.foldl HU {Ku R with aF:=R.aF.set k.toNat (R.ar k.toNat+1)}
def Ss (R:Rh) (k n:Int) (l:List Ms):Int:=if L0 R k n l≠0 then 0 else if n<=R.ar k.toNat then R.ar k.toNat else R.ar k.toNat+1
def ahC (ks:List ak) (ps:List Nat):List (ak×Value):=List.zipWith (fun k p=>(k,Value.pointer (some ⟨p,0,none⟩))) ks ps
def ddC (ps:List Nat) (d:Dd):List Value:=.bool d.put::(dN d.m++[.pointer (some ⟨ps.getD d.q 0,0,none⟩)])
structure RhV where
 nv:Value
 mb:Nat
 ps:List Nat
 us:List Value
 ds:List Value
structure aj4 (V:RhV) (R:Rh):Prop where
 ps:V.ps.length=R.all.length
 al:R.all.length=4+R.keys.length
 us:V.us.length=5
 un:R.az.length=5
 ds:V.ds.length=4
 db:R.qD.length=4
 md:R.made.length=4
 ar:R.aF.length=4
 dq:∀l∈R.az,∀d∈l,d.q<R.all.length
def rhC (V:RhV) (R:Rh):List Value:=
 [.int .i64 R.id,V.nv,.map (some V.mb)]++((V.ps.take 4).map (fun p=>Value.pointer (some ⟨p,0,none⟩))++(V.us++([.int .i64 R.count,.int .i64 R.Ee]++(V.ds++(R.made.map (Value.int .i64)++(R.aF.map (Value.int .i64)++[.int .i64 R.used,.bool R.down,.bool R.off,.int .i64 R.left]))))))
section
variable {V:RhV} {R:Rh}
end
structure RhB (n:Nat) (R:Rh):Prop where
 id:0<=R.id/\R.id<=3
 kr:R.names.length<=20
 right:∀x∈R.names,bW x=true
 al:R.all.length=4+R.keys.length
 ahy:R.keys.length<=1000
 nodup:R.keys.Nodup
 dead:∃i,R.kI c_=some i
 loc:∀s,pR R.names s=true->∃i,R.kI s=some i
 len:∀l∈R.all,l.length<=n
 ids:∀l∈R.all,∀e∈l,0<=e.m.id/\e.m.id<=1099511627776
 un:R.az.length=5
 ahg:∀l∈R.az,l.length<=n
 dq:∀l∈R.az,∀d∈l,d.q<R.all.length/\0<=d.m.id/\d.m.id<=1099511627776
 count:0<=R.count/\R.count<=274877906945
 Ee:0<=R.Ee/\R.Ee<=274877906945
 db:R.qD.length=4
 ajE:∀l∈R.qD,l.length<=3
 md:R.made.length=4/\∀x∈R.made,0<=x/\x<=(n:Int)
 ar:R.aF.length=4/\∀x∈R.aF,0<=x/\x<=(n:Int)
 used:0<=R.used/\R.used<=300
 left: -9223372036854775808<=R.left/\R.left<=9223372036854775807
def afD {α:Type} [Inhabited α] (f:α->α) (l:List α) (js:List Nat):List α:=js.foldl (fun l j=>l.set j (f (l.getD j default))) l
section
variable {α:Type} [Inhabited α] {f:α->α}
end
section
variable {n:Nat} {R:Rh}
end
section
variable {P:Program} {ops:Array Oper} {d:Bool} {Q:Exit->Act->World->Prop} {n:Nat} {D:List Deferred} {w0:World} {G:Env} {L R:List HP} {l:List (Kd×Oper)} {k:Kd}
 {t:Nat} {ty T T':TypeId} {pos:String} {af:Array Edge} {x y:Operand} {a c:Int}
end
def nRC (id:Int) (mb:Nat) (k:List Nat):List Value:=
 [.int .i64 id,.slice none 0 0,.map (some mb)]++((k.map (fun p=>Value.pointer (some ⟨p,0,none⟩))++List.replicate (4-k.length) (.pointer none))++(List.replicate 5 (.slice none 0 0)++([.int .i64 0,.int .i64 0]++(List.replicate 4 (.slice none 0 0)++(List.replicate 4 (.int .i64 0)++(List.replicate 4 (.int .i64 0)++[.int .i64 0,.bool false,.bool false,.int .i64 0]))))))
theorem Ul{l:List Nm}{s:ak}{x:Nm}(h:lk l s=some x):x∈l/\x.name=s:=by
 unfold lk at h;exact⟨List.mem_of_find?_eq_some h,by simpa using List.find?_some h⟩
section
variable {n:Nat} {R:Rh}
end
theorem LD{a b:List ak}(h:a.Perm b):dZ a=dZ b:=by
 unfold dZ;congr 1;have tr:∀x y z:List UInt8,decide (x<=y)=true->decide (y<=z)=true->decide (x<=z)=true:=fun x y z h1 h2=>by
  simp only[decide_eq_true_eq]at *;exact List.le_trans h1 h2
 have to':∀x y:List UInt8,(decide (x<=y)||decide (y<=x))=true:=fun x y=>by
  simp only[Bool.or_eq_true,decide_eq_true_eq];exact List.le_total x y
 have p:((a.map (·.data.toList)).mergeSort fun x y=>decide (x<=y)).Perm ((b.map (·.data.toList)).mergeSort fun x y=>decide (x<=y)):=
  (List.mergeSort_perm _ _).trans ((h.map _).trans (List.mergeSort_perm _ _).symm)
 refine List.Perm.eq_of_pairwise ?_ (List.pairwise_mergeSort tr to' _) (List.pairwise_mergeSort tr to' _) p;intro x y _ _ h1 h2;simp only[decide_eq_true_eq]at h1 h2;exact List.le_antisymm h1 h2
def Po (R:Rh) (s:ak):List Ms:=match R.kI s with|some i=>CD (R.lq (4+i))|none=>[]
def Fy (R:Rh):List Ms:=(dZ R.keys).flatMap (Po R)
def ahx (p:Int->Bool) (m:List (Int×Value)):Prop:= ∀i,(gC m i).getD (.bool false)=.bool (p i)
def afE (R:Rh) (done:List Nat) (i:Int):Bool:=done.any fun r=>(R.lq (4+r)).any fun e=>decide (e.m.id=i)
structure Ac where
 cq:Int
 k:Int
 n:Int
 m:Int
 nm:Nm
 body:ak
 list:List Ms
def acC (x:Ac) (lv:Value):List Value:=[.int .i64 x.cq,.int .i64 x.k,.int .i64 x.n,.int .i64 x.m,.string x.nm.name,.string x.nm.iQ,.int .i64 x.nm.b9,.string x.body,lv]
def TK (m:Ms):Bool:=decide (m.body.size<=60)&&decide (m.queue.size<=60)
def Pf (l:List Ms):Bool:=decide (l.length<=60)&&l.all TK
def aeU (x:Ac):Bool:=decide (x.nm.name.size<=60)&&(decide (x.nm.iQ.size<=60)&&(decide (x.body.size<=60)&&(Pf x.list&&decide (x.list.length<=6))))
def dsB (H:Ho) (D:Dk) (R:Rh) (x:Ac):Bool:=
 if x.cq=0 then decide (jL H D x.nm=HJ R x.nm)
 else if x.cq=1 then decide (Sc H D x.nm.name=X6 R x.nm.name)
 else if x.cq=2 then decide (ic H x.n x.nm.name x.m x.body=Fx R x.n x.nm.name x.m x.body)&&decide (u4 H x.n x.nm.name x.m x.body=TY R x.n x.nm.name x.m x.body)
 else if x.cq=3 then decide (gm H x.n x.nm.name=LW R x.n x.nm.name)&&decide (getM H x.n x.nm.name=T2 R x.n x.nm.name)
 else if x.cq=4 then decide (vq H D x.n=T3 R x.n)
 else if x.cq=5 then decide (wq H x.n=Sq R x.n)
 else if x.cq=7 then decide (caE H D x.n x.m=Ya R x.n x.m)
 else if x.cq=8 then decide (Kh H D x.n x.m x.list=L0 R x.n x.m x.list)&&decide (vu H D x.n x.m x.list=Ss R x.n x.m x.list)
 else true
def Xv (H:Ho) (D:Dk) (x:Ac):Ho:=
 if x.cq=0 then gL H D x.nm else if x.cq=1 then IT H D x.nm.name
 else if x.cq=2 then jt H x.n x.nm.name x.m x.body else if x.cq=3 then iE H x.n x.nm.name
 else if x.cq=4 then p5 H D x.n else if x.cq=5 then uQ H x.n else if x.cq=7 then E7 H D x.n x.m
 else if x.cq=8 then sQ H D x.n x.m x.list else H
def dsD (H:Ho) (D:Dk) (x:Ac):Dk:=
 if x.cq=0 then jb H D x.nm else if x.cq=1 then Lr H D x.nm.name
 else if x.cq=4 then t_ H D x.n else if x.cq=7 then KW H D x.n x.m
 else if x.cq=8 then y0 H D x.n x.m x.list else D
def dsR (R:Rh) (x:Ac):Rh:=
 if x.cq=0 then LV R x.nm else if x.cq=1 then acW R x.nm.name
 else if x.cq=2 then X8 R x.n x.nm.name x.m x.body else if x.cq=3 then X9 R x.n x.nm.name
 else if x.cq=4 then X_ R x.n else if x.cq=5 then acZ R x.n else if x.cq=7 then Yb R x.n x.m
 else if x.cq=8 then T5 R x.n x.m x.list else R
structure Alk (H:Ho) (R:Rh) (s:ak):Prop where
 te:gh H s=LQ R s
 tl:jP H s=Pq R s
 kl:(Fy R).length<1000000000
 kp:(dZ (H.aE.map (·.1))).flatMap (gN H)=Fy R
 us:((H.used:Nat):Int)=R.used
 dn:H.down=R.down
 nm:nK H.names R.names
 id:H.id=R.id
 wl:∀j:Nat,j<4->(j:Int)≠R.id->cM (H.hF j)=CD (R.lq j)
 db:∀j:Nat,j<4->bR H j=R.Q5 j/\(R.Q5 j≠[]->da H j=R.md j)/\cT H j=R.ar j
structure ahb (I:Nat->Nat->Int->Ho->Dk->Rh->Prop):Prop where
 start:∀{id:Int},0<=id/\id<4->I 0 0 id (gy id lR) lR (LU id)
 bound:∀{i j id H D R},I i j id H D R->i<=100->j<=300->cE 79000 H/\(∀y∈H.az,ga y)/\Hn D/\(-4000000000000000000<=D.left/\D.left<=9223372036854775807)/\H.aE.length<=1000/\RhB 79000 R
 alk:∀{i j id H D R},I i j id H D R->i<=100->j<=300->∀s,Alk H R s
 name:∀{j id H D R},I 0 j id H D R->j<300->∀x,jL H D x=HJ R x/\I 0 (j+1) id (gL H D x) (jb H D x) (LV R x)
 act:∀{i j id H D R},I i j id H D R->i<100->j<=300->∀x,aeU x=true->x.cq≠6->x.cq≠9->x.cq≠10->dsB H D R x=true/\I (i+1) j id (Xv H D x) (dsD H D x) (dsR R x)
 batch:∀{i j id H D R},I i j id H D R->i<100->j<=300->∀k,vt H D k=CF R k/\K0 H D k=Sp R k/\Bu H D k=Sn R k/\I (i+1) j id (ov H D k) (wm H D k) (LZ R k)
 cut:∀{i j id H D R},I i j id H D R->∀n m,(-9223372036854775808<=n/\n<=9223372036854775807)->I (i+1) j id {H with c6:=m} (cO D n) (Sm R n)
 opened:∀{i j id H D R},I i j id H D R->i<100->j<=300->I (i+1) j id (gy id D) D (AS R)
 afQ:∀{i j id H D R},I i j id H D R->i<100->j<=300->I (i+1) j id (gy id (cO D (-1))) (cO D (-1)) (AS {R with off:=false})
def cln (l:List Ri):List Ri:=(l.filter fun e=>decide (e.put<0)).map fun e=>⟨e.m,-1,-1⟩
def RgE (e:Ri):Prop:=(-1<=e.put/\e.put<5)/\ -1<=e.j9/\e.j9<5
def afI (l:List Ri):List Ri:=(List.range 5).foldl (fun l (u:Nat)=>Sy l (u:Int) true) l
def afP (A:List (List Ri)) (l:List (Ms×Nat)):List (List Ri):=l.foldl (fun A d=>A.set d.2 (CA (A.getD d.2 []) d.1 (-1))) A
def afB (A:List (List Ri)) (l:List (Int×Nat)):List (List Ri):=l.foldl (fun A g=>A.set g.2 (LN (A.getD g.2 []) g.1)) A
structure QA (L:List Qu) (A:List (List Ri)):Prop where
 len:L.length=A.length
 rel:∀(j:Nat) q l,L[j]? =some q->A[j]? =some l->∃n,afo n q l
section
variable {n:Nat} {H H1:Ho} {A:List (List Ri)}
end
structure UR (H:Ho) (x:rL) (ds:List Dd):Prop where
 aU:x.aU.map (fun p=>(p.1,pc H p.1))=(ds.filter (·.put)).map fun d=>(d.m,d.q)
 bj:x.bj.map (fun g=>(g.1,(H.qI g.2).map (4+ ·)))=(ds.filter fun d=> !d.put).map fun d=>(d.m.id,some d.q)
structure HR (H:Ho) (R:Rh) (H0:Ho):Prop where
 id:H.id=R.id
 nm:nK H.names R.names
 nd:∀x∈R.names,x.name≠c_
 ky:bN H=R.keys
 qa:QA H.all R.all
 q0:QA H0.all (R.all.map cln)
 nx:H.next=R.count
 n0:H0.next=R.Ee
 bt:H.batch=R.qD
 dn:∀l∈R.qD,l.Nodup/\l.length<=3
 sn:H.bU=R.made
 av:H.aF=R.aF
 us:((H.used:Nat):Int)=R.used
 dw:H.down=R.down
 rg:∀l∈R.all,∀e∈l,RgE e
 un:R.az.length=5
 ur:∀u,u<5->UR H (H.iJ u) (R.uq u)
structure DR (D:Dk) (R:Rh):Prop where
 cut:D.cut=R.off
 left:R.off=true->D.left=R.left/\0<=R.left
 rl: -9223372036854775808<=R.left/\R.left<=9223372036854775807
section
variable {c kb k n:Nat} {H H0:Ho} {D:Dk} {R:Rh}
theorem O5(l:List Qu):vw (l++[⟨[],0⟩])=vw l:=by
 unfold vw;rw[List.zipIdx_append,List.flatMap_append];simp[JW]
theorem sl{x:Nm}(h:cu H.names x=0):eP H x={H with names:=d_ H.names x,aE:=if x.iQ=⟨#[]⟩/\H.qI x.name=none then H.aE++[(x.name,⟨[],0⟩)]else H.aE}:=by
 unfold eP;rw[if_pos h]
theorem A6{x:Nm}(h:cu H.names x=0):hv (eP H x)=hv H:=by
 rw[sl h];unfold hv Ho.all;dsimp only;split
 ·rw[bu,<-aK];exact O5 _
 ·rfl
theorem Qd{x:Nm}(h:cu H.names x=0){s:ak}{i:Nat}(hi:H.qI s=some i):(eP H x).qI s=some i:=by
 rw[sl h];by_cases hc:x.iQ=⟨#[]⟩/\H.qI x.name=none
 ·rw[if_pos hc];exact HW hi
 ·rw[if_neg hc];exact hi
theorem Jy{x:Nm}(h:cu H.names x=0){H':Ho}(h':cu H'.names x=0)(hk:bN H'=bN H):bN (eP H' x)=bN (eP H x):=by
 rw[sl h,sl h'];unfold bN at *;dsimp only;rw[show H'.qI x.name=H.qI x.name from cy (H:=H) (H':=H') hk x.name];split
 ·rw[bu,bu,hk]
 ·exact hk
theorem UJ.ext{u:Nat}{x:rL}(h:UJ H u x){H':Ho}(hq:∀s i,H.qI s=some i->H'.qI s=some i)(hi:H'.id=H.id)(hh:hv H'=hv H):UJ H' u x:=by
 refine⟨fun p hp=>?_,h.pn,fun g hg=>?_,h.gn⟩
 ·obtain⟨a,b,e,he,r1,r2⟩:=h.aU p hp;refine⟨fun h1=>?_,by rw[hi];exact b,e,by rw[hh];exact he,?_,r2⟩
  ·obtain⟨i,h2⟩:=a (by rw[h1,hi]);exact⟨i,hq _ _ h2⟩
  ·rw[r1];unfold pc;rw[hi];by_cases e1:p.1.b9≠H.id
   ·rw[if_pos e1,if_pos e1]
   ·rw[if_neg e1,if_neg e1];obtain⟨i,h2⟩:=a (by simpa using e1);rw[h2,hq _ _ h2]
 ·obtain⟨i,a,b⟩:=h.bj g hg;exact⟨i,hq _ _ a,by rw[hh];exact b⟩
theorem o_{x:Nm}(h:jL H D x=0):fC H x=0/\ep H D=0/\cu H.names x=0/\x.name≠c_:=by
 unfold jL at h;by_cases h1:fC H x≠0
 ·rw[if_pos h1]at h;exact absurd h h1
 ·rw[if_neg h1]at h;have h1:fC H x=0:=by simpa using h1
  refine⟨h1,h,?_⟩;unfold fC at h1;by_cases h2:cu H.names x≠0
  ·rw[if_pos h2]at h1;exact absurd h1 h2
  ·rw[if_neg h2]at h1;refine⟨by simpa using h2,fun e=>?_⟩;rw[if_pos e]at h1;cases h1
theorem Ml{x:Nm}(h:jL H D x=0):gL H D x=eP {H with used:=H.used+1} x/\jb H D x=ig H D (jK x):=by
 obtain⟨h1,h2,h3,-⟩:=o_ h;obtain⟨eL,-,-,-⟩:=fS h2 (jK x);have h1':¬fC H x≠0:=by simpa using h1
 unfold gL jb oU;rw[if_neg h1',if_neg h1',if_pos h2,eL,uG (H:={H with used:=H.used+1}) h3];exact⟨rfl,rfl⟩
theorem HI.ac5(h:HI k H D H0)(h2:ep H D=0){s:ak}(hs:s.size<=700000)(hb:n_ 124 s)(kZ:eX 250 s){H3:Ho}(hp:bO H0 s=(H3,true)):
 (∃R,jF (ig H D s) R/\lX (eo k) R {H3 with used:=H0.used+1}/\H.used+1=R.length)/\gy (k:Int) (ig H D s)={H3 with used:=H0.used+1}:=by
 obtain⟨R,r1,r2,r3⟩:=h.Sz;obtain⟨-,eD,hu,ho⟩:=fS h2 s;have d:=r1.ZR (c6:=H.c6) hs hb kZ ho (by rw[<-r3];exact hu);have p:=r2.snoc hp;rw[eD,r3];exact⟨⟨_,d,p,by simp⟩,qW d p⟩
theorem s8{x:Nm}(h:cu H.names x=0):eX 250 (jK x)/\n_ 124 (jK x)/\(jK x).size<=700000:=by
 have h1:=kV h;have h2:=w9 h1;exact⟨h2.mono ai,NU h1,by have :=h2.size;omega⟩
theorem HI.name(h:HI k H D H0){x:Nm}(he:jL H D x=0):HI k (gL H D x) (jb H D x) {eP H0 x with used:=H0.used+1}:=by
 obtain⟨h1,h2,h3,h4⟩:=o_ he;obtain⟨e1,e2⟩:=Ml he;have Xt:cu H0.names x=0:=by rw[h.names];exact h3
 obtain⟨q1,q2,q3⟩:=s8 h3;obtain⟨i,hi⟩:=h.dead;have pU:hv (eP {H with used:=H.used+1} x)=hv H:=A6 (H:={H with used:=H.used+1}) h3;have Kz:hv (eP H0 x)=hv H0:=A6 Xt;have s1:=pV {H with used:=H.used+1} x;have s0:=pV H0 x;have hn:∀{H:Ho},(eP H x).next=H.next:=fun {H}=>by unfold eP;split<;>rfl
 have E4:∀{H:Ho},cu H.names x=0->(eP H x).names=d_ H.names x:=fun {H} hh=>by rw[sl hh]
 have hqI:∀s i,H.qI s=some i->(eP {H with used:=H.used+1} x).qI s=some i:=fun s i hi=>Qd (H:={H with used:=H.used+1}) h3 hi
 rw[e1,e2];refine⟨s1.id.trans h.hid,?_,?_,?_,s0.batch.trans (h.bt.trans s1.batch.symm),s0.bU.trans (h.sn.trans s1.bU.symm),s0.aF.trans (h.av.trans s1.aF.symm),⟨i,hqI _ _ hi⟩,fun e he=>h.nq e (Kz▸he),?_,?_,fun e he=>h.wy e (pU▸he),fun e he=>?_,fun e he=>?_,?_,fun u y hy=>?_,fun d j hj=>?_⟩
 ·rw[s1.used];exact(h.ac5 h2 q3 q2 q1 (uG Xt)).1
 ·show(eP H0 x).names=_
  rw[E4 Xt,E4 (H:={H with used:=H.used+1}) h3,h.names]
 ·exact Jy (H:={H with used:=H.used+1}) h3 Xt h.keys
 ·have :hk (eP {H with used:=H.used+1} x)=hk H:=by unfold hk;rw[pU]
  rw[this]
  show(hk H).Perm ((hv (eP H0 x)).map oM)
  rw[Kz];exact h.uX
 ·rw[pU];exact h.oD
 ·rw[pU]at he;rw[hn];exact h.lt e he
 ·have he:e∈hv (eP H0 x):=he;rw[Kz]at he
  show _->_<(eP H0 x).next
  rw[hn];exact h.Jj e he
 ·show(eP H0 x).next<=_
  rw[hn,hn];exact h.nx
 ·have :H.az[u]? =some y:=by rw[<-hy,s1.az]
  exact(h.unit u y this).ext hqI s1.id pU
 ·have e5:bR (eP {H with used:=H.used+1} x) d=bR H d:=by unfold bR;rw[s1.batch]
  rw[e5]at hj;obtain⟨y,a,b⟩:=h.bin d j hj;exact⟨y,by unfold hk;rw[pU];exact a,b⟩
theorem HI.Ys(h:HI k H D H0){x:Nm}(he:jL H D x≠0):HI k (gL H D x) (jb H D x) H0:=by
 unfold jL at he;unfold gL jb;by_cases h1:fC H x≠0
 ·rw[if_pos h1,if_pos h1];exact h
 ·rw[if_neg h1]at he;rw[if_neg h1,if_neg h1];unfold oU;rw[if_neg he];have h2:cu H.names x=0:=by
   unfold fC at h1;by_cases h2:cu H.names x≠0
   ·rw[if_pos h2]at h1;exact absurd h2 h1
   ·simpa using h2
  obtain⟨q1,q2,q3⟩:=s8 h2;exact h.fail q3 q2 he
theorem Hr{l:List Nm}{s:ak}(hr:∀x∈l,bW x=true)(h:l.any (fun x=>decide (x.name=s))=true):cS s=true:=by
 rw[List.any_eq_true]at h;obtain⟨x,hx,e⟩:=h;rw[decide_eq_true_eq]at e;rw[<-e];exact(eJ (hr x hx)).1
theorem IS(hs:du H.names){s:ak}(h:nQ H s=0):mg H.names s=0:=by
 unfold nQ at h;split at h
 ·rename_i h1;rw[List.any_eq_true]at h1;obtain⟨x,hx,e⟩:=h1;rw[decide_eq_true_eq]at e;have :lk H.names s=some x:=by rw[<-e];exact rh (kT hs) hx
  rw[<-jd hs]at this;unfold mg;cases hh:eW H.names s (bF H.names s)with
  |true=>rfl
  |false=>rw[(sf _ _).2 hh]at this;cases this
 ·cases h
theorem uI(hs:du H.names){s:ak}(h:nQ H s=0):bO H (r4 s)=(nn H s,true):=by
 unfold bO r4;rw[kW ai];dsimp only;rw[if_neg ai,if_pos rfl];unfold tJ;rw[IS hs h];rfl
theorem HV{s:ak}(h:cS s=true):eX 250 (r4 s)/\n_ 124 (r4 s)/\(r4 s).size<=700000:=by
 have h1:=(iO h).2;have h2:eX 1 (r4 s):=l5 ai ai ai ae;exact⟨h2.mono ai,dp (dp (dH ai) (dH ai)) (rP ai h),by have :=h2.size;omega⟩
end
end WB
