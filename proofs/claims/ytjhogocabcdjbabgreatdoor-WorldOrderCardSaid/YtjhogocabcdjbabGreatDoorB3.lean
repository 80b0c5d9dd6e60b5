import Derived.Shelf.SlSortFuncK.WholeK
import Derived.Shelf.GgSortFunc.Tiny
import Derived.Lib.AppendIntMem
import Derived.Sort.EncStr
import Derived.Test.YtjhogocabcdjbabGreatDoorB2
set_option linter.unusedSimpArgs false
set_option linter.unusedVariables false
set_option maxRecDepth 100000
set_option maxHeartbeats 8000000
namespace Go.Proofs.YtjhogocabcdjbabGreatDoor
open Tryz
open Go Go.RowKit WB
theorem Cu{w0 w:World}{bh bd:Nat}{H:Ho}{L:List HP}{V:tZ}(hV:jw V H){cs:List Value}{nv:Value}{l:List Nm}{m:List (ak×Value)}{mb:Nat}{ps:List Nat}{a:List Qu}{p1 p2 bs:List Value}{u1:List (List (Ms×Int))}{u2:List (List (Int×ak))}{ba:List (List Int)}(h:St w0 (bP bh (.cells cs.toArray 133 (0,0))::lQ nv l::cg Value.string mb m::cr jz ps a::cr dj p1 u1::cr dh p2 u2::cr dX bs ba::L) w)(e1:cs=fv bd V H)(e2:nv=V.nv)(e3:l=H.names)(e4:m=dJ V H)(e5:mb=V.mb)(e6:ps=V.ps)(e7:a=H.all)(e8:p1=V.us.map (·.1))(e9:u1=H.aB.map (·.aM))(e10:p2=V.us.map (·.2))(e11:u2=H.aB.map (·.bu))(e12:bs=V.bs)(e13:ba=H.batch):
 St w0 (dL bh bd H::L) w:=by
 subst e1 e2 e3 e4 e5 e6 e7 e8 e9 e10 e11 e12 e13
 exact cn V hV h
theorem flat_get:∀(us:List (Value×Value)) (u:Nat) (p:Value×Value),us[u]? =some p->(us.flatMap (fun p=>[p.1,p.2]))[2*u]? =some p.1/\(us.flatMap (fun p=>[p.1,p.2]))[2*u+1]? =some p.2
 |[],_,_,h=>by simp at h
 |a::us,0,p,h=>by simp at h;subst h;exact⟨rfl,rfl⟩
 |a::us,u+1,p,h=>by
  have ih:=flat_get us u p HV
  rw[aR,show 2*(u+1)=2*u+2 by omega]
  exact⟨ih.1,ih.2⟩
theorem As:∀(us:List (Value×Value)) (u:Nat) (p:Value×Value) (v:Value),us[u]? =some p->(us.flatMap (fun p=>[p.1,p.2])).set (2*u) v=(us.set u (v,p.2)).flatMap (fun p=>[p.1,p.2])/\(us.flatMap (fun p=>[p.1,p.2])).set (2*u+1) v=(us.set u (p.1,v)).flatMap (fun p=>[p.1,p.2])
 |[],_,_,_,h=>by simp at h
 |a::us,0,p,v,h=>by simp at h;subst h;exact⟨rfl,rfl⟩
 |a::us,u+1,p,v,h=>by
  have ih:=As us u p v HV
  rw[aR,show 2*(u+1)=2*u+2 by omega,List.set_cons_succ,List.set_cons_succ,aR,aR,<-ih.1,<-ih.2]
  exact⟨rfl,rfl⟩
theorem oT{bd:Nat}{V:tZ}{H:Ho}(hV:jw V H){u:Nat}{p:Value×Value}(hp:V.us[u]? =some p):
 (fv bd V H)[12+2*u]? =some p.1/\(fv bd V H)[13+2*u]? =some p.2/\(∀v,(fv bd V H).set (12+2*u) v=fv bd {V with us:=V.us.set u (v,p.2)} H)/\(∀v,(fv bd V H).set (13+2*u) v=fv bd {V with us:=V.us.set u (p.1,v)} H):=by
 have qB:=hV.ps
 have hu:=(au.1 hp).1
 have Xu:(([.int .i64 H.id,bA bd,.int .i64 (H.used:Nat),.bool H.down,.int .i64 H.dz,.int .i64 H.next,V.nv,.map (some V.mb)]:List Value)++(V.ps.take 4).map bA).length=12:=by simp[qB]
 have Nc:=lD V.us
 obtain⟨g1,g2⟩:=flat_get V.us u p hp
 have s1:=fun v=>(As V.us u p v hp).1
 have s2:=fun v=>(As V.us u p v hp).2
 simp only[Cv]
 generalize ([.int .i64 H.id,bA bd,.int .i64 (H.used:Nat),.bool H.down,.int .i64 H.dz,.int .i64 H.next,V.nv,.map (some V.mb)]:List Value)++(V.ps.take 4).map bA=A at Xu
 refine⟨?_,?_,fun v=>?_,fun v=>?_⟩
 ·rw[bf ae,Xu,show 12+2*u-12=2*u by omega,List.getElem?_append_left ae,g1]
 ·rw[bf ae,Xu,show 13+2*u-12=2*u+1 by omega,List.getElem?_append_left ae,g2]
 ·rw[List.set_append_right _ _ ae,Xu,show 12+2*u-12=2*u by omega,List.set_append_left _ _ ae,s1]
 ·rw[List.set_append_right _ _ ae,Xu,show 13+2*u-12=2*u+1 by omega,List.set_append_left _ _ ae,s2]
def Sf (V:tZ) (H:Ho) (s:ak):Value:=if(jU H s).2.2≠0 then .pointer none else match V.ps[mY H s]? with
 |some p=>bA p
 |none=>.pointer none
theorem Se(w0:World)(L:List HP)(bh bd n:Nat)(V:tZ)(H:Ho)(s:ak)(hV:jw V H)(hB:cK n H):
 KC prog 55 #[bA bh,.string s] w0 (Bj bh bd V H L) (fun u M=>u=.tuple #[Sf V H s,.string (jU H s).1,.int .i64 (jU H s).2.1,cS 70 (jU H s).2.2]/\M=Bj bh bd V H L):=by
 have nL:=hB.oq
 have Bh:=hB.sorted
 have qB:=hV.ps
 have dS:=zL hB (s:=s)
 have fin:∀(a:Value) (b:ak) (c d:Int),Sf V H s=a->jU H s=(b,c,d)->(Value.tuple #[a,.string b,.int .i64 c,cS 70 d])=.tuple #[Sf V H s,.string (jU H s).1,.int .i64 (jU H s).2.1,cS 70 (jU H s).2.2]:=fun a b c d h1 h2=>by rw[h1,h2]
 refine KC.mk (n:=54) func55 rfl ntmps55 aj ?_
 refine Z3 ?_
 refine nQ ?_
 refine Z7 ?_
 refine xC ?_
 refine Es ?_
 refine Z1 ?_
 refine KO.ce (cp:=[]) rfl rfl rfl call144 rfl (LB w0 _ _ _ bh 6 (fv bd V H) 133 V.nv H.names s bZ bZ rfl ae Bh) ?_;rintro v' L' ⟨rfl,rfl⟩
 refine G3 ?_
 refine tK ?_
 refine nQ ?_
 refine Z7 ?_
 refine Qe ?_
 obtain⟨⟨t,k,e⟩,hr⟩:∃r,gB H.names (H.names.length+1) s=r:=⟨_,rfl⟩
 have Bi:jU H s=(if e≠0 then(⟨#[]⟩,0,e)else if k<0\/k=H.id then if fq H.names t=false then(⟨#[]⟩,0,7)else(t,-1,0)else(t,k,0)):=by unfold jU;rw[hr]
 rw[hr]
 refine Z8 ?_
 refine A4 ?_
 refine sx ?_
 refine K.bz rfl (fun h=>?_) (fun h=>?_)
 ·rw[if_pos h]at Bi
  refine jI ?_
  refine nQ ?_
  refine Z7 ?_
  refine lT ?_
  refine KQ.R6 rfl rfl rfl rfl rfl (fun w' aX=>⟨_,_,rfl,⟨fin _ _ _ _ ?_ Bi,rfl⟩,aX⟩)
  unfold Sf;rw[Bi,if_pos h]
 rw[if_neg h]at Bi
 have Kr:e=0:=by simpa using h
 subst Kr
 refine qq ?_
 refine K.cut (fun _:Unit=>[(0,bA bh),(5,.string t),(6,.int .i64 k),(21,.bool (decide (k<0\/k=H.id)))]) (fun _=>Bj bh bd V H L) (fun _=>True) ?_ ?_
 ·by_cases wJ:k<0
  ·refine yI ?_
   refine G8 ?_
   refine sO ?_
   refine xF ?_
   exact KQ.tf () trivial ⟨rfl,rfl,rfl,by simp[wJ,c_],trivial⟩ (fun w' aX=>aX)
  ·refine JG ?_
   refine A1 ?_
   refine Jr ?_
   refine Hm ?_
   refine KO.on rfl rfl QA ?_;refine KO.dB (i:=0) rfl rfl isAgg3 bZ rfl rfl rfl ?_
   refine lL ?_
   refine D_ ?_
   refine x8 ?_
   refine xF ?_
   exact KQ.tf () trivial ⟨rfl,rfl,rfl,by simp[wJ,c_],trivial⟩ (fun w' aX=>aX)
 rintro⟨⟩-
 refine K.bz rfl (fun hk=>?_) (fun hk=>?_)
 ·rw[if_pos hk]at Bi
  refine Z3 ?_
  refine mA ?_
  refine Es ?_
  refine Z1 ?_
  refine KO.ce (cp:=[]) rfl rfl rfl call57 rfl (uO w0 _ _ _ bh 6 (fv bd V H) 133 V.nv H.names t bZ bZ rfl ae Bh) ?_;rintro v' L' ⟨rfl,rfl⟩
  refine qp ?_
  refine Z2 ?_
  cases aa2:fq H.names t with
  |false=>
   rw[aa2]at Bi
   rw[if_pos rfl]at Bi
   refine xo ?_
   refine Nl ?_
   refine nQ ?_
   refine lT ?_
   refine KQ.R6 rfl rfl rfl rfl rfl (fun w' aX=>⟨_,_,rfl,⟨fin _ _ _ 7 ?_ Bi,rfl⟩,aX⟩)
   unfold Sf;rw[Bi];rfl
  |true=>
   rw[aa2]at Bi
   rw[if_neg aj]at Bi
   obtain⟨h1,h2,-⟩:=dS (by rw[Bi])
   obtain⟨-,i,hi,hj⟩:=h2 (by rw[Bi];exact(by decide:(-1:Int)<0))
   rw[Bi]at hi
   have hg:=lA hV t
   have qn:=(ik hi).1
   obtain⟨p,hp⟩:∃p,V.ps[4+i]? =some p:=⟨_,ao ae⟩
   rw[show H.qI t=some i from hi]at hg
   simp only[Option.bind_some,hp,Option.map_some]at hg
   refine yA ?_
   refine Z6 ?_
   refine G7 ?_
   refine KO.Ey gv t rfl rfl rfl underlying123 underlying9 zeroValue119 bo rfl ?_;rw[hg]
   refine Z1 ?_
   refine nQ ?_
   refine Z7 ?_
   refine lT ?_
   refine KQ.R6 rfl rfl rfl rfl rfl (fun w' aX=>⟨_,_,rfl,⟨fin _ _ _ 0 ?_ Bi,rfl⟩,aX⟩)
   unfold Sf;rw[hj,hp,if_neg (by rw[Bi];simp)];rfl
 ·rw[if_neg hk]at Bi
  obtain⟨h1,-,h2⟩:=dS (by rw[Bi])
  obtain⟨h3,h4⟩:=h2 (by rw[Bi];exact fun h=>hk (.inl h))
  rw[Bi]at h4
  dsimp only at h4
  obtain⟨p,hp⟩:∃p,V.ps[mY H s]? =some p:=⟨_,ao ae⟩
  have hw:=pZ hV (bd:=bd) h3 hp
  refine X3 ?_
  refine o8 ?_
  refine Ui ?_
  refine KO.kM (i:=mY H s) rfl rfl runUnderlying126 sizeOf119 h4 ae rfl ?_
  refine KO.dB (i:=8+mY H s) rfl rfl isAgg119 bZ Bd hw rfl ?_
  refine nB ?_
  refine nQ ?_
  refine rC ?_
  refine KQ.R6 rfl rfl rfl rfl rfl (fun w' aX=>⟨_,_,rfl,⟨fin _ _ _ 0 ?_ Bi,rfl⟩,aX⟩)
  unfold Sf;rw[hp,if_neg (by rw[Bi];simp)]
theorem Gc{w0 w:World}{bh bd:Nat}{H:Ho}{L:List HP}{V:tZ}(hV:jw V H)(j:Nat)(q:Qu)(u:Nat)(k:Int)(x:pg)(p:Value×Value){p1 p2:List Value}{u1:List (List (Ms×Int))}{u2:List (List (Int×ak))}(h:St w0 (bP bh (.cells (fv bd {V with us:=V.us.set u p} {H with next:=k}).toArray 133 (0,0))::lQ V.nv H.names::cg Value.string V.mb (dJ V H)::cr jz V.ps (H.all.set j q)::cr dj p1 u1::cr dh p2 u2::cr dX V.bs H.batch::L) w)(e1:p1=(V.us.map (·.1)).set u p.1)(e2:p2=(V.us.map (·.2)).set u p.2)(e3:u1=(H.aB.map (·.aM)).set u x.aM)(e4:u2=(H.aB.map (·.bu)).set u x.bu):
 St w0 (dL bh bd (cQ {H.fj j q with next:=k} u x)::L) w:=by
 refine Cu (V:={V with us:=V.us.set u p}) ⟨?_,by simp[hV.us],hV.bs,?_,?_,?_,?_,?_⟩ h ?_ rfl ?_ ?_ rfl rfl ?_ ?_ ?_ ?_ ?_ rfl ?_
 ·unfold cQ;dsimp only;rw[B2];exact hV.ps
 ·unfold cQ;dsimp only;rw[B1];exact hV.ways
 ·unfold cQ;dsimp only;rw[gy];simp[hV.aB]
 ·unfold cQ;dsimp only;rw[pI];exact hV.batch
 ·unfold cQ;dsimp only;rw[oI];exact hV.bW
 ·unfold cQ;dsimp only;rw[l7];exact hV.aK
 ·unfold cQ fv;dsimp only;rw[Dh,oH,Lw,Lv,oI,l7]
 ·unfold cQ;dsimp only;rw[sR]
 ·unfold cQ dJ;dsimp only;exact uN _ _ _ (uw j q).symm
 ·exact(AZ hV.ways j q).symm
 ·rw[e1,List.map_set]
 ·rw[e3];unfold cQ;dsimp only;rw[gy,List.map_set]
 ·rw[e2,List.map_set]
 ·rw[e4];unfold cQ;dsimp only;rw[gy,List.map_set]
 ·unfold cQ;dsimp only;rw[pI]
theorem u_{α β:Type}{l:List α}{f:α->β}{i:Nat}{x:α}{y:β}(h:l[i]? =some x)(e:f x=y):l.map f=(l.map f).set i y:=by
 rw[<-e,<-List.map_set,List.ig h]
theorem OT(w0:World)(L:List HP)(bh bd n:Nat)(H:Ho)(u:Int)(s:ak)(pri:Int)(body:ak)(hB:cK n H)(hn:n<90000)(hs:s.size<=maxLen)(hb:body.size<=maxLen)(hl:∀x∈H.aB,x.aM.length<=90000):
 KC prog 14 #[bA bh,.int .i64 u,.string s,.int .i64 pri,.string body] w0 (dL bh bd H::L) (fun v M=>v=.tuple #[.int .i64 (zK H u s pri body),cS 70 (jn H u s pri body)]/\M=dL bh bd (fl H u s pri body)::L):=by
 have hx:=hB.next
 have hid:=hB.id
 have ends:∀k:Int,k≠0->jn H u s pri body=k->∀w',St w0 (dL bh bd H::L) w'->(Value.tuple #[.int .i64 0,cS 70 k]=.tuple #[.int .i64 (zK H u s pri body),cS 70 (jn H u s pri body)]/\dL bh bd H::L=dL bh bd (fl H u s pri body)::L):=fun k hk he w' _=>by
  have h0:¬jn H u s pri body=0:=by rw[he];exact hk
  unfold zK fl
  rw[if_neg h0,if_neg h0,he]
  exact⟨rfl,rfl⟩
 refine KC.mk (n:=109) func14 rfl ntmps14 aj ?_
 refine tG ?_
 refine lK ?_
 by_cases hu:u<0\/5<=u
 ·have he:jn H u s pri body=2:=by unfold jn;rw[if_pos hu]
  by_cases WE:u<0
  ·refine yI ?_
   refine Bb ?_
   refine Qh ?_
   refine qb ?_
   refine KQ.fp rfl rfl rfl (fun w' aX=>⟨_,_,rfl,ends 2 ai he w' aX,aX⟩)
  ·refine Eh ?_
   refine Z2 ?_
   refine K.cV rfl QA ?_
   refine qb ?_
   refine KQ.fp rfl rfl rfl (fun w' aX=>⟨_,_,rfl,ends 2 ai he w' aX,aX⟩)
 refine Eh ?_
 refine Z2 ?_
 refine K.dp rfl QA ?_
 refine Z6 ?_
 by_cases hp:pri<0\/9<pri
 ·have he:jn H u s pri body=1:=by unfold jn;rw[if_neg hu,if_pos (.inl hp)]
  by_cases OX:pri<0
  ·refine yI ?_
   refine Bb ?_
   refine sO ?_
   refine tM ?_
   refine yx ?_
   refine Z2 ?_
   refine K.cV rfl Y74 ?_
   refine qb ?_
   refine KQ.fp rfl rfl rfl (fun w' aX=>⟨_,_,rfl,ends 1 ai he w' aX,aX⟩)
  ·refine JG ?_
   refine JA ?_
   refine Ql ?_
   refine Qh ?_
   refine qb ?_
   refine KQ.fp rfl rfl rfl (fun w' aX=>⟨_,_,rfl,ends 1 ai he w' aX,aX⟩)
 refine JG ?_
 refine JA ?_
 refine A1 ?_
 refine Z1 ?_
 refine KO.on rfl rfl QA ?_;refine KO.ce (cp:=[]) rfl rfl rfl call54 rfl (AU w0 _ body hb) ?_;rintro v' L' ⟨rfl,rfl⟩
 refine lL ?_
 refine qp ?_
 refine x8 ?_
 refine Z2 ?_
 cases hbd:lG body with
 |false=>
  have he:jn H u s pri body=1:=by unfold jn;rw[if_neg hu,if_pos (.inr hbd)]
  refine K.cV rfl aj ?_
  refine qb ?_
  refine KQ.fp rfl rfl rfl (fun w' aX=>⟨_,_,rfl,ends 1 ai he w' aX,aX⟩)
 |true=>
 refine K.dp rfl Y74 ?_
 have WE:¬((pri<0\/9<pri)\/lG body=false):=by rw[hbd];simpa using hp
 refine Z6 ?_
 refine K.cx (fun _ h=>cI h) ?_
 rintro⟨V,hV⟩
 dsimp only
 have qB:=hV.ps
 refine ji ?_
 refine KO.cl (cp:=[]) rfl rfl rfl call55 rfl (Se w0 L bh bd n V H s hV hB) ?_;rintro v' L' ⟨rfl,rfl⟩
 refine G3 ?_
 refine Z15 ?_
 refine nQ ?_
 refine Z7 ?_
 refine yH ?_
 refine K.bz rfl (fun h=>?_) (fun h=>?_)
 ·have he:jn H u s pri body=(jU H s).2.2:=by unfold jn;rw[if_neg hu,if_neg WE,if_pos h]
  refine jI ?_
  refine Z7 ?_
  refine sN ?_
  refine KQ.fp rfl rfl rfl (fun w' aX=>⟨_,_,rfl,ends _ h he w' (cn V hV aX),cn V hV aX⟩)
 have h0:(jU H s).2.2=0:=by simpa using h
 refine Z6 ?_
 cases sq:H.down with
 |true=>
  have he:jn H u s pri body=6:=by unfold jn;rw[if_neg hu,if_neg WE,if_neg h,if_pos sq]
  refine G6 ?_
  refine Z2 ?_
  refine K.cV rfl sq ?_
  refine qb ?_
  refine KQ.fp rfl rfl rfl (fun w' aX=>⟨_,_,rfl,ends 6 ai he w' (cn V hV aX),cn V hV aX⟩)
 |false=>
 refine G6 ?_
 refine Z2 ?_
 refine K.dp rfl sq ?_
 refine Z6 ?_
 have he:jn H u s pri body=kz (H.dY (mY H s)) (fk H s pri body):=by unfold jn;rw[if_neg hu,if_neg WE,if_neg h,if_neg YJ]
 obtain⟨hj,h2,h3⟩:=zL hB h0
 have U6:=g_ hV.ways
 obtain⟨p,ku⟩:∃p,V.ps[mY H s]? =some p:=⟨_,ao ae⟩
 have hpV:Sf V H s=bA p:=by unfold Sf;rw[ku,if_neg h]
 rw[hpV]
 refine K.draw [.pure,.pure,.pure,.read,.pure,.pure,.pure,.pure,.read,.pure,.pure,.pure,.pure,.pure,.pure,.dm,.write] [0,1,2,3,4,5,6,7,8,9,10,11,12,13,14,15,16] bH bH ?_
 refine mA ?_
 refine Qt ?_
 refine KO.dB (i:=5) rfl rfl isAgg3 bZ rfl rfl rfl ?_
 refine KO.mul rfl rfl rfl ae rfl ?_
 refine mA ?_
 refine Hm ?_
 refine KO.dB (i:=0) rfl rfl isAgg3 bZ rfl rfl rfl ?_
 refine vP ?_
 refine nB ?_
 refine nB ?_
 refine Z50 ?_
 refine KO.alloc rfl zeroValue44 aQ rfl ?_;intro b16
 refine yB ?_
 refine yI ?_
 refine Z2 ?_
 refine K.cut (fun _:Unit=>[(0,bA bh),(1,.int .i64 u),(12,bA p),(14,.int .i64 (jU H s).2.1),(16,.pointer (some ⟨b16,0,none⟩))]) (fun _=>bP b16 (.cells (du (fk H s pri body)).toArray 44 (0,0))::Bj bh bd V H L) (fun _=>True) ?_ ?_
 ·refine K.bz rfl (fun I9=>?_) (fun I9=>?_)
  ·(skip)
   refine kp ?_
   refine Hm ?_
   refine KO.dB (i:=0) rfl rfl isAgg3 bo rfl rfl rfl ?_
   refine Qa ?_
   (refine KO.JV rfl rfl rfl aQ za aQ bZ aQ Y0 ?_)
   refine KO.nil ?_
   exact KQ.tf () trivial ⟨rfl,rfl,rfl,rfl,rfl,trivial⟩ (fun w' aX=>by unfold fk;rw[if_pos I9];exact aX.all nH)
  ·refine Ek ?_
   exact KQ.tf () trivial ⟨rfl,rfl,rfl,rfl,rfl,trivial⟩ (fun w' aX=>by unfold fk;rw[if_neg I9];exact aX.all nH)
 ·rintro⟨⟩-
  try dsimp only
  have hqb:=(hB.a hj).ok ae
  have WY:(fk H s pri body).queue.size<=maxLen:=Nat.le_trans (jj (N0 hB h0)).2 ai
  have Q6:(fk H s pri body).body.size<=maxLen:=hb
  rcases IV:fk H s pri body with⟨mi,mp,mb,mq,mh⟩
  rw[IV]at WY Q6
  dsimp only at WY Q6
  refine jI ?_
  refine Eo ?_
  refine Z1 ?_
  refine KO.cl (cp:=[]) rfl rfl rfl call56 rfl (KC.nO (φ:=fun v=>v=cS 70 (kz (H.dY (mY H s)) ⟨mi,mp,mb,mq,mh⟩)) ku (vu hj) bo (fun L=>aak w0 L p (H.dY (mY H s)) ⟨mi,mp,mb,mq,mh⟩ u hqb Q6 WY)) ?_;rintro v' L' ⟨rfl,rfl⟩
  refine lK ?_
  rw[IV]at he
  refine Z8 ?_
  refine Us ?_
  refine K.bz rfl (fun Kw=>?_) (fun Kw=>?_)
  ·have xV:pM (H.dY (mY H s)) ⟨mi,mp,mb,mq,mh⟩ u=H.dY (mY H s):=by unfold pM;rw[if_neg Kw]
   refine jI ?_
   refine Z7 ?_
   refine sN ?_
   refine KQ.fp rfl rfl rfl (fun w' aX=>?_)
   rw[xV,pG (vu hj)]at aX
   exact⟨_,_,rfl,ends _ Kw he w' (cn V hV (aX.all Y5)),cn V hV (aX.all Y5)⟩
  ·have agr:kz (H.dY (mY H s)) ⟨mi,mp,mb,mq,mh⟩=0:=by simpa using Kw
   rw[agr]at he
   have SU:u.toNat<5:=by omega
   have Mf:u=((u.toNat:Nat):Int):=by omega
   have si:=hV.us
   have gY:=hV.aB
   obtain⟨pv,F8⟩:∃e,V.us[u.toNat]? =some e:=⟨_,ao ae⟩
   obtain⟨x,DK⟩:∃e,H.aB[u.toNat]? =some e:=⟨_,ao ae⟩
   have tQ:=hl x (ax DK)
   have M9:H.eP u.toNat=x:=by unfold Ho.eP;rw[aq,DK];rfl
   have I5:jw V {H with next:=H.next+1}:=⟨hV.ps,hV.us,hV.bs,hV.ways,hV.aB,hV.batch,hV.bW,hV.aK⟩
   obtain⟨c1,-,c3,-⟩:=oT (bd:=bd) I5 F8
   have rb:(V.us.map (·.1))[u.toNat]? =some pv.1:=by rw[aG,F8];rfl
   have O_:(H.aB.map (·.aM))[u.toNat]? =some x.aM:=by rw[aG,DK];rfl
   have afx:zK H u s pri body=mi:=by unfold zK;rw[if_pos he,IV]
   refine Z6 ?_
   refine kp ?_
   refine Qt ?_
   refine KO.dB (i:=5) rfl rfl isAgg3 bo rfl rfl rfl ?_
   refine Jw ?_
   refine Qt ?_
   refine KO.gT (i:=5) rfl rfl rfl aQ za rfl bo rfl Rs ?_;rw[show(fv bd V H).set 5 (.int .i64 (H.next+1))=fv bd V {H with next:=H.next+1}from rfl]
   refine Z0 ?_
   refine K.conv (fun w hw=>dD rb O_ (hw.pick (A:=cr dj (V.us.map (·.1)) (H.aB.map (·.aM))) bo)) ?_
   refine K.draw [.pure,.pure,.pure,.pure,.pure,.pure,.pure,.pure,.read,.read,.pure,.pure,.dm,.write,.pure,.pure,.pure,.pure,.write] [0,1,2,3,4,5,6,7,8,9,10,11,14,15,12,13,16,17,18] bH bH ?_
   refine qG ?_
   refine mA ?_
   refine X4 ?_
   refine Yj ?_
   refine KO.dB (i:=12+2*u.toNat) rfl rfl isAgg127 bo Uy c1 rfl ?_
   refine BM ?_
   refine Z1 ?_
   refine KO.xe (pl:=[(0,5),(5,1)]) rfl zeroValue142 runUnderlying142 (by intro w;simp[sizeOf3,sizeOf44]) aQ rfl ?_
   refine lJ ?_
   refine KO.gd (off:=12) rfl runUnderlying133 rfl rfl sizeOf131 rfl ?_
   refine KO.lY (z:=(Value.agg #[.int .i64 0,.int .i64 0,.string ⟨#[]⟩,.string ⟨#[]⟩,.int .i64 0,.int .i64 0])) (sz:=6) (dP:=64) rfl rfl underlying127 bH aQ aQ ai ai rfl ?_;intro al4
   refine KO.app (z:=Value.agg #[.int .i64 0,.int .i64 0,.string ⟨#[]⟩,.string ⟨#[]⟩,.int .i64 0,.int .i64 0]) (sz:=6) (dP:=64) (xs:=x.aM) (cf:=Dn) rfl rfl rfl (.tail .head) .head underlying127 bH aQ (⟨mi,mp,mb,mq,mh⟩,(jU H s).2.1) rfl rfl rfl ae ai rfl ?_;intro v13;refine KO.fact (fun _ hs=>aY hs) ?_;rintro⟨a13,k13,ON,-⟩
   refine KO.kM (i:=u.toNat) rfl rfl runUnderlying131 sizeOf130 Mf ae rfl ?_
   refine Yj ?_
   refine KO.gT (i:=12+2*u.toNat) rfl rfl rfl (by rw[ON];rfl) (by exact sizeOf127) (by rw[ON];rfl) bo Uy (by rw[rZ I5];omega) ?_;rw[c3]
   refine yF ?_
   refine Jq ?_
   refine rC ?_
   refine KQ.fp rfl rfl rfl (fun w' aX=>⟨_,_,rfl,⟨by rw[he,afx];rfl,rfl⟩,?_⟩)
   have e1:fl H u s pri body=cQ {H.fj (mY H s) (pM (H.dY (mY H s)) (fk H s pri body) u)with next:=H.next+1} u.toNat ⟨x.aM++[(fk H s pri body,(jU H s).2.1)],x.bu⟩:=by unfold fl;rw[if_pos he,M9]
   rw[e1,IV]
   have qY:=ja (f:=dj) (ps:=V.us.map (·.1)) (xs:=H.aB.map (·.aM)) (i:=u.toNat) (p:=v13) (x:=x.aM++[(⟨mi,mp,mb,mq,mh⟩,(jU H s).2.1)]) (by simp[si];omega) (by simp[gY];omega) (aX.all (M:=dj v13 (x.aM++[(⟨mi,mp,mb,mq,mh⟩,(jU H s).2.1)])::cr dj ((V.us.map (·.1)).eraseIdx u.toNat) ((H.aB.map (·.aM)).eraseIdx u.toNat)::bP bh (.cells (fv bd {V with us:=V.us.set u.toNat (v13,pv.2)} {H with next:=H.next+1}).toArray 133 (0,0))::lQ V.nv H.names::cg Value.string V.mb (dJ V H)::cr jz V.ps (H.all.set (mY H s) (pM (H.dY (mY H s)) ⟨mi,mp,mb,mq,mh⟩ u))::cr dh (V.us.map (·.2)) (H.aB.map (·.bu))::cr dX V.bs H.batch::L) Y5)
   exact Gc hV (mY H s) _ u.toNat (H.next+1) _ (v13,pv.2) (qY.all Y7) rfl (u_ F8 rfl) rfl (u_ DK rfl)
theorem Xc(w0:World)(L:List HP)(bh bd n:Nat)(H:Ho)(u:Int)(s:ak)(hB:cK n H)(hn:n<90000)(hl:∀x∈H.aB,x.bu.length<=90000):
 KC prog 15 #[bA bh,.int .i64 u,.string s] w0 (dL bh bd H::L) (fun v M=>v=.tuple #[.agg (du (getM H u s)).toArray,cS 70 (lR H u s)]/\M=dL bh bd (jZ H u s)::L):=by
 have nL:=hB.oq
 have Bh:=hB.sorted
 have ends:∀k:Int,k≠0->lR H u s=k->(Value.tuple #[.agg (du oh).toArray,cS 70 k]=.tuple #[.agg (du (getM H u s)).toArray,cS 70 (lR H u s)]/\dL bh bd H::L=dL bh bd (jZ H u s)::L):=fun k hk he=>by
  have h0:¬lR H u s=0:=by rw[he];exact hk
  unfold getM jZ
  rw[if_neg h0,if_neg h0,he]
  exact⟨rfl,rfl⟩
 refine KC.mk (n:=81) func15 rfl ntmps15 aj ?_
 refine Z3 ?_
 refine KO.alloc rfl zeroValue44 aQ rfl ?_;intro b6
 refine lK ?_
 by_cases hu:u<0\/5<=u
 ·have he:lR H u s=2:=by unfold lR;rw[if_pos hu]
  by_cases WE:u<0
  ·refine yI ?_
   refine Bb ?_
   refine Qh ?_
   refine Jv ?_
   refine K7 ?_
   refine sN ?_
   refine KQ.jR rfl rfl isAgg44 bZ K9 rfl (fun w' aX=>⟨_,dL bh bd H::L,rfl,?_,?_⟩)
   ·exact ends 2 ai he
   ·exact aX.all Y1
  ·refine Eh ?_
   refine Z2 ?_
   refine K.cV rfl QA ?_
   refine Jv ?_
   refine K7 ?_
   refine sN ?_
   refine KQ.jR rfl rfl isAgg44 bZ K9 rfl (fun w' aX=>⟨_,dL bh bd H::L,rfl,?_,?_⟩)
   ·exact ends 2 ai he
   ·exact aX.all Y1
 refine Eh ?_
 refine Z2 ?_
 refine K.dp rfl QA ?_
 refine Z6 ?_
 refine K.cx (fun _ h=>cI (h.pick bo)) ?_
 rintro⟨V,hV⟩
 dsimp only
 have qB:=hV.ps
 have hg:=lA hV s
 cases hq:H.qI s with
 |none=>
  have he:lR H u s=7:=by unfold lR;rw[if_neg hu,hq]
  rw[hq]at hg
  refine G7 ?_
  refine KO.Ci gv s rfl rfl rfl underlying123 underlying9 zeroValue119 bo rfl ?_;rw[hg]
  refine ky ?_
  refine qp ?_
  refine tM ?_
  refine Qy ?_
  refine Qy ?_
  refine T9 ?_
  refine yx ?_
  refine Z2 ?_
  refine K.cV rfl aj ?_
  refine Jv ?_
  refine MW ?_
  refine sN ?_
  refine KQ.jR rfl rfl isAgg44 bZ K9 rfl (fun w' aX=>⟨_,dL bh bd H::L,rfl,?_,?_⟩)
  ·exact ends 7 ai he
  ·exact cn V hV (aX.all Y1)
 |some i=>
 have qn:=(ik hq).1
 obtain⟨p,hp⟩:∃p,V.ps[4+i]? =some p:=⟨_,ao ae⟩
 rw[hq]at hg
 simp only[Option.bind_some,hp,Option.map_some]at hg
 have heq:lR H u s=if s≠cL/\fq H.names s=false then 7 else if H.down=true then 6 else nV (H.ec i):=by unfold lR;rw[if_neg hu,hq]
 refine G7 ?_
 refine KO.Ci gv s rfl rfl rfl underlying123 underlying9 zeroValue119 bo rfl ?_;rw[hg]
 refine qc ?_
 refine K.cut (fun _:Unit=>[(0,bA bh),(1,.int .i64 u),(2,.string s),(6,.pointer (some ⟨b6,0,none⟩)),(8,bA p),(42,.bool (decide (s≠cL/\fq H.names s=false)))]) (fun _=>bP b6 (.cells [Value.int .i64 0,.int .i64 0,.string ⟨#[]⟩,.string ⟨#[]⟩,.int .i64 0].toArray 44 (0,0))::Bj bh bd V H L) (fun _=>True) ?_ ?_
 ·by_cases SZ:s=cL
  ·have DL:s=⟨#[100,101,97,100]⟩:=SZ
   have WI:(!decide (s=⟨#[100,101,97,100]⟩))=false:=by rw[DL];rfl
   clear SZ
   refine T7 ?_
   refine Eb ?_
   refine Hl ?_
   refine Hl ?_
   refine KO.no rfl rfl WI rfl ?_
   refine KO.no rfl rfl xG rfl ?_
   refine rA ?_
   refine KO.nd rfl ?_ rfl rfl ?_
   (focus assumption)
   refine rB ?_
   refine KO.nil ?_
   exact KQ.tf () trivial ⟨rfl,rfl,rfl,rfl,rfl,by simp[DL,cL,c_],trivial⟩ (fun w' aX=>aX.all Y3)
  ·have DL:¬s=⟨#[100,101,97,100]⟩:=SZ
   refine T7 ?_
   refine Eb ?_
   refine BD ?_
   refine Z1 ?_
   refine BD ?_
   refine lJ ?_
   refine BD ?_
   refine Es ?_
   refine BD ?_
   refine Z1 ?_
   refine KO.on rfl rfl (by simp[DL]) ?_;refine KO.ce (cp:=[]) rfl rfl rfl call57 rfl (uO w0 _ _ _ bh 6 (fv bd V H) 133 V.nv H.names s bZ bZ rfl ae Bh) ?_;rintro v' L' ⟨rfl,rfl⟩
   refine BD ?_
   refine qp ?_
   refine rA ?_
   refine KO.uD rfl ?_ rfl rfl ?_
   (focus(simp_all;done))
   refine rB ?_
   refine KO.nil ?_
   exact KQ.tf () trivial ⟨rfl,rfl,rfl,rfl,rfl,by simp[SZ,c_],trivial⟩ (fun w' aX=>aX.all Y3)
 rintro⟨⟩-
 try dsimp only
 refine K.bz rfl (fun h4=>?_) (fun h4=>?_)
 ·have he:lR H u s=7:=by rw[heq,if_pos h4]
  refine Jv ?_
  refine K7 ?_
  refine sN ?_
  refine KQ.jR rfl rfl isAgg44 bZ K9 rfl (fun w' aX=>⟨_,dL bh bd H::L,rfl,?_,?_⟩)
  ·exact ends 7 ai he
  ·exact cn V hV (aX.all Y1)
 rw[if_neg h4]at heq
 refine Z6 ?_
 cases sq:H.down with
 |true=>
  have he:lR H u s=6:=by rw[heq,if_pos sq]
  refine Z8 ?_
  refine Z40 ?_
  refine KO.dB (i:=3) rfl rfl isAgg4 bo rfl rfl rfl ?_
  refine Z2 ?_
  refine K.cV rfl sq ?_
  refine Jv ?_
  refine K7 ?_
  refine sN ?_
  refine KQ.jR rfl rfl isAgg44 bZ K9 rfl (fun w' aX=>⟨_,dL bh bd H::L,rfl,?_,?_⟩)
  ·exact ends 6 ai he
  ·exact cn V hV (aX.all Y1)
 |false=>
 have he:lR H u s=nV (H.ec i):=by rw[heq,if_neg YJ]
 have F7:=(hB.qa qn).len
 refine Z8 ?_
 refine Z40 ?_
 refine KO.dB (i:=3) rfl rfl isAgg4 bo rfl rfl rfl ?_
 refine Z2 ?_
 refine K.dp rfl sq ?_
 refine Z6 ?_
 rcases IV:mX (H.ec i)with⟨mi,mp,mb,mq,mh⟩
 refine ji ?_
 refine KO.cl (cp:=[]) rfl rfl rfl call58 rfl (KC.nO (φ:=fun v=>v=.tuple #[.agg (du (mX (H.ec i))).toArray,cS 70 (nV (H.ec i))]) hp (lI hV.ways qn) bo (fun L=>abU w0 L p (H.ec i) u ae)) ?_;rintro v' L' ⟨rfl,rfl⟩;rw[IV]
 refine G3 ?_
 refine KO.alloc rfl zeroValue44 aQ rfl ?_;intro b10
 refine K7 ?_
 refine yH ?_
 refine K.bz rfl (fun h9=>?_) (fun h9=>?_)
 ·have xV:oM (H.ec i) u=H.ec i:=by
   unfold nV at h9
   unfold oM
   split
   ·rfl
   ·rename_i k hk;rw[hk]at h9;exact absurd rfl h9
  refine Z3 ?_
  refine Z50 ?_
  refine Z1 ?_
  refine MW ?_
  refine sN ?_
  refine KQ.jR rfl rfl isAgg44 bZ K9 rfl (fun w' aX=>?_)
  rw[xV,pG (lI hV.ways qn)]at aX
  exact⟨_,dL bh bd H::L,rfl,ends _ h9 he,cn V hV (aX.all Y5)⟩
 have h90:nV (H.ec i)=0:=by simpa using h9
 rw[h90]at he
 have SU:u.toNat<5:=by omega
 have Mf:u=((u.toNat:Nat):Int):=by omega
 have si:=hV.us
 have gY:=hV.aB
 obtain⟨pv,F8⟩:∃e,V.us[u.toNat]? =some e:=⟨_,ao ae⟩
 obtain⟨x,DK⟩:∃e,H.aB[u.toNat]? =some e:=⟨_,ao ae⟩
 have tQ:=hl x (ax DK)
 have M9:H.eP u.toNat=x:=by unfold Ho.eP;rw[aq,DK];rfl
 obtain⟨-,c2,-,c4⟩:=oT (bd:=bd) hV F8
 have rb:(V.us.map (·.2))[u.toNat]? =some pv.2:=by rw[aG,F8];rfl
 have O_:(H.aB.map (·.bu))[u.toNat]? =some x.bu:=by rw[aG,DK];rfl
 have Cx:getM H u s=⟨mi,mp,mb,mq,mh⟩:=by unfold getM;rw[if_pos he,hq];exact IV
 refine Z6 ?_
 refine K.conv (fun w hw=>dD rb O_ (hw.pick (A:=cr dh (V.us.map (·.2)) (H.aB.map (·.bu))) bo)) ?_
 refine K.draw [.pure,.pure,.pure,.pure,.pure,.pure,.pure,.pure,.read,.pure,.read,.pure,.pure,.dm,.write,.pure,.pure,.pure,.pure,.write] [0,1,2,3,4,5,6,7,8,9,10,11,12,15,16,13,14,17,18,19] bH bH ?_
 refine qG ?_
 refine mA ?_
 refine X4 ?_
 refine Yi ?_
 refine KO.dB (i:=13+2*u.toNat) rfl rfl isAgg128 bo Uy c2 rfl ?_
 refine Jq ?_
 refine Z1 ?_
 refine KO.xe (pl:=[(0,1),(1,1)]) rfl zeroValue146 runUnderlying146 Y25 aQ rfl ?_
 refine lJ ?_
 refine KO.gd (off:=12) rfl runUnderlying133 rfl rfl sizeOf131 rfl ?_
 refine KO.lY (z:=(Value.agg #[.int .i64 0,.string ⟨#[]⟩])) (sz:=2) (dP:=24) rfl rfl underlying128 bH aQ aQ ai ai rfl ?_;intro b74
 refine KO.app (z:=Value.agg #[.int .i64 0,.string ⟨#[]⟩]) (sz:=2) (dP:=24) (xs:=x.bu) (cf:=DU) rfl rfl rfl (.tail .head) .head underlying128 bH aQ (mi,s) rfl rfl rfl ae ai rfl ?_;intro v14;refine KO.fact (fun _ hs=>aY hs) ?_;rintro⟨a13,k13,ON,-⟩
 refine KO.kM (i:=u.toNat) rfl rfl runUnderlying131 sizeOf130 Mf ae rfl ?_
 refine Yi ?_
 refine KO.gT (b:=bh) (i:=13+2*u.toNat) rfl rfl rfl (by rw[ON];rfl) (by exact sizeOf128) (by rw[ON];rfl) bo Uy Rs ?_;rw[c4]
 refine yF ?_
 refine BM ?_
 refine MW ?_
 refine jH ?_
 refine KQ.jR rfl rfl isAgg44 bZ K9 rfl (fun w' aX=>⟨_,_,rfl,⟨by rw[he,Cx];rfl,rfl⟩,?_⟩)
 have e1:jZ H u s=cQ {H.fj (4+i) (oM (H.ec i) u)with next:=H.next} u.toNat ⟨x.aM,x.bu++[(mi,s)]⟩:=by
  unfold jZ
  rw[if_pos he,M9,hq]
  simp only[Option.getD_some]
  rw[IV]
  unfold Ho.fj
  rw[if_neg ae,show 4+i-4=i by omega]
  rfl
 rw[e1]
 have qY:=ja (f:=dh) (ps:=V.us.map (·.2)) (xs:=H.aB.map (·.bu)) (i:=u.toNat) (p:=v14) (x:=x.bu++[(mi,s)]) (by simp[si];omega) (by simp[gY];omega) (aX.all (M:=dh v14 (x.bu++[(mi,s)])::cr dh ((V.us.map (·.2)).eraseIdx u.toNat) ((H.aB.map (·.bu)).eraseIdx u.toNat)::bP bh (.cells (fv bd {V with us:=V.us.set u.toNat (pv.1,v14)} H).toArray 133 (0,0))::lQ V.nv H.names::cg Value.string V.mb (dJ V H)::cr jz V.ps (H.all.set (4+i) (oM (H.ec i) u))::cr dj (V.us.map (·.1)) (H.aB.map (·.aM))::cr dX V.bs H.batch::L) Y5)
 exact Gc hV (4+i) _ u.toNat H.next _ (pv.1,v14) (qY.all Y7) (u_ F8 rfl) rfl (u_ DK rfl) rfl
end Go.Proofs.YtjhogocabcdjbabGreatDoor
namespace WB
open Go Go.RowKit
theorem KO.XJ{P:Program}{ops:Array Oper}{d:Bool}{Q:Exit->Act->World->Prop}{n:Nat}{D:List Deferred}{w0:World}{G:Env}{L:List HP}{l:List (Kd×Oper)}{k:Kd}{t:Nat}{ty T:TypeId}{pos:String}{af:Array Edge}{x:Operand}{ad:Addr}{len sz:Nat}(hx:ev G x=some (.pointer (some ad)))(hT:P.underlying T=some (.array (P.arrayLen T) (P.elem T)))(hl:P.arrayLen T=len+1)(hs:∀w,(Go.sizeOf (P.elem T)).run P w=.ok sz w)(ht:Nat.blt t n=true)(h:KO P ops d Q n D w0 ((t,.slice (some (ad.add 0)) (len+1) (len+1))::G) L l):KO P ops d Q n D w0 G L ((k,⟨some t,.slice T x none none none,ty,pos,af,none⟩)::l):=
 KO.val (fun a w ha=>by
  have :=run_sliceAt_array_all (P:=P) w T ad hT
  rw[hs w]at this
  simp[execOp,ha.eval hx,this,slicedAt,hl]) ht h
theorem KO.JU{P:Program}{ops:Array Oper}{d:Bool}{Q:Exit->Act->World->Prop}{n:Nat}{D:List Deferred}{w0:World}{G:Env}{L R:List HP}{l:List (Kd×Oper)}{k:Kd}{ty T E:TypeId}{pos:String}{af:Array Edge}{x y:Operand}{v:Value}{off b:Nat}{ad:Addr}{cs EG us:List Value}(hk:(!d||k== .write)=true)(hx:ev G x=some (.pointer (some ad)))(ha:ad=⟨b,off,none⟩)(hy:ev G y=some v)(hv:v.cells=us.toArray)(hn:∀w,(Go.sizeOf T).run P w=.ok us.length w)(h1:us.all Value.oneCell'=true)(hp:bQ L (bP b (.cells cs.toArray E (0,0))) R)(oV:off+us.length<=cs.length)(hc:l9 off us cs=EG)(h:KO P ops d Q n D w0 G (bP b (.cells EG.toArray E (0,0))::R) l):
  KO P ops d Q n D w0 G L ((k,⟨none,.store T x y,ty,pos,af,none⟩)::l):=by
 subst ha
 exact KO.JV hk hx hy hv hn h1 hp (by simpa[Nat.ble_eq]using oV) hc h
def cE (H:Ho) (u:Int):Ho:={H with ways:=H.ways.map (fun q=>eK q u true),aI:=H.aI.map (fun x=>(x.1,eK x.2 u true))}
theorem oW(H:Ho)(u:Int):(cE H u).all=H.all.map fun q=>eK q u true:=by
 unfold cE Ho.all;simp
def j7 (u:Int) (l:List Qu) (js:List Nat):List Qu:=js.foldl (fun l j=>l.set j (eK (l.getD j default) u true)) l
theorem wW(u:Int):∀(js:List Nat) (l:List Qu),(j7 u l js).length=l.length
 |[],_=>rfl
 |j::js,l=>by
  have :=wW u js (l.set j (eK (l.getD j default) u true))
  rw[List.length_set]at this
  exact this
theorem CR(u:Int):∀(js:List Nat) (l:List Qu) (i:Nat),js.Nodup->(j7 u l js)[i]? =if i∈js then(l[i]?).map (fun q=>eK q u true)else l[i]?
 |[],l,i,_=>by simp[j7]
 |j::js,l,i,h=>by
  rw[bI]at h
  have ih:=CR u js (l.set j (eK (l.getD j default) u true)) i h.2
  rw[show j7 u l (j::js)=j7 u (l.set j (eK (l.getD j default) u true)) js from rfl,ih]
  by_cases e:j=i
  ·subst e
   rw[if_neg h.1,if_pos aj,List.getElem?_set,if_pos rfl]
   split
   ·rename_i hj
    rw[aq,ao hj];rfl
   ·rename_i hj
    rw[br ae];rfl
  ·rw[List.getElem?_set,if_neg e]
   simp only[aF,Ne.symm e,false_or]
theorem CQ(u:Int){js:List Nat}{l:List Qu}(h:js.Perm (List.range l.length)):j7 u l js=l.map fun q=>eK q u true:=by
 apply List.ext_getElem?
 intro i
 rw[CR u js l i (h.nodup_iff.2 List.nodup_range),aG]
 split
 ·rfl
 ·rename_i hi
  rw[h.mem_iff,aO]at hi
  rw[br ae];rfl
theorem AH{n:Nat}(u:Int):∀(js:List Nat) (l:List Qu),(∀q∈l,QB n q)->∀q∈j7 u l js,QB n q
 |[],_,h,q,hq=>h q hq
 |j::js,l,h,q,hq=>AH u js (l.set j (eK (l.getD j default) u true)) (fun q hq=>by
  rcases a_ hq with h1|rfl
  ·exact h q h1
  ·rcases Nat.lt_or_ge j l.length with hj|hj
   ·rw[aq,ao hj]
    exact(h _ (List.getElem_mem hj)).ends u true
   ·rw[List.set_eq_of_length_le hj]at hq
    exact h _ hq) q hq
theorem AG{u:Int}{l:List Qu}{js:List Nat}{k j:Nat}(hj:js[k]? =some j):j7 u l (js.take (k+1))=(j7 u l (js.take k)).set j (eK ((j7 u l (js.take k)).getD j default) u true):=by
 rw[bJ hj]
 unfold j7
 rw[List.foldl_append];rfl
theorem cK.cE{n:Nat}{H:Ho}(h:cK n H)(u:Int):cK n (cE H u):=by
 have hf:(WB.cE H u).aI.map (·.1)=H.aI.map (·.1):=by unfold WB.cE;simp
 have hq:∀s,(WB.cE H u).qI s=H.qI s:=fun s=>by rw[pN,pN,hf]
 refine⟨h.id,h.used,h.next,h.sorted,h.oq,by unfold WB.cE;simpa using h.oL,fun q hq=>?_,by rw[hf];exact h.nodup,by unfold WB.cE;simpa using h.ways,h.aB,h.batch,h.bW,h.aK,h.right,fun x hx ht=>by(rw[hq];exact h.loc x hx ht),h.ext⟩
 rw[oW]at hq
 obtain⟨q0,h0,rfl⟩:=ay.1 hq
 exact(h.qs q0 h0).ends u true
def cC:pg:=⟨[],[]⟩
def Bz (H:Ho) (u:Int):Int:=if u<0\/5<=u then 2 else if(H.eP u.toNat).aM.length+(H.eP u.toNat).bu.length=0 then 8 else if H.down=true then 6 else 0
def ou (H:Ho) (u:Int):Ho:=if Bz H u=0 then cQ (cE H u) u.toNat cC else H
theorem cK.bk{n:Nat}{H:Ho}(h:cK n H)(u:Int):cK n (ou H u):=by
 unfold ou;split
 ·exact(h.cE u).cQ _ _
 ·exact h
def iR (g:Int×ak):ak:=b_ g.1++sp++g.2
def qu (x:pg):ak:=cF (x.aM.map (·.1))++cv 47++dn (x.bu.map iR) plus
def oK (x:pg):ak:=⟨#[117,58]⟩++cF (x.aM.map (·.1))++cv 47++dn (x.bu.map iR) plus
def kP (H:Ho) (u:Int):Int:=if u<0\/5<=u then 2 else if(H.eP u.toNat).aM.length+(H.eP u.toNat).bu.length=0 then 8 else 0
def vj (H:Ho) (D:Dk) (u:Int):Int:=if kP H u≠0 then kP H u else c7 H D
def la (H:Ho) (D:Dk) (u:Int):Ho:=if kP H u≠0 then H else if c7 H D≠0 then dc H D else(eZ (cQ (cE (dc H D) u) u.toNat cC) (qu (H.eP u.toNat))).1
def od (H:Ho) (D:Dk) (u:Int):Dk:=if kP H u≠0 then D else gU H D (oK (H.eP u.toNat))
structure iL (x:pg):Prop where
 aM:∀p∈x.aM,bT p.1=true
 bu:∀g∈x.bu,0<=g.1/\g.1<=1099511627776/\dw g.2=true
 many:x.aM.length+x.bu.length<=700
section
variable {x:pg}
theorem iL.bad(h:iL x):ju (x.aM.map (·.1))=none:=C4 fun j m hm=>by
 obtain⟨p,hp,rfl⟩:=ay.1 (ax hm)
 exact h.aM p hp
theorem CA{g:Int×ak}(h:0<=g.1/\g.1<=1099511627776/\dw g.2=true):(iR g).size<=30:=by
 have h1:=cH (n:=g.1) ⟨by omega,by omega⟩
 have h2:=(jj h.2.2).2
 have h3:sp.size=1:=rfl
 unfold iR;simp only[aU];omega
theorem iL.abS(h:iL x):(dn (x.bu.map iR) plus).size<=700*31:=by
 have :=gD plus 30 (x.bu.map iR) (fun y hy=>by
  obtain⟨g,hg,rfl⟩:=ay.1 hy
  exact CA (h.bu g hg))
 have h2:=h.many
 have h3:plus.size=1:=rfl
 rw[h3,bj]at this
 omega
theorem iL.aal(h:iL x):(cF (x.aM.map (·.1))).size<=700*101:=by
 have :=lg (l:=x.aM.map (·.1)) (fun m hm=>by
  obtain⟨p,hp,rfl⟩:=ay.1 hm
  exact h.aM p hp)
 have h2:=h.many
 rw[bj]at this
 omega
theorem iL.size(h:iL x):(qu x).size<=72000:=by
 have h2:=h.many
 have h1:(cv 47).size=1:=rfl
 have h3:plus.size=1:=rfl
 have a:=gD plus 30 (x.bu.map iR) (fun y hy=>by
  obtain⟨g,hg,rfl⟩:=ay.1 hy
  exact CA (h.bu g hg))
 have b:=lg (l:=x.aM.map (·.1)) (fun m hm=>by
  obtain⟨p,hp,rfl⟩:=ay.1 hm
  exact h.aM p hp)
 rw[h3,bj]at a
 rw[bj]at b
 unfold qu;simp only[aU];omega
theorem rR{c:UInt8}(h1:c.toNat≠45/\(c.toNat<48\/57<c.toNat))(h2:isLet c=false)(h3:c≠32/\c≠43){l:List Ms}(h:∀m∈l,bT m=true):qx c (cF l):=fun b hb=>by
 unfold cF at hb
 rcases jC hb with hb|⟨y,hy,hb⟩
 ·simp[plus]at hb;subst hb;exact fun e=>h3.2 e.symm
 ·obtain⟨m,hm,rfl⟩:=ay.1 hy
  obtain⟨-,-,-,-,m5,m6,-,-⟩:=bV (h m hm)
  rw[rS]at hb
  have aa4:∀s:ak,iI s=true->b∈s.data.toList->b≠c:=fun s hs hb e=>by
   subst e
   unfold iI at hs
   rw[aJ]at hs
   rw[hs b hb]at h2;cases h2
  rcases jC hb with hb|⟨z,hz,hb⟩
  ·simp[sp]at hb;subst hb;exact fun e=>h3.1 e.symm
  ·simp only[aF,List.not_mem_nil,or_false]at hz
   rcases hz with rfl|rfl|rfl|rfl|rfl
   ·exact fX _ h1 b hb
   ·exact fX _ h1 b hb
   ·exact aa4 _ (vp m5) hb
   ·exact aa4 _ (ib m6) hb
   ·exact fX _ h1 b hb
theorem iL.cut(h:iL x):di 47 (qu x)=(cF (x.aM.map (·.1)),dn (x.bu.map iR) plus,true):=by
 unfold qu
 exact cutB_hit (rR ai ai ai fun m hm=>by
  obtain⟨p,hp,rfl⟩:=ay.1 hm
  exact h.aM p hp) _
theorem iL.read(h:iL x):td (di 47 (qu x)).1=some (x.aM.map (·.1)):=by
 rw[h.cut];exact rT h.bad
theorem yS(x:pg):oK x=cv 117++cv 58++qu x:=by
 unfold oK qu
 rw[show(⟨#[117,58]⟩:ak)=cv 117++cv 58 by decide]
 simp only[ByteArray.append_assoc]
theorem o4(x:pg):di 58 (oK x)=(cv 117,qu x,true):=by rw[yS];exact cutB_hit (eM ai) _
theorem iL.aag(h:iL x):fO 700 (oK x):=by
 have h1:=h.size
 refine⟨?_,fun _ l hl=>?_,fun hk=>?_⟩
 ·have e1:(cv 117).size=1:=rfl
  have e2:(cv 58).size=1:=rfl
  rw[yS];simp only[aU];omega
 ·rw[o4,h.read]at hl
  simp only[az]at hl
  subst hl
  have :=h.many
  simp;omega
 ·rw[o4]at hk
  exact absurd (show cv 117=cv 114 from hk) ai
end
theorem zY(H:Ho)(D:Dk):(dc H D).aB=H.aB:=by
 unfold dc
 split
 ·rfl
 ·split<;>rfl
theorem cK.cm{n:Nat}{H:Ho}{D:Dk}(h:cK n H)(u:Int)(hu:∀x∈H.aB,iL x):cK (n+(H.eP u.toNat).aM.length) (la H D u):=by
 unfold la
 split
 ·exact h.le ae
 ·rename_i h1
  split
  ·exact(h.log (D:=D)).le ae
  ·have SU:u.toNat<5:=by
    unfold kP at h1
    rcases Decidable.em (u<0\/5<=u)with h2|h2
    ·rw[if_pos h2]at h1;exact absurd ai h1
    ·omega
   have hx:iL (H.eP u.toNat):=by
    apply hu
    unfold Ho.eP
    rw[aq,ao (by rw[h.aB];exact SU)]
    exact List.getElem_mem _
   refine(((h.log (D:=D)).cE u).cQ _ _).ends (fun l hl=>?_) (fun l hl=>?_) ae
   ·rw[hx.read]at hl
    simp only[az]at hl
    subst hl
    exact dG hx.bad
   ·rw[hx.read]at hl
    simp only[az]at hl
    subst hl
    simp
end WB
namespace Go.Proofs.YtjhogocabcdjbabGreatDoor
open Tryz
open Go Go.RowKit WB
def Dq (p:Nat):List Value:=[bA p]
def J6 (v:Value) (l:List Nat):HP:=SL 119 1 Dq v l
theorem My{l:List Nat}(h:4<=l.length):l.take 4=[0,1,2,3].map fun j=>l.getD j 0:=by
 match l,h with
 |a::b::c::d::l,_=>rfl
theorem S8{w0 w:World}{L R:List HP}{bh bd:Nat}{V:tZ}{H:Ho}(hV:jw V H)(hp:bQ L (bP bh (.cells (fv bd V H).toArray 133 (0,0))) R)(hw:St w0 L w):Src w Dq (.slice (some ((⟨bh,8,none⟩:Addr).add 0)) 4 4) (V.ps.take 4):=by
 have qB:=hV.ps
 have h4:(V.ps.take 4).length=4:=by simp[qB]
 refine⟨_,4,by rw[h4],(fun h=>by cases h),fun ad had=>?_⟩
 cases had
 intro j c hj
 have Nc:(V.ps.take 4).flatMap Dq=(V.ps.take 4).map bA:=by
  generalize V.ps.take 4=l
  induction l with
  |nil=>rfl
  |cons a l ih=>rw[aR,ih];rfl
 rw[Nc,aG]at hj
 cases ku:(V.ps.take 4)[j]? with
 |none=>rw[ku]at hj;cases hj
 |some p=>
  rw[ku]at hj
  simp only[Option.map_some,az]at hj
  subst hj
  have Kn:j<4:=by have :=(au.1 ku).1;omega
  rw[List.getElem?_take,if_pos Kn]at ku
  have :=pZ (bd:=bd) hV Kn ku
  rw[Addr.add_lit,Addr.add_lit,World.cell?,(hw.qh hp).2]
  simpa using this
theorem J_{V:tZ}{H:Ho}(hV:jw V H){r:Nat}(hr:r<H.aI.length):∃s,(dJ V H).getD r default=(s,bA (V.ps.getD (4+r) 0)):=by
 have qB:=hV.ps
 obtain⟨x,hx⟩:∃e,H.aI[r]? =some e:=⟨_,ao hr⟩
 obtain⟨p,hp⟩:∃e,V.ps[4+r]? =some e:=⟨_,ao ae⟩
 refine⟨x.1,?_⟩
 unfold dJ tk
 rw[aq,List.getElem?_zipWith,hx,List.getElem?_drop,hp,aq,hp]
 rfl
theorem oP{α β:Type}(f:α->β):∀(l:List α) (i:Nat),(l.map f).eraseIdx i=(l.eraseIdx i).map f
 |[],_=>rfl
 |a::l,0=>rfl
 |a::l,i+1=>by simp[oP f l i]
theorem pQ{α:Type}:∀{l:List α} {i:Nat} (h:i<l.length),(l[i]::l.eraseIdx i).Perm l
 |a::l,0,_=>.refl _
 |a::l,i+1,h=>(List.Perm.swap _ _ _).trans ((pQ (l:=l) (i:=i) HV).cons a)
theorem Vw(w0:World)(L:List HP)(bh bd:Nat)(V:tZ)(H:Ho)(hV:jw V H)(hn:H.aI.length<=100000):
 KC prog 63 #[bA bh] w0 (Bj bh bd V H L) (fun u M=> ∃js:List Nat,js.Perm (List.range V.ps.length)/\M=J6 u (js.map fun j=>V.ps.getD j 0)::Bj bh bd V H L):=by
 have qB:=hV.ps
 have hsE:∀w,(Go.sizeOf (prog.elem 126)).run prog w=.ok 1 w:=by
  have e:prog.elem 126=119:=by kernel_rfl
  rw[e];exact sizeOf119
 refine KC.mk (n:=25) func63 rfl ntmps63 aj ?_
 refine Z3 ?_
 refine mB ?_
 refine xC ?_
 refine Yk ?_
 refine KO.rng rfl rfl underlying123 bo rfl ?_;intro r10
 refine K8 ?_
 refine K.loop (fun p:List Nat×List Nat×Value×Option (ak×Value)=>[(0,bA bh),(3,p.2.2.1),(10,.pointer (some ⟨r10,0,none⟩))])
  (fun p=>J6 p.2.2.1 (p.2.1.map fun r=>V.ps.getD (4+r) 0)::Hw Value.string V.mb r10 (dJ V H) (p.1.map fun r=>(dJ V H).getD r default) p.2.2.2::bP bh (.cells (fv bd V H).toArray 133 (0,0))::lQ V.nv H.names::cr jz V.ps H.all::cr dj (V.us.map (·.1)) (H.aB.map (·.aM))::cr dh (V.us.map (·.2)) (H.aB.map (·.bu))::cr dX V.bs H.batch::L)
  (fun p=>(p.2.1++p.1).Perm (List.range H.aI.length)) (fun p=>p.1.length) (List.range H.aI.length,[],.slice none 0 0,none)
  aj ⟨rfl,rfl,rfl,trivial⟩ (fun _ h=>?_) ?_
 ·have h1:=cM (E:=119) (sz:=1) (cf:=Dq) h
  have e1:(List.range H.aI.length).map (fun r=>(dJ V H).getD r default)=dJ V H:=by
   have hl:(dJ V H).length=H.aI.length:=by unfold dJ tk;rw[List.length_zipWith,bC];omega
   rw[<-hl]
   apply List.ext_getElem
   ·simp
   ·intro i h1 h2;simp[aq,ao h2]
  dsimp only
  rw[e1]
  exact h1.all nH
 rintro⟨rest,done,v,cur⟩ fZ
 dsimp only at fZ ⊢
 refine Z3 ?_
 refine KO.Sn rfl rfl bo rfl (fun h0=>?_) (fun i e he=>?_)
 refine tK ?_
 refine Z0 ?_
 have fg:rest=[]:=by simpa using h0
 subst fg
 rw[List.append_nil]at fZ
 have tU:done.length<=100000:=by have :=fZ.length_eq;simp at this;omega
 refine yA ?_
 refine Z9 ?_
 refine o8 ?_
 refine Ui ?_
 refine KO.XJ (len:=3) (sz:=1) rfl bH bH hsE rfl ?_
 refine KO.T3 (cf:=Dq) (z:=Value.pointer none) (sz:=1) (dP:=8) (xs:=done.map fun r=>V.ps.getD (4+r) 0) (ys:=V.ps.take 4) rfl rfl rfl (.tail .head) (fun w hw=>S8 hV bo hw) underlying152 bH rfl (fun _=>rfl) (fun _=>rfl) ga ai rfl ?_;intro v24
 refine jH ?_
 refine KQ.bG rfl rfl (fun w' aX=>⟨_,_,rfl,⟨done.map (4+ ·)++[0,1,2,3],?_,rfl⟩,?_⟩)
 ·rw[qB,List.range_add]
  exact List.perm_append_comm.trans ((List.Perm.refl _).append (fZ.map _))
 ·rw[aZ,<-My ae,List.map_map]
  exact aX.all Y7
 obtain⟨r,hr,rfl⟩:∃r,rest[i]? =some r/\(dJ V H).getD r default=e:=by
  rw[aG]at he
  cases hr:rest[i]? with
  |none=>rw[hr]at he;cases he
  |some r=>rw[hr]at he;exact⟨r,rfl,by simpa using he⟩
 have Mi:r<H.aI.length:=by
  have :r∈List.range H.aI.length:=fZ.mem_iff.1 (List.mem_append_right _ (ax hr))
  simpa using this
 obtain⟨s,oz⟩:=J_ hV Mi
 rw[oz]
 have tU:done.length<=100000:=by have :=fZ.length_eq;simp at this;omega
 refine tK ?_
 refine Z0 ?_
 refine xo ?_
 refine qF ?_
 refine KO.Jd rfl rfl bZ rfl ?_
 refine tK ?_
 refine sx ?_
 refine ji ?_
 refine KO.lY (z:=(Value.pointer none)) (sz:=1) (dP:=8) rfl rfl underlying152 bH aQ aQ ai ai rfl ?_;intro X0
 refine KO.app (cf:=Dq) (z:=Value.pointer none) (sz:=1) (dP:=8) (xs:=done.map fun r=>V.ps.getD (4+r) 0) rfl rfl rfl (.tail (.tail .head)) .head underlying152 bH aQ (V.ps.getD (4+r) 0) rfl rfl rfl ga ai rfl ?_;intro YY
 refine Z7 ?_
 refine BB ?_
 refine KQ.round (rest.eraseIdx i,done++[r],YY,some (s,bA (V.ps.getD (4+r) 0))) ?_ ?_ ⟨rfl,rfl,rfl,trivial⟩ (fun _ h=>?_)
 ·dsimp only
  refine List.Perm.trans ?_ fZ
  rw[aH]
  refine(List.Perm.refl done).append ?_
  obtain⟨hi,rfl⟩:=au.1 hr
  exact pQ hi
 ·dsimp only
  have hi:=(au.1 hr).1
  rw[List.length_eraseIdx,if_pos hi];omega
 ·dsimp only
  rw[aZ,<-oP]
  exact h.all nH
theorem Fj:∀(i:Nat) (a c:Value) (cs:List Value),i+2<=cs.length->l9 i [a,c] cs=(cs.set i a).set (i+1) c
 |0,a,c,x::y::cs,_=>rfl
 |0,a,c,[x],h=>by simp at h
 |0,a,c,[],h=>by simp at h
 |i+1,a,c,x::cs,h=>by
  simp only[List.length_cons]at h
  rw[l9,Fj i a c cs ae];rfl
 |i+1,a,c,[],h=>by simp at h
theorem Gd{bd:Nat}{V:tZ}{H:Ho}(hV:jw V H){u:Nat}(hu:u<5):l9 (12+2*u) [.slice none 0 0,.slice none 0 0] (fv bd V H)=fv bd {V with us:=V.us.set u (.slice none 0 0,.slice none 0 0)} H:=by
 have si:=hV.us
 obtain⟨p,hp⟩:∃e,V.us[u]? =some e:=⟨_,ao ae⟩
 rw[Fj _ _ _ _ Rs,(oT (bd:=bd) hV hp).2.2.1]
 have u5:jw {V with us:=V.us.set u (.slice none 0 0,p.2)} H:=⟨hV.ps,by simp[hV.us],hV.bs,hV.ways,hV.aB,hV.batch,hV.bW,hV.aK⟩
 have ku:(V.us.set u (.slice none 0 0,p.2))[u]? =some (.slice none 0 0,p.2):=by rw[List.getElem?_set_self ae]
 rw[show 12+2*u+1=13+2*u by omega]
 have :=(oT (bd:=bd) u5 ku).2.2.2 (.slice none 0 0)
 rw[this]
 simp only[List.set_set]
theorem Lh{w0 w:World}{L:List HP}{V:tZ}{H:Ho}(hV:jw V H){u:Nat}(hu:u<5)(h:St w0 (cr dj (V.us.map (·.1)) (H.aB.map (·.aM))::cr dh (V.us.map (·.2)) (H.aB.map (·.bu))::L) w):
 St w0 (cr dj ((V.us.set u (.slice none 0 0,.slice none 0 0)).map (·.1)) ((H.aB.set u cC).map (·.aM))::cr dh ((V.us.set u (.slice none 0 0,.slice none 0 0)).map (·.2)) ((H.aB.set u cC).map (·.bu))::L) w:=by
 have si:=hV.us
 have gY:=hV.aB
 obtain⟨p,hp⟩:∃e,V.us[u]? =some e:=⟨_,ao ae⟩
 obtain⟨x,hx⟩:∃e,H.aB[u]? =some e:=⟨_,ao ae⟩
 rw[List.map_set,List.map_set,List.map_set,List.map_set]
 have h1:=dD (i:=u) (p:=p.1) (x:=x.aM) (by rw[aG,hp];rfl) (by rw[aG,hx];rfl) h
 have h2:=ja (f:=dj) (i:=u) (p:=.slice none 0 0) (x:=[]) ga ga (cM (E:=142) (sz:=6) (cf:=Dn) h1.drop)
 have h3:=dD (i:=u) (p:=p.2) (x:=x.bu) (by rw[aG,hp];rfl) (by rw[aG,hx];rfl) (h2.all (M:=cr dh (V.us.map (·.2)) (H.aB.map (·.bu))::cr dj ((V.us.map (·.1)).set u (.slice none 0 0)) ((H.aB.map (·.aM)).set u [])::L) Y3)
 have h4:=ja (f:=dh) (i:=u) (p:=.slice none 0 0) (x:=[]) ga ga (cM (E:=146) (sz:=2) (cf:=DU) h3.drop)
 exact h4.all Y7
theorem Ct{w0 w:World}{bh bd:Nat}{H:Ho}{L:List HP}{V:tZ}(hV:jw V H)(a:Int){u:Nat}(hu:u<5)(h:St w0 (bP bh (.cells (fv bd {V with us:=V.us.set u (.slice none 0 0,.slice none 0 0)} H).toArray 133 (0,0))::lQ V.nv H.names::cg Value.string V.mb (dJ V H)::cr jz V.ps (H.all.map fun q=>eK q a true)::cr dj (V.us.map (·.1)) (H.aB.map (·.aM))::cr dh (V.us.map (·.2)) (H.aB.map (·.bu))::cr dX V.bs H.batch::L) w):
 St w0 (dL bh bd (cQ (cE H a) u cC)::L) w:=by
 have h1:=Lh (L:=bP bh (.cells (fv bd {V with us:=V.us.set u (.slice none 0 0,.slice none 0 0)} H).toArray 133 (0,0))::lQ V.nv H.names::cg Value.string V.mb (dJ V H)::cr jz V.ps (H.all.map fun q=>eK q a true)::cr dX V.bs H.batch::L) hV hu (h.all Y3)
 refine Cu (V:={V with us:=V.us.set u (.slice none 0 0,.slice none 0 0)}) (H:=cQ (cE H a) u cC) ⟨?_,by simp[hV.us],hV.bs,?_,by simp[cQ,cE,hV.aB],hV.batch,hV.bW,hV.aK⟩ (h1.all (M:=bP bh (.cells (fv bd {V with us:=V.us.set u (.slice none 0 0,.slice none 0 0)} H).toArray 133 (0,0))::lQ V.nv H.names::cg Value.string V.mb (dJ V H)::cr jz V.ps (H.all.map fun q=>eK q a true)::cr dj ((V.us.set u (.slice none 0 0,.slice none 0 0)).map (·.1)) ((H.aB.set u cC).map (·.aM))::cr dh ((V.us.set u (.slice none 0 0,.slice none 0 0)).map (·.2)) ((H.aB.set u cC).map (·.bu))::cr dX V.bs H.batch::L) Y3) rfl rfl rfl ?_ rfl rfl ?_ rfl rfl rfl rfl rfl rfl
 ·simp[cQ,cE,hV.ps]
 ·simp[cQ,cE,hV.ways]
 ·unfold dJ;exact uN _ _ _ (by simp[cQ,cE])
 ·exact(oW H a).symm
theorem Tr(w0:World)(L:List HP)(bh bd n:Nat)(H:Ho)(u:Int)(hB:cK n H)(hn:n<90000)(hl:∀x∈H.aB,x.aM.length+x.bu.length<=90000):
 KC prog 17 #[bA bh,.int .i64 u] w0 (dL bh bd H::L) (fun v M=>v=cS 70 (Bz H u)/\M=dL bh bd (ou H u)::L):=by
 have F7:=hB.oL
 have ends:∀k:Int,k≠0->Bz H u=k->(cS 70 k=cS 70 (Bz H u)/\dL bh bd H::L=dL bh bd (ou H u)::L):=fun k hk he=>by
  have h0:¬Bz H u=0:=by rw[he];exact hk
  unfold ou
  rw[if_neg h0,he]
  exact⟨rfl,rfl⟩
 refine KC.mk (n:=58) func17 rfl ntmps17 aj ?_
 refine tG ?_
 refine Qe ?_
 by_cases hu:u<0\/5<=u
 ·have he:Bz H u=2:=by unfold Bz;rw[if_pos hu]
  by_cases WE:u<0
  ·refine yI ?_
   refine Bb ?_
   refine sO ?_
   refine sx ?_
   refine K.cV rfl Y74 ?_
   refine yE ?_
   refine KQ.bG rfl rfl (fun w' aX=>⟨_,_,rfl,ends 2 ai he,aX⟩)
  ·refine Eh ?_
   refine sx ?_
   refine K.cV rfl QA ?_
   refine yE ?_
   refine KQ.bG rfl rfl (fun w' aX=>⟨_,_,rfl,ends 2 ai he,aX⟩)
 refine Eh ?_
 refine sx ?_
 refine K.dp rfl QA ?_
 refine qq ?_
 refine K.cx (fun _ h=>cI h) ?_
 rintro⟨V,hV⟩
 dsimp only
 have SU:u.toNat<5:=by omega
 have Mf:u=((u.toNat:Nat):Int):=by omega
 have si:=hV.us
 have gY:=hV.aB
 have qB:=hV.ps
 obtain⟨pv,F8⟩:∃e,V.us[u.toNat]? =some e:=⟨_,ao ae⟩
 obtain⟨x,DK⟩:∃e,H.aB[u.toNat]? =some e:=⟨_,ao ae⟩
 have tQ:=hl x (ax DK)
 have M9:H.eP u.toNat=x:=by unfold Ho.eP;rw[aq,DK];rfl
 obtain⟨c1,c2,-,-⟩:=oT (bd:=bd) hV F8
 refine K.fact (fun w hw=>aY (E:=142) (sz:=6) (cf:=Dn) (v:=pv.1) (xs:=x.aM) (dD (f:=dj) (i:=u.toNat) (by rw[aG,F8];rfl) (by rw[aG,DK];rfl) (hw.pick (A:=cr dj (V.us.map (·.1)) (H.aB.map (·.aM))) bo))) ?_
 rintro⟨a1,k1,Me,-⟩
 refine K.fact (fun w hw=>aY (E:=146) (sz:=2) (cf:=DU) (v:=pv.2) (xs:=x.bu) (dD (f:=dh) (i:=u.toNat) (by rw[aG,F8];rfl) (by rw[aG,DK];rfl) (hw.pick (A:=cr dh (V.us.map (·.2)) (H.aB.map (·.bu))) bo))) ?_
 rintro⟨a2,k2,hv2,-⟩
 rw[Me]at c1
 rw[hv2]at c2
 refine K.draw [.pure,.pure,.pure,.pure,.pure,.pure,.read,.pure,.pure,.pure,.pure,.pure,.pure,.pure,.read,.pure,.pure,.pure,.pure] [0,1,2,3,4,5,6,7,8,9,10,11,12,13,14,15,16,17,18] bH bH ?_
 refine tI ?_
 refine X4 ?_
 refine Yj ?_
 refine KO.dB (i:=12+2*u.toNat) rfl rfl isAgg127 bZ Uy c1 rfl ?_
 refine KO.len rfl underlying127 rfl ?_
 refine tI ?_
 refine X4 ?_
 refine Yi ?_
 refine KO.dB (i:=13+2*u.toNat) rfl rfl isAgg128 bZ Uy c2 rfl ?_
 refine KO.len rfl underlying128 rfl ?_
 refine vP ?_
 refine Yt ?_
 refine K.bz rfl (fun h3=>?_) (fun h3=>?_)
 ·have he:Bz H u=8:=by unfold Bz;rw[if_neg hu,M9,if_pos ae]
  refine yE ?_
  refine KQ.bG rfl rfl (fun w' aX=>⟨_,_,rfl,ends 8 ai he,cn V hV (aX.all QE)⟩)
 refine qq ?_
 cases sq:H.down with
 |true=>
  have he:Bz H u=6:=by unfold Bz;rw[if_neg hu,M9,if_neg ae,if_pos sq]
  refine G6 ?_
  refine sx ?_
  refine K.cV rfl sq ?_
  refine yE ?_
  refine KQ.bG rfl rfl (fun w' aX=>⟨_,_,rfl,ends 6 ai he,cn V hV (aX.all QE)⟩)
 |false=>
 have he:Bz H u=0:=by unfold Bz;rw[if_neg hu,M9,if_neg ae,if_neg YJ]
 refine G6 ?_
 refine sx ?_
 refine K.dp rfl sq ?_
 refine X3 ?_
 refine Z8 ?_
 refine KO.cl (cp:=[]) rfl rfl rfl call63 rfl (Vw w0 L bh bd V H hV ae) ?_;rintro va L' ⟨js,Gp,rfl⟩;refine KO.fact (fun w hw=>aY (E:=119) (sz:=1) (cf:=Dq) (hw.pick .head)) ?_;rintro⟨ad,cap,rfl,had⟩
 refine KO.len rfl underlying152 rfl ?_
 refine ox ?_
 have U6:js.length=V.ps.length:=by have :=Gp.length_eq;simpa using this
 refine K.loop (fun k:Nat=>[(0,bA bh),(1,.int .i64 u),(42,.slice ad (js.map fun j=>V.ps.getD j 0).length cap),(43,.int .i64 ((js.map fun j=>V.ps.getD j 0).length:Nat)),(44,.int .i64 (k:Nat))])
  (fun k=>J6 (.slice ad (js.map fun j=>V.ps.getD j 0).length cap) (js.map fun j=>V.ps.getD j 0)::cr jz V.ps (j7 u H.all (js.take k))::bP bh (.cells (fv bd V H).toArray 133 (0,0))::lQ V.nv H.names::cg Value.string V.mb (dJ V H)::cr dj (V.us.map (·.1)) (H.aB.map (·.aM))::cr dh (V.us.map (·.2)) (H.aB.map (·.bu))::cr dX V.bs H.batch::L)
  (fun k=>k<=js.length) (fun k=>js.length-k) 0 (aV _) ⟨rfl,rfl,rfl,rfl,rfl,trivial⟩ (fun _ h=>h.all Y7) ?_
 rintro k hk
 refine iJ ?_
 refine K.bz rfl (fun h8=>?_) (fun h8=>?_)
 ·rw[bj]at h8
  obtain⟨j,hj⟩:∃e,js[k]? =some e:=⟨js[k],ao ae⟩
  have hjr:j<V.ps.length:=by have :=Gp.mem_iff.1 (ax hj);simpa using this
  obtain⟨p,hp⟩:∃e,V.ps[j]? =some e:=⟨_,ao hjr⟩
  have hpj:(js.map fun j=>V.ps.getD j 0)[k]? =some p:=by rw[aG,hj,Option.map_some,aq,hp];rfl
  obtain⟨g,rfl⟩:=had nI
  have hal:=g_ hV.ways
  have hle:=wW u (js.take k) H.all
  have hq:(j7 u H.all (js.take k))[j]? =some ((j7 u H.all (js.take k)).getD j default):=by rw[aq,ao ae];rfl
  have hqb:=AH u (js.take k) H.all hB.qs _ (ax hq)
  have U1:=hqb.len
  have Ai:=AG (u:=u) (l:=H.all) hj
  generalize j7 u H.all (js.take k)=lk at hq U1 Ai
  generalize lk.getD j default=q at hq U1 Ai
  refine qF ?_
  refine acz ?_
  refine sx ?_
  refine ji ?_
  refine KO.cl (cp:=[]) rfl rfl rfl call64 rfl (KC.nO (φ:=fun v=>v=.tuple #[]) hp hq bo (fun L=>PB w0 L p q u true ae)) ?_;rintro v' L' ⟨rfl,rfl⟩
  refine vD ?_
  refine KQ.round (k+1) ae ae ⟨rfl,rfl,rfl,rfl,rfl,trivial⟩ (fun _ h=>?_)
  rw[Ai]
  exact h.all Y3
 ·have uX:k=js.length:=by rw[bj]at h8;omega
  subst uX
  rw[List.take_length,CQ u (by rw[g_ hV.ways,<-qB];exact Gp)]
  refine Z9 ?_
  refine acw ?_
  refine lJ ?_
  refine X4 ?_
  refine KO.JU (b:=bh) (off:=12+2*u.toNat) (us:=[.slice none 0 0,.slice none 0 0]) rfl rfl Uy rfl aQ (by exact sizeOf130) aQ bo (by rw[rZ hV];simp;omega) (Gd hV SU) ?_
  refine rE ?_
  refine KQ.bG rfl rfl (fun w' aX=>⟨_,_,rfl,⟨by rw[he];rfl,rfl⟩,?_⟩)
  have e1:ou H u=cQ (cE H u) u.toNat cC:=by unfold ou;rw[if_pos he]
  rw[e1]
  exact Ct hV u SU (aX.all Y1)
theorem S7{w0 w:World}{L R:List HP}{bh bd:Nat}{V:tZ}{H:Ho}(hV:jw V H){u:Nat}{p:Value×Value}(hp:V.us[u]? =some p)(hk:bQ L (bP bh (.cells (fv bd V H).toArray 133 (0,0))) R)(hw:St w0 L w){ad:Addr}(ha:ad=⟨bh,12+2*u,none⟩):dr w ad [p.1,p.2]:=by
 obtain⟨c1,c2,-,-⟩:=oT (bd:=bd) hV hp
 subst ha
 intro j c hj
 rw[Addr.add_lit,World.cell?,(hw.qh hk).2]
 match j with
 |0=>simp at hj;subst hj;simpa using c1
 |1=>simp at hj;subst hj;rw[show 12+2*u+1=13+2*u by omega];simpa using c2
 |j+2=>simp at hj
theorem Cy(w0:World)(L:List HP)(bh bd n:Nat)(H:Ho)(D:Dk)(u:Int)(hT:qH w0)(hM:qK w0)(hB:cK n H)(hn:n+700<=90000)(hl:∀x∈H.aB,iL x)(h3:D.places.length=300)(hd: -4000000000000000000<=D.left/\D.left<=9223372036854775807):
 KC prog 16 #[bA bh,.int .i64 u] w0 (dL bh bd H::fR bd D::L) (fun v M=>v=cS 70 (vj H D u)/\M=dL bh bd (la H D u)::fR bd (od H D u)::L):=by
 have F7:=hB.oL
 have aeS:=hB.used
 have ends:∀k:Int,k≠0->kP H u=k->(cS 70 k=cS 70 (vj H D u)/\dL bh bd H::fR bd D::L=dL bh bd (la H D u)::fR bd (od H D u)::L):=fun k hk he=>by
  have h0:kP H u≠0:=by rw[he];exact hk
  unfold vj la od
  rw[if_pos h0,if_pos h0,if_pos h0,he]
  exact⟨rfl,rfl⟩
 refine KC.mk (n:=113) func16 rfl ntmps16 aj ?_
 refine A3 ?_
 by_cases hu:u<0\/5<=u
 ·have he:kP H u=2:=by unfold kP;rw[if_pos hu]
  by_cases WE:u<0
  ·refine yI ?_
   refine Bb ?_
   refine Qh ?_
   refine tH ?_
   refine KQ.bG rfl rfl (fun w' aX=>⟨_,_,rfl,ends 2 ai he,aX⟩)
  ·refine Eh ?_
   refine Z2 ?_
   refine K.cV rfl QA ?_
   refine tH ?_
   refine KQ.bG rfl rfl (fun w' aX=>⟨_,_,rfl,ends 2 ai he,aX⟩)
 refine Eh ?_
 refine Z2 ?_
 refine K.dp rfl QA ?_
 refine Z6 ?_
 refine K.cx (fun _ h=>cI h) ?_
 rintro⟨V,hV⟩
 dsimp only
 have SU:u.toNat<5:=by omega
 have Mf:u=((u.toNat:Nat):Int):=by omega
 have si:=hV.us
 have gY:=hV.aB
 have qB:=hV.ps
 obtain⟨⟨v1,v2⟩,F8⟩:∃e,V.us[u.toNat]? =some e:=⟨_,ao ae⟩
 obtain⟨x,DK⟩:∃e,H.aB[u.toNat]? =some e:=⟨_,ao ae⟩
 have UX:=hl x (ax DK)
 have O0:=UX.many
 have M9:H.eP u.toNat=x:=by unfold Ho.eP;rw[aq,DK];rfl
 have g1:(V.us.map (·.1))[u.toNat]? =some v1:=by rw[aG,F8];rfl
 have g2:(V.us.map (·.2))[u.toNat]? =some v2:=by rw[aG,F8];rfl
 have g3:(H.aB.map (·.aM))[u.toNat]? =some x.aM:=by rw[aG,DK];rfl
 have g4:(H.aB.map (·.bu))[u.toNat]? =some x.bu:=by rw[aG,DK];rfl
 refine K.fact (fun w hw=>aY (E:=142) (sz:=6) (cf:=Dn) (v:=v1) (xs:=x.aM) (dD (f:=dj) g1 g3 (hw.pick (A:=cr dj (V.us.map (·.1)) (H.aB.map (·.aM))) bo))) ?_
 rintro⟨a1,k1,rfl,afZ⟩
 refine K.fact (fun w hw=>aY (E:=146) (sz:=2) (cf:=DU) (v:=v2) (xs:=x.bu) (dD (f:=dh) g2 g4 (hw.pick (A:=cr dh (V.us.map (·.2)) (H.aB.map (·.bu))) bo))) ?_
 rintro⟨a2,k2,rfl,afY⟩
 refine o8 ?_
 refine X4 ?_
 refine KO.Wn (cs:=#[.slice a1 x.aM.length k1,.slice a2 x.bu.length k2]) rfl rfl isAgg130 sizeOf130 rfl (fun w hw=>S7 hV F8 (L:=Bj bh bd V H (fR bd D::L)) .head hw Uy) rfl ?_
 refine KO.alloc rfl zeroValue130 aQ rfl ?_;intro b5
 refine KO.pD rfl rfl rfl aQ (by exact sizeOf130) aQ bZ aQ ?_
 refine yF ?_
 refine KO.gd (off:=0) rfl runUnderlying130 rfl rfl sizeOf127 rfl ?_
 refine KO.ld rfl rfl isAgg127 bZ aQ rfl ?_
 refine KO.len rfl underlying127 rfl ?_
 refine KO.gd (off:=1) rfl runUnderlying130 rfl rfl sizeOf128 rfl ?_
 refine KO.ld rfl rfl isAgg128 bZ aQ rfl ?_
 refine KO.len rfl underlying128 rfl ?_
 refine vP ?_
 refine tJ ?_
 refine K.bz rfl (fun h4=>?_) (fun h4=>?_)
 ·have he:kP H u=8:=by unfold kP;rw[if_neg hu,M9,if_pos ae]
  refine tH ?_
  refine KQ.bG rfl rfl (fun w' aX=>⟨_,dL bh bd H::fR bd D::L,rfl,?_,?_⟩)
  ·exact ends 8 ai he
  ·exact cn V hV (aX.all Y1)
 have he:kP H u=0:=by unfold kP;rw[if_neg hu,M9,if_neg ae]
 have abn:vj H D u=c7 H D:=by unfold vj;rw[if_neg (by rw[he];decide)]
 have abo:od H D u=gU H D (oK x):=by unfold od;rw[if_neg (by rw[he];decide),M9]
 have Tl:la H D u=if c7 H D≠0 then dc H D else(eZ (cQ (cE (dc H D) u) u.toNat cC) (qu x)).1:=by unfold la;rw[if_neg (by rw[he];decide),M9]
 refine xB ?_
 refine lK ?_
 refine K.conv (L':=SL 142 6 Dn (.slice a1 x.aM.length k1) x.aM::SL 146 2 DU (.slice a2 x.bu.length k2) x.bu::bP b5 (.cells [Value.slice a1 x.aM.length k1,.slice a2 x.bu.length k2].toArray 130 (0,0))::bP bh (.cells (fv bd V H).toArray 133 (0,0))::lQ V.nv H.names::cg Value.string V.mb (dJ V H)::cr jz V.ps H.all::cr dj ((V.us.map (·.1)).eraseIdx u.toNat) ((H.aB.map (·.aM)).eraseIdx u.toNat)::cr dh ((V.us.map (·.2)).eraseIdx u.toNat) ((H.aB.map (·.bu)).eraseIdx u.toNat)::cr dX V.bs H.batch::fR bd D::L) (fun w hw=>?_) ?_
 ·have h1:=dD (f:=dj) g1 g3 (hw.pick (A:=cr dj (V.us.map (·.1)) (H.aB.map (·.aM))) bo)
  have h2:=dD (f:=dh) g2 g4 (h1.pick (A:=cr dh (V.us.map (·.2)) (H.aB.map (·.bu))) bo)
  exact h2.all Y7
 refine dR ?_
 refine KO.gd (off:=1) rfl runUnderlying130 rfl rfl sizeOf128 rfl ?_
 refine KO.ld rfl rfl isAgg128 bo aQ rfl ?_
 refine KO.len rfl underlying128 rfl ?_
 refine ox ?_
 refine K.loop (fun p:Nat×Value=>[(0,bA bh),(1,.int .i64 u),(5,.pointer (some ⟨b5,0,none⟩)),(6,p.2),(40,.slice a2 x.bu.length k2),(41,.int .i64 (x.bu.length:Nat)),(42,.int .i64 (p.1:Nat))])
  (fun p=>l5 p.2 ((x.bu.take p.1).map iR)::SL 142 6 Dn (.slice a1 x.aM.length k1) x.aM::SL 146 2 DU (.slice a2 x.bu.length k2) x.bu::bP b5 (.cells [Value.slice a1 x.aM.length k1,.slice a2 x.bu.length k2].toArray 130 (0,0))::bP bh (.cells (fv bd V H).toArray 133 (0,0))::lQ V.nv H.names::cg Value.string V.mb (dJ V H)::cr jz V.ps H.all::cr dj ((V.us.map (·.1)).eraseIdx u.toNat) ((H.aB.map (·.aM)).eraseIdx u.toNat)::cr dh ((V.us.map (·.2)).eraseIdx u.toNat) ((H.aB.map (·.bu)).eraseIdx u.toNat)::cr dX V.bs H.batch::fR bd D::L) (fun p=>p.1<=x.bu.length) (fun p=>x.bu.length-p.1) (0,.slice none 0 0)
  (aV _) ⟨rfl,rfl,rfl,rfl,rfl,rfl,rfl,trivial⟩ (fun _ h=>?_) ?_
 ·have h1:=cM (E:=9) (sz:=1) (cf:=ln) h
  exact h1
 rintro⟨k,v6⟩ hk
 dsimp only at hk ⊢
 refine iJ ?_
 refine K.bz rfl (fun h8=>?_) (fun h8=>?_)
 ·obtain⟨g,hg⟩:∃e,x.bu[k]? =some e:=⟨x.bu[k],ao ae⟩
  obtain⟨ag,rfl⟩:=afY ae
  have hgo:=UX.bu g (ax hg)
  obtain⟨gi,gq⟩:=g
  dsimp only at hgo
  have hq8:=(jj hgo.2.2).2
  have hi:=cH (n:=gi) ⟨by omega,by omega⟩
  have z2:(⟨#[32]⟩:ak).size=1:=rfl
  have z3:(b_ gi++⟨#[32]⟩:ak).size<=22:=by simp only[aU];omega
  refine qF ?_
  refine KO.eX rfl rfl runUnderlying128 sizeOf146 aQ ae rfl ?_
  refine KO.wC rfl rfl isAgg146 sizeOf146 bo (fun _=>rfl) xG rfl ?_
  refine KO.alloc rfl zeroValue146 aQ rfl ?_;intro b8
  refine KO.pD rfl rfl rfl aQ (by exact sizeOf146) aQ bZ aQ ?_
  refine Z2 ?_
  refine K.draw [.pure,.pure,.read,.dm,.pure,.pure,.read,.pure,.dm,.write,.pure] [0,1,2,5,6,3,4,7,8,9,10] bH bH ?_
  refine Z1 ?_
  refine KO.gd (off:=0) rfl runUnderlying146 rfl rfl sizeOf3 rfl ?_
  refine KO.ld (v:=.int .i64 gi) rfl rfl isAgg3 bZ aQ rfl ?_
  refine KO.gd (off:=1) rfl runUnderlying146 rfl rfl sizeOf9 rfl ?_
  refine KO.ld (v:=.string gq) rfl rfl isAgg9 bZ aQ rfl ?_
  refine KO.ce (cp:=[]) rfl rfl rfl call59 rfl (kK w0 _ gi hT ⟨by omega,by omega⟩) ?_;rintro v' L' ⟨rfl,rfl⟩
  refine rF ?_
  refine rF ?_
  refine KO.lY (z:=(Value.string ⟨#[]⟩)) (sz:=1) (dP:=16) rfl rfl underlying115 bH aQ aQ ai ai rfl ?_;intro b54
  refine KO.app (cf:=ln) (z:=Value.string ⟨#[]⟩) (sz:=1) (dP:=16) (xs:=(x.bu.take k).map iR) rfl rfl rfl (.tail (.tail .head)) .head underlying115 mV rfl (iR (gi,gq)) rfl rfl rfl ga ai rfl ?_;intro v9
  refine vz ?_
  refine KQ.round (k+1,v9) iK iK ⟨rfl,rfl,rfl,rfl,rfl,rfl,rfl,trivial⟩ (fun _ h=>?_)
  dsimp only
  rw[bJ hg,aZ]
  exact h.all Y5
 have uX:k=x.bu.length:=by omega
 subst uX
 rw[List.take_length]
 refine Z9 ?_
 refine dR ?_
 refine mB ?_
 refine KO.gd (off:=0) rfl runUnderlying130 rfl rfl sizeOf127 rfl ?_
 refine KO.ld rfl rfl isAgg127 bo aQ rfl ?_
 refine KO.len rfl underlying127 rfl ?_
 refine ox ?_
 refine K.loop (fun p:Nat×Value=>[(0,bA bh),(1,.int .i64 u),(6,v6),(9,p.2),(58,.slice a1 x.aM.length k1),(59,.int .i64 (x.aM.length:Nat)),(60,.int .i64 (p.1:Nat))])
  (fun p=>SL 44 5 du p.2 ((x.aM.take p.1).map (·.1))::l5 v6 (x.bu.map iR)::SL 142 6 Dn (.slice a1 x.aM.length k1) x.aM::SL 146 2 DU (.slice a2 x.bu.length k2) x.bu::bP bh (.cells (fv bd V H).toArray 133 (0,0))::lQ V.nv H.names::cg Value.string V.mb (dJ V H)::cr jz V.ps H.all::cr dj ((V.us.map (·.1)).eraseIdx u.toNat) ((H.aB.map (·.aM)).eraseIdx u.toNat)::cr dh ((V.us.map (·.2)).eraseIdx u.toNat) ((H.aB.map (·.bu)).eraseIdx u.toNat)::cr dX V.bs H.batch::fR bd D::L) (fun p=>p.1<=x.aM.length) (fun p=>x.aM.length-p.1) (0,.slice none 0 0)
  (aV _) ⟨rfl,rfl,rfl,rfl,rfl,rfl,rfl,trivial⟩ (fun _ h=>?_) ?_
 ·have h1:=cM (E:=44) (sz:=5) (cf:=du) h
  exact h1.all Y5
 rintro⟨k,v9⟩ hk
 dsimp only at hk ⊢
 refine iJ ?_
 refine K.bz rfl (fun Kw=>?_) (fun Kw=>?_)
 ·obtain⟨g,hg⟩:∃e,x.aM[k]? =some e:=⟨x.aM[k],ao ae⟩
  obtain⟨ag,rfl⟩:=afZ ae
  obtain⟨⟨mi,mp,mb,mq,mh⟩,pt⟩:=g
  refine qF ?_
  refine KO.eX rfl rfl runUnderlying127 sizeOf142 aQ ae rfl ?_
  refine KO.wC rfl rfl isAgg142 sizeOf142 bo (fun _=>rfl) xG rfl ?_
  refine KO.alloc rfl zeroValue142 aQ rfl ?_;intro b11
  refine KO.pD rfl rfl rfl aQ (by exact sizeOf142) aQ bZ aQ ?_
  refine Z2 ?_
  refine Z8 ?_
  refine KO.gd (off:=0) rfl runUnderlying142 rfl rfl sizeOf44 rfl ?_
  (refine KO.Wp rfl rfl isAgg44 sizeOf44 bZ Y9 aQ rfl ?_)
  refine KO.lY (z:=(Value.agg #[.int .i64 0,.int .i64 0,.string ⟨#[]⟩,.string ⟨#[]⟩,.int .i64 0])) (sz:=5) (dP:=56) rfl rfl underlying49 bH aQ aQ ai ai rfl ?_;intro b67
  refine KO.app (cf:=du) (z:=Value.agg #[.int .i64 0,.int .i64 0,.string ⟨#[]⟩,.string ⟨#[]⟩,.int .i64 0]) (sz:=5) (dP:=56) (xs:=(x.aM.take k).map (·.1)) rfl rfl rfl (.tail (.tail .head)) .head underlying49 bH aQ (⟨mi,mp,mb,mq,mh⟩:Ms) rfl rfl rfl ga ai rfl ?_;intro v9'
  refine vz ?_
  refine KQ.round (k+1,v9') iK iK ⟨rfl,rfl,rfl,rfl,rfl,rfl,rfl,trivial⟩ (fun _ h=>?_)
  dsimp only
  rw[bJ hg,aZ]
  exact h.all Y5
 have uX:k=x.aM.length:=by omega
 subst uX
 rw[List.take_length]
 refine K.conv (L':=SL 44 5 du v9 (x.aM.map (·.1))::l5 v6 (x.bu.map iR)::dL bh bd H::fR bd D::L) (fun w hw=>?_) ?_
 ·have h1:=j0 (f:=dj) g1 g3 (hw.all (M:=dj (.slice a1 x.aM.length k1) x.aM::cr dj ((V.us.map (·.1)).eraseIdx u.toNat) ((H.aB.map (·.aM)).eraseIdx u.toNat)::dh (.slice a2 x.bu.length k2) x.bu::cr dh ((V.us.map (·.2)).eraseIdx u.toNat) ((H.aB.map (·.bu)).eraseIdx u.toNat)::SL 44 5 du v9 (x.aM.map (·.1))::l5 v6 (x.bu.map iR)::bP bh (.cells (fv bd V H).toArray 133 (0,0))::lQ V.nv H.names::cg Value.string V.mb (dJ V H)::cr jz V.ps H.all::cr dX V.bs H.batch::fR bd D::L) Y7)
  have h2:=j0 (f:=dh) g2 g4 (h1.all (M:=dh (.slice a2 x.bu.length k2) x.bu::cr dh ((V.us.map (·.2)).eraseIdx u.toNat) ((H.aB.map (·.bu)).eraseIdx u.toNat)::SL 44 5 du v9 (x.aM.map (·.1))::l5 v6 (x.bu.map iR)::bP bh (.cells (fv bd V H).toArray 133 (0,0))::lQ V.nv H.names::cg Value.string V.mb (dJ V H)::cr jz V.ps H.all::cr dj (V.us.map (·.1)) (H.aB.map (·.aM))::cr dX V.bs H.batch::fR bd D::L) Y7)
  exact(cn V hV (h2.all (M:=Bj bh bd V H (SL 44 5 du v9 (x.aM.map (·.1))::l5 v6 (x.bu.map iR)::fR bd D::L)) Y7)).all Y3
 refine Z9 ?_
 have fG:=UX.bad
 have S2:∀m∈x.aM.map (·.1),m.body.size<=maxLen/\m.queue.size<=maxLen:=fun m hm=>pK (dG fG m hm)
 have hgs:=UX.abS
 have hpz:=UX.aal
 have hrb:=UX.size
 refine Z8 ?_
 refine KO.ce (cp:=[]) rfl rfl rfl call60 rfl (lz w0 _ v9 (x.aM.map (·.1)) (fun w hw=>x9.FA (E:=44) (fun _=>rfl) .head hw) hT S2 ga) ?_;rintro v' L' hR;unfold QN at hR;rw[fG]at hR;obtain⟨rfl,rfl⟩:=hR
 refine ky ?_
 refine Jo ?_
 refine BL ?_
 have z1:(⟨#[117,58]⟩:ak).size=2:=rfl
 have z2:(⟨#[47]⟩:ak).size=1:=rfl
 have z3:(⟨#[117,58]⟩++cF (x.aM.map (·.1)):ak).size<=70702:=by simp only[aU];omega
 have z4:(⟨#[117,58]⟩++cF (x.aM.map (·.1))++⟨#[47]⟩:ak).size<=70703:=by simp only[aU];omega
 have z5:(cF (x.aM.map (·.1))++⟨#[47]⟩:ak).size<=70701:=by simp only[aU];omega
 have hrU:(oK x).size<=80000:=UX.aag.size
 refine ji ?_
 refine rF ?_
 refine rF ?_
 refine Z1 ?_
 refine KO.ce (cp:=[]) rfl rfl rfl call62 rfl (wD w0 _ _ v6 (x.bu.map iR) plus bo ga ae) ?_;rintro v' L' ⟨rfl,rfl⟩
 refine rF ?_
 refine KO.cl (cp:=[]) rfl rfl rfl call61 rfl (KC.QV bo bo (Ou w0 _ bh bd H D (oK x) hT h3 hd ae aeS)) ?_;rintro v' L' ⟨rfl,rfl⟩
 refine yH ?_
 refine K.bz rfl (fun h22=>?_) (fun h22=>?_)
 ·rw[if_pos h22]at Tl
  refine G9 ?_
  refine KQ.bG rfl rfl (fun w' aX=>⟨_,_,rfl,⟨by rw[abn],rfl⟩,?_⟩)
  rw[Tl,abo]
  exact aX.all Y5
 rw[if_neg h22]at Tl
 have agp:c7 H D=0:=by simpa using h22
 have h_:cK n (dc H D):=hB.log
 have hq1:=h_.oL
 generalize Mt:dc H D=H1 at *
 refine Z6 ?_
 refine K.cx (fun _ h=>cI (h.pick bZ)) ?_
 rintro⟨V1,I5⟩
 dsimp only
 have afa:=I5.ps
 refine Z8 ?_
 refine KO.cl (cp:=[]) rfl rfl rfl call63 rfl (Vw w0 _ bh bd V1 H1 I5 ae) ?_;rintro va L' ⟨js,Gp,rfl⟩;refine KO.fact (fun w hw=>aY (E:=119) (sz:=1) (cf:=Dq) (hw.pick .head)) ?_;rintro⟨ad,cap,rfl,had⟩
 refine KO.len rfl underlying152 rfl ?_
 refine ox ?_
 have U6:js.length=V1.ps.length:=by have :=Gp.length_eq;simpa using this
 refine K.loop (fun k:Nat=>[(0,bA bh),(1,.int .i64 u),(6,v6),(12,.string (cF (x.aM.map (·.1)))),(90,.slice ad (js.map fun j=>V1.ps.getD j 0).length cap),(91,.int .i64 ((js.map fun j=>V1.ps.getD j 0).length:Nat)),(92,.int .i64 (k:Nat))])
  (fun k=>J6 (.slice ad (js.map fun j=>V1.ps.getD j 0).length cap) (js.map fun j=>V1.ps.getD j 0)::cr jz V1.ps (j7 u H1.all (js.take k))::bP bh (.cells (fv bd V1 H1).toArray 133 (0,0))::lQ V1.nv H1.names::cg Value.string V1.mb (dJ V1 H1)::cr dj (V1.us.map (·.1)) (H1.aB.map (·.aM))::cr dh (V1.us.map (·.2)) (H1.aB.map (·.bu))::cr dX V1.bs H1.batch::l5 v6 (x.bu.map iR)::fR bd (gU H D (oK x))::L)
  (fun k=>k<=js.length) (fun k=>js.length-k) 0 (aV _) ⟨rfl,rfl,rfl,rfl,rfl,rfl,rfl,trivial⟩ (fun _ h=>h.all Y5) ?_
 rintro k hk
 refine iJ ?_
 refine K.bz rfl (fun h8=>?_) (fun h8=>?_)
 ·rw[bj]at h8
  obtain⟨j,hj⟩:∃e,js[k]? =some e:=⟨js[k],ao ae⟩
  have hjr:j<V1.ps.length:=by have :=Gp.mem_iff.1 (ax hj);simpa using this
  obtain⟨p,hp⟩:∃e,V1.ps[j]? =some e:=⟨_,ao hjr⟩
  have hpj:(js.map fun j=>V1.ps.getD j 0)[k]? =some p:=by rw[aG,hj,Option.map_some,aq,hp];rfl
  obtain⟨g,rfl⟩:=had nI
  have hal:=g_ I5.ways
  have hle:=wW u (js.take k) H1.all
  have hq:(j7 u H1.all (js.take k))[j]? =some ((j7 u H1.all (js.take k)).getD j default):=by rw[aq,ao ae];rfl
  have hqb:=AH u (js.take k) H1.all h_.qs _ (ax hq)
  have U1:=hqb.len
  have Ai:=AG (u:=u) (l:=H1.all) hj
  generalize j7 u H1.all (js.take k)=lk at hq U1 Ai
  generalize lk.getD j default=q at hq U1 Ai
  refine qF ?_
  refine acz ?_
  refine sx ?_
  refine ji ?_
  refine KO.cl (cp:=[]) rfl rfl rfl call64 rfl (KC.nO (φ:=fun v=>v=.tuple #[]) hp hq bo (fun L=>PB w0 L p q u true ae)) ?_;rintro v' L' ⟨rfl,rfl⟩
  refine vD ?_
  refine KQ.round (k+1) ae ae ⟨rfl,rfl,rfl,rfl,rfl,rfl,rfl,trivial⟩ (fun _ h=>?_)
  rw[Ai]
  exact h.all Y3
 have uX:k=js.length:=by rw[bj]at h8;omega
 subst uX
 rw[List.take_length,CQ u (by rw[g_ I5.ways,<-afa];exact Gp)]
 refine Z9 ?_
 refine acw ?_
 refine lJ ?_
 refine X4 ?_
 refine KO.JU (b:=bh) (off:=12+2*u.toNat) (us:=[.slice none 0 0,.slice none 0 0]) rfl rfl Uy rfl aQ (by exact sizeOf130) aQ bo (by rw[rZ I5];simp;omega) (Gd I5 SU) ?_
 refine Z0 ?_
 refine K.conv (L':=dL bh bd (cQ (cE H1 u) u.toNat cC)::l5 v6 (x.bu.map iR)::fR bd (gU H D (oK x))::L) (fun w hw=>Ct I5 u SU (hw.all Y1)) ?_
 have tV:cK n (cQ (cE H1 u) u.toNat cC):=(h_.cE u).cQ _ _
 have S5:∀l,td (di 47 (qu x)).1=some l->n+l.length<=90000:=fun l EC=>by
  rw[UX.read]at EC
  simp only[az]at EC
  subst EC
  simp;omega
 refine ji ?_
 refine rF ?_
 refine Z1 ?_
 refine KO.ce (cp:=[]) rfl rfl rfl call62 rfl (wD w0 _ _ v6 (x.bu.map iR) plus bo ga ae) ?_;rintro v' L' ⟨rfl,rfl⟩
 refine rF ?_
 refine KO.cl (cp:=[]) rfl rfl rfl call65 rfl (KC.qv bZ (Kq w0 _ bh bd n (cQ (cE H1 u) u.toNat cC) (qu x) hT hM ae tV S5 ae)) ?_;rintro v' L' ⟨rfl,rfl⟩
 refine rE ?_
 refine KQ.bG rfl rfl (fun w' aX=>⟨_,_,rfl,⟨by rw[abn,agp];rfl,rfl⟩,?_⟩)
 rw[Tl,abo]
 exact aX.all Y5
end Go.Proofs.YtjhogocabcdjbabGreatDoor
namespace WB
open Go Go.RowKit Go.Sort Go.Shelf Go.Proofs
section
variable {w0 w:World} {L R:List HP} {E:TypeId} {α:Type} [Inhabited α] {cf:α->List Value} {k:Nat} {xs ys:List α} {v:Value} {g n cap:Nat}
theorem CI(hk:∀x,(cf x).length=k)(xs:List α)(j:Nat)(hj:j<xs.length *k):(xs.flatMap cf)[j]? =some (flatK cf k xs.toArray)[j]! :=by
 have wJ:0<k:=by rcases Nat.eq_zero_or_pos k with h|h;· subst h;simp at hj
                 ·exact h
 have hd:j/k<xs.length:=(Nat.div_lt_iff_lt_mul wJ).2 hj
 have hm:j%k<k:=Nat.mod_lt _ wJ
 rw[get_flatK _ _ _ _ (by simpa using hj)]
 have :=flat_get cf k hk default xs (j/k) (j%k) hd hm
 rw[Nat.div_add_mod']at this
 rw[this]
 have e1:xs.toArray[j/k]! =xs.getD (j/k) default:=by simp[aq,hd]
 rw[e1,ao (by rw[hk];exact hm),List.getElem!_eq_getElem?_getD,ao (by rw[hk];exact hm)]
 rfl
theorem Cs(hk:∀x,(cf x).length=k)(h:St w0 (SL E k cf (.slice (some ⟨g,0,none⟩) n cap) xs::R) w):HoldsK cf k w g 0 xs.toArray:=by
 obtain⟨rfl,h2,_,cur,h4,h5,h6⟩:=gF h
 intro j hj
 have Zl:j<xs.length *k:=by simpa using hj
 have hl:=h6.look.2
 refine⟨?_,?_⟩
 ·rw[Nat.zero_add,World.cell?,hl]
  have :=CI (cf:=cf) hk xs j Zl
  rw[<-h5,List.getElem?_take,if_pos Zl]at this
  simpa using this
 ·rw[World.frozen?,hl];simp
theorem St.grow(h:St w0 L w)(q:Nat)(os:Array Obj):St w0 L (Sort.grow (Sort.ahead w q) os):=h.aE (Lib.below_grow w.heap.size w (aD _) q os)
theorem St.sorted(hk:∀x,(cf x).length=k)(h:St w0 (SL E k cf (.slice (some ⟨g,0,none⟩) n cap) xs::R) w)(hl:ys.length=xs.length)(q:Nat)(os:Array Obj):
 St w0 (SL E k cf (.slice (some ⟨g,0,none⟩) n cap) ys::R) (Sort.grow (putRowK cf k (Sort.ahead w q) g 0 ys.toArray) os):=by
 obtain⟨rfl,h2,h3,cur,h4,h5,h6⟩:=gF h
 have Zk:=h6.look.2
 have hle:xs.length *k<=cap *k:=Nat.mul_le_mul_right _ h2
 have hup:St w0 (bP g (.cells (putCells id 0 (flatK cf k ys.toArray) cur) E (0,0))::R) (putRowK cf k (Sort.ahead w q) g 0 ys.toArray):=by
  refine h6.upd rfl rfl rfl (by simp[putRowK]) ?_ ?_
  ·simp[putRowK,putRow,mapBlock,Array.getElem?_modify,Zk,onCells]
  ·intro b hb
   simp[putRowK,putRow,mapBlock,Array.getElem?_modify,Ne.symm hb]
 have hs:(putCells id 0 (flatK cf k ys.toArray) cur).size=cap *k:=by simp[putCells,h4]
 have hr:=C6 (cf:=cf) (sz:=k) (xs:=ys) hup ae h3 hs ?_
 ·rw[hl]at hr
  exact hr.grow 0 os
 ·apply List.ext_getElem?
  intro j
  rw[List.getElem?_take]
  by_cases hj:j<ys.length *k
  ·rw[if_pos hj,CI hk ys j hj]
   have hjc:j<cur.size:=by rw[h4];rw[hl]at hj;omega
   simp[putCells,hjc,hj]
  ·rw[if_neg hj,br (by rw[wT hk];omega)]
end
section
variable {P:Program} {ρ:Ren} {α:Type} [Inhabited α]
def ag2 (P:Program) (f:Nat) (cf:α->List Value) (k:Nat) (lt:α->α->Bool) (Bs:Nat):Prop:=
 ∀(W:World) (g n c:Nat) (dk:Array α),dk.size=n->W.cell? ⟨Bs,0,none⟩=some (.slice (some ⟨g,0,none⟩) n c)->HoldsK cf k W g 0 dk->∀i j:Nat,i<n->j<n->
  Calls P f #[.int .i64 i,.int .i64 j,.pointer (some ⟨Bs,0,none⟩)] W fun e w'=>e=.returned (.bool (lt dk[i]! dk[j]!))/\∃q,w'=W.drewN q
end
open Go Go.RowKit
section
variable {κ:Type} [DecidableEq κ] {kv:κ->Value} {kd:TypeDesc}
variable {P:Program} {ops:Array Oper} {d:Bool} {Q:Exit->Act->World->Prop} {n:Nat} {D:List Deferred} {w0:World} {G:Env} {L R:List HP} {l:List (Kd×Oper)} {k:Kd}
 {ty T KT E:TypeId} {pos:String} {af:Array Edge} {x y u:Operand} {v:Value} {b:Nat} {m:List (κ×Value)}
theorem KO.ins(K:KeyLaw kd kv)(s:κ)(hk:(!d||k== .write)=true)(hx:ev G x=some (.map (some b)))(hy:ev G y=some (kv s))(hu:ev G u=some v)(hT:P.underlying T=some (.map KT E))(hK:P.underlying KT=some kd)(hp:bQ L (cg kv b m) R)(h:KO P ops d Q n D w0 G (cg kv b (gh m s v)::R) l):KO P ops d Q n D w0 G L ((k,⟨none,.insert T x y u,ty,pos,af,none⟩)::l):=
 KO.EP hk (fun a w ha hw=>by
  obtain⟨w',hr,hs⟩:=Cc (P:=P) K (hw.pick hp) hT hK s v
  exact⟨w',by simp[execOp,ha.eval hx,ha.eval hy,ha.eval hu,hr],hs⟩) h
end
theorem rk{α β:Type}{f:α->β->HP}{w0 w:World}{L:List HP}{p:α}{x:β}(hf:∀L,St w0 L w->St w0 (f p x::L) w)(n:Nat)(h:St w0 L w):St w0 (cr f (List.replicate n p) (List.replicate n x)::L) w:=by
 refine wV ?_
 induction n with
 |zero=>exact h
 |succ n ih=>exact hf _ ih
def bX (id:Int):Ho:=⟨id,0,false,-1,0,[],[(cL,⟨[],0⟩)],List.replicate 4 ⟨[],0⟩,List.replicate 5 ⟨[],[]⟩,List.replicate 4 [],List.replicate 4 0,List.replicate 4 0⟩
theorem I6{id:Int}(h:0<=id/\id<4):cK 10 (bX id):=by
 refine⟨h,by simp[bX],by simp[bX],Ia,by simp[bX],by simp[bX],fun q hq=>?_,by simp[bX],rfl,rfl,rfl,rfl,rfl,(fun x hx=>by simp[bX]at hx),(fun x hx=>by simp[bX]at hx),⟨fun l hl=>by simp[bX]at hl;subst hl;simp,fun x hx=>by simp[bX]at hx;subst hx;omega,fun x hx=>by simp[bX]at hx;subst hx;omega⟩⟩
 have :q=⟨[],0⟩:=by simp[bX,Ho.all]at hq;exact hq
 subst this
 exact QB.nil
structure nT (H H':Ho):Prop where
 id:H'.id=H.id
 used:H'.used=H.used
 down:H'.down=H.down
 dz:H'.dz=H.dz
 aB:H'.aB=H.aB
 batch:H'.batch=H.batch
 bW:H'.bW=H.bW
 aK:H'.aK=H.aK
theorem nT.refl(H:Ho):nT H H:=⟨rfl,rfl,rfl,rfl,rfl,rfl,rfl,rfl⟩
theorem nT.trans{A B C:Ho}(h:nT A B)(g:nT B C):nT A C:=⟨g.id.trans h.id,g.used.trans h.used,g.down.trans h.down,g.dz.trans h.dz,g.aB.trans h.aB,g.batch.trans h.batch,g.bW.trans h.bW,g.aK.trans h.aK⟩
theorem Mg(H:Ho)(x:Nm):nT H (jq H x):=by unfold jq;split<;>exact⟨rfl,rfl,rfl,rfl,rfl,rfl,rfl,rfl⟩
theorem IQ{H H1:Ho}{m:Ms}(h:fM H m=some H1):nT H H1:=by
 unfold fM at h
 dsimp only at h
 split at h
 ·simp only[az]at h;subst h;exact⟨rfl,rfl,rfl,rfl,rfl,rfl,rfl,rfl⟩
 ·split at h
  ·cases h
  ·simp only[az]at h;subst h;exact⟨rfl,rfl,rfl,rfl,rfl,rfl,rfl,rfl⟩
theorem pX:∀(l:List Ms) (H:Ho),nT H (ef H l).1
 |[],H=>.refl H
 |m::l,H=>by
  unfold ef
  cases hp:fM H m with
  |none=>exact⟨rfl,rfl,rfl,rfl,rfl,rfl,rfl,rfl⟩
  |some H1=>exact(IQ hp).trans (pX l H1)
theorem I0{H H1:Ho}{s:ak}(h:iA H s=some H1):nT H H1:=by
 unfold iA at h
 split at h
 ·cases h
 ·split at h
  ·cases h
  ·split at h
   ·simp only[az]at h;subst h;exact⟨rfl,rfl,rfl,rfl,rfl,rfl,rfl,rfl⟩
   ·cases h
theorem Am:∀(l:List ak) (H:Ho),nT H (iz H l).1
 |[],H=>.refl H
 |s::l,H=>by
  unfold iz
  cases hp:iA H s with
  |none=>exact .refl H
  |some H1=>exact(I0 hp).trans (Am l H1)
theorem nq(H:Ho)(s:ak):nT H (eZ H s).1:=by
 unfold eZ
 split
 ·exact .refl H
 ·split
  ·exact .refl H
  ·rename_i l hl
   split
   ·exact pX l H
   ·split
    ·exact pX l H
    ·exact(pX l H).trans (Am _ _)
structure pa (H H':Ho):Prop where
 id:H'.id=H.id
 used:H'.used=H.used
 down:H'.down=H.down
 dz:H'.dz=H.dz
 aB:H'.aB=H.aB
theorem pa.refl(H:Ho):pa H H:=⟨rfl,rfl,rfl,rfl,rfl⟩
theorem pa.trans{A B C:Ho}(h:pa A B)(g:pa B C):pa A C:=⟨g.id.trans h.id,g.used.trans h.used,g.down.trans h.down,g.dz.trans h.dz,g.aB.trans h.aB⟩
theorem nT.p{H H':Ho}(h:nT H H'):pa H H':=⟨h.id,h.used,h.down,h.dz,h.aB⟩
theorem IW(H:Ho)(s:ak):pa H (iy H s).1:=by
 unfold iy
 split
 ·split
  ·exact⟨rfl,rfl,rfl,rfl,rfl⟩
  ·exact .refl H
 ·exact .refl H
theorem Gk(H:Ho)(s:ak):pa H (ft H s).1:=by
 unfold ft
 split
 ·split
  ·exact⟨rfl,rfl,rfl,rfl,rfl⟩
  ·exact .refl H
 ·exact .refl H
theorem rf:∀(l:List (Ms×ak)) (H:Ho),pa H (dO H l).1
 |[],H=>.refl H
 |(m,t)::l,H=>by
  unfold dO
  split
  ·exact .refl H
  ·rename_i i _
   exact pa.trans (B:=H.fB i (db (H.ec i) m (-1))) ⟨rfl,rfl,rfl,rfl,rfl⟩ (rf l _)
theorem I3(H:Ho)(s:ak):pa H (iD H s).1:=by
 unfold iD
 split
 ·rename_i a b c _
  split
  ·rename_i k l _ _
   split
   ·split
    ·have h1:=rf (l.zip (dE 43 c)) H
     exact⟨h1.id,h1.used,h1.down,h1.dz,h1.aB⟩
    ·exact rf _ H
   ·exact .refl H
  ·exact .refl H
 ·exact .refl H
theorem dV(H:Ho)(s:ak):pa H (ck H s).1:=by
 unfold ck
 split
 ·split
  ·exact .refl H
  ·exact(Mg H _).p
 ·split
  ·exact⟨rfl,rfl,rfl,rfl,rfl⟩
  ·split
   ·exact(nq H _).p
   ·split
    ·exact IW H _
    ·split
     ·exact Gk H _
     ·split
      ·exact I3 H _
      ·exact .refl H
def iV (D:Dk):Nat->Ho->Ho
 |0,H=>H
 |f+1,H=>match gX (H.used:Nat) (D.places.getD H.used ⟨#[]⟩)with
  |none=>H
  |some s=>if(ck H s).2=false then(ck H s).1 else iV D f {(ck H s).1 with used:=H.used+1}
def bK (id:Int) (D:Dk):Ho:=iV D 300 (bX id)
structure M4 (D:Dk):Prop where
 len:D.places.length=300
 left: -4000000000000000000<=D.left/\D.left<=9223372036854775807
 size:∀t∈D.places,t.size<=800000
 oj:∀(k:Nat) t s,D.places[k]? =some t->gX (k:Nat) t=some s->fO 250 s
theorem cK.UG{n:Nat}{H:Ho}(h:cK n H){k:Nat}(hk:k<=300):cK n {H with used:=k}:=⟨h.id,hk,h.next,h.sorted,h.oq,h.oL,h.qs,h.nodup,h.ways,h.aB,h.batch,h.bW,h.aK,h.right,h.loc,h.ext⟩
theorem cK.ZU{n:Nat}{H:Ho}(h:cK n H)(k:Int):cK n {H with dz:=k}:=⟨h.id,h.used,h.next,h.sorted,h.oq,h.oL,h.qs,h.nodup,h.ways,h.aB,h.batch,h.bW,h.aK,h.right,h.loc,h.ext⟩
theorem Fy{D:Dk}(hD:M4 D):∀(f:Nat) (H:Ho),H.used+f<=300->cK (10+250*H.used) H->cK (260+250*(iV D f H).used) (iV D f H)
 |0,H,hu,h=>h.le (by simp only[iV];omega)
 |f+1,H,hu,h=>by
  unfold iV
  obtain⟨t,ht⟩:∃t,D.places[H.used]? =some t:=⟨_,ao (by rw[hD.len];omega)⟩
  have e:D.places.getD H.used ⟨#[]⟩=t:=by rw[aq,ht];rfl
  rw[e]
  split
  ·exact h.le ae
  ·rename_i s hs
   have hr:=hD.oj _ t s ht hs
   have h1:=h.Fo hr ae
   split
   ·exact h1.le (by rw[(dV H s).used];omega)
   ·have h2:=(h1.UG (k:=H.used+1) ae).le (k:=10+250*(H.used+1)) ae
    exact Fy hD f _ iK h2
theorem N_{id:Int}(h:0<=id/\id<4){D:Dk}(hD:M4 D):cK (260+250*(bK id D).used) (bK id D):=Fy hD 300 _ (by simp[bX]) ((I6 h).le ae)
def jo (H:Ho) (s:ak):List Ms:=match H.qI s with
 |some i=>aW (H.ec i)
 |none=>[]
def ie (H:Ho) (s:ak):Int:=match H.qI s with
 |none=>7
 |some _=>if s≠cL/\fq H.names s=false then 7 else 0
def jL (H:Ho) (s:ak):List Ms:=if ie H s=0 then dF (H.ec ((H.qI s).getD 0))else[]
theorem s_(D:Dk):∀(f:Nat) (H:Ho),(iV D f H).id=H.id/\(iV D f H).down=H.down/\(iV D f H).dz=H.dz/\(iV D f H).aB=H.aB
 |0,H=>⟨rfl,rfl,rfl,rfl⟩
 |f+1,H=>by
  unfold iV
  split
  ·exact⟨rfl,rfl,rfl,rfl⟩
  ·rename_i s hs
   have h:=dV H s
   split
   ·exact⟨h.id,h.down,h.dz,h.aB⟩
   ·obtain⟨a,b,c,d⟩:=s_ D f {(ck H s).1 with used:=H.used+1}
    exact⟨a.trans h.id,b.trans h.down,c.trans h.dz,d.trans h.aB⟩
def fK (xs:List ak):List ak:=((xs.map (·.data.toList)).mergeSort fun x y=>decide (x<=y)).map toB
theorem sQ(xs:List ak):(fK xs).Perm xs:=by
 unfold fK
 refine((List.mergeSort_perm _ _).map toB).trans ?_
 rw[List.map_map]
 have :toB∘(fun x:ak=>x.data.toList)=id:=by funext x;simp[toB]
 rw[this,List.map_id]
section
open Go.Sort Go.Shelf Go.Proofs
variable {w0 w:World} {L R:List HP} {E:TypeId} {xs ys:List ak} {v:Value} {g n cap:Nat}
def XO (l:List UInt8):List Value:=[encStr l]
def Vr (s:ak):List Value:=[.string s]
theorem QH(E:TypeId)(v:Value)(xs:List ak):SL E 1 Vr v xs=SL E 1 XO v (xs.map (·.data.toList)):=by
 unfold SL
 rw[bj,List.flatMap_map]
 rfl
theorem CH(d:Array (List UInt8))(j:Nat)(hj:j<d.size):(flatK XO 1 d)[j]! =encStr d[j]! :=by
 rw[get_flatK _ _ _ _ ae,Nat.div_one,Nat.mod_one];rfl
theorem Ik(w:World)(g:Nat)(d:Array (List UInt8)):putRow encStr w g 0 d=putRowK XO 1 w g 0 d:=by
 unfold putRowK putRow
 congr 1
 funext c
 unfold putCells
 congr 1
 funext k x
 have :(flatK XO 1 d).size=d.size:=by simp
 rw[this]
 by_cases h:0<=k/\k<0+d.size
 ·rw[if_pos h,if_pos h,Nat.sub_zero,CH d k ae];rfl
 ·rw[if_neg h,if_neg h]
theorem holds_one{d:Array (List UInt8)}(h:HoldsK XO 1 w g 0 d):Holds encStr w g 0 d:=fun j hj=>by
 have :=h j (by simpa using hj)
 rw[CH d j hj]at this
 exact this
theorem Lr{P:Program}{f:FuncId}(h0:∀(p:Option Addr) (cap:Nat) (w:World),Calls P f #[.slice p 0 cap] w fun e w'=>e=.returned (.tuple #[])/\w'=w)(h1:∀(bP off cap:Nat) (ss:List (List UInt8)) (w:World),Holds encStr w bP off ss.toArray->bP<w.heap.size->ss.length<4611686018427387904->
  Calls P f #[.slice (some ⟨bP,off,none⟩) ss.length cap] w fun e w'=>e=.returned (.tuple #[])/\∃n os,w'=Go.Sort.grow (putRow encStr (Go.Sort.ahead w n) bP off (ss.mergeSort fun x y=>decide (x<=y)).toArray) os)(w0:World)(L:List HP)(v:Value)(xs:List ak)(hl:xs.length<1000000):
 KC P f #[v] w0 (SL E 1 Vr v xs::L) (fun u M=>u=.tuple #[]/\M=SL E 1 Vr v (fK xs)::L):=fun w hw=>by
 obtain⟨a,cap,rfl,ha⟩:=aY hw
 by_cases hz:xs=[]
 ·subst hz
  refine(h0 a cap w).mono ?_
  rintro e w' ⟨rfl,rfl⟩
  exact⟨_,_,rfl,⟨rfl,rfl⟩,by rw[show fK []=[]by simp[fK]];exact hw⟩
 ·have hlen:0<xs.length:=List.length_pos_iff.2 hz
  obtain⟨g,rfl⟩:=ha hlen
  rw[QH]at hw
  have hH:=holds_one (Cs (cf:=XO) (fun _=>rfl) hw)
  obtain⟨-,-,-,cur,-,-,h6⟩:=gF hw
  have dS:=h6.lt
  have hc:=h1 g 0 cap (xs.map (·.data.toList)) w hH dS nI
  rw[bj]at hc
  refine hc.mono ?_
  rintro e w' ⟨rfl,q,os,rfl⟩
  refine⟨_,_,rfl,⟨rfl,rfl⟩,?_⟩
  rw[Ik]
  have hs:=St.sorted (cf:=XO) (fun _=>rfl) hw (ys:=(xs.map (·.data.toList)).mergeSort fun x y=>decide (x<=y)) aj q os
  rw[QH]
  have e:(fK xs).map (·.data.toList)=(xs.map (·.data.toList)).mergeSort fun x y=>decide (x<=y):=by
   unfold fK
   rw[List.map_map]
   have :(fun x:ak=>x.data.toList)∘toB=id:=by funext l;simp[toB]
   rw[this,List.map_id]
  rw[e]
  exact hs
end
end WB
namespace Go.Proofs.YtjhogocabcdjbabGreatDoor
open Tryz
open Go Go.RowKit WB
def nR:List Value:=List.replicate 14 (.slice none 0 0)++List.replicate 8 (.int .i64 0)
def nC (id:Int) (bd mb:Nat) (ps:List Nat):List Value:=
 [.int .i64 id,bA bd,.int .i64 0,.bool false,.int .i64 (-1),.int .i64 0,.slice none 0 0,.map (some mb)]++(ps.map bA++(List.replicate (4-ps.length) (.pointer none)++nR))
theorem Oi{id:Int}{bd mb:Nat}{ps:List Nat}(p:Nat)(h:ps.length<4):(nC id bd mb ps).set (8+ps.length) (bA p)=nC id bd mb (ps++[p])/\(nC id bd mb ps).length=34:=by
 match ps,h with
 |[],_=>exact⟨rfl,rfl⟩
 |[a],_=>exact⟨rfl,rfl⟩
 |[a,b],_=>exact⟨rfl,rfl⟩
 |[a,b,c],_=>exact⟨rfl,rfl⟩
theorem S6{w0 w:World}{L:List HP}{id:Int}{bh bd mb p0:Nat}{ps:List Nat}(h4:ps.length=4)(h:St w0 (bP bh (.cells (nC id bd mb ps).toArray 133 (0,0))::cr jz ps (List.replicate 4 ⟨[],0⟩)::jz p0 ⟨[],0⟩::cg Value.string mb [(cL,bA p0)]::L) w):St w0 (dL bh bd (bX id)::L) w:=by
 have h1:=Az (f:=jz) (ps:=ps) (xs:=List.replicate 4 ⟨[],0⟩) (p:=p0) (x:=⟨[],0⟩) (by simpa using h4) (h.all (M:=jz p0 ⟨[],0⟩::cr jz ps (List.replicate 4 ⟨[],0⟩)::bP bh (.cells (nC id bd mb ps).toArray 133 (0,0))::cg Value.string mb [(cL,bA p0)]::L) Y3)
 have h2:=rk (f:=dj) (p:=.slice none 0 0) (x:=[]) (fun L h=>cM (E:=142) (sz:=6) (cf:=Dn) h) 5 h1
 have h3:=rk (f:=dh) (p:=.slice none 0 0) (x:=[]) (fun L h=>cM (E:=146) (sz:=2) (cf:=DU) h) 5 h2
 have h5:=rk (f:=dX) (p:=.slice none 0 0) (x:=[]) (fun L h=>JY h) 4 h3
 have h6:=cM (E:=75) (sz:=3) (cf:=Nm.cells) h5
 refine cn ⟨.slice none 0 0,mb,ps++[p0],List.replicate 5 (.slice none 0 0,.slice none 0 0),List.replicate 4 (.slice none 0 0)⟩ ⟨by simp[bX,h4],rfl,rfl,rfl,rfl,rfl,rfl,rfl⟩ ?_
 match ps,h4 with
 |[a,b,c,d],_=>exact h6.all Y7
theorem DN(w0:World)(L:List HP)(bd:Nat)(id:Int)(D:Dk)(hT:qH w0)(hM:qK w0)(hid:0<=id/\id<4)(hD:M4 D):
 KC prog 11 #[.int .i64 id,bA bd] w0 (fR bd D::L) (fun u M=> ∃bh,u=.tuple #[bA bh,.nilIface]/\M=dL bh bd (bK id D)::fR bd D::L):=by
 have hlen:=hD.len
 refine KC.mk (n:=79) func11 rfl ntmps11 aj ?_
 refine Z3 ?_
 refine nQ ?_
 refine Qe ?_
 refine Eh ?_
 refine sx ?_
 refine K.dp rfl QA ?_
 refine jI ?_
 refine KO.AF rfl underlying25 rfl ?_
 refine Z7 ?_
 refine GZ ?_
 refine X3 ?_
 refine ji ?_
 refine KO.mkm (Value.string) rfl rfl ?_;intro Zx
 refine Yu ?_
 refine KO.box rfl rfl aQ rfl ?_;intro XZ
 refine KO.ins gv cL rfl rfl rfl rfl underlying123 underlying9 bo ?_
 refine Z1 ?_
 refine KO.xe (pl:=[(0,1),(1,1),(2,1),(3,1),(4,1),(5,1),(6,1),(7,1),(8,4),(12,10),(22,4),(26,4),(30,4)]) rfl zeroValue133 runUnderlying133 (by intro w;simp[sizeOf3,sizeOf4,sizeOf25,sizeOf94,sizeOf95,sizeOf123,sizeOf125,sizeOf126,sizeOf131]) aQ rfl ?_
 refine KO.box rfl rfl aQ rfl ?_;intro K3
 refine mS ?_
 refine K8 ?_
 refine K.loop (fun k:List Nat=>[(1,bA bd),(6,bA K3),(30,.int .i64 (k.length:Nat))])
  (fun k=>bP K3 (.cells (nC id bd Zx k).toArray 133 (0,0))::cr jz k (List.replicate k.length ⟨[],0⟩)::jz XZ ⟨[],0⟩::cg Value.string Zx [(cL,bA XZ)]::fR bd D::L) (fun k=>k.length<=4) (fun k=>4-k.length) []
  aj ⟨rfl,rfl,rfl,trivial⟩ (fun w h=>?_) ?_
 ·have h1:=cM (E:=243) (sz:=8) (cf:=nJ) h
  have h2:St w0 (jz XZ ⟨[],0⟩::bP K3 (.cells (nC id bd Zx []).toArray 133 (0,0))::cg Value.string Zx [(cL,bA XZ)]::fR bd D::L) w:=kF (h1.all Y7)
  exact(TH (f:=jz) h2).all Y7
 rintro ps hk
 refine iJ ?_
 refine K.bz rfl (fun h7=>?_) (fun h7=>?_)
 ·have lV:ps.length<4:=by omega
  refine xy ?_
  refine sx ?_
  refine ji ?_
  refine Yu ?_
  refine KO.box rfl rfl aQ rfl ?_;intro HJ
  refine lJ ?_
  refine Ui ?_
  refine KO.kM (i:=ps.length) rfl rfl runUnderlying126 sizeOf119 rfl ae rfl ?_
  refine KO.gT (b:=K3) (i:=8+ps.length) rfl rfl rfl aQ (by exact sizeOf119) rfl bo Bd (by rw[(Oi 0 lV).2];omega) ?_;rw[show Value.pointer (some ⟨HJ,0,none⟩)=bA HJ from rfl,(Oi HJ lV).1]
  refine vD ?_
  refine KQ.round (ps++[HJ]) ga ga ⟨rfl,rfl,by simp[c_],trivial⟩ (fun w h=>?_)
  have h1:=cM (E:=243) (sz:=8) (cf:=nJ) h
  have h2:St w0 (jz HJ ⟨[],0⟩::cr jz ps (List.replicate ps.length ⟨[],0⟩)::bP K3 (.cells (nC id bd Zx (ps++[HJ])).toArray 133 (0,0))::jz XZ ⟨[],0⟩::cg Value.string Zx [(cL,bA XZ)]::fR bd D::L) w:=kF (h1.all Y7)
  have h3:=Az aj h2
  rw[aP,List.length_singleton,List.replicate_succ']
  exact h3.all Y3
 have lV:ps.length=4:=by omega
 repeat(first|(with_reducible refine K.seq ?_)|(with_reducible refine KQ.next ?_)|(with_reducible refine KQ.jy ?_)|(with_reducible refine KQ.lH ?_)|(with_reducible refine K.exit ?_)|(with_reducible refine K.block ?_))
 refine K.conv (L':=dL K3 bd (bX id)::fR bd D::L) (fun w h=>S6 lV (by rw[lV]at h;exact h)) ?_
 refine K.loop (fun p:Nat×Ho=>[(1,bA bd),(6,bA K3)]) (fun p=>dL K3 bd p.2::fR bd D::L) (fun p=>p.1<=300/\p.2.used=p.1/\cK (10+250*p.1) p.2/\iV D (300-p.1) p.2=bK id D) (fun p=>300-p.1) (0,bX id)
  ⟨aV _,rfl,I6 hid,rfl⟩ ⟨rfl,rfl,trivial⟩ (fun _ h=>h) ?_
 rintro⟨j,H⟩ ⟨hj,hju,hB,hop⟩
 dsimp only at hj hju hB hop ⊢
 have fin:∀w',St w0 (dL K3 bd (bK id D)::fR bd D::L) w'->∃v L',Ending.returned (.tuple #[bA K3,.nilIface])=Ending.returned v/\(∃bh,v=.tuple #[bA bh,.nilIface]/\L'=dL bh bd (bK id D)::fR bd D::L)/\St w0 L' w':=fun w' aX=>⟨_,_,rfl,⟨K3,rfl,rfl⟩,aX⟩
 refine K.cx (fun _ h=>cI (h.pick bZ)) ?_
 rintro⟨V,hV⟩
 dsimp only
 refine Z3 ?_
 refine mA ?_
 refine Zz ?_
 refine rD ?_
 refine K.bz rfl (fun I9=>?_) (fun I9=>?_)
 ·have hj3:j<300:=by omega
  obtain⟨t,ht⟩:∃t,D.places[H.used]? =some t:=⟨_,ao ae⟩
  have htz:=hD.size t (ax ht)
  have iX:=MC ht
  have hg:D.places.getD H.used ⟨#[]⟩=t:=by rw[aq,ht];rfl
  obtain⟨f,hf⟩:∃f,300-j=f+1:=⟨299-j,by omega⟩
  rw[hf,iV,hg]at hop
  refine HU ?_
  refine K.draw [.pure,.pure,.pure,.read,.pure,.pure,.pure,.pure,.read,.pure,.pure,.pure,.read,.dm,.pure,.pure,.pure,.pure,.pure] [0,1,2,3,4,5,6,7,8,9,10,11,12,13,14,15,16,17,18] bH bH ?_
  refine mA ?_
  refine Zz ?_
  refine tI ?_
  refine Zz ?_
  refine lJ ?_
  refine KO.gd (off:=0) rfl runUnderlying28 rfl rfl sizeOf26 rfl ?_
  refine KO.kM (i:=H.used) rfl rfl runUnderlying26 sizeOf9 rfl ae rfl ?_
  refine KO.dB (b:=bd) (cs:=DY D) (i:=H.used) rfl rfl isAgg9 (.tail (.tail (.tail (.tail (.tail (.tail (.tail .head))))))) Bd iX rfl ?_
  refine KO.ce (cp:=[]) rfl rfl rfl call52 rfl (N6 w0 _ (H.used:Nat) t ⟨by omega,by omega⟩ htz hT hM) ?_;rintro v' L' ⟨rfl,rfl⟩
  refine qc ?_
  refine K.conv (L':=dL K3 bd H::fR bd D::L) (fun w h=>cn V hV (h.all QE)) ?_
  cases Bh:gX (H.used:Nat) t with
  |none=>
   rw[Bh]at hop
   replace hop:H=bK id D:=hop
   refine Qo ?_
   refine Em ?_
   refine xE ?_
   refine acL ?_
   rw[hop]
   refine Z8 ?_
   refine rC ?_
   refine KQ.fp rfl rfl rfl (fun w' aX=>fin w' aX)
  |some s=>
   rw[Bh]at hop
   have hr:=hD.oj _ t s ht Bh
   have tV:=(hB.Fo hr ae).le (show 10+250*j+250<=10+250*(j+1)by omega)
   have OR:=dV H s
   refine A8 ?_
   refine Z1 ?_
   refine KO.on rfl rfl rfl ?_;refine KO.cl (cp:=[]) rfl rfl rfl call53 rfl (KC.qv bZ (Ga w0 _ K3 bd (10+250*j) 250 H s hT hM hB hr ae)) ?_;rintro v' L' ⟨rfl,rfl⟩
   refine yD ?_
   refine Hc ?_
   cases qk:(ck H s).2 with
   |false=>
    simp only[qk,if_true]at hop
    refine xo ?_
    refine acL ?_
    rw[hop]
    refine Z8 ?_
    refine rC ?_
    refine KQ.fp rfl rfl rfl (fun w' aX=>fin w' (aX.all QE))
   |true=>
    simp only[qk,Bool.true_eq_false,if_false]at hop
    refine yA ?_
    generalize hH2:(ck H s).1=H2 at hop tV OR
    refine T4 ?_
    refine K.cx (fun _ h=>cI (h.pick bZ)) ?_
    rintro⟨V2,u5⟩
    dsimp only
    have hu2:H2.used=H.used:=OR.used
    refine kp ?_
    refine Zz ?_
    refine Jw ?_
    refine Ug ?_
    refine KO.gT (i:=2) rfl rfl rfl aQ za rfl bZ rfl (by rw[rZ u5];omega) ?_;rw[show(fv bd V2 H2).set 2 (.int .i64 ((H2.used:Nat)+1:Int))=fv bd V2 {H2 with used:=H2.used+1}from rfl]
    refine BB ?_
    refine KQ.round (j+1,{H2 with used:=H2.used+1}) ⟨by dsimp only;omega,by dsimp only;omega,(tV.UG ae),?_⟩ iK ⟨rfl,rfl,trivial⟩ (fun w h=>?_)
    ·dsimp only
     rw[show 300-(j+1)=f by omega,hu2];exact hop
    ·exact cn V2 ⟨u5.ps,u5.us,u5.bs,u5.ways,u5.aB,u5.batch,u5.bW,u5.aK⟩ (h.all nH)
 ·have hj3:j=300:=by omega
  subst hj3
  rw[Nat.sub_self,iV]at hop
  refine Z9 ?_
  refine K.conv (L':=dL K3 bd H::fR bd D::L) (fun w h=>cn V hV (h.all QE)) ?_
  rw[hop]
  refine Z8 ?_
  refine rC ?_
  refine KQ.fp rfl rfl rfl (fun w' aX=>fin w' aX)
theorem SX(w0:World)(L:List HP)(bh bd:Nat)(H:Ho)(n:Int):KC prog 19 #[bA bh,.int .i64 n] w0 (dL bh bd H::L) (fun u M=>u=.tuple #[]/\M=dL bh bd {H with dz:=n}::L):=by
 refine KC.mk (n:=8) func19 rfl ntmps19 aj ?_
 refine K.cx (fun _ h=>cI h) ?_
 rintro⟨V,hV⟩
 dsimp only
 refine o8 ?_
 refine KO.gd (off:=4) rfl runUnderlying133 rfl rfl sizeOf3 rfl ?_
 refine KO.gT (i:=4) rfl rfl rfl aQ za rfl bZ rfl Rs ?_;rw[show(fv bd V H).set 4 (.int .i64 n)=fv bd V {H with dz:=n}from rfl]
 refine KO.nil ?_
 refine KQ.j9 rfl (fun w' aX=>⟨_,_,rfl,⟨rfl,rfl⟩,cn V ⟨hV.ps,hV.us,hV.bs,hV.ways,hV.aB,hV.batch,hV.bW,hV.aK⟩ (aX.all nH)⟩)
theorem Oq{V:tZ}{H:Ho}(hV:jw V H){r:Nat}{x:ak×Qu}(hx:H.aI[r]? =some x):∃v,(dJ V H).getD r default=(x.1,v):=by
 have qB:=hV.ps
 have hr:=(au.1 hx).1
 obtain⟨p,hp⟩:∃e,V.ps[4+r]? =some e:=⟨_,ao ae⟩
 refine⟨bA p,?_⟩
 unfold dJ tk
 rw[aq,List.getElem?_zipWith,hx,List.getElem?_drop,hp]
 rfl
theorem W4(N M:Nat)(hNM:M *N<=900000000)(hM1:M<=800000)(hN1:N<=800000)(w0:World)(L:List HP)(bh bd n:Nat)(H:Ho)(hB:cK n H)(hn:n<=N)(Br:H.aI.length<=M):
 KC prog 20 #[bA bh] w0 (dL bh bd H::L) (fun u M=> ∃ns:List ak,ns.Perm (H.aI.map (·.1))/\M=SL 44 5 du u ((fK ns).flatMap (jo H))::dL bh bd H::L):=by
 have F7:=hB.oL
 refine KC.mk (n:=40) func20 rfl ntmps20 aj ?_
 refine qq ?_
 refine K.cx (fun _ h=>cI h) ?_
 rintro⟨V,hV⟩
 dsimp only
 have qB:=hV.ps
 refine dR ?_
 refine mB ?_
 refine xC ?_
 refine Yk ?_
 refine KO.rng rfl rfl underlying123 bo rfl ?_;intro r12
 refine K8 ?_
 refine K.loop (fun p:List Nat×List Nat×Value×Option (ak×Value)=>[(0,bA bh),(3,p.2.2.1),(12,.pointer (some ⟨r12,0,none⟩))])
  (fun p=>SL 9 1 Vr p.2.2.1 (p.2.1.map fun r=>(H.aI.getD r (⟨#[]⟩,default)).1)::Hw Value.string V.mb r12 (dJ V H) (p.1.map fun r=>(dJ V H).getD r default) p.2.2.2::bP bh (.cells (fv bd V H).toArray 133 (0,0))::lQ V.nv H.names::cr jz V.ps H.all::cr dj (V.us.map (·.1)) (H.aB.map (·.aM))::cr dh (V.us.map (·.2)) (H.aB.map (·.bu))::cr dX V.bs H.batch::L)
  (fun p=>(p.2.1++p.1).Perm (List.range H.aI.length)) (fun p=>p.1.length) (List.range H.aI.length,[],.slice none 0 0,none)
  aj ⟨rfl,rfl,rfl,trivial⟩ (fun _ h=>?_) ?_
 ·have h1:=cM (E:=9) (sz:=1) (cf:=Vr) h
  have e1:(List.range H.aI.length).map (fun r=>(dJ V H).getD r default)=dJ V H:=by
   have hl:(dJ V H).length=H.aI.length:=by unfold dJ tk;rw[List.length_zipWith,bC];omega
   rw[<-hl]
   apply List.ext_getElem
   ·simp
   ·intro i h1 h2;simp[aq,ao h2]
  dsimp only
  rw[e1]
  exact h1.all nH
 rintro⟨rest,done,v,cur⟩ fZ
 dsimp only at fZ ⊢
 have tU:done.length<=M:=by have :=fZ.length_eq;simp at this;omega
 refine Z3 ?_
 refine KO.Sn rfl rfl bo rfl (fun h0=>?_) (fun i e he=>?_)
 refine tK ?_
 refine Z0 ?_
 have fg:rest=[]:=by simpa using h0
 subst fg
 rw[List.append_nil]at fZ
 have Na:(done.map fun r=>(H.aI.getD r (⟨#[]⟩,default)).1).Perm (H.aI.map (·.1)):=by
  refine(fZ.map _).trans ?_
  have :(List.range H.aI.length).map (fun r=>(H.aI.getD r (⟨#[]⟩,default)).1)=H.aI.map (·.1):=by
   apply List.ext_getElem
   ·simp
   ·intro i h1 h2
    simp only[bj]at h2
    simp[aq,ao h2]
  rw[this]
 generalize U7:(done.map fun r=>(H.aI.getD r (⟨#[]⟩,default)).1)=ns at Na
 have aka:ns.length<=M:=by rw[<-U7,bj];exact tU
 have hsl:(fK ns).length=ns.length:=(sQ ns).length_eq
 have OR:∀s∈fK ns,∃i,H.qI s=some i:=fun s hs=>by
  have h1:s∈H.aI.map (·.1):=Na.mem_iff.1 ((sQ ns).mem_iff.1 hs)
  cases hq:H.qI s with
  |some i=>exact⟨i,rfl⟩
  |none=>
   rw[pN,List.findIdx?_eq_none_iff]at hq
   have :=hq s h1
   simp at this
 refine yA ?_
 refine xr ?_
 refine KO.cl (cp:=[]) rfl rfl rfl call66 rfl (KC.qv (.tail .head) (Lr (E:=9) Tryz.slices_Sort_string_none Tryz.slices_Sort_string w0 _ v ns ae)) ?_;rintro v' L' ⟨rfl,rfl⟩
 refine Z0 ?_
 refine K.fact (fun w hw=>aY (E:=9) (sz:=1) (cf:=Vr) (hw.pick .head)) ?_
 rintro⟨ad,cap,rfl,had⟩
 refine dR ?_
 refine mS ?_
 refine X6 ?_
 refine K.loop (fun p:Nat×Value=>[(0,bA bh),(5,p.2),(23,.slice ad (fK ns).length cap),(24,.int .i64 ((fK ns).length:Nat)),(25,.int .i64 (p.1:Nat))])
  (fun p=>SL 44 5 du p.2 (((fK ns).take p.1).flatMap (jo H))::SL 9 1 Vr (.slice ad (fK ns).length cap) (fK ns)::cg Value.string V.mb (dJ V H)::bP bh (.cells (fv bd V H).toArray 133 (0,0))::lQ V.nv H.names::cr jz V.ps H.all::cr dj (V.us.map (·.1)) (H.aB.map (·.aM))::cr dh (V.us.map (·.2)) (H.aB.map (·.bu))::cr dX V.bs H.batch::L) (fun p=>p.1<=(fK ns).length/\(((fK ns).take p.1).flatMap (jo H)).length<=p.1 *N) (fun p=>(fK ns).length-p.1) (0,.slice none 0 0)
  ⟨aV _,by simp⟩ ⟨rfl,rfl,rfl,rfl,rfl,trivial⟩ (fun _ h=>?_) ?_
 ·have h1:=cM (E:=44) (sz:=5) (cf:=du) h
  exact h1.all nH
 rintro⟨k,v5⟩ ⟨hk,uX⟩
 dsimp only at hk uX ⊢
 refine iJ ?_
 refine K.bz rfl (fun h9=>?_) (fun h9=>?_)
 ·obtain⟨s,hs⟩:∃e,(fK ns)[k]? =some e:=⟨(fK ns)[k],ao ae⟩
  obtain⟨ag,rfl⟩:=had ae
  obtain⟨i,hi⟩:=OR s (ax hs)
  have qn:=(ik hi).1
  have hg:=lA hV s
  obtain⟨p,hp⟩:∃p,V.ps[4+i]? =some p:=⟨_,ao ae⟩
  rw[hi]at hg
  simp only[Option.bind_some,hp,Option.map_some]at hg
  have Tc:jo H s=aW (H.ec i):=by unfold jo;rw[hi]
  have U1:=(hB.qa qn).len
  have np:(aW (H.ec i)).length<=N:=by
   unfold aW
   have :=List.length_filter_le (fun e:It=>decide (e.put<0)) (H.ec i).l
   rw[bj];omega
  have W8:k *N+N<=900000000:=by have :=Nat.mul_le_mul_right N (show k+1<=M by omega);rw[Nat.succ_mul]at this;omega
  refine Ys ?_
  refine KO.iw rfl rfl isAgg9 bo (fun _=>rfl) xG aQ aQ rfl ?_
  refine sx ?_
  refine o8 ?_
  refine Uj ?_
  refine KO.dB (i:=7) rfl rfl isAgg123 bo rfl rfl rfl ?_
  refine Z1 ?_
  refine KO.Ey gv s rfl rfl rfl underlying123 underlying9 zeroValue119 bo rfl ?_;rw[hg]
  refine KO.ce (cp:=[]) rfl rfl rfl call67 rfl (KE.GK (A:=fun v=>SL 44 5 du v (aW (H.ec i))) (φ:=fun _=>True) hp (lI hV.ways qn) bo (fun L=>(IC w0 _ L p (H.ec i) .head ae).pA (by rintro v M rfl;exact⟨_,⟨trivial,rfl⟩,fun _ h=>h⟩))) ?_;rintro vk L' ⟨-,rfl⟩
  refine KO.T3 (cf:=du) (z:=Value.agg #[.int .i64 0,.int .i64 0,.string ⟨#[]⟩,.string ⟨#[]⟩,.int .i64 0]) (sz:=5) (dP:=56) (xs:=((fK ns).take k).flatMap (jo H)) (ys:=aW (H.ec i)) rfl rfl rfl (.tail (.tail .head)) (fun w hw=>Src.of (E:=44) (sz:=5) (cf:=du) .head w hw) underlying49 bH rfl (fun _=>rfl) (fun _=>rfl) ae ai rfl ?_;intro v37
  refine vz ?_
  refine KQ.round (k+1,v37) ⟨by dsimp only;omega,?_⟩ iK ⟨rfl,rfl,rfl,rfl,rfl,trivial⟩ (fun _ h=>?_)
  ·dsimp only
   rw[bJ hs,List.flatMap_append,aP]
   simp only[aR,List.flatMap_nil,List.append_nil,Tc,Nat.succ_mul]
   omega
  ·dsimp only
   rw[bJ hs,List.flatMap_append]
   simp only[aR,List.flatMap_nil,List.append_nil,Tc]
   exact h.all Y5
 have Kl:k=(fK ns).length:=by omega
 subst Kl
 rw[List.take_length]
 refine xr ?_
 refine jH ?_
 refine KQ.bG rfl rfl (fun w' aX=>⟨_,_,rfl,⟨ns,Na,rfl⟩,?_⟩)
 exact(cn V hV (aX.all (M:=Bj bh bd V H (SL 44 5 du v5 ((fK ns).flatMap (jo H))::L)) Y1)).all Y3
 obtain⟨r,hr,rfl⟩:∃r,rest[i]? =some r/\(dJ V H).getD r default=e:=by
  rw[aG]at he
  cases hr:rest[i]? with
  |none=>rw[hr]at he;cases he
  |some r=>rw[hr]at he;exact⟨r,rfl,by simpa using he⟩
 have Mi:r<H.aI.length:=by
  have :r∈List.range H.aI.length:=fZ.mem_iff.1 (List.mem_append_right _ (ax hr))
  simpa using this
 obtain⟨x,hx⟩:∃e,H.aI[r]? =some e:=⟨_,ao Mi⟩
 have hxe:(H.aI.getD r (⟨#[]⟩,default)).1=x.1:=by rw[aq,hx];rfl
 obtain⟨pv,oz⟩:=Oq hV hx
 rw[oz]
 refine tK ?_
 refine Z0 ?_
 refine xo ?_
 refine qF ?_
 refine KO.Jd rfl rfl bZ rfl ?_
 refine tK ?_
 refine sx ?_
 refine ji ?_
 refine KO.lY (z:=(Value.string ⟨#[]⟩)) (sz:=1) (dP:=16) rfl rfl underlying115 bH aQ aQ ai ai rfl ?_;intro b19
 refine KO.app (cf:=Vr) (z:=Value.string ⟨#[]⟩) (sz:=1) (dP:=16) (xs:=done.map fun r=>(H.aI.getD r (⟨#[]⟩,default)).1) rfl rfl rfl (.tail (.tail .head)) .head underlying115 mV rfl x.1 rfl rfl rfl ga ai rfl ?_;intro v20
 refine Z7 ?_
 refine BB ?_
 refine KQ.round (rest.eraseIdx i,done++[r],v20,some (x.1,pv)) ?_ ?_ ⟨rfl,rfl,rfl,trivial⟩ (fun _ h=>?_)
 ·dsimp only
  refine List.Perm.trans ?_ fZ
  rw[aH]
  refine(List.Perm.refl done).append ?_
  obtain⟨hi,rfl⟩:=au.1 hr
  exact pQ hi
 ·dsimp only
  have hi:=(au.1 hr).1
  rw[List.length_eraseIdx,if_pos hi];omega
 ·dsimp only
  rw[aZ,<-oP,aL,List.map_nil,hxe]
  exact h.all nH
theorem O7(w0:World)(L:List HP)(bh bd n:Nat)(H:Ho)(hB:cK n H)(hn:n<=80000)(Br:H.aI.length<=1000):
 KC prog 20 #[bA bh] w0 (dL bh bd H::L) (fun u M=> ∃ns:List ak,ns.Perm (H.aI.map (·.1))/\M=SL 44 5 du u ((fK ns).flatMap (jo H))::dL bh bd H::L):=
 W4 80000 1000 ai ai ai w0 L bh bd n H hB hn Br
theorem F1(w0:World)(L:List HP)(bh bd n:Nat)(H:Ho)(s:ak)(hB:cK n H)(hn:n<=80000):
 KC prog 28 #[bA bh,.string s] w0 (dL bh bd H::L) (fun u M=> ∃v,u=.tuple #[v,cS 70 (ie H s)]/\M=SL 44 5 du v (jL H s)::dL bh bd H::L):=by
 have nL:=hB.oq
 have Bh:=hB.sorted
 have ends:ie H s=7->∀w',St w0 (dL bh bd H::L) w'->∃v L',Ending.returned (.tuple #[.slice none 0 0,cS 70 7])=Ending.returned v/\(∃u,v=.tuple #[u,cS 70 (ie H s)]/\L'=SL 44 5 du u (jL H s)::dL bh bd H::L)/\St w0 L' w':=fun he w' aX=>by
  refine⟨_,_,rfl,⟨_,by rw[he],rfl⟩,?_⟩
  unfold jL
  rw[if_neg (by rw[he];decide)]
  exact cM aX
 refine KC.mk (n:=34) func28 rfl ntmps28 aj ?_
 refine qq ?_
 refine K.cx (fun _ h=>cI h) ?_
 rintro⟨V,hV⟩
 dsimp only
 have qB:=hV.ps
 have hg:=lA hV s
 refine dR ?_
 refine Z7 ?_
 refine lK ?_
 cases hq:H.qI s with
 |none=>
  have he:ie H s=7:=by unfold ie;rw[hq]
  rw[hq]at hg
  refine G7 ?_
  refine KO.Ci gv s rfl rfl rfl underlying123 underlying9 zeroValue119 bo rfl ?_;rw[hg]
  refine ky ?_
  refine qp ?_
  refine tM ?_
  refine Qy ?_
  refine Qy ?_
  refine T9 ?_
  refine yx ?_
  refine Z2 ?_
  refine K.cV rfl aj ?_
  refine qb ?_
  refine KQ.fp rfl rfl rfl (fun w' aX=>ends he w' (cn V hV (aX.all QE)))
 |some i=>
 have qn:=(ik hq).1
 obtain⟨p,hp⟩:∃p,V.ps[4+i]? =some p:=⟨_,ao ae⟩
 rw[hq]at hg
 simp only[Option.bind_some,hp,Option.map_some]at hg
 have heq:ie H s=if s≠cL/\fq H.names s=false then 7 else 0:=by unfold ie;rw[hq]
 refine G7 ?_
 refine KO.Ci gv s rfl rfl rfl underlying123 underlying9 zeroValue119 bo rfl ?_;rw[hg]
 refine qc ?_
 refine K.cut (fun _:Unit=>[(0,bA bh),(6,bA p),(30,.bool (decide (s≠cL/\fq H.names s=false)))]) (fun _=>Bj bh bd V H L) (fun _=>True) ?_ ?_
 ·by_cases SZ:s=cL
  ·have DL:s=⟨#[100,101,97,100]⟩:=SZ
   have WI:(!decide (s=⟨#[100,101,97,100]⟩))=false:=by rw[DL];rfl
   clear SZ
   refine T7 ?_
   refine Eb ?_
   refine Hl ?_
   refine Hl ?_
   refine KO.no rfl rfl WI rfl ?_
   refine KO.no rfl rfl xG rfl ?_
   refine rA ?_
   refine KO.nd rfl ?_ rfl rfl ?_
   (focus assumption)
   refine rB ?_
   refine KO.nil ?_
   exact KQ.tf () trivial ⟨rfl,rfl,by simp[DL,cL,c_],trivial⟩ (fun w' aX=>aX)
  ·have DL:¬s=⟨#[100,101,97,100]⟩:=SZ
   refine T7 ?_
   refine Eb ?_
   refine BD ?_
   refine Z1 ?_
   refine BD ?_
   refine lJ ?_
   refine BD ?_
   refine Es ?_
   refine BD ?_
   refine Z1 ?_
   refine KO.on rfl rfl (by simp[DL]) ?_;refine KO.ce (cp:=[]) rfl rfl rfl call57 rfl (uO w0 _ _ _ bh 6 (fv bd V H) 133 V.nv H.names s bZ bZ rfl ae Bh) ?_;rintro v' L' ⟨rfl,rfl⟩
   refine BD ?_
   refine qp ?_
   refine rA ?_
   refine KO.uD rfl ?_ rfl rfl ?_
   (focus(simp_all;done))
   refine rB ?_
   refine KO.nil ?_
   exact KQ.tf () trivial ⟨rfl,rfl,by simp[SZ,c_],trivial⟩ (fun w' aX=>aX)
 rintro⟨⟩-
 refine K.bz rfl (fun h4=>?_) (fun h4=>?_)
 ·have he:ie H s=7:=by rw[heq,if_pos h4]
  refine qb ?_
  refine KQ.fp rfl rfl rfl (fun w' aX=>ends he w' (cn V hV aX))
 have he:ie H s=0:=by rw[heq,if_neg h4]
 have F7:=(hB.qa qn).len
 have IN:jL H s=dF (H.ec i):=by unfold jL;rw[if_pos he,hq];rfl
 refine xv ?_
 refine KO.ce (cp:=[]) rfl rfl rfl call80 rfl (KE.GK (A:=fun v=>SL 44 5 du v (dF (H.ec i))) (φ:=fun _=>True) hp (lI hV.ways qn) bo (fun L=>(JT w0 _ L p (H.ec i) .head ae).pA (by rintro v M rfl;exact⟨_,⟨trivial,rfl⟩,fun _ h=>h⟩))) ?_;rintro vk L' ⟨-,rfl⟩
 refine rC ?_
 refine KQ.fp rfl rfl rfl (fun w' aX=>⟨_,_,rfl,⟨vk,by rw[he];rfl,rfl⟩,?_⟩)
 rw[IN]
 exact(cn V hV (aX.all (M:=Bj bh bd V H (SL 44 5 du vk (dF (H.ec i))::L)) Y3)).all Y3
end Go.Proofs.YtjhogocabcdjbabGreatDoor
namespace WB
open Go
structure En where
 j:Nat
 m:Ms
 put:Int
 iS:Int
def gE (j:Nat) (e:It):En:=⟨j,e.m,e.put,e.iS⟩
def Jd (j:Nat) (l:List It):List En:=l.map (gE j)
def vw (l:List Qu):List En:=l.zipIdx.flatMap fun x=>Jd x.2 x.1.l
def vr (l:List Qu) (j:Nat):List En:=(l.zipIdx.eraseIdx j).flatMap fun x=>Jd x.2 x.1.l
theorem rQ{α:Type}:∀{l:List α} {i:Nat} {x:α},l[i]? =some x->l.Perm (x::l.eraseIdx i)
 |[],i,x,h=>by simp at h
 |a::l,0,x,h=>by simp at h;subst h;exact .refl _
 |a::l,i+1,x,h=>((rQ (l:=l) HV).cons a).trans (.swap _ _ _)
theorem Fp{α:Type}:∀{l:List α} {i:Nat} {x:α} (y:α),l[i]? =some x->(l.set i y).Perm (y::l.eraseIdx i)
 |[],i,x,y,h=>by simp at h
 |a::l,0,x,y,h=>.refl _
 |a::l,i+1,x,y,h=>((Fp (l:=l) y HV).cons a).trans (.swap _ _ _)
theorem Dr{α β:Type}{f:α->List β}{l l':List α}(h:l.Perm l'):(l.flatMap f).Perm (l'.flatMap f):=by
 induction h with
 |nil=>exact .refl _
 |cons a _ ih=>rw[aR,aR];exact(List.Perm.refl _).append ih
 |swap a b l=>
  rw[aR,aR,aR,aR,<-aH,<-aH]
  exact List.perm_append_comm.append (.refl _)
 |trans _ _ h1 h2=>exact h1.trans h2
theorem mU{l:List Qu}{j:Nat}{q:Qu}(h:l[j]? =some q):(vw l).Perm (Jd j q.l++vr l j):=by
 unfold vw vr
 have h1:l.zipIdx[j]? =some (q,j):=by rw[List.getElem?_zipIdx,h];simp
 exact Dr (rQ h1)
theorem HX(l:List Qu)(j:Nat)(q:Qu):(l.set j q).zipIdx=l.zipIdx.set j (q,j):=by
 apply List.ext_getElem?
 intro i
 rw[List.getElem?_zipIdx,List.getElem?_set,List.getElem?_set,List.getElem?_zipIdx,List.length_zipIdx]
 by_cases e:j=i
 ·subst e
  rw[if_pos rfl,if_pos rfl]
  split<;>simp
 ·rw[if_neg e,if_neg e]
theorem VK(l:List Qu)(j:Nat)(q:Qu):vr (l.set j q) j=vr l j:=by
 unfold vr
 rw[HX,List.eraseIdx_set_eq]
theorem H8{l:List Qu}{j:Nat}{q:Qu}(q':Qu)(h:l[j]? =some q):(vw (l.set j q')).Perm (Jd j q'.l++vr l j):=by
 have h1:(l.set j q')[j]? =some q':=by rw[List.getElem?_set_self (au.1 h).1]
 have :=mU h1
 rwa [VK]at this
theorem fH{l:List Qu}{e:En}:e∈vw l↔ ∃q,l[e.j]? =some q/\∃x∈q.l,e=gE e.j x:=by
 unfold vw Jd
 rw[List.mem_flatMap]
 constructor
 ·rintro⟨⟨q,j⟩,h1,h2⟩
  rw[ay]at h2
  obtain⟨x,hx,rfl⟩:=h2
  rw[List.mem_zipIdx_iff_getElem?]at h1
  exact⟨q,h1,x,hx,rfl⟩
 ·rintro⟨q,h1,x,hx,he⟩
  refine⟨(q,e.j),List.mem_zipIdx_iff_getElem?.2 h1,?_⟩
  rw[ay]
  exact⟨x,hx,he.symm⟩
theorem uh{l:List Qu}{j:Nat}{q:Qu}(m:Ms)(u:Int)(h:l[j]? =some q):(vw (l.set j (db q m u))).Perm (⟨j,m,max u (-1),-1⟩::vw l):=by
 refine(H8 _ h).trans (List.Perm.trans ?_ (((mU h).symm).cons _))
 have h1:(db q m u).l.Perm (er q m u::q.l):=by
  unfold db
  dsimp only
  refine List.perm_middle.trans ?_
  rw[List.take_append_drop]
 have h2:=h1.map (gE j)
 exact h2.append (.refl _)
theorem EY{l:List Qu}{j k:Nat}{q:Qu}{x:It}(h:l[j]? =some q)(hx:q.l[k]? =some x)(nx:Int):(vw l).Perm (gE j x::vw (l.set j ⟨q.l.eraseIdx k,nx⟩)):=by
 refine(mU h).trans (List.Perm.trans ?_ ((H8 _ h).symm.cons _))
 exact((rQ hx).map (gE j)).append (.refl _)
theorem Lf{l:List Qu}{j k:Nat}{q:Qu}{x:It}(y:It)(h:l[j]? =some q)(hx:q.l[k]? =some x)(nx:Int):∃R,(vw l).Perm (gE j x::R)/\(vw (l.set j ⟨q.l.set k y,nx⟩)).Perm (gE j y::R):=by
 refine⟨Jd j (q.l.eraseIdx k)++vr l j,?_,?_⟩
 ·exact(mU h).trans (((rQ hx).map (gE j)).append (.refl _))
 ·exact(H8 _ h).trans (((Fp y hx).map (gE j)).append (.refl _))
def fN (u:Int) (e:En):En:=⟨e.j,e.m,if e.put=u then -1 else e.put,if e.iS=u then -1 else e.iS⟩
theorem RC{l:List Qu}{u:Int}(hu:0<=u):vw (l.map fun q=>eK q u true)=((vw l).filter fun e=> !decide (e.put=u)).map (fN u):=by
 unfold vw
 rw[List.zipIdx_map,List.flatMap_map,List.filter_flatMap,List.map_flatMap]
 congr 1
 funext x
 unfold Jd
 dsimp only[Prod.map]
 rw[show(eK x.1 u true).l=(x.1.l.filter fun e=> !p9 u true e).map (nt u)by unfold eK;rw[if_neg ae]]
 rw[List.map_map,List.filter_map,List.map_map]
 have :(fun e=> !p9 u true e)=((fun e:En=> !decide (e.put=u))∘gE x.2):=by
  funext e;unfold p9 gE;simp
 rw[this]
 rfl
def eO (e:En):Int:=e.m.id
def hv (H:Ho):List En:=vw H.all
def iW (e:En):Bool:=decide (e.put<0)
def pV (e:En):Nat×Ms:=(e.j,e.m)
def hk (H:Ho):List (Nat×Ms):=((hv H).filter iW).map pV
def ajm (H:Ho) (s:ak):Option Nat:=(H.qI s).map (4+ ·)
def cb (H:Ho):List ak:=H.aI.map (·.1)
theorem cG{H H':Ho}(h:cb H'=cb H)(s:ak):H'.qI s=H.qI s:=by rw[pN,pN];unfold cb at h;rw[h]
theorem K2{n:Nat}{H:Ho}(hB:cK n H){i:Nat}(hi:i<H.aI.length):H.all[4+i]? =some (H.ec i):=lI hB.ways hi
theorem NZ{n:Nat}{H:Ho}(hB:cK n H){m:Ms}{i:Nat}(hm:m.cq=H.id)(hq:H.qI m.queue=some i):∃H1,fM H m=some H1/\(hv H1).Perm (⟨4+i,m,-1,-1⟩::hv H)/\cb H1=cb H/\H1.names=H.names/\H1.ways=H.ways/\H1.next=max H.next (m.id/4+1)/\nT H H1:=by
 have hi:=(ik hq).1
 let H0:Ho:={H with next:=max H.next (m.id/4+1)}
 refine⟨H0.fB i (db (H0.ec i) m (-1)),?_,?_,?_,rfl,rfl,rfl,⟨rfl,rfl,rfl,rfl,rfl,rfl,rfl,rfl⟩⟩
 ·unfold fM
  dsimp only
  rw[if_neg (by rw[hm];simp)]
  rw[hq]
  rfl
 ·unfold hv
  rw[ko (H:=H0) hB.ways]
  have :=uh (l:=H0.all) m (-1) (K2 hB hi)
  exact this
 ·unfold cb;exact jN (H:=H0) i _
theorem gQ{α β:Type}{f:α->β}{l:List α}(h:(l.map f).Nodup){x y:α}(hx:x∈l)(hy:y∈l)(e:f x=f y):x=y:=by
 induction l with
 |nil=>cases hx
 |cons a l ih=>
  rw[aL,bI]at h
  rcases aF.1 hx with h1|h1<;>rcases aF.1 hy with h2|h2
  ·rw[h1,h2]
  ·exact absurd (by rw[<-h1,e];exact List.mem_map_of_mem (f:=f) h2) h.1
  ·exact absurd (by rw[<-h2,<-e];exact List.mem_map_of_mem (f:=f) h1) h.1
  ·exact ih h.2 h1 h2
theorem CL{l R:List En}{e:En}(h:(l.map eO).Nodup)(hp:l.Perm (e::R)):R.Perm (l.filter fun x=> !decide (eO x=eO e)):=by
 have h1:=hp.filter (fun x=> !decide (eO x=eO e))
 have h2:(e::R).filter (fun x=> !decide (eO x=eO e))=R:=by
  rw[bE,if_neg aj]
  rw[aT]
  intro x hx
  have hn:=(hp.map eO).nodup_iff.1 h
  rw[aL,bI]at hn
  have :eO x≠eO e:=fun e2=>hn.1 (e2▸List.mem_map_of_mem (f:=eO) hx)
  simpa using this
 rw[h2]at h1
 exact h1.symm
theorem TN(g:Int×ak):di 32 (iR g)=(b_ g.1,g.2,true):=by
 unfold iR
 rw[show(sp:ak)=cv 32 from rfl]
 exact cutB_hit (fX _ ai) _
theorem Pq{n:Nat}{H:Ho}(hB:cK n H){g:Int×ak}(hg:0<=g.1/\g.1<=1099511627776/\dw g.2=true){i:Nat}(hq:H.qI g.2=some i)(hn:((hv H).map eO).Nodup){e:En}(he:e∈hv H)(hj:e.j=4+i)(hid:eO e=g.1):
 ∃H1,iA H (iR g)=some H1/\(hv H1).Perm ((hv H).filter fun x=> !decide (eO x=g.1))/\cb H1=cb H/\H1.names=H.names/\H1.ways=H.ways/\H1.next=H.next/\nT H H1:=by
 have hi:=(ik hq).1
 obtain⟨q,h1,x,hx,hex⟩:=fH.1 he
 rw[hj]at h1
 have h2:=K2 hB hi
 rw[h2]at h1
 simp only[az]at h1
 subst h1
 have aeQ:x.m.id=g.1:=by rw[<-hid,hex];rfl
 obtain⟨k,hk⟩:∃k,om (H.ec i) g.1=some k:=by
  unfold om
  cases hf:(H.ec i).l.findIdx? (DJ g.1)with
  |some k=>exact⟨k,rfl⟩
  |none=>
   rw[List.findIdx?_eq_none_iff]at hf
   have :=hf x hx
   unfold DJ at this
   simp[aeQ]at this
 obtain⟨uX,Kk,-⟩:=List.findIdx?_eq_some_iff_getElem.1 hk
 have Kj:(H.ec i).l[k]? =some (H.ec i).l[k]:=ao uX
 have W3:((H.ec i).l[k]).m.id=g.1:=by unfold DJ at Kk;simpa using Kk
 refine⟨H.fB i (eA (H.ec i) g.1),?_,?_,by unfold cb;exact jN i _,rfl,rfl,rfl,⟨rfl,rfl,rfl,rfl,rfl,rfl,rfl,rfl⟩⟩
 ·unfold iA
  rw[TN]
  dsimp only
  rw[iQ ⟨by omega,by omega⟩]
  dsimp only
  rw[hq]
  dsimp only
  rw[if_pos (by unfold mW;rw[hk])]
 ·unfold hv
  rw[ko hB.ways]
  have e1:eA (H.ec i) g.1=⟨(H.ec i).l.eraseIdx k,(H.ec i).next⟩:=by unfold eA;rw[hk]
  rw[e1]
  have hp:=EY (l:=H.all) h2 Kj (H.ec i).next
  have :=CL hn hp
  rw[show eO (gE (4+i) (H.ec i).l[k])=g.1 from W3]at this
  exact this
theorem GD{n:Nat}:∀(l:List (Int×ak)) {H:Ho},cK n H->((hv H).map eO).Nodup->(l.map (·.1)).Nodup->(∀g∈l,(0<=g.1/\g.1<=1099511627776/\dw g.2=true)/\∃i,H.qI g.2=some i/\∃e∈hv H,e.j=4+i/\eO e=g.1)->
 ∃H1,iz H (l.map iR)=(H1,true)/\(hv H1).Perm ((hv H).filter fun x=> !decide (eO x∈l.map (·.1)))/\cb H1=cb H/\H1.names=H.names/\H1.ways=H.ways/\H1.next=H.next/\nT H H1/\cK n H1
 |[],H,hB,_,_,_=>⟨H,rfl,by rw[aT.2 (fun _ _=>by simp)],rfl,rfl,rfl,rfl,.refl _,hB⟩
 |g::l,H,hB,hn,hd,h=>by
  obtain⟨hr,i,hi,e,he,hj,hid⟩:=h g aj
  obtain⟨H1,e1,p1,k1,n1,w1,x1,s1⟩:=Pq hB hr hi hn he hj hid
  have h_:=hB.Xz e1
  rw[aL,bI]at hd
  have EA:((hv H1).map eO).Nodup:=by
   refine(p1.map eO).nodup_iff.2 ?_
   exact hn.sublist (List.filter_sublist.map _)
  obtain⟨H2,e2,p2,k2,n2,w2,x2,s2,tV⟩:=GD l h_ EA hd.2 fun g' hg'=>by
   obtain⟨hr',i',hi',e',Xe,Zl,abf⟩:=h g' (by simp[hg'])
   refine⟨hr',i',by rw[cG k1];exact hi',e',?_,Zl,abf⟩
   rw[p1.mem_iff,aC]
   refine⟨Xe,?_⟩
   have :eO e'≠g.1:=by rw[abf];exact fun e=>hd.1 (e▸List.mem_map_of_mem (f:=(·.1)) hg')
   simpa using this
  refine⟨H2,?_,?_,k2.trans k1,n2.trans n1,w2.trans w1,x2.trans x1,s1.trans s2,tV⟩
  ·rw[aL,iz,e1];exact e2
  ·refine p2.trans ((p1.filter _).trans ?_)
   rw[bp]
   refine List.Perm.of_eq (List.filter_congr fun x _=>?_)
   rw[aL]
   by_cases h1:eO x=g.1<;>by_cases h2:eO x∈l.map (·.1)<;>simp[h1,h2]
theorem wj{c:UInt8}:∀{l:List ak},l≠[]->(∀p∈l,qx c p)->dE c (dn l (cv c))=l
 |[],h,_=>absurd rfl h
 |[p],_,h=>by rw[kJ];exact lq (h p aj)
 |p::q::l,_,h=>by
  rw[gp,jh (h p aj),wj aj fun x hx=>h x yK]
theorem Gz{g:Int×ak}(h:dw g.2=true){c:UInt8}(h1:c.toNat≠45/\(c.toNat<48\/57<c.toNat))(h2:isLet c=false)(h3:c≠32):qx c (iR g):=by
 unfold iR
 refine d_ (d_ (fX _ h1) ?_) ?_
 ·exact fun b hb=>by simp[sp]at hb;subst hb;exact fun e=>h3 e.symm
 ·intro b hb e
  subst e
  have hw:=ib h
  unfold iI at hw
  rw[aJ]at hw
  rw[hw b hb]at h2;cases h2
theorem Mw{l:List (Int×ak)}(h:∀g∈l,dw g.2=true)(h0:l≠[]):dn (l.map iR) plus≠⟨#[]⟩/\dE 43 (dn (l.map iR) plus)=l.map iR:=by
 have h2:dE 43 (dn (l.map iR) plus)=l.map iR:=by
  rw[show(plus:ak)=cv 43 from rfl]
  refine wj ZL fun p hp=>?_
  obtain⟨g,hg,rfl⟩:=ay.1 hp
  exact Gz (h g hg) ai ai ai
 refine⟨fun e=>?_,h2⟩
 rw[e,show dE 43 ⟨#[]⟩=[⟨#[]⟩]from lq (fun b hb=>by simp at hb)]at h2
 match l,h0 with
 |g::l,_=>
  rw[aL,List.cons.injEq]at h2
  have :=congrArg ByteArray.size h2.1
  unfold iR at this
  have h3:sp.size=1:=rfl
  simp only[aU]at this
  have h4:(⟨#[]⟩:ak).size=0:=rfl
  omega
inductive nE:Ho->List ak->Ho->Prop
 |nil (H:Ho):nE H [] H
 |cons {H H1 H':Ho} {s:ak} {R:List ak} (h:ck H s=(H1,true)) (t:nE {H1 with used:=H.used+1} R H'):nE H (s::R) H'
theorem nE.snoc{H H' H1:Ho}{R:List ak}{s:ak}(h:nE H R H')(hs:ck H' s=(H1,true)):nE H (R++[s]) {H1 with used:=H'.used+1}:=by
 induction h with
 |nil H=>exact .cons hs (.nil _)
 |cons e _ ih=>exact .cons e (ih hs)
theorem nE.used{H H':Ho}{R:List ak}(h:nE H R H'):H'.used=H.used+R.length:=by
 induction h with
 |nil H=>rfl
 |cons e _ ih=>rw[ih];simp;omega
theorem nE.same{H H':Ho}{R:List ak}(h:nE H R H'):H'.id=H.id/\H'.down=H.down/\H'.dz=H.dz/\H'.aB=H.aB:=by
 induction h with
 |nil H=>exact⟨rfl,rfl,rfl,rfl⟩
 | @cons H H1 H' s R e _ ih=>
  have :=dV H s
  rw[e]at this
  obtain⟨a,b,c,d⟩:=ih
  exact⟨a.trans this.id,b.trans this.down,c.trans this.dz,d.trans this.aB⟩
structure iZ (D:Dk) (R:List ak):Prop where
 len:D.places.length=300
 many:R.length<=300
 on:∀(k:Nat) s,R[k]? =some s->D.places[k]? =some (eb (k:Nat) s)
 off:∀(k:Nat) t,R.length<=k->D.places[k]? =some t->gX (k:Nat) t=none
 size:∀t∈D.places,t.size<=800000
 oj:∀s∈R,fO 250 s/\qx 124 s
theorem iZ.ok{D:Dk}{R:List ak}(h:iZ D R)(hl: -4000000000000000000<=D.left/\D.left<=9223372036854775807):M4 D:=by
 refine⟨h.len,hl,h.size,fun k t s ht hs=>?_⟩
 rcases Nat.lt_or_ge k R.length with hk|hk
 ·have h1:=h.on k R[k] (ao hk)
  rw[ht]at h1
  simp only[az]at h1
  rw[h1,s9 (h.oj _ (List.getElem_mem hk)).2]at hs
  simp only[az]at hs
  rw[<-hs];exact(h.oj _ (List.getElem_mem hk)).1
 ·rw[h.off k t hk ht]at hs;cases hs
theorem Sl{D:Dk}{R:List ak}(h:iZ D R){H H':Ho}{R2:List ak}(hp:nE H R2 H'):∀{pre:List ak},R=pre++R2->H.used=pre.length->∀f,f+H.used=300->iV D f H=H':=by
 induction hp with
 |nil H=>
  intro pre he hu f hf
  rw[List.append_nil]at he
  subst he
  match f with
  |0=>rfl
  |f+1=>
   unfold iV
   obtain⟨t,ht⟩:∃t,D.places[H.used]? =some t:=⟨_,ao (by rw[h.len];omega)⟩
   have e:D.places.getD H.used ⟨#[]⟩=t:=by rw[aq,ht];rfl
   rw[e,h.off H.used t ae ht]
 | @cons H H1 H' s R2 e hp ih=>
  intro pre he hu f hf
  have hm:=h.many
  have hl:R.length=pre.length+(R2.length+1):=by rw[he];simp
  have hk:R[H.used]? =some s:=by rw[he,bf ae,hu];simp
  obtain⟨f',rfl⟩:∃f',f=f'+1:=⟨f-1,by omega⟩
  unfold iV
  have ht:=h.on _ _ hk
  have e2:D.places.getD H.used ⟨#[]⟩=eb (H.used:Nat) s:=by rw[aq,ht];rfl
  have hs:s∈R:=ax hk
  rw[e2,s9 (h.oj s hs).2]
  dsimp only
  rw[e]
  dsimp only
  rw[if_neg aj]
  exact ih (pre:=pre++[s]) (by rw[he];simp) ga f' iK
theorem s8{D:Dk}{R:List ak}(h:iZ D R){id:Int}{H':Ho}(hp:nE (bX id) R H'):bK id D=H':=Sl h hp (pre:=[]) rfl rfl 300 rfl
theorem x7(s:ak)(dz:Int):(AI s dz).size<=s.size:=by unfold AI;simp;omega
theorem iZ.cut{D:Dk}{R:List ak}(h:iZ D R)(n:Int):iZ (cu D n) R:=⟨h.len,h.many,h.on,h.off,h.size,h.oj⟩
theorem iZ.bad{D:Dk}{R:List ak}(h:iZ D R){s:ak}(hs:s.size<=700000)(hb:qx 124 s){dz:Int}(ho:lE D=true)(hr:R.length<300):iZ (ew D R.length (eb (R.length:Nat) s) dz) R:=by
 unfold ew
 rw[if_pos ho]
 split
 ·rename_i ht
  refine⟨by simpa using h.len,h.many,fun k x hk=>?_,fun k t hk hx=>?_,fun t hx=>?_,h.oj⟩
  ·have :=(au.1 hk).1
   dsimp only
   rw[List.getElem?_set_ne ae]
   exact h.on k x hk
  ·dsimp only at hx
   rw[List.getElem?_set]at hx
   split at hx
   ·rename_i e
    subst e
    split at hx
    ·simp only[az]at hx
     subst hx
     unfold AI
     have h0:=sS (R.length:Nat) s
     exact zR hb ae
    ·cases hx
   ·exact h.off k t hk hx
  ·dsimp only at hx
   rcases a_ hx with h1|rfl
   ·exact h.size t h1
   ·have :=x7 (eb (R.length:Nat) s) dz
    have :=uy (k:=(R.length:Nat)) ⟨by omega,by omega⟩ hs
    omega
 ·exact h
theorem iZ.Xw{D:Dk}{R:List ak}(h:iZ D R){s:ak}(hs:s.size<=700000)(hb:qx 124 s)(jg:fO 250 s){dz:Int}(ho:¬lE D=true)(hr:R.length<300):iZ (ew D R.length (eb (R.length:Nat) s) dz) (R++[s]):=by
 unfold ew
 rw[if_neg ho]
 have hl:=h.len
 refine⟨by simpa using h.len,by simp;omega,fun k x hk=>?_,fun k t hk hx=>?_,fun t hx=>?_,fun x hx=>?_⟩
 ·dsimp only
  rcases Nat.lt_or_ge k R.length with dS|Hz
  ·rw[List.getElem?_append_left dS]at hk
   rw[List.getElem?_set_ne ae]
   exact h.on k x hk
  ·have :=(au.1 hk).1
   simp at this
   obtain rfl:k=R.length:=by omega
   rw[bf (aD _)]at hk
   simp at hk
   subst hk
   rw[List.getElem?_set_self ae]
 ·dsimp only at hx
  simp at hk
  rw[List.getElem?_set_ne ae]at hx
  exact h.off k t ae hx
 ·dsimp only at hx
  rcases a_ hx with h1|rfl
  ·exact h.size t h1
  ·have :=uy (k:=(R.length:Nat)) ⟨by omega,by omega⟩ hs
   omega
 ·rcases aN.1 hx with hx|hx
  ·exact h.oj x hx
  ·simp at hx;subst hx;exact⟨jg,hb⟩
theorem w_:iZ bN []:=by
 refine⟨List.length_replicate,by simp,fun k s h=>by simp at h,fun k t _ ht=>?_,fun t ht=>?_,fun s h=>by cases h⟩
 ·have :t=⟨#[]⟩:=List.eq_of_mem_replicate (ax ht)
  subst this
  exact LN _
 ·have :t=⟨#[]⟩:=List.eq_of_mem_replicate ht
  subst this;decide
theorem yW{c:UInt8}(h2:isLet c=false){s:ak}(h:iI s=true):qx c s:=fun b hb e=>by
 subst e
 unfold iI at h
 rw[aJ]at h
 rw[h b hb]at h2;cases h2
theorem y_{x:pg}(h:iL x):qx 124 (oK x):=by
 rw[yS]
 unfold qu
 refine d_ (d_ (eM ai) (eM ai)) (d_ (d_ (rR ai ai ai fun m hm=>?_) (eM ai)) fun b hb=>?_)
 ·obtain⟨p,hp,rfl⟩:=ay.1 hm
  exact h.aM p hp
 ·rcases jC hb with hb|⟨y,hy,hb⟩
  ·simp[plus]at hb;subst hb;decide
  ·obtain⟨g,hg,rfl⟩:=ay.1 hy
   exact Gz (h.bu g hg).2.2 ai ai ai b hb
theorem P3{x:Nm}(h:cy x=true):qx 124 (ng x):=by
 obtain⟨h1,h2,-,-⟩:=jm h
 rw[FF]
 have hd:qx 124 (kf x.kr):=by
  unfold kf
  split
  ·exact eM ai
  ·rename_i h3
   rcases h2 with h2|h2
   ·exact yW ai (ib h2)
   ·exact absurd h2 h3
 exact d_ (d_ (eM ai) (eM ai)) (d_ (d_ (yW ai (ib h1)) (eM ai)) (d_ (d_ hd (eM ai)) (fX _ ai)))
theorem iL.VZ{x:pg}(h:iL x){k:Nat}(hk:x.aM.length<=k):fO k (oK x):=by
 have h1:=h.aag
 refine⟨h1.size,fun _ l hl=>?_,fun sH=>?_⟩
 ·rw[o4,h.read]at hl
  simp only[az]at hl
  subst hl
  simpa using hk
 ·rw[o4]at sH
  exact absurd (show cv 117=cv 114 from sH) ai
theorem fO.mono{k m:Nat}{s:ak}(h:fO k s)(hk:k<=m):fO m s:=⟨h.size,fun e l hl=>Nat.le_trans (h.many e l hl) hk,fun e a b c l h1 h2=>⟨Nat.le_trans (h.MF e a b c l h1 h2).1 hk,(h.MF e a b c l h1 h2).2⟩⟩
theorem Mk{x:Nm}(h:cy x=true):tr (x.name++cv 32++(kf x.kr++cv 32++b_ x.cq))=some x:=by
 obtain⟨h1,h2,h5,h6⟩:=jm h
 have hd:qx 32 (kf x.kr):=by
  unfold kf
  split
  ·exact eM ai
  ·rename_i h3
   rcases h2 with h2|h2
   ·exact yW ai (ib h2)
   ·exact absurd h2 h3
 unfold tr
 rw[jh (yW ai (ib h1)),jh hd,lq (fX _ ai)]
 dsimp only
 rw[iQ ⟨by omega,by omega⟩]
 have hda:dash (kf x.kr)=x.kr:=by
  unfold kf
  split
  ·rename_i h3;rw[h3];decide
  ·rename_i h3
   unfold dash Lib.trimPrefix
   rw[if_neg]
   ·rfl
   ·rcases h2 with h2|h2
    ·have hl:=ib h2
     unfold iI at hl
     rw[aJ]at hl
     intro hp
     cases ht:x.kr.data.toList with
     |nil=>rw[ht]at hp;revert hp;decide
     |cons b r=>
      rw[ht]at hp
      have hb:(45:UInt8)=b:=by unfold Lib.hasPrefix at hp;simpa using hp
      have :=hl b (by rw[ht];simp)
      rw[<-hb]at this
      revert this;decide
    ·exact absurd h2 h3
 rw[hda]
 rfl
theorem n9{H:Ho}{x:Nm}(h:cT H.names x=0):ck H (ng x)=(jq H x,true):=by
 unfold ck
 rw[tA]
 dsimp only
 rw[if_pos rfl,Mk (jO h)]
 dsimp only
 unfold F5
 rw[h];rfl
theorem xW{H:Ho}(x:pg):ck H (oK x)=eZ H (qu x):=by
 unfold ck
 rw[o4]
 dsimp only
 rw[if_neg ai,if_neg ai,if_pos rfl]
structure UI (H:Ho) (u:Nat) (x:pg) (c:Nat):Prop where
 many:x.aM.length+x.bu.length<=c
 aM:∀p∈x.aM,bT p.1=true/\p.1.cq=H.id/\∃i,H.qI p.1.queue=some i/\∃e∈hv H,e.j=4+i/\e.m=p.1/\e.put=(u:Int)
 pn:(x.aM.map fun p=>p.1.id).Nodup
 bu:∀g∈x.bu,dw g.2=true/\∃i,H.qI g.2=some i/\∃e∈hv H,e.j=4+i/\eO e=g.1/\e.put<0/\e.iS=(u:Int)
 gn:(x.bu.map (·.1)).Nodup
structure ag3 (W:ak->Prop) (id:Int) (c:Nat) (H H0:Ho) (D:Dk) (R:List ak) (T:List Int) (P G:Nat->List Int):Prop where
 hid:H.id=id
 B:cK (1000+250*c) H
 dk:iZ D R
 rl:R.length<=3+c
 left: -(10+(c:Int))<=D.left/\D.left<=10
 pl:nE (bX id) R H0
 used:H.used=R.length
 names:H0.names=H.names
 keys:cb H0=cb H
 ways:(∀q∈H.ways,q.l=[])/\∀q∈H0.ways,q.l=[]
 nu:∀e∈hv H0,e.put= -1/\e.iS= -1
 ye:(hk H).Perm ((hv H0).map pV)
 oy:((hv H).map eO).Nodup
 lt:∀e∈hv H,0<=e.m.id/\e.m.id<=1099511627776/\e.m.id/4<H.next
 Ot:∀e∈hv H0,e.m.id/4<H0.next
 unit:∀(u:Nat) x,H.aB[u]? =some x->UI H u x c/\(x.aM.map fun p=>p.1.id)=P u/\x.bu.map (·.1)=G u
 tn:T.Nodup
 te:T.Perm ((hk H).map (·.2.id))
 loc:∀s,W s->dw s=true/\jU H s=(s,-1,0)
section
variable {W:ak->Prop} {id:Int} {c:Nat} {H H0:Ho} {D:Dk} {R:List ak} {T:List Int} {P G:Nat->List Int}
theorem W7(H:Ho):(hk H).map (·.2.id)=((hv H).filter iW).map eO:=by unfold hk;rw[List.map_map];rfl
theorem lj{us:List pg}{u v:Nat}{x y:pg}(hu:u<us.length)(h:(us.set u y)[v]? =some x):(v=u/\x=y)\/(v≠u/\us[v]? =some x):=by
 rw[List.getElem?_set]at h
 split at h
 ·rename_i e;simp only[hu,if_true,az]at h;exact .inl ⟨e.symm,h.symm⟩
 ·rename_i e;exact .inr ⟨fun e2=>e e2.symm,h⟩
def upd (P:Nat->List Int) (u:Nat) (l:List Int):Nat->List Int:=fun v=>if v=u then l else P v
theorem gu{u:Nat}(h:cK c H)(hu:u<5):H.aB[u]? =some (H.eP u):=by
 unfold Ho.eP
 rw[aq,ao (by rw[h.aB];exact hu)];rfl
end
section
variable {W:ak->Prop} {id:Int} {c:Nat} {H H0:Ho} {D:Dk} {R:List ak} {T:List Int} {P G:Nat->List Int}
def agS (T:List Int) (k:Int):List Int:=if k∈T then T else T++[k]
def agE (T:List Int) (k:Int):List Int:=T.filter fun x=> !decide (x=k)
def aiH (T p g:List Int):List Int:=g.foldl agE (p.foldl agS T)
theorem u6(H:Ho){u:Int}(hu:0<=u):hv (cE H u)=((hv H).filter fun e=> !decide (e.put=u)).map (fN u):=by
 unfold hv
 rw[oW,RC hu]
end
section
variable {W:ak->Prop} {id:Int} {c:Nat} {H H0:Ho} {D:Dk} {R:List ak} {T:List Int} {P G:Nat->List Int}
theorem wZ{D:Dk}:lX D=0↔ ¬lE D=true:=by
 unfold lX
 split<;>simp_all
theorem ke{D:Dk}{k:Nat}{s:ak}{dz:Int}:(ew D k s dz).left=if lE D=true then D.left else D.left-1:=by
 unfold ew
 split
 ·split<;>rfl
 ·rfl
end
theorem cK.name{n:Nat}{H:Ho}(h:cK n H)(D:Dk)(x:Nm):cK (n+1) (oN H D x):=by
 unfold oN
 split
 ·exact h.le ae
 ·rename_i h1
  have hr:cy x=true:=by
   cases hr:cy x with
   |true=>rfl
   |false=>
    have :cT H.names x≠0:=fun h0=>by rw[jO h0]at hr;cases hr
    unfold kG at h1
    rw[if_pos this]at h1
    exact absurd this h1
  unfold lM
  split
  ·exact(h.log (D:=D)).Fo (sW hr) ae
  ·exact(h.log (D:=D)).le ae
theorem x6{D:Dk}{k:Nat}{s:ak}{dz:Int}:(ew D k s dz).cut=D.cut:=by
 unfold ew
 split
 ·split<;>rfl
 ·rfl
theorem wx{H:Ho}{D:Dk}{x:Nm}{R:List ak}(hd:iZ D R)(hc:D.cut=false)(hu:H.used=R.length)(hr:R.length<300)(sq:H.down=false)(hs:cT H.names x=0)(hn:x.name≠cL):
 zV H D x=0/\oN H D x=jq {H with used:=H.used+1} x/\iZ (jf H D x) (R++[ng x])/\(jf H D x).cut=false/\(jf H D x).left=D.left-1:=by
 have e1:kG H x=0:=by unfold kG;rw[if_neg (by simpa using hs),if_neg hn]
 have e2:fU H=0:=by unfold fU;rw[if_neg YJ,if_neg ae]
 have ho:¬lE D=true:=by unfold lE;simp[hc]
 have e3:lX D=0:=wZ.2 ho
 have e4:c7 H D=0:=by unfold c7;rw[if_neg (by simpa using e2)];exact e3
 have e5:dc H D={H with used:=H.used+1}:=by unfold dc;rw[if_neg (by simpa using e2),if_neg (by simpa using e3)]
 have e6:jf H D x=ew D H.used (eb H.used (ng x)) H.dz:=by unfold jf gU;rw[if_neg (by simpa using e1),if_neg (by simpa using e2)]
 have i_:=jO hs
 have jg:=sW i_
 refine⟨by unfold zV;rw[if_neg (by simpa using e1)];exact e4,?_,?_,?_,?_⟩
 ·unfold oN lM
  rw[if_neg (by simpa using e1),if_pos e4,e5,n9 (H:={H with used:=H.used+1}) hs]
 ·rw[e6,hu]
  exact hd.Xw (by have :=jg.size;omega) (P3 i_) (jg.mono ae) ho hr
 ·rw[e6,x6];exact hc
 ·rw[e6,ke,if_neg ho]
def eV:ak:=⟨#[105,110]⟩
def hI:ak:=⟨#[111,117,116]⟩
def eF:ak:=⟨#[102,97,114]⟩
def jA (j:Int) (i:Nat):Nm:=if i=0 then⟨eV,⟨#[]⟩,-1⟩else if i=1 then⟨hI,⟨#[]⟩,-1⟩else⟨eF,eV,j⟩
def fP (j:Int) (s:Ho×Dk):Nat->Ho×Dk
 |0=>s
 |i+1=>(oN (fP j s i).1 (fP j s i).2 (jA j i),jf (fP j s i).1 (fP j s i).2 (jA j i))
def dC (id j:Int) (u:Nat) (ns:List Nm) (qs:List (ak×Qu)):Ho:=⟨id,u,false,-1,0,ns,qs,List.replicate 4 ⟨[],0⟩,List.replicate 5 ⟨[],[]⟩,List.replicate 4 [],List.replicate 4 0,List.replicate 4 0⟩
def cD (id j:Int):Ho:=dC id j 3 [⟨eF,eV,j⟩,⟨eV,⟨#[]⟩,-1⟩,⟨hI,⟨#[]⟩,-1⟩] [(cL,⟨[],0⟩),(eV,⟨[],0⟩),(hI,⟨[],0⟩)]
def Iw (j:Int):List ak:=[ng (jA j 0),ng (jA j 1),ng (jA j 2)]
theorem jB(id j:Int)(hj:0<=j/\j<4):
 (∀i,i<3->zV (fP j (bX id,bN) i).1 (fP j (bX id,bN) i).2 (jA j i)=0)/\(fP j (bX id,bN) 3).1=cD id j/\iZ (fP j (bX id,bN) 3).2 (Iw j)/\(fP j (bX id,bN) 3).2.left= -3/\(fP j (bX id,bN) 3).2.cut=false:=by
 have s0:cT (bX id).names (jA j 0)=0:=by show cT [] ⟨eV,⟨#[]⟩,-1⟩=0;decide+kernel
 obtain⟨a1,b1,c1,d1,l1⟩:=wx (H:=bX id) (x:=jA j 0) w_ rfl rfl aj rfl s0 (by show ¬eV=cL;decide)
 have b1':oN (bX id) bN (jA j 0)=dC id j 1 [⟨eV,⟨#[]⟩,-1⟩] [(cL,⟨[],0⟩),(eV,⟨[],0⟩)]:=b1.trans bH
 have s1:cT (dC id j 1 [⟨eV,⟨#[]⟩,-1⟩] [(cL,⟨[],0⟩),(eV,⟨[],0⟩)]).names (jA j 1)=0:=by show cT [⟨eV,⟨#[]⟩,-1⟩] ⟨hI,⟨#[]⟩,-1⟩=0;decide+kernel
 obtain⟨a2,b2,c2,d2,l2⟩:=wx (H:=dC id j 1 [⟨eV,⟨#[]⟩,-1⟩] [(cL,⟨[],0⟩),(eV,⟨[],0⟩)]) (x:=jA j 1) c1 d1 rfl aj rfl s1 (by show ¬hI=cL;decide)
 have b2':oN (dC id j 1 [⟨eV,⟨#[]⟩,-1⟩] [(cL,⟨[],0⟩),(eV,⟨[],0⟩)]) (jf (bX id) bN (jA j 0)) (jA j 1)=dC id j 2 [⟨eV,⟨#[]⟩,-1⟩,⟨hI,⟨#[]⟩,-1⟩] [(cL,⟨[],0⟩),(eV,⟨[],0⟩),(hI,⟨[],0⟩)]:=b2.trans bH
 have Kn:j=0\/j=1\/j=2\/j=3:=by omega
 have s2:cT (dC id j 2 [⟨eV,⟨#[]⟩,-1⟩,⟨hI,⟨#[]⟩,-1⟩] [(cL,⟨[],0⟩),(eV,⟨[],0⟩),(hI,⟨[],0⟩)]).names (jA j 2)=0:=by
  show cT [⟨eV,⟨#[]⟩,-1⟩,⟨hI,⟨#[]⟩,-1⟩] ⟨eF,eV,j⟩=0
  rcases Kn with rfl|rfl|rfl|rfl<;>decide+kernel
 obtain⟨a3,b3,c3,d3,l3⟩:=wx (H:=dC id j 2 [⟨eV,⟨#[]⟩,-1⟩,⟨hI,⟨#[]⟩,-1⟩] [(cL,⟨[],0⟩),(eV,⟨[],0⟩),(hI,⟨[],0⟩)]) (x:=jA j 2) c2 d2 rfl aj rfl s2 (by show ¬eF=cL;decide)
 have b3':jq {dC id j 2 [⟨eV,⟨#[]⟩,-1⟩,⟨hI,⟨#[]⟩,-1⟩] [(cL,⟨[],0⟩),(eV,⟨[],0⟩),(hI,⟨[],0⟩)]with used:=(dC id j 2 [⟨eV,⟨#[]⟩,-1⟩,⟨hI,⟨#[]⟩,-1⟩] [(cL,⟨[],0⟩),(eV,⟨[],0⟩),(hI,⟨[],0⟩)]).used+1} (jA j 2)=cD id j:=by
  rcases Kn with rfl|rfl|rfl|rfl<;>kernel_rfl
 have e0:fP j (bX id,bN) 0=(bX id,bN):=rfl
 have e1:fP j (bX id,bN) 1=(dC id j 1 [⟨eV,⟨#[]⟩,-1⟩] [(cL,⟨[],0⟩),(eV,⟨[],0⟩)],jf (bX id) bN (jA j 0)):=by
  rw[fP,e0];dsimp only;rw[b1']
 have e2:fP j (bX id,bN) 2=(dC id j 2 [⟨eV,⟨#[]⟩,-1⟩,⟨hI,⟨#[]⟩,-1⟩] [(cL,⟨[],0⟩),(eV,⟨[],0⟩),(hI,⟨[],0⟩)],jf (dC id j 1 [⟨eV,⟨#[]⟩,-1⟩] [(cL,⟨[],0⟩),(eV,⟨[],0⟩)]) (jf (bX id) bN (jA j 0)) (jA j 1)):=by
  rw[fP,e1];dsimp only;rw[b2']
 rw[show fP j (bX id,bN) 3=(oN (fP j (bX id,bN) 2).1 (fP j (bX id,bN) 2).2 (jA j 2),jf (fP j (bX id,bN) 2).1 (fP j (bX id,bN) 2).2 (jA j 2))from rfl,e2]
 dsimp only
 refine⟨fun i hi=>?_,b3.trans b3',c3,by rw[l3,l2,l1];rfl,d3⟩
 match i,hi with
 |0,_=>rw[e0];exact a1
 |1,_=>rw[e1];exact a2
 |2,_=>rw[e2];exact a3
theorem Dv{id:Int}(h:0<=id/\id<4)(j:Int):∀i,cK (10+i) (fP j (bX id,bN) i).1
 |0=>I6 h
 |i+1=>((Dv h j i).name _ _).le ae
theorem Dw(id j:Int)(hj:0<=j/\j<4):nE (bX id) (Iw j) (cD id j):=by
 have Kn:j=0\/j=1\/j=2\/j=3:=by omega
 refine .cons (n9 (x:=jA j 0) (by show cT [] ⟨eV,⟨#[]⟩,-1⟩=0;decide+kernel)) ?_
 rw[show({jq (bX id) (jA j 0)with used:=(bX id).used+1}:Ho)=dC id j 1 [⟨eV,⟨#[]⟩,-1⟩] [(cL,⟨[],0⟩),(eV,⟨[],0⟩)]by kernel_rfl]
 refine .cons (n9 (x:=jA j 1) (by show cT [⟨eV,⟨#[]⟩,-1⟩] ⟨hI,⟨#[]⟩,-1⟩=0;decide+kernel)) ?_
 rw[show({jq (dC id j 1 [⟨eV,⟨#[]⟩,-1⟩] [(cL,⟨[],0⟩),(eV,⟨[],0⟩)]) (jA j 1)with used:=(dC id j 1 [⟨eV,⟨#[]⟩,-1⟩] [(cL,⟨[],0⟩),(eV,⟨[],0⟩)]).used+1}:Ho)=dC id j 2 [⟨eV,⟨#[]⟩,-1⟩,⟨hI,⟨#[]⟩,-1⟩] [(cL,⟨[],0⟩),(eV,⟨[],0⟩),(hI,⟨[],0⟩)]by kernel_rfl]
 refine .cons (n9 (x:=jA j 2) (by show cT [⟨eV,⟨#[]⟩,-1⟩,⟨hI,⟨#[]⟩,-1⟩] ⟨eF,eV,j⟩=0;rcases Kn with rfl|rfl|rfl|rfl<;>decide+kernel)) ?_
 rw[show({jq (dC id j 2 [⟨eV,⟨#[]⟩,-1⟩,⟨hI,⟨#[]⟩,-1⟩] [(cL,⟨[],0⟩),(eV,⟨[],0⟩),(hI,⟨[],0⟩)]) (jA j 2)with used:=(dC id j 2 [⟨eV,⟨#[]⟩,-1⟩,⟨hI,⟨#[]⟩,-1⟩] [(cL,⟨[],0⟩),(eV,⟨[],0⟩),(hI,⟨[],0⟩)]).used+1}:Ho)=cD id j by rcases Kn with rfl|rfl|rfl|rfl<;>kernel_rfl]
 exact .nil _
def VJ (s:ak):Prop:=s=eV\/s=hI
open Go Go.RowKit Go.ChangeMaps Go.MapKept
section
variable {κ:Type} [DecidableEq κ] {d:TypeDesc} {kv:κ->Value} {w0 w:World} {L:List HP} {P:Program} {b:Nat} {m:List (κ×Value)}
theorem LP(K:KeyLaw d kv)(h:St w0 (cg kv b m::L) w){t k E ty:TypeId}(ht:P.underlying t=some (.map k E))(hk:P.underlying k=some d)(s:κ):
 ∃w',(Builtin.delete_ #[t,k] ty #[.map (some b),kv s]).run P w=.ok (.tuple #[]) w'/\St w0 (cg kv b (rm m s)::L) w':=by
 obtain⟨es,h⟩:=h.CN
 obtain⟨gG,h⟩:=h.CN
 obtain⟨hr,h⟩:=h.split.sZ
 obtain⟨_,hb⟩:=h.look
 have up:∀(o:Obj),St w0 (bP b o::L) {w with heap:=w.heap.setIfInBounds b o}:=fun o=>
  h.upd rfl rfl rfl aj (by have :=h.lt;simp[this]) (fun k hk=>by simp[Array.getElem?_setIfInBounds,Ne.symm hk])
 rcases KD K s _ m 0 hr.PA with⟨h2,h3,h4,h5⟩|⟨j,e,_,h3,h4,h5,_,h6⟩
 ·refine⟨{w with heap:=w.heap.setIfInBounds b (.map es gG)},?_,?_⟩
  ·simp[Builtin.delete_,run_underlying ht,run_getObj_map hb,run_checkKey hk (K.isKey s),run_findKey hk h3,run_setObj_map _ hb,Result.andThen]
  ·rw[h5]
   exact St.Bv es (St.Bv gG (St.join (St.yl hr (up (.map es gG)))))
 ·have hj:j<es.size:=by have :=(au.1 h3).1;simpa using this
  have e1:(es.eraseIdx j hj).toList=es.toList.eraseIdx j:=by simp
  refine⟨_,?_,St.Bv (es.eraseIdx j hj) (St.Bv gG (St.join (St.yl (p:=Zt kv (es.eraseIdx j hj).toList gG (rm m s)) ?_ (up (.map (es.eraseIdx j hj) gG)))))⟩
  ·simp[Builtin.delete_,run_underlying ht,run_getObj_map hb,run_checkKey hk (K.isKey s),run_findKey hk h5,run_setObj_map _ hb,Result.andThen,Array.eraseIdxIfInBounds,hj]
  ·rw[e1]
   exact⟨h6,fun e he=>hr.M7 e ((List.eraseIdx_sublist _ _).subset he),hr.nodup.sublist ((List.eraseIdx_sublist _ _).map _)⟩
end
section
variable {κ:Type} [DecidableEq κ] {kd:TypeDesc} {kv:κ->Value}
variable {P:Program} {ops:Array Oper} {d:Bool} {Q:Exit->Act->World->Prop} {n:Nat} {D:List Deferred} {w0:World} {G:Env} {L R:List HP} {l:List (Kd×Oper)} {k:Kd}
 {t:Nat} {ty T KT E:TypeId} {pos:String} {af:Array Edge} {x y u:Operand} {v z:Value} {b:Nat} {m:List (κ×Value)}
theorem KO.agD(K:KeyLaw kd kv)(s:κ)(hk:(!d||k== .write)=true)(hx:ev G x=some (.map (some b)))(hy:ev G y=some (kv s))(hT:P.underlying T=some (.map KT E))(hK:P.underlying KT=some kd)(hp:bQ L (cg kv b m) R)(h:KO P ops d Q n D w0 G (cg kv b (rm m s)::R) l):KO P ops d Q n D w0 G L ((k,⟨none,.call ⟨.builtin .delete,#[x,y],#[T,KT]⟩,ty,pos,af,none⟩)::l):=
 KO.wn hk (fun a w ha hw=>by
  obtain⟨w',hr,hs⟩:=LP (P:=P) (ty:=ty) K (hw.pick hp) hT hK s
  exact⟨w',.tuple #[],by simp[execOp,resolve,invoke,builtin,ha.eval hx,ha.eval hy,hr],hs⟩) h
end
def ai7 (T:List Int):List (Int×Value):=T.map fun k=>(k,.bool true)
open Go Go.RowKit
section
variable {P:Program} {ops:Array Oper} {d:Bool} {Q:Exit->Act->World->Prop} {n:Nat} {D:List Deferred} {w0:World} {G:Env} {L R:List HP} {l:List (Kd×Oper)} {k:Kd}
 {t:Nat} {ty T:TypeId} {pos:String} {af:Array Edge} {x y z:Operand} {i:Nat} {a c:Int} {kk kk':IntKind}
theorem KO.Wv{cs us:List Value}{len sz:Nat}{E:TypeId}(hx:ev G x=some (.agg cs.toArray))(hy:ev G y=some (.int kk a))(hT:P.underlying T=some (.array len E))(hA:∀w,(isAgg E).run P w=.ok true w)(hs:∀w,(Go.sizeOf E).run P w=.ok sz w)(ha:a=(i:Int))(hi:i<len)(hv:(cs.drop (i *sz)).take sz=us)(ht:Nat.blt t n=true)(h:KO P ops d Q n D w0 ((t,.agg us.toArray)::G) L l):KO P ops d Q n D w0 G L ((k,⟨some t,.index T x y,ty,pos,af,none⟩)::l):=
 KO.val (fun a' w su=>by
  subst ha
  have h1:(0:Int)<=(i:Int)/\(i:Int)<(len:Int):=⟨by omega,by omega⟩
  have h2:cs.toArray.extract (i *sz) (i *sz+sz)=us.toArray:=by rw[<-hv,List.extract_toArray,List.extract_eq_take_drop,Nat.add_sub_cancel_left]
  simp[execOp,su.eval hx,su.eval hy,Instr.index,asIntOf,run_underlying hT,h1,hs w,part,hA w]
  rw[<-h2]
  simp
  intro h3;omega
  ) ht h
end
theorem Oc(j:Int)(i:Nat):(jA j i).name.size<=3/\(jA j i).kr.size<=3:=by
 unfold jA
 split
 ·exact⟨by decide,by decide⟩
 ·split
  ·exact⟨by decide,by decide⟩
  ·exact⟨by show eF.size<=3;decide,by show eV.size<=3;decide⟩
theorem aez(j:Int):[(jA j 0),(jA j 1),(jA j 2)].flatMap Nm.cells=[Value.string ⟨#[105,110]⟩,.string ⟨#[]⟩,.int .i64 (-1),.string ⟨#[111,117,116]⟩,.string ⟨#[]⟩,.int .i64 (-1),.string ⟨#[102,97,114]⟩,.string ⟨#[105,110]⟩,.int .i64 j]:=rfl
theorem Sp(j:Int):∀i,i<3->(([(jA j 0),(jA j 1),(jA j 2)].flatMap Nm.cells).drop (i *3)).take 3=(jA j i).cells
 |0,_=>rfl
 |1,_=>rfl
 |2,_=>rfl
theorem Oh(H:Ho)(D:Dk)(x:Nm):(jf H D x).places.length=D.places.length/\D.left-1<=(jf H D x).left/\(jf H D x).left<=D.left:=by
 unfold jf
 split
 ·exact⟨rfl,by omega,Int.le_refl _⟩
 ·unfold gU
  split
  ·exact⟨rfl,by omega,Int.le_refl _⟩
  ·refine⟨?_,?_,?_⟩
   ·unfold ew
    split
    ·split
     ·simp
     ·rfl
    ·simp
   ·rw[ke];split<;>omega
   ·rw[ke];split<;>omega
theorem Og(id j:Int):∀i,(fP j (bX id,bN) i).2.places.length=300/\ -(i:Int)<=(fP j (bX id,bN) i).2.left/\(fP j (bX id,bN) i).2.left<=0
 |0=>⟨List.length_replicate,by show -((0:Nat):Int)<=0;omega,Int.le_refl 0⟩
 |i+1=>by
  obtain⟨a,b,c⟩:=Og id j i
  obtain⟨a',b',c'⟩:=Oh (fP j (bX id,bN) i).1 (fP j (bX id,bN) i).2 (jA j i)
  exact⟨a'.trans a,by simp only[fP];push_cast;omega,by simp only[fP];omega⟩
end WB
namespace Go.Proofs.YtjhogocabcdjbabGreatDoor
open Tryz
open Go Go.RowKit WB
theorem J7(w0:World)(L:List HP)(bh bd:Nat)(id k m:Int)(hT:qH w0)(hM:qK w0)(hid:0<=id/\id<4)(hk:0<=k/\k<4)(hm:1<=m/\m<=4):
 KC prog 12 #[bA bh,.int .i64 k,.int .i64 m] w0 (dL bh bd (bX id)::fR bd bN::L) (fun u M=>u=.bool true/\M=dL bh bd (fP ((k+1)%m) (bX id,bN) 3).1::fR bd (fP ((k+1)%m) (bX id,bN) 3).2::L):=by
 have hj:0<=(k+1)%m/\(k+1)%m<4:=⟨Int.emod_nonneg _ ae,by have :=Int.emod_lt_of_pos (k+1) (show 0<m by omega);omega⟩
 obtain⟨he,-⟩:=jB id ((k+1)%m) hj
 have hB:=Dv hid ((k+1)%m)
 have hD:=Og id ((k+1)%m)
 have hz:=Oc ((k+1)%m)
 have hcut:=Sp ((k+1)%m)
 have lW:=aez ((k+1)%m)
 generalize hjd:(k+1)%m=j at hj he hB hD hz hcut lW ⊢
 have hmx:(1000000:Nat)<=maxLen:=by decide
 generalize akH:[jA j 0,jA j 1,jA j 2].flatMap Nm.cells=cs at hcut lW
 refine KC.mk (n:=25) func12 rfl ntmps12 aj ?_
 refine Z3 ?_
 refine mB ?_
 refine Uo ?_
 refine Uo ?_
 refine Z1 ?_
 refine vP ?_
 refine Z1 ?_
 refine KO.rem rfl rfl ae ae rfl ?_;rw[hjd]
 refine Uo ?_
 refine KO.bld (v:=.agg cs.toArray) rfl (by intro w;rw[lW];go_simp;rfl) rfl ?_
 refine ox ?_
 refine K.loop (fun i:Nat=>[(0,bA bh),(16,.agg cs.toArray),(17,.int .i64 (i:Nat))])
  (fun i=>dL bh bd (fP j (bX id,bN) i).1::fR bd (fP j (bX id,bN) i).2::L) (fun i=>i<=3) (fun i=>3-i) 0
  (aV _) ⟨rfl,rfl,rfl,trivial⟩ (fun _ h=>h) ?_
 intro i hi
 refine iJ ?_
 refine K.bz rfl (fun h=>?_) (fun h=>?_)
 ·have Xa:i<3:=by omega
  obtain⟨n0,qN⟩:=hz i
  obtain⟨d1,d2,d3⟩:=hD i
  have Zn:=he i Xa
  have U_:=hcut i Xa
  have hBi:=hB i
  have kt:fP j (bX id,bN) (i+1)=(oN (fP j (bX id,bN) i).1 (fP j (bX id,bN) i).2 (jA j i),jf (fP j (bX id,bN) i).1 (fP j (bX id,bN) i).2 (jA j i)):=rfl
  generalize jA j i=x at n0 qN Zn U_ kt
  generalize fP j (bX id,bN) i=s at d1 d2 d3 Zn hBi kt
  obtain⟨Hi,Di⟩:=s
  obtain⟨xn,xt,xh⟩:=x
  dsimp only at n0 qN Zn d1 d2 d3 hBi kt
  refine qF ?_
  refine KO.Wv (i:=i) rfl rfl underlying137 isAgg75 sizeOf75 rfl Xa U_ rfl ?_
  refine KO.alloc rfl zeroValue75 aQ rfl ?_;intro b8
  refine KO.pD rfl rfl rfl aQ (by exact sizeOf75) aQ bZ aQ ?_
  refine G4 ?_
  refine X9 ?_
  refine KO.cl (cp:=[]) rfl rfl rfl call31 rfl (KC.QV bo bo (S9 w0 _ bh bd (10+i) Hi Di ⟨xn,xt,xh⟩ hT hM hBi ae d1 ⟨by omega,by omega⟩ iK iK)) ?_;rintro v' L' ⟨rfl,rfl⟩;rw[Zn]
  refine A4 ?_
  refine GZ ?_
  refine qD ?_
  refine KQ.round (i+1) ae ae ⟨rfl,rfl,rfl,trivial⟩ (fun _ h=>?_)
  rw[kt]
  exact h.all Y1
 ·obtain rfl:i=3:=by omega
  refine Jy ?_
  refine KQ.bG rfl rfl (fun w' aX=>⟨_,_,rfl,⟨rfl,rfl⟩,aX⟩)
end Go.Proofs.YtjhogocabcdjbabGreatDoor
namespace WB
open Go
def qS:ak:=⟨#[113]⟩
def aS:ak:=⟨#[97]⟩
def bS:ak:=⟨#[98]⟩
def nmQ:Nm:=⟨qS,⟨#[]⟩,-1⟩
def ka (u:Nat) (nx:Int) (q:Qu) (u0 u2:pg):Ho:=⟨1,u,false,-1,nx,[nmQ],[(cL,⟨[],0⟩),(qS,q)],List.replicate 4 ⟨[],0⟩,[u0,⟨[],[]⟩,u2,⟨[],[]⟩,⟨[],[]⟩],List.replicate 4 [],List.replicate 4 0,List.replicate 4 0⟩
def Zd:Ms:=⟨1,3,aS,qS,1⟩
def kbM:Ms:=⟨5,3,bS,qS,1⟩
def k1:Ho:=ka 1 0 ⟨[],0⟩ ⟨[],[]⟩ ⟨[],[]⟩
def k2:Ho:=ka 1 1 ⟨[⟨Zd,0,0,-1⟩],1⟩ ⟨[(Zd,-1)],[]⟩ ⟨[],[]⟩
def k3:Ho:=ka 2 1 ⟨[⟨Zd,1,-1,-1⟩],2⟩ ⟨[],[]⟩ ⟨[],[]⟩
def k4:Ho:=ka 2 2 ⟨[⟨Zd,1,-1,-1⟩,⟨kbM,2,2,-1⟩],3⟩ ⟨[],[]⟩ ⟨[(kbM,-1)],[]⟩
def k5:Ho:=ka 2 1 ⟨[⟨Zd,0,-1,-1⟩],1⟩ ⟨[],[]⟩ ⟨[],[]⟩
def kd1:Dk:=jf (bX 1) bN nmQ
def kd3:Dk:=od k2 kd1 0
def kU:pg:=⟨[(Zd,-1)],[]⟩
theorem PE:M4 bN:=w_.ok ⟨by show(-4000000000000000000:Int)<=0;omega,by show(0:Int)<=9223372036854775807;omega⟩
theorem N7(id:Int):bK id bN=bX id:=s8 w_ (.nil _)
end WB
namespace Go.Proofs.YtjhogocabcdjbabGreatDoor
open Tryz
open Go Go.RowKit WB
theorem Ks(w0:World)(L R:List HP)(bh bd:Nat)(H:Ho)(hp:bQ L (dL bh bd H) R):KE prog 76 #[bA bh] w0 L (fun u M=>u=.bool H.down/\M=L):=by
 refine KE.mk (n:=7) func76 rfl ntmps76 aj ?_
 intro w hw
 obtain⟨V,hV,hc⟩:=oS hw hp
 have hc3:=hc 3 _ rfl
 refine qE ?_
 refine X7 ?_
 refine jH ?_
 refine KQ.bG rfl rfl (fun w' hs=>⟨_,_,rfl,⟨rfl,rfl⟩,hw.aE hs.below,hs.below⟩)
def ug (H:Ho) (k:Int):Int:=if cj H k=true then 0 else 2
def fJ (H:Ho) (k:Int):List Ms:=if cj H k=true then aW (H.dy k.toNat)else[]
theorem Ag(w0:World)(L:List HP)(bh bd n:Nat)(H:Ho)(k:Int)(hB:cK n H)(hn:n<=80000):
 KC prog 27 #[bA bh,.int .i64 k] w0 (dL bh bd H::L) (fun u M=> ∃v,u=.tuple #[v,cS 70 (ug H k)]/\M=SL 44 5 du v (fJ H k)::dL bh bd H::L):=by
 unfold ug fJ
 refine KC.mk (n:=18) func27 rfl ntmps27 aj ?_
 refine tG ?_
 refine lK ?_
 cases hk:cj H k with
 |false=>
  refine ji ?_
  refine KO.ce (cp:=[]) rfl rfl rfl call79 rfl (eE w0 _ _ bh bd H k bZ) ?_;rintro v' L' ⟨rfl,rfl⟩;rw[hk]
  refine qp ?_
  refine BA ?_
  refine qb ?_
  refine KQ.fp rfl rfl rfl (fun w' aX=>⟨_,_,rfl,⟨_,rfl,rfl⟩,cM aX⟩)
 |true=>
  obtain⟨wJ,lV,-⟩:=bM.1 hk
  obtain⟨j,rfl⟩:∃j:Nat,k=(j:Int):=⟨k.toNat,by omega⟩
  have hj:j<4:=by omega
  refine ji ?_
  refine KO.ce (cp:=[]) rfl rfl rfl call79 rfl (eE w0 _ _ bh bd H (j:Int) bZ) ?_;rintro v' L' ⟨rfl,rfl⟩;rw[hk]
  refine Ee ?_
  refine K.cx (fun _ h=>cI h) ?_
  rintro⟨V,hV⟩
  dsimp only
  have qB:=hV.ps
  obtain⟨p,hp⟩:∃p,V.ps[j]? =some p:=⟨_,ao ae⟩
  have hw:=pZ (bd:=bd) hV hj hp
  have fw:=iH hV.ways hj
  have F7:=(hB.w hj).len
  refine o8 ?_
  refine Uu ?_
  refine KO.dB (i:=8+j) rfl rfl isAgg119 bZ Bd hw rfl ?_
  refine KO.ce (cp:=[]) rfl rfl rfl call67 rfl (KE.GK (A:=fun v=>LY v (aW (H.dy j))) (φ:=fun _=>True) hp fw bo (fun L=>KE.mono (IC w0 _ _ p (H.dy j) .head ae) (fun v M h=>⟨trivial,h⟩))) ?_;rintro va L' ⟨-,rfl⟩
  refine rC ?_
  refine KQ.fp rfl rfl rfl (fun w' aX=>⟨_,_,rfl,⟨_,rfl,rfl⟩,?_⟩)
  have h1:=cn V hV (L:=LY va (aW (H.dy j))::L) (aX.all Y7)
  exact h1.all Y7
def X1 (H:Ho) (k:Int):Int:=if cj H k=true then 0 else 2
def GV (H:Ho) (k:Int):Int:=if cj H k=true then bY H k.toNat else 0
theorem I4(w0:World)(L R:List HP)(bh bd:Nat)(H:Ho)(k:Int)(hp:bQ L (dL bh bd H) R):
 KE prog 111 #[bA bh,.int .i64 k] w0 L (fun u M=>u=.tuple #[.int .i64 (GV H k),cS 70 (X1 H k)]/\M=L):=by
 unfold X1 GV
 refine KE.mk (n:=17) func111 rfl ntmps111 aj ?_
 intro w hw
 have hri:=eE w0 L R bh bd H k hp
 obtain⟨V,hV,hc⟩:=oS hw hp
 refine tG ?_
 refine lK ?_
 cases hk:cj H k with
 |false=>
  rw[hk]at hri
  refine ji ?_
  refine KO.ce (cp:=[]) rfl rfl rfl call79 rfl (hri.qX hw) ?_;rintro v' L' ⟨rfl,rfl⟩
  refine qp ?_
  refine BA ?_
  refine qb ?_
  refine KQ.fp rfl rfl rfl (fun w' hs=>⟨_,_,rfl,⟨rfl,rfl⟩,hw.aE hs.below,hs.below⟩)
 |true=>
  rw[hk]at hri
  obtain⟨wJ,lV,-⟩:=bM.1 hk
  obtain⟨j,rfl⟩:∃j:Nat,k=(j:Int):=⟨k.toNat,by omega⟩
  have hj:j<4:=by omega
  have hcj:=hc (30+j) _ (y0 (bd:=bd) hV hj).1
  have afR:w.cell? ((⟨bh,30,none⟩:Addr).add (j *1))=some (.int .i64 (bY H j)):=by rw[Addr.add_lit,Nat.mul_one];exact hcj
  refine ji ?_
  refine KO.ce (cp:=[]) rfl rfl rfl call79 rfl (hri.qX hw) ?_;rintro v' L' ⟨rfl,rfl⟩
  refine Ee ?_
  refine o8 ?_
  refine Z62 ?_
  refine KO.sE rfl rfl isAgg3 afR rfl ?_
  refine rC ?_
  refine KQ.fp rfl rfl rfl (fun w' hs=>⟨_,_,rfl,⟨rfl,rfl⟩,hw.aE hs.below,hs.below⟩)
theorem V7{w0 w w':World}{L:List HP}{e:TypeId}{sz n:Nat}{v:Value}{xs:List Value}(hw:St w0 L w)(hb:Below w.heap.size w w')(ho:w'.ownsRow w.heap.size e sz v n xs):St w0 (lu e sz v n xs::L) w':=by
 obtain⟨hl,⟨rfl,rfl⟩|⟨g,cap,cur,rfl,hg,hh,h1,h2,h3,h4⟩⟩:=ho
 ·have :xs=[]:=List.eq_nil_of_length_eq_zero Y62
  subst this
  exact(hw.aE hb).Ds
 ·have hs:St w [bP g (.cells cur e (0,0))] w':=by
   refine⟨hb.os,hb.tape,hb.output,hb.size,hb.block,⟨fun k=>if k=g then some (.cells cur e (0,0))else none,fun k o hk=>?_,?_⟩⟩
   ·dsimp only at hk
    split at hk
    ·rename_i e1;subst e1
     simp only[az]at hk;subst hk
     exact⟨hg,hh⟩
    ·cases hk
   ·refine⟨fun k=>if k=g then some (.cells cur e (0,0))else none,fun _=>none,fun k=>.inr rfl,?_,⟨if_pos rfl,fun k hk=>if_neg hk⟩,fun _=>rfl⟩
    funext k
    unfold qe
    split<;>simp_all
  have h5:=(hw.stack hs).lO (n:=n) (size:=sz) (xs:=xs) h1 h2 h3 h4
  exact h5
theorem TQ(w0:World)(L R:List HP)(v:Value)(l:List Int)(hl:0<l.length)(EC:l.length<=1000000)(hp:bQ L (dX v l) R):KE prog 195 #[v] w0 L (fun u M=>M=SL 3 1 kL u l::L):=fun w hw=>by
 obtain⟨⟨⟨g,off,cs,cap⟩,hv,lW⟩,hs⟩:=Fb hl (hw.pick hp)
 dsimp only at hv lW hs
 subst hv
 refine(Tryz.slices_Clone_int g off l.length cap l w (aD _) ae (fun j hj=>?_)).mono ?_
 ·rw[World.cell?,hs.look.2]
  have :=lW j (l.getD j 0) (by rw[aq,ao hj];rfl)
  simpa using this
 ·rintro e w' ⟨v',rfl,ho,-,hb⟩
  refine⟨v',_,rfl,rfl,?_,hb⟩
  rw[List.take_length]at ho
  have h8:∀l:List Int,l.map (Value.int .i64)=l.flatMap kL:=fun l=>by
   induction l with
   |nil=>rfl
   |cons x l ih=>rw[aR,<-ih];rfl
  rw[h8]at ho
  exact V7 hw hb ho
def dbE (H:Ho) (k:Int):Int:=if cj H k=true then 0 else 2
def XG (H:Ho) (k:Int):Int:=if cj H k=true then(if(bm H k.toNat).length=0 then 0 else bD H k.toNat)else 0
def AL (H:Ho) (k:Int):List Int:=if cj H k=true then bm H k.toNat else[]
theorem Pc(w0:World)(L:List HP)(bh bd n:Nat)(H:Ho)(k:Int)(hB:cK n H):
 KC prog 110 #[bA bh,.int .i64 k] w0 (dL bh bd H::L) (fun u M=> ∃v,u=.tuple #[.int .i64 (XG H k),v,cS 70 (dbE H k)]/\M=SL 3 1 kL v (AL H k)::dL bh bd H::L):=by
 unfold dbE XG AL
 refine KC.mk (n:=33) func110 rfl ntmps110 aj ?_
 refine Z3 ?_
 refine nQ ?_
 refine lK ?_
 cases hk:cj H k with
 |false=>
  refine ji ?_
  refine KO.ce (cp:=[]) rfl rfl rfl call79 rfl (eE w0 _ _ bh bd H k bZ) ?_;rintro v' L' ⟨rfl,rfl⟩;rw[hk]
  refine qp ?_
  refine BA ?_
  refine Nl ?_
  refine Z7 ?_
  refine sN ?_
  refine KQ.Fc rfl rfl rfl rfl (fun w' aX=>⟨_,_,rfl,⟨_,rfl,rfl⟩,cM aX⟩)
 |true=>
  obtain⟨wJ,lV,-⟩:=bM.1 hk
  obtain⟨j,rfl⟩:∃j:Nat,k=(j:Int):=⟨k.toNat,by omega⟩
  have hj:j<4:=by omega
  refine ji ?_
  refine KO.ce (cp:=[]) rfl rfl rfl call79 rfl (eE w0 _ _ bh bd H (j:Int) bZ) ?_;rintro v' L' ⟨rfl,rfl⟩;rw[hk]
  refine Ee ?_
  refine K.cx (fun _ h=>cI h) ?_
  rintro⟨V,hV⟩
  dsimp only
  have Ku:=hV.bs
  have sI:=hV.batch
  obtain⟨bv,Cz⟩:∃e,V.bs[j]? =some e:=⟨_,ao ae⟩
  obtain⟨bl,wQ⟩:∃e,H.batch[j]? =some e:=⟨_,ao ae⟩
  have Ts:bm H j=bl:=by unfold bm;rw[aq,wQ];rfl
  have abr:=hB.ext.Vu bl (ax wQ)
  rw[aA]
  rw[Ts]
  obtain⟨c1,c2⟩:=r0 (bd:=bd) hV Cz
  obtain⟨d1,d2⟩:=yZ (bd:=bd) hV hj
  refine Un ?_
  refine K.fact (fun w hw=>qV (hw.pick (A:=dX bv bl) .head)) ?_
  rintro⟨ba,bc,rfl⟩
  have back:∀{w':World} {M:List HP},St w0 (dX (.slice ba bl.length bc) bl::cr dX (V.bs.eraseIdx j) (H.batch.eraseIdx j)::bP bh (.cells (fv bd V H).toArray 133 (0,0))::lQ V.nv H.names::cg Value.string V.mb (dJ V H)::cr jz V.ps H.all::cr dj (V.us.map (·.1)) (H.aB.map (·.aM))::cr dh (V.us.map (·.2)) (H.aB.map (·.bu))::M) w'->St w0 (dL bh bd H::M) w':=fun h=>cn V hV ((j0 Cz wQ h).all Y7)
  refine o8 ?_
  refine M1 ?_
  refine rG ?_
  refine tJ ?_
  refine K.bz rfl (fun h0=>?_) (fun h0=>?_)
  ·have Vj:bl.length=0:=by omega
   have Ge:bl=[]:=List.length_eq_zero_iff.1 Vj
   refine Z3 ?_
   refine nQ ?_
   refine sN ?_
   refine KQ.Fc rfl rfl rfl rfl (fun w' aX=>⟨_,_,rfl,⟨_,by rw[if_pos rfl,if_pos Vj,if_pos rfl];rfl,rfl⟩,?_⟩)
   rw[if_pos rfl]
   have h1:=back (aX.all nH)
   subst Ge
   exact cM h1
  ·have Vj:¬bl.length=0:=by omega
   refine Z6 ?_
   refine K.draw [.pure,.pure,.pure,.pure,.pure,.read,.pure,.pure,.pure,.pure,.pure,.read,.dm,.pure,.pure,.pure] [0,1,2,3,4,5,6,7,8,9,10,11,12,13,14,15] bH bH ?_
   refine tI ?_
   refine Ut ?_
   refine KO.dB (i:=26+j) rfl rfl isAgg3 bo Bd d1 rfl ?_
   refine tI ?_
   refine M1 ?_
   refine KO.ce (cp:=[]) rfl rfl rfl call195 rfl (TQ w0 _ _ _ bl ae ae bZ) ?_;rintro va L' rfl
   refine nQ ?_
   refine jH ?_
   refine KQ.Fc rfl rfl rfl rfl (fun w' aX=>⟨_,_,rfl,⟨_,by rw[if_pos rfl,if_neg Vj,if_pos rfl];rfl,rfl⟩,?_⟩)
   rw[if_pos rfl]
   have h1:=back (M:=SL 3 1 kL va bl::L) (aX.all Y7)
   exact h1.all Y7
end Go.Proofs.YtjhogocabcdjbabGreatDoor
namespace WB
open Go
theorem nU{c:UInt8}(h:c≠58)(s:ak):di 58 (cv c++cv 58++s)=(cv c,s,true):=cutB_hit (eM h) s
theorem xI{c:UInt8}(h:c≠58)(h1:c≠117)(h2:c≠114){s:ak}(hs:s.size<=79000):fO 1 (cv c++cv 58++s):=by
 have e1:(cv c).size=1:=rfl
 have e2:(cv 58).size=1:=rfl
 have e3:∀d,cv c=cv d->c=d:=fun d e=>by
  have :=congrArg (·.data.toList) e
  simpa[cv]using this
 refine⟨by simp only[aU];omega,fun hk=>?_,fun hk=>?_⟩
 ·rw[nU h]at hk;exact absurd (e3 _ hk) h1
 ·rw[nU h]at hk;exact absurd (e3 _ hk) h2
def aah (s:ak):ak:=cv 100++cv 58++s
def RF (H:Ho) (s:ak):Int:=if H.names.any (fun x=>decide (x.name=s))=true then 0 else 7
def unE (H:Ho) (D:Dk) (s:ak):Int:=if RF H s≠0 then RF H s else c7 H D
def unH (H:Ho) (D:Dk) (s:ak):Ho:=if RF H s≠0 then H else lM H D (aah s)
def unD (H:Ho) (D:Dk) (s:ak):Dk:=if RF H s≠0 then D else gU H D (aah s)
def qW (k:Int):ak:=cv 97++cv 58++b_ k
def iT (H:Ho) (k n:Int):Int:=if cj H k=false then 2 else if H.down=true then 6 else if bm H k.toNat=[]\/n≠bD H k.toNat then 8 else 0
def caE (H:Ho) (D:Dk) (k n:Int):Int:=if iT H k n≠0 then iT H k n else c7 H D
def r9 (H:Ho) (D:Dk) (k n:Int):Ho:=if iT H k n≠0 then H else lM H D (qW k)
def AT (H:Ho) (D:Dk) (k n:Int):Dk:=if iT H k n≠0 then D else gU H D (qW k)
def iU (k:Int) (l:List Int):ak:=cv 98++cv 58++dn ((k::l).map b_) sp
def cP (H:Ho) (k:Nat):List Int:=((dF (H.dy k)).take 3).map (·.id)
def kR (H:Ho) (k:Int):Int:=if cj H k=false then 2 else if H.down=true then 6 else if bm H k.toNat=[]/\dF (H.dy k.toNat)=[]then 8 else 0
def dQ (H:Ho) (k:Int):Bool:=decide (kR H k=0/\bm H k.toNat=[])
def tX (H:Ho) (D:Dk) (k:Int):Int:=if kR H k≠0 then kR H k else if dQ H k=true then c7 H D else 0
def gR (H:Ho) (D:Dk) (k:Int):Ho:=if dQ H k=true then lM H D (iU k (cP H k.toNat))else H
def lF (H:Ho) (D:Dk) (k:Int):Dk:=if dQ H k=true then gU H D (iU k (cP H k.toNat))else D
def OH (l:List Int) (m:Ms):Bool:=decide (m.id∈l)
def y8 (H:Ho) (D:Dk) (k:Int):List Ms:=if tX H D k=0 then(aW ((gR H D k).dy k.toNat)).filter (OH (bm (gR H D k) k.toNat))else[]
def Jl (H:Ho) (D:Dk) (k:Int):Int:=if tX H D k=0 then bD (gR H D k) k.toNat else 0
theorem uB{k:Int}(hk:0<=k/\k<4):fO 1 (qW k):=xI ai ai ai (by have :=cH (n:=k) ⟨by omega,by omega⟩;omega)
theorem zG{k:Int}{l:List Int}(hk:0<=k/\k<4)(hl:l.length<=3)(hi:∀x∈l,oR x):(dn ((k::l).map b_) sp).size<=1000:=by
 have h1:=gD sp 30 ((k::l).map b_) (fun x hx=>by
  obtain⟨n,hn,rfl⟩:=ay.1 hx
  have hb:oR n:=by
   rcases aF.1 hn with rfl|hn
   ·exact⟨by omega,by omega⟩
   ·exact hi n hn
  have :=cH hb;omega)
 have h2:sp.size=1:=rfl
 rw[h2,bj,List.length_cons]at h1
 omega
theorem lp{k:Int}{l:List Int}(hk:0<=k/\k<4)(hl:l.length<=3)(hi:∀x∈l,oR x):fO 1 (iU k l):=xI ai ai ai (by have :=zG hk hl hi;omega)
end WB
namespace Go.Proofs.YtjhogocabcdjbabGreatDoor
open Tryz
open Go Go.RowKit WB
theorem Tx(w0:World)(L:List HP)(bh bd n:Nat)(H:Ho)(D:Dk)(k m:Int)(hT:qH w0)(hM:qK w0)(hB:cK n H)(hn:n+1<=90000)(h3:D.places.length=300)(hd: -4000000000000000000<=D.left/\D.left<=9223372036854775807):
 KC prog 100 #[bA bh,.int .i64 k,.int .i64 m] w0 (dL bh bd H::fR bd D::L) (fun u M=>u=cS 70 (caE H D k m)/\M=dL bh bd (r9 H D k m)::fR bd (AT H D k m)::L):=by
 unfold caE r9 AT
 refine KC.mk (n:=44) func100 rfl ntmps100 aj ?_
 refine tG ?_
 refine Qe ?_
 cases hk:cj H k with
 |false=>
  have he:iT H k m=2:=by unfold iT;rw[if_pos hk]
  rw[he]
  refine ji ?_
  refine KO.ce (cp:=[]) rfl rfl rfl call79 rfl (eE w0 _ _ bh bd H k bZ) ?_;rintro v' L' ⟨rfl,rfl⟩;rw[hk]
  refine qp ?_
  refine Z7 ?_
  refine BA ?_
  refine yE ?_
  refine KQ.bG rfl rfl (fun w' aX=>⟨_,_,rfl,⟨rfl,rfl⟩,aX⟩)
 |true=>
 obtain⟨wJ,lV,-⟩:=bM.1 hk
 obtain⟨j,rfl⟩:∃j:Nat,k=(j:Int):=⟨k.toNat,by omega⟩
 have hj:j<4:=by omega
 refine ji ?_
 refine KO.ce (cp:=[]) rfl rfl rfl call79 rfl (eE w0 _ _ bh bd H (j:Int) bZ) ?_;rintro v' L' ⟨rfl,rfl⟩;rw[hk]
 refine qp ?_
 refine Z7 ?_
 refine GZ ?_
 refine qq ?_
 refine K.cx (fun _ h=>cI h) ?_
 rintro⟨V,hV⟩
 dsimp only
 cases sq:H.down with
 |true=>
  have he:iT H (j:Int) m=6:=by unfold iT;rw[if_neg YK,if_pos sq]
  rw[he]
  refine G6 ?_
  refine sx ?_
  refine K.cV rfl sq ?_
  refine yE ?_
  refine KQ.bG rfl rfl (fun w' aX=>⟨_,_,rfl,⟨rfl,rfl⟩,cn V hV aX⟩)
 |false=>
 refine G6 ?_
 refine sx ?_
 refine K.dp rfl sq ?_
 refine qq ?_
 have Ku:=hV.bs
 have sI:=hV.batch
 obtain⟨bv,Cz⟩:∃e,V.bs[j]? =some e:=⟨_,ao ae⟩
 obtain⟨bl,wQ⟩:∃e,H.batch[j]? =some e:=⟨_,ao ae⟩
 have Ts:bm H j=bl:=by unfold bm;rw[aq,wQ];rfl
 obtain⟨c1,c2⟩:=r0 (bd:=bd) hV Cz
 obtain⟨d1,d2⟩:=yZ (bd:=bd) hV hj
 have he:iT H (j:Int) m=if bl=[]\/m≠bD H j then 8 else 0:=by unfold iT;rw[if_neg YK,if_neg YJ,aA,Ts]
 refine Un ?_
 refine K.fact (fun w hw=>qV (hw.pick (A:=dX bv bl) .head)) ?_
 rintro⟨ba,bc,rfl⟩
 have back:∀{w':World} {M:List HP},St w0 (dX (.slice ba bl.length bc) bl::cr dX (V.bs.eraseIdx j) (H.batch.eraseIdx j)::bP bh (.cells (fv bd V H).toArray 133 (0,0))::lQ V.nv H.names::cg Value.string V.mb (dJ V H)::cr jz V.ps H.all::cr dj (V.us.map (·.1)) (H.aB.map (·.aM))::cr dh (V.us.map (·.2)) (H.aB.map (·.bu))::M) w'->St w0 (dL bh bd H::M) w':=fun h=>cn V hV ((j0 Cz wQ h).all Y7)
 refine K.cut (fun b:Bool=>[(0,bA bh),(1,.int .i64 (j:Nat)),(19,.bool b)]) (fun _=>dL bh bd H::fR bd D::L) (fun b=>b=decide (bl=[]\/m≠bD H j)) ?_ ?_
 ·by_cases h0:bl=[]
  ·have Vj:(bl.length:Int)=0:=by rw[h0];rfl
   refine o8 ?_
   refine M1 ?_
   refine rG ?_
   refine D_ ?_
   refine G8 ?_
   refine VA ?_
   refine sO ?_
   refine xF ?_
   exact KQ.tf true (by simp[h0]) ⟨rfl,rfl,rfl,trivial⟩ (fun w' aX=>back (aX.all nH))
  ·have Vj:¬(bl.length:Int)=0:=by
    have :bl.length≠0:=fun e=>h0 (List.length_eq_zero_iff.1 e)
    omega
   refine o8 ?_
   refine M1 ?_
   refine rG ?_
   refine D_ ?_
   refine tN ?_
   refine tN ?_
   refine Jr ?_
   refine KO.gd (off:=26) rfl runUnderlying133 rfl rfl sizeOf95 rfl ?_
   refine KO.on rfl rfl (decide_eq_false Vj) ?_;refine KO.kM (i:=j) rfl rfl runUnderlying95 sizeOf3 rfl ae rfl ?_
   refine KO.on rfl rfl (decide_eq_false Vj) ?_;refine KO.dB (i:=26+j) rfl rfl isAgg3 bo Bd d1 rfl ?_
   refine lL ?_
   refine xA ?_
   refine x8 ?_
   refine xF ?_
   exact KQ.tf (decide (m≠bD H j)) (by simp[h0]) ⟨rfl,rfl,rfl,trivial⟩ (fun w' aX=>back (aX.all nH))
 ·rintro b hb
  rw[hb]
  refine K.bz rfl (fun h6=>?_) (fun h6=>?_)
  ·rw[if_pos h6]at he
   rw[he]
   refine yE ?_
   refine KQ.bG rfl rfl (fun w' aX=>⟨_,_,rfl,⟨rfl,rfl⟩,aX⟩)
  ·rw[if_neg h6]at he
   rw[he]
   have jg:=uB (k:=(j:Int)) ⟨by omega,by omega⟩
   have Nb:=cH (n:=(j:Int)) ⟨by omega,by omega⟩
   refine Z21 ?_
   refine sy ?_
   refine KO.ce (cp:=[]) rfl rfl rfl call59 rfl (kK w0 _ (j:Int) hT ⟨by omega,by omega⟩) ?_;rintro v' L' ⟨rfl,rfl⟩
   refine KO.cat rfl rfl (by have :(⟨#[97,58]⟩:ak).size=2:=rfl;omega) rfl ?_;rw[show(⟨#[97,58]⟩++b_ (j:Int):ak)=qW (j:Int)from by unfold qW;rw[show(⟨#[97,58]⟩:ak)=cv 97++cv 58 by decide]]
   refine KO.cl (cp:=[]) rfl rfl rfl call84 rfl (KC.QV bZ bZ (rW w0 _ bh bd n 1 H D (qW (j:Int)) hT hM hB jg ae h3 hd)) ?_;rintro v' L' ⟨rfl,rfl⟩
   refine jH ?_
   refine KQ.bG rfl rfl (fun w' aX=>⟨_,_,rfl,⟨rfl,rfl⟩,aX.all nH⟩)
theorem Wt(w0:World)(L:List HP)(v:Value)(xs:List Int)(x:Int)(hr:∀w,St w0 L w->x9 w 1 kL v xs)(hlen:xs.length<1000000):
 KE prog 176 #[v,.int .i64 x] w0 L (fun v L'=>v=.int .i64 (qC (fun y=>decide (x=y)) xs)/\L'=L):=by
 refine KE.mk (n:=19) func176 rfl ntmps176 aj ?_
 intro w hw
 obtain⟨a,cap,rfl,hc⟩:=hr w hw
 refine qE ?_
 refine rG ?_
 refine ox ?_
 refine K.loop (fun k:Nat=>[(0,.slice a xs.length cap),(1,.int .i64 x),(7,.int .i64 (xs.length:Nat)),(8,.int .i64 (k:Nat))]) (fun _=>[]) (fun k=>k<=xs.length/\∀(j:Nat) (u:Int),j<k->xs[j]? =some u->(fun y=>decide (x=y)) u=false) (fun k=>xs.length-k) 0 ⟨by omega,fun j u h=>by omega⟩ ⟨rfl,rfl,rfl,rfl,trivial⟩ (fun _ h=>h) ?_
 rintro k ⟨hk,sG⟩
 refine iJ ?_
 refine K.bz rfl (fun h=>?_) (fun h=>?_)
 ·have dS:k<xs.length:=by omega
  obtain⟨e,he⟩:∃e,xs[k]? =some e:=⟨xs[k],ao dS⟩
  obtain⟨ad,rfl,hh⟩:=hc k e he
  have Tf:w.cell? (ad.add (k *1))=some (.int .i64 e):=by
   have :=hh 0 _ rfl
   rwa [Addr.add_add,Nat.add_zero]at this
  refine xy ?_
  refine mS ?_
  refine nB ?_
  refine KO.II rfl rfl runUnderlying23 sizeOf3 aQ ae rfl ?_
  refine KO.sE rfl rfl isAgg3 Tf rfl ?_
  refine tJ ?_
  refine K.bz rfl (fun h1=>?_) (fun h1=>?_)
  ·refine jI ?_
   refine lT ?_
   refine KQ.bG rfl rfl (fun w' hs=>⟨_,_,rfl,⟨?_,rfl⟩,hw.aE hs.below,hs.below⟩)
   rw[Ax he (p:=fun y=>decide (x=y)) Nn sG]
  ·refine qD ?_
   refine KQ.round (k+1) ⟨by omega,fun j u hj hu=>?_⟩ ae ⟨rfl,rfl,rfl,rfl,trivial⟩ (fun _ h=>h)
   by_cases wK:j=k
   ·subst wK;rw[he]at hu;simp only[az]at hu;rw[<-hu];simpa using h1
   ·exact sG j u ae hu
 ·refine Jy ?_
  refine KQ.bG rfl rfl (fun w' hs=>⟨_,_,rfl,⟨?_,rfl⟩,hw.aE hs.below,hs.below⟩)
  rw[wU fun j u hu=>sG j u Y21 hu]
theorem PN(w0:World)(L:List HP)(v:Value)(xs:List Int)(x:Int)(hr:∀w,St w0 L w->x9 w 1 kL v xs)(hlen:xs.length<1000000):
 KE prog 92 #[v,.int .i64 x] w0 L (fun v L'=>v=.bool (decide (x∈xs))/\L'=L):=by
 refine KE.mk (n:=9) func92 rfl ntmps92 aj ?_
 intro w hw
 refine Jx ?_
 refine KO.ce (cp:=[]) rfl rfl rfl call176 rfl ((Wt w0 L v xs x hr hlen).qX hw) ?_;rintro v L' ⟨rfl,rfl⟩
 refine vO ?_
 refine jH ?_
 refine KQ.bG rfl rfl (fun w' hs=>⟨_,_,rfl,⟨?_,rfl⟩,hw.aE hs.below,hs.below⟩)
 rw[Ay]
 congr 1
 rw[List.any_eq]
 simp
theorem Pn(w0:World)(L:List HP)(bh bd n:Nat)(H:Ho)(D:Dk)(k:Int)(hT:qH w0)(hM:qK w0)(hB:cK n H)(hn:n+1<=80000)(h3:D.places.length=300)(hd: -4000000000000000000<=D.left/\D.left<=9223372036854775807):
 KC prog 35 #[bA bh,.int .i64 k] w0 (dL bh bd H::fR bd D::L) (fun u M=> ∃v,u=.tuple #[.int .i64 (Jl H D k),v,cS 70 (tX H D k)]/\M=SL 44 5 du v (y8 H D k)::dL bh bd (gR H D k)::fR bd (lF H D k)::L):=by
 have hid:∀j,j<4->∀m∈dF (H.dy j),oR m.id:=fun j hj m hm=>by
  unfold dF at hm
  obtain⟨e,he,rfl⟩:=ay.1 hm
  have :=(hB.w hj).ids e (aC.1 he).1
  exact⟨by omega,by omega⟩
 have hBb:cK (n+1) (gR H D k):=by
  unfold gR
  split
  ·rename_i sj
   have sH:cj H k=true:=by
    unfold dQ kR at sj
    cases hk:cj H k with
    |true=>rfl
    |false=>rw[hk]at sj;simp at sj
   obtain⟨wJ,lV,-⟩:=bM.1 sH
   unfold lM
   split
   ·exact(hB.log (D:=D)).Fo (lp ⟨wJ,lV⟩ (by unfold cP;simp;omega) (fun x hx=>by
     obtain⟨m,hm,rfl⟩:=ay.1 hx
     exact hid _ ae m (List.mem_of_mem_take hm))) ae
   ·exact(hB.log (D:=D)).le ae
  ·exact hB.le ae
 have early:∀e:Int,e≠0->tX H D k=e->dQ H k=false->∀w',St w0 (dL bh bd H::fR bd D::L) w'->∃v L',Ending.returned (.tuple #[.int .i64 0,.slice none 0 0,cS 70 e])=Ending.returned v/\(∃u,v=.tuple #[.int .i64 (Jl H D k),u,cS 70 (tX H D k)]/\L'=SL 44 5 du u (y8 H D k)::dL bh bd (gR H D k)::fR bd (lF H D k)::L)/\St w0 L' w':=fun e he hb sj w' aX=>by
  refine⟨_,_,rfl,⟨.slice none 0 0,?_,rfl⟩,?_⟩
  ·unfold Jl;rw[hb,if_neg he]
  ·unfold y8 gR lF
   rw[hb,if_neg he,sj]
   exact cM aX
 refine KC.mk (n:=105) func35 rfl ntmps35 aj ?_
 refine Z3 ?_
 refine nQ ?_
 refine lK ?_
 cases hk:cj H k with
 |false=>
  have he:kR H k=2:=by unfold kR;rw[if_pos hk]
  have fQ:tX H D k=2:=by unfold tX;rw[he];rfl
  have sj:dQ H k=false:=by unfold dQ;rw[he];rfl
  refine ji ?_
  refine KO.ce (cp:=[]) rfl rfl rfl call79 rfl (eE w0 _ _ bh bd H k bZ) ?_;rintro v' L' ⟨rfl,rfl⟩;rw[hk]
  refine qp ?_
  refine BA ?_
  refine Nl ?_
  refine Z7 ?_
  refine sN ?_
  refine KQ.Fc rfl rfl rfl rfl (fun w' aX=>early 2 ai fQ sj w' aX)
 |true=>
 obtain⟨wJ,lV,-⟩:=bM.1 hk
 obtain⟨j,rfl⟩:∃j:Nat,k=(j:Int):=⟨k.toNat,by omega⟩
 have hj:j<4:=by omega
 refine ji ?_
 refine KO.ce (cp:=[]) rfl rfl rfl call79 rfl (eE w0 _ _ bh bd H (j:Int) bZ) ?_;rintro v' L' ⟨rfl,rfl⟩;rw[hk]
 refine Ee ?_
 refine K.cx (fun _ h=>cI h) ?_
 rintro⟨V,hV⟩
 dsimp only
 cases sq:H.down with
 |true=>
  have he:kR H (j:Int)=6:=by unfold kR;rw[if_neg YK,if_pos sq]
  have fQ:tX H D (j:Int)=6:=by unfold tX;rw[he];rfl
  have sj:dQ H (j:Int)=false:=by unfold dQ;rw[he];rfl
  refine G6 ?_
  refine Z2 ?_
  refine K.cV rfl sq ?_
  refine Nl ?_
  refine Z7 ?_
  refine sN ?_
  refine KQ.Fc rfl rfl rfl rfl (fun w' aX=>early 6 ai fQ sj w' (cn V hV aX))
 |false=>
 refine G6 ?_
 refine Z2 ?_
 refine K.dp rfl sq ?_
 refine Z6 ?_
 have Ku:=hV.bs
 have sI:=hV.batch
 have qB:=hV.ps
 obtain⟨bv,Cz⟩:∃e,V.bs[j]? =some e:=⟨_,ao ae⟩
 obtain⟨bl,wQ⟩:∃e,H.batch[j]? =some e:=⟨_,ao ae⟩
 have Ts:bm H j=bl:=by unfold bm;rw[aq,wQ];rfl
 obtain⟨c1,c2⟩:=r0 (bd:=bd) hV Cz
 obtain⟨p,hp⟩:∃p,V.ps[j]? =some p:=⟨_,ao ae⟩
 have hw:=pZ (bd:=bd) hV hj hp
 have fw:=iH hV.ways hj
 have F7:=(hB.w hj).len
 have qO:kR H (j:Int)=if bl=[]/\dF (H.dy j)=[]then 8 else 0:=by unfold kR;rw[if_neg YK,if_neg YJ,aA,Ts]
 refine Un ?_
 refine K.fact (fun w hw=>qV (hw.pick (A:=dX bv bl) .head)) ?_
 rintro⟨ba,bc,rfl⟩
 have back:∀{w':World} {M:List HP},St w0 (dX (.slice ba bl.length bc) bl::cr dX (V.bs.eraseIdx j) (H.batch.eraseIdx j)::bP bh (.cells (fv bd V H).toArray 133 (0,0))::lQ V.nv H.names::cg Value.string V.mb (dJ V H)::cr jz V.ps H.all::cr dj (V.us.map (·.1)) (H.aB.map (·.aM))::cr dh (V.us.map (·.2)) (H.aB.map (·.bu))::M) w'->St w0 (dL bh bd H::M) w':=fun h=>cn V hV ((j0 Cz wQ h).all Y7)
 refine o8 ?_
 refine M1 ?_
 refine rG ?_
 refine tJ ?_
 refine K.cut (fun _:Unit=>[(0,bA bh),(1,.int .i64 (j:Nat))]) (fun _=>dL bh bd (gR H D (j:Int))::fR bd (lF H D (j:Int))::L) (fun _=>tX H D (j:Int)=0) ?_ ?_
 ·refine K.bz rfl (fun h0=>?_) (fun h0=>?_)
  ·have Ge:bl=[]:=List.length_eq_zero_iff.1 ae
   refine jI ?_
   refine mA ?_
   refine Uu ?_
   refine KO.dB (i:=8+j) rfl rfl isAgg119 bo Bd hw rfl ?_
   refine KO.ce (cp:=[]) rfl rfl rfl call80 rfl (KE.GK (A:=fun v=>LY v (dF (H.dy j))) (φ:=fun _=>True) hp fw bo (fun L=>KE.mono (JT w0 _ _ p (H.dy j) .head ae) (fun v M h=>⟨trivial,h⟩))) ?_;rintro va L' ⟨-,rfl⟩
   refine lK ?_
   have nN:=hid j hj
   have IN:(dF (H.dy j)).length<=n:=by unfold dF;rw[bj];exact Nat.le_trans (List.length_filter_le _ _) F7
   have Vb:cP H j=((dF (H.dy j)).take 3).map (·.id):=rfl
   generalize htq:dF (H.dy j)=tl at nN IN Vb qO ⊢
   refine K.fact (fun w hw=>aY (hw.pick (A:=LY va tl) .head)) ?_
   rintro⟨ta,tc,rfl,htg⟩
   refine Z8 ?_
   refine Bc ?_
   refine tJ ?_
   refine K.bz rfl (fun h7=>?_) (fun h7=>?_)
   ·have htn:tl=[]:=List.length_eq_zero_iff.1 ae
    rw[if_pos ⟨Ge,htn⟩]at qO
    have fQ:tX H D (j:Int)=8:=by unfold tX;rw[qO];rfl
    have sj:dQ H (j:Int)=false:=by unfold dQ;rw[qO];rfl
    refine Nl ?_
    refine Z7 ?_
    refine sN ?_
    refine KQ.Fc rfl rfl rfl rfl (fun w' aX=>early 8 ai fQ sj w' ?_)
    have h1:=back (M:=fR bd D::L) (aX.all Y5)
    exact h1
   ·have htn:tl≠[]:=fun e=>h7 (by rw[e];rfl)
    rw[if_neg (fun e=>htn e.2)]at qO
    have sj:dQ H (j:Int)=true:=by unfold dQ;rw[qO,aA,Ts,Ge];rfl
    obtain⟨g,rfl⟩:=htg (by have :tl.length≠0:=fun e=>h7 ae
                           omega)
    have hjt:(j:Int).toNat=j:=aA j
    have jg:=lp (k:=(j:Int)) (l:=cP H j) ⟨by omega,by omega⟩ (by rw[Vb];simp;omega) (fun x hx=>by
     rw[Vb]at hx
     obtain⟨m,hm,rfl⟩:=ay.1 hx
     exact nN m (List.mem_of_mem_take hm))
    have S0:=zG (k:=(j:Int)) (l:=cP H j) ⟨by omega,by omega⟩ (by rw[Vb];simp;omega) (fun x hx=>by
     rw[Vb]at hx
     obtain⟨m,hm,rfl⟩:=ay.1 hx
     exact nN m (List.mem_of_mem_take hm))
    refine K.fact (fun w hw=>(JN (hw.pick (A:=LY (.slice (some ⟨g,0,none⟩) tl.length tc) tl) bZ)).2) ?_
    intro htc
    generalize qn:cP H j=il at jg S0 Vb
    have afv:il.length=min tl.length 3:=by rw[Vb,bj,bL];omega
    have afm:(min (tl.length:Int) 3)=((min tl.length 3:Nat):Int):=by omega
    refine xv ?_
    refine KO.ce (cp:=[]) rfl rfl rfl call59 rfl (kK w0 _ (j:Int) hT ⟨by omega,by omega⟩) ?_;rintro v' L' ⟨rfl,rfl⟩
    refine KO.lY (z:=(Value.string ⟨#[]⟩)) (sz:=1) (dP:=16) rfl rfl underlying115 bH aQ aQ ai ai rfl ?_;intro b46
    refine lK ?_
    refine K.conv (fun w' hw'=>BW (b:=b46) (vs:=[.string (b_ (j:Int))]) (xs:=[b_ (j:Int)]) (k:=1) (hw'.pick bZ) rfl rfl ae) ?_
    refine ji ?_
    refine Bc ?_
    refine KO.min2 rfl rfl afm rfl ?_
    refine KO.CS (hi:=min tl.length 3) rfl rfl underlying49 sizeOf44 rfl ae rfl ?_
    refine BI ?_
    refine K.loop (fun q:Nat×Value=>[(0,bA bh),(1,.int .i64 (j:Nat)),(8,q.2),(51,.slice (some ⟨g,0,none⟩) (min tl.length 3) tc),(52,.int .i64 ((min tl.length 3:Nat):Int)),(53,.int .i64 (q.1:Nat))])
     (fun q=>l5 q.2 (((j:Int)::il.take q.1).map b_)::LY (.slice (some ⟨g,0,none⟩) tl.length tc) tl::dX (.slice ba bl.length bc) bl::cr dX (V.bs.eraseIdx j) (H.batch.eraseIdx j)::bP bh (.cells (fv bd V H).toArray 133 (0,0))::lQ V.nv H.names::cg Value.string V.mb (dJ V H)::cr jz V.ps H.all::cr dj (V.us.map (·.1)) (H.aB.map (·.aM))::cr dh (V.us.map (·.2)) (H.aB.map (·.bu))::fR bd D::L)
     (fun q=>q.1<=min tl.length 3) (fun q=>min tl.length 3-q.1) (0,.slice (some ⟨b46,0,none⟩) 1 1) (aV _) ⟨rfl,rfl,rfl,rfl,rfl,rfl,trivial⟩ (fun w' aX=>aX.all Y7) ?_
    rintro⟨i,v8⟩ hi
    dsimp only at hi ⊢
    refine iJ ?_
    refine K.bz rfl (fun I9=>?_) (fun I9=>?_)
    ·obtain⟨m,hm⟩:∃e,tl[i]? =some e:=⟨tl[i],ao ae⟩
     have Gg:=nN m (ax hm)
     have hit:il[i]? =some m.id:=by rw[Vb,aG,List.getElem?_take,if_pos ae,hm];rfl
     obtain⟨mi,mp,mb,mq,mh⟩:=m
     dsimp only at Gg hit
     refine Yw ?_
     refine KO.wC rfl rfl isAgg44 sizeOf44 bo (fun _=>rfl) xG rfl ?_
     refine KO.alloc rfl zeroValue44 aQ rfl ?_;intro b10
     refine K7 ?_
     refine Z2 ?_
     refine Z8 ?_
     refine Qm ?_
     refine KO.ld (v:=.int .i64 mi) rfl rfl isAgg3 bZ aQ rfl ?_
     refine KO.ce (cp:=[]) rfl rfl rfl call59 rfl (kK w0 _ mi hT Gg) ?_;rintro v' L' ⟨rfl,rfl⟩
     refine KO.lY (z:=(Value.string ⟨#[]⟩)) (sz:=1) (dP:=16) rfl rfl underlying115 bH aQ aQ ai ai rfl ?_;intro b61
     refine KO.app (cf:=ln) (z:=Value.string ⟨#[]⟩) (sz:=1) (dP:=16) (xs:=((j:Int)::il.take i).map b_) rfl rfl rfl (.tail (.tail .head)) .head underlying115 mV rfl (b_ mi) rfl rfl rfl ga ai rfl ?_;intro v62
     refine vz ?_
     refine KQ.round (i+1,v62) iK iK ⟨rfl,rfl,rfl,rfl,rfl,rfl,trivial⟩ (fun w' aX=>?_)
     dsimp only
     rw[bJ hit,<-bF,aZ]
     exact aX.all Y5
    obtain rfl:i=min tl.length 3:=by omega
    rw[<-afv,List.take_length]
    have Nh:tX H D (j:Int)=c7 H D:=by unfold tX;rw[qO,sj];rfl
    have hbH:gR H D (j:Int)=lM H D (iU (j:Int) il):=by unfold gR;rw[sj,hjt,qn];rfl
    have hbD:lF H D (j:Int)=gU H D (iU (j:Int) il):=by unfold lF;rw[sj,hjt,qn];rfl
    refine Z9 ?_
    refine K.conv (L':=dL bh bd H::fR bd D::l5 v8 (((j:Int)::il).map b_)::L) (fun w' aX=>?_) ?_
    ·have h1:=back (M:=l5 v8 (((j:Int)::il).map b_)::fR bd D::L) (aX.all Y5)
     exact h1.all Y3
    refine ji ?_
    refine KO.ce (cp:=[]) rfl rfl rfl call62 rfl (wD w0 _ _ v8 (((j:Int)::il).map b_) sp bo ga ae) ?_;rintro v' L' ⟨rfl,rfl⟩
    refine KO.cat rfl rfl (by have :(⟨#[98,58]⟩:ak).size=2:=rfl;omega) rfl ?_;rw[show(⟨#[98,58]⟩++dn (((j:Int)::il).map b_) sp:ak)=iU (j:Int) il from by unfold iU;rw[show(⟨#[98,58]⟩:ak)=cv 98++cv 58 by decide]]
    refine KO.cl (cp:=[]) rfl rfl rfl call84 rfl (KC.QV bZ bZ (rW w0 _ bh bd n 1 H D (iU (j:Int) il) hT hM hB jg ae h3 hd)) ?_;rintro v' L' ⟨rfl,rfl⟩
    refine yH ?_
    refine K.bz rfl (fun HG=>?_) (fun HG=>?_)
    ·refine jI ?_
     refine nQ ?_
     refine sN ?_
     refine KQ.Fc rfl rfl rfl rfl (fun w' aX=>⟨_,_,rfl,⟨.slice none 0 0,?_,rfl⟩,?_⟩)
     ·unfold Jl;rw[Nh,if_neg HG]
     ·unfold y8;rw[Nh,if_neg HG,hbH,hbD]
      exact cM (aX.all Y1)
    ·refine Ek ?_
     have agq:c7 H D=0:=by simpa using HG
     exact KQ.tf () (by rw[Nh];exact agq) ⟨rfl,rfl,trivial⟩ (fun w' aX=>by rw[hbH,hbD];exact aX.all Y1)
  ·have nL:bl≠[]:=fun e=>h0 (by rw[e];rfl)
   rw[if_neg (fun e=>nL e.1)]at qO
   have sj:dQ H (j:Int)=false:=by unfold dQ;rw[qO,aA,Ts];simp[nL]
   have fQ:tX H D (j:Int)=0:=by unfold tX;rw[qO,sj];rfl
   have hbH:gR H D (j:Int)=H:=by unfold gR;rw[sj];rfl
   have hbD:lF H D (j:Int)=D:=by unfold lF;rw[sj];rfl
   rw[hbH,hbD]
   refine Ek ?_
   exact KQ.tf () fQ ⟨rfl,rfl,trivial⟩ (fun w' aX=>back (aX.all nH))
 ·rintro⟨⟩ Kr
  have hbN:Jl H D (j:Int)=bD (gR H D (j:Int)) j:=by unfold Jl;rw[if_pos Kr,aA]
  have hbL:y8 H D (j:Int)=(aW ((gR H D (j:Int)).dy j)).filter (OH (bm (gR H D (j:Int)) j)):=by unfold y8;rw[if_pos Kr,aA]
  rw[hbN,hbL,Kr]
  generalize gR H D (j:Int)=H2 at hBb ⊢
  generalize lF H D (j:Int)=D2
  clear back early
  refine K.cx (fun _ h=>cI h) ?_
  rintro⟨V2,u5⟩
  dsimp only
  have akM:=u5.bs
  have akL:=u5.batch
  have aj6:=u5.ps
  obtain⟨bv2,Xi⟩:∃e,V2.bs[j]? =some e:=⟨_,ao ae⟩
  obtain⟨EI,Tq⟩:∃e,H2.batch[j]? =some e:=⟨_,ao ae⟩
  have afU:bm H2 j=EI:=by unfold bm;rw[aq,Tq];rfl
  have abr:=hBb.ext.Vu EI (ax Tq)
  rw[afU]
  obtain⟨c3,-⟩:=r0 (bd:=bd) u5 Xi
  obtain⟨d3,-⟩:=yZ (bd:=bd) u5 hj
  obtain⟨p2,ku⟩:∃p,V2.ps[j]? =some p:=⟨_,ao ae⟩
  have sF:=pZ (bd:=bd) u5 hj ku
  have abx:=iH u5.ways hj
  have ae8:=(hBb.w hj).len
  have afX:(aW (H2.dy j)).length<=n+1:=by unfold aW;rw[bj];exact Nat.le_trans (List.length_filter_le _ _) ae8
  refine K.conv (fun w hw=>dD Xi Tq (hw.pick (A:=cr dX V2.bs H2.batch) bo)) ?_
  refine K.fact (fun w hw=>qV (hw.pick (A:=dX bv2 EI) .head)) ?_
  rintro⟨ba2,bc2,rfl⟩
  have ace:∀{w':World} {M:List HP},St w0 (dX (.slice ba2 EI.length bc2) EI::cr dX (V2.bs.eraseIdx j) (H2.batch.eraseIdx j)::bP bh (.cells (fv bd V2 H2).toArray 133 (0,0))::lQ V2.nv H2.names::cg Value.string V2.mb (dJ V2 H2)::cr jz V2.ps H2.all::cr dj (V2.us.map (·.1)) (H2.aB.map (·.aM))::cr dh (V2.us.map (·.2)) (H2.aB.map (·.bu))::M) w'->St w0 (dL bh bd H2::M) w':=fun h=>cn V2 u5 ((j0 Xi Tq h).all Y7)
  refine qE ?_
  refine mA ?_
  refine Uu ?_
  refine KO.dB (i:=8+j) rfl rfl isAgg119 bo Bd sF rfl ?_
  refine KO.ce (cp:=[]) rfl rfl rfl call67 rfl (KE.GK (A:=fun v=>LY v (aW (H2.dy j))) (φ:=fun _=>True) ku abx bo (fun L=>KE.mono (IC w0 _ _ p2 (H2.dy j) .head ae) (fun v M h=>⟨trivial,h⟩))) ?_;rintro va L' ⟨-,rfl⟩;refine KO.fact (fun w hw=>aY (hw.pick (A:=LY va (aW (H2.dy j))) .head)) ?_;rintro⟨aa,ac,rfl,hag⟩
  refine BI ?_
  generalize aW (H2.dy j)=al at afX hag ⊢
  refine K.loop (fun q:Nat×Value=>[(0,bA bh),(1,.int .i64 (j:Nat)),(12,q.2),(78,.slice aa al.length ac),(79,.int .i64 (al.length:Nat)),(80,.int .i64 (q.1:Nat))])
   (fun q=>SL 44 5 du q.2 ((al.take q.1).filter (OH EI))::LY (.slice aa al.length ac) al::dX (.slice ba2 EI.length bc2) EI::cr dX (V2.bs.eraseIdx j) (H2.batch.eraseIdx j)::bP bh (.cells (fv bd V2 H2).toArray 133 (0,0))::lQ V2.nv H2.names::cg Value.string V2.mb (dJ V2 H2)::cr jz V2.ps H2.all::cr dj (V2.us.map (·.1)) (H2.aB.map (·.aM))::cr dh (V2.us.map (·.2)) (H2.aB.map (·.bu))::fR bd D2::L)
   (fun q=>q.1<=al.length) (fun q=>al.length-q.1) (0,.slice none 0 0) (aV _) ⟨rfl,rfl,rfl,rfl,rfl,rfl,trivial⟩ (fun w' aX=>?_) ?_
  ·have h1:=cM (E:=44) (sz:=5) (cf:=du) aX
   exact h1.all Y7
  rintro⟨i,v12⟩ hi
  dsimp only at hi ⊢
  refine iJ ?_
  refine K.bz rfl (fun Po=>?_) (fun Po=>?_)
  ·obtain⟨m,hm⟩:∃e,al[i]? =some e:=⟨al[i],ao ae⟩
   obtain⟨g2,rfl⟩:=hag ae
   have SY:(al.take (i+1)).filter (OH EI)=(al.take i).filter (OH EI)++if m.id∈EI then[m]else[]:=by
    rw[bJ hm,bB]
    congr 1
    rw[bE]
    unfold OH
    by_cases hb:m.id∈EI<;>simp[hb]
   have Nc:((al.take i).filter (OH EI)).length<=al.length:=Nat.le_trans (List.length_filter_le _ _) ga
   obtain⟨mi,mp,mb,mq,mh⟩:=m
   dsimp only at SY
   refine qF ?_
   refine YD ?_
   refine KO.alloc rfl zeroValue44 aQ rfl ?_;intro b14
   refine yB ?_
   refine K.draw [.pure,.pure,.pure,.pure,.pure,.read,.pure,.read,.dm] [0,1,2,3,4,5,6,7,8] bH bH ?_
   refine tI ?_
   refine Z41 ?_
   refine KO.dB (i:=22+j) rfl rfl isAgg23 bo Bd c3 rfl ?_
   refine Qm ?_
   refine KO.ld (v:=.int .i64 mi) rfl rfl isAgg3 bZ aQ rfl ?_
   refine KO.ce (cp:=[]) rfl rfl rfl call92 rfl (PN w0 _ _ EI mi (fun w' hw'=>VV (hw'.pick (A:=dX (.slice ba2 EI.length bc2) EI) bo)) ae) ?_;rintro v' L' ⟨rfl,rfl⟩
   refine Z2 ?_
   refine K.bz rfl (fun hb=>?_) (fun hb=>?_)
   ·rw[if_pos hb]at SY
    refine Z8 ?_
    refine Eo ?_
    refine KO.lY (z:=(Value.agg #[.int .i64 0,.int .i64 0,.string ⟨#[]⟩,.string ⟨#[]⟩,.int .i64 0])) (sz:=5) (dP:=56) rfl rfl underlying49 bH aQ aQ ai ai rfl ?_;intro b95
    refine KO.app (cf:=du) (z:=Value.agg #[.int .i64 0,.int .i64 0,.string ⟨#[]⟩,.string ⟨#[]⟩,.int .i64 0]) (sz:=5) (dP:=56) (xs:=(al.take i).filter (OH EI)) rfl rfl rfl bo .head underlying49 bH aQ ⟨mi,mp,mb,mq,mh⟩ rfl rfl rfl ae ai rfl ?_;intro ZS
    refine vz ?_
    refine KQ.round (i+1,ZS) iK iK ⟨rfl,rfl,rfl,rfl,rfl,rfl,trivial⟩ (fun w' aX=>?_)
    dsimp only
    rw[SY]
    exact aX.all Y5
   ·rw[if_neg hb,List.append_nil]at SY
    refine qD ?_
    refine KQ.round (i+1,v12) iK iK ⟨rfl,rfl,rfl,rfl,rfl,rfl,trivial⟩ (fun w' aX=>?_)
    dsimp only
    rw[SY]
    exact aX.all Y5
  ·obtain rfl:i=al.length:=by omega
   rw[List.take_length]
   refine Z9 ?_
   refine o8 ?_
   refine Ut ?_
   refine KO.dB (i:=26+j) rfl rfl isAgg3 bo Bd d3 rfl ?_
   refine Z1 ?_
   refine nQ ?_
   refine jH ?_
   refine KQ.Fc rfl rfl rfl rfl (fun w' aX=>⟨_,_,rfl,⟨v12,rfl,rfl⟩,?_⟩)
   have h1:=ace (M:=SL 44 5 du v12 (al.filter (OH EI))::fR bd D2::L) (aX.all Y5)
   exact h1.all Y3
end Go.Proofs.YtjhogocabcdjbabGreatDoor
namespace WB
open Go
def VW (r:List (ak×Int)):List (ak×Value):=r.map fun x=>(x.1,.int .i64 x.2)
def J1 (r:List (ak×Int)) (s:ak):Int:=(eI r s).getD 0
theorem JZ(r:List (ak×Int))(s:ak):(eI (VW r) s).getD (.int .i64 0)=.int .i64 (J1 r s):=by
 unfold VW J1
 induction r with
 |nil=>rfl
 |cons x r ih=>
  rw[aL,eI,eI]
  dsimp only
  by_cases h:x.1=s
  ·rw[if_pos h,if_pos h];rfl
  ·rw[if_neg h,if_neg h,ih]
theorem R5(r:List (ak×Int))(s:ak)(v:Int):gh (VW r) s (.int .i64 v)=VW (gh r s v):=by
 unfold VW
 induction r with
 |nil=>rfl
 |cons x r ih=>
  rw[aL,gh,gh]
  dsimp only
  by_cases h:x.1=s
  ·rw[if_pos h,if_pos h];rfl
  ·rw[if_neg h,if_neg h,ih];rfl
theorem J0(r:List (ak×Int))(s t:ak)(v:Int):J1 (gh r s v) t=if s=t then v else J1 r t:=by
 unfold J1
 rw[CD]
 split<;>rfl
def toDead (H:Ho) (m:Ms) (r:List (ak×Int)):Bool:=match H.qI m.queue with
 |none=>true
 |some i=> !fq H.names m.queue||decide (20<=((H.ec i).l.length:Int)+J1 r m.queue)
def dq (H:Ho):List Ms->List (ak×Int)->List ak
 |[],_=>[]
 |m::l,r=>if toDead H m r=true then cL::dq H l r else m.queue::dq H l (gh r m.queue (J1 r m.queue+1))
theorem kT(H:Ho):∀(l:List Ms) (r:List (ak×Int)),(dq H l r).length=l.length
 |[],_=>rfl
 |m::l,r=>by
  unfold dq
  split<;>simp[kT H l]
theorem xj(H:Ho):∀(l:List Ms) (r:List (ak×Int)),∀t∈dq H l r,t=cL\/∃m∈l,t=m.queue
 |[],_,t,h=>by cases h
 |m::l,r,t,h=>by
  unfold dq at h
  split at h
  ·rcases aF.1 h with rfl|h
   ·exact .inl rfl
   ·rcases xj H l r t h with h|⟨x,hx,h⟩
    ·exact .inl h
    ·exact .inr ⟨x,by simp[hx],h⟩
  ·rcases aF.1 h with rfl|h
   ·exact .inr ⟨m,by simp,rfl⟩
   ·rcases xj H l _ t h with h|⟨x,hx,h⟩
    ·exact .inl h
    ·exact .inr ⟨x,by simp[hx],h⟩
def jV (H:Ho) (m:Ms):Bool:=decide (m.cq≠H.id)||decide (m.id%4=H.id)
def vY (m x:Ms):Bool:=decide (x.id=m.id)
def Dc (H:Ho) (l:List Ms) (i:Nat) (m:Ms):Bool:=(l.take i).any (vY m)||H.aI.any fun x=>Dm x.2 m.id
def AY (H:Ho) (l:List Ms):Bool:=l.zipIdx.any fun x=>Dc H l x.2 x.1
def sV (k:Int) (l:List Ms) (t:List ak):ak:=cv 114++cv 58++(b_ k++cv 47++(cF l++cv 47++dn t plus))
def ry (H:Ho) (k n:Int) (l:List Ms):Int:=
 if cj H k=false then 2 else if H.down=true then 6 else if n<=bY H k.toNat then 0 else if bY H k.toNat+1<n then 10 else if ju l≠none\/l.any (jV H)=true then 1 else if AY H l=true then 9 else 0
def xg (H:Ho) (k n:Int) (l:List Ms):Bool:=decide (ry H k n l=0/\bY H k.toNat<n)
def D7 (H:Ho) (D:Dk) (k n:Int) (l:List Ms):Int:=if ry H k n l≠0 then ry H k n l else if xg H k n l=true then c7 H D else 0
def nA (H:Ho) (k:Int) (l:List Ms):ak:=sV k l (dq H l [])
def lb (H:Ho) (D:Dk) (k n:Int) (l:List Ms):Ho:=if xg H k n l=true then lM H D (nA H k l)else H
def oe (H:Ho) (D:Dk) (k n:Int) (l:List Ms):Dk:=if xg H k n l=true then gU H D (nA H k l)else D
def rz (H:Ho) (D:Dk) (k n:Int) (l:List Ms):Int:=if D7 H D k n l=0 then bY (lb H D k n l) k.toNat else 0
theorem zf{c:UInt8}(h2:isLet c=false){s:ak}(h:dw s=true):qx c s:=fun b hb e=>by
 subst e
 have h:=ib h
 unfold iI at h
 rw[aJ]at h
 rw[h b hb]at h2;cases h2
theorem tz:dw cL=true:=by decide+kernel
theorem kS{H:Ho}{l:List Ms}(h:∀m∈l,bT m=true)(r:List (ak×Int)):∀t∈dq H l r,dw t=true:=fun t ht=>by
 rcases xj H l r t ht with rfl|⟨m,hm,rfl⟩
 ·exact tz
 ·obtain⟨-,-,-,-,-,h6,-,-⟩:=bV (h m hm);exact h6
theorem wE{c:UInt8}{sep:ak}(hs:qx c sep){l:List ak}(h:∀x∈l,qx c x):qx c (dn l sep):=fun b hb=>by
 rcases jC hb with hb|⟨y,hy,hb⟩
 ·exact hs b hb
 ·exact h y hy b hb
theorem B8{l:List ak}(hl:l≠[])(h:∀t∈l,dw t=true):dE 43 (dn l plus)=l:=by
 have :∀{l:List ak},l≠[]->(∀p∈l,qx 43 p)->dE 43 (dn l (cv 43))=l:=by
  intro l
  induction l with
  |nil=>intro h;exact absurd rfl h
  |cons p l ih=>
   intro _ h
   cases l with
   |nil=>rw[kJ];exact lq (h p aj)
   |cons q l=>rw[gp,jh (h p aj),ih aj fun x hx=>h x yK]
 exact this hl fun t ht=>zf ai (h t ht)
theorem zF{k:Int}{l:List Ms}{t:List ak}(h:∀m∈l,bT m=true)(ht:∀x∈t,dw x=true):dE 47 (di 58 (sV k l t)).2.1=[b_ k,cF l,dn t plus]:=by
 unfold sV
 rw[nU ai]
 dsimp only
 rw[jh (fX _ ai),jh (rR ai ai ai h),lq]
 exact wE (fun b hb=>by simp[plus]at hb;subst hb;decide) fun x hx=>zf ai (ht x hx)
theorem uA{k:Int}{l:List Ms}{t:List ak}(hk:0<=k/\k<4)(h:ju l=none)(hl:l.length<=250)(ht:∀x∈t,dw x=true)(dS:t.length=l.length):fO 250 (sV k l t)/\(sV k l t).size<=40000:=by
 have hr:=dG h
 have h1:(cF l).size<=250*101:=by
  have :=gD plus 100 (l.map qy) (fun x hx=>by
   obtain⟨m,hm,rfl⟩:=ay.1 hx
   exact Ce (hr m hm))
  have h2:plus.size=1:=rfl
  rw[h2,bj]at this
  unfold cF
  have h3:=Nat.mul_le_mul_right (100+1) hl
  omega
 have h4:(dn t plus).size<=250*9:=by
  have :=gD plus 8 t (fun x hx=>(jj (ht x hx)).2)
  have h2:plus.size=1:=rfl
  rw[h2,dS]at this
  have h3:=Nat.mul_le_mul_right (8+1) hl
  omega
 have h5:=cH (n:=k) ⟨by omega,by omega⟩
 have e1:(cv 114).size=1:=rfl
 have e2:(cv 58).size=1:=rfl
 have e3:(cv 47).size=1:=rfl
 have hs:(sV k l t).size<=40000:=by unfold sV;simp only[aU];omega
 refine⟨⟨by omega,fun hk=>?_,fun _ a b c l' h6 h7=>?_⟩,hs⟩
 ·unfold sV at hk
  rw[nU ai]at hk
  exact absurd (show cv 114=cv 117 from hk) ai
 ·rw[zF hr ht]at h6
  simp only[List.cons.injEq,and_true]at h6
  obtain⟨-,rfl,rfl⟩:=h6
  rw[rT h]at h7
  simp only[az]at h7
  subst h7
  refine⟨hl,?_⟩
  by_cases h0:t=[]
  ·subst h0
   simp at dS
   omega
  ·rw[B8 h0 ht];omega
end WB
namespace Go.Proofs.YtjhogocabcdjbabGreatDoor
open Tryz
open Go Go.RowKit WB
theorem PL(w0:World)(L:List HP)(v:Value)(xs:List Ms)(f:FuncId)(cp:List Value)(pf:Ms->Bool)(hr:∀w,St w0 L w->x9 w 5 du v xs)(hlen:xs.length<1000000)(gZ:∀args w,(callFunc f args).run prog w=.ok (.enter f args) w)(qP:∀e,e∈xs->KE prog f ([]++([Value.agg (du e).toArray]++cp)).toArray w0 L (fun v L'=>v=.bool (pf e)/\L'=L)):
 KE prog 189 #[v,.func (.func f) [].toArray cp.toArray] w0 L (fun v L'=>v=.bool (xs.any pf)/\L'=L):=by
 refine KE.mk (n:=9) func189 rfl ntmps189 aj ?_
 intro w hw
 refine Jx ?_
 refine KO.ce rfl rfl rfl call153 rfl ((OI w0 L v xs f cp pf hr hlen gZ qP).qX hw) ?_;rintro v L' ⟨rfl,rfl⟩
 refine vO ?_
 refine jH ?_
 refine KQ.bG rfl rfl (fun w' hs=>⟨_,_,rfl,⟨?_,rfl⟩,hw.aE hs.below,hs.below⟩)
 rw[Ay]
theorem acg(w0:World)(L R R2:List HP)(m:Ms)(b bh bd:Nat)(H:Ho)(E:TypeId)(hp:bQ L (bP b (.cells [bA bh].toArray E (0,0))) R)(hq:bQ L (dL bh bd H) R2)(hm:0<=m.id):
 KE prog 190 #[.agg (du m).toArray,.pointer (some ⟨b,0,none⟩)] w0 L (fun v L'=>v=.bool (jV H m)/\L'=L):=by
 obtain⟨mi,mp,mb,mq,mh⟩:=m
 dsimp only at hm
 refine KE.mk (n:=21) func190 rfl ntmps190 aj ?_
 intro w hw
 obtain⟨V,hV,hc⟩:=oS hw hq
 have Ng:w.cell? ⟨bh,0,none⟩=some (.int .i64 H.id):=hc 0 _ rfl
 have sr:w.cell? ⟨b,0,none⟩=some (bA bh):=by rw[World.cell?,(hw.pick hp).look.2];rfl
 refine Z3 ?_
 refine KO.box rfl rfl aQ rfl ?_;intro b2
 refine lK ?_
 by_cases h1:mh=H.id
 ·refine acK ?_
  refine tL ?_
  refine KO.sE rfl rfl isAgg29 sr rfl ?_
  refine lJ ?_
  refine Hm ?_
  refine KO.sE rfl rfl isAgg3 Ng rfl ?_
  refine xA ?_
  refine acq ?_
  refine KO.on rfl rfl EK ?_;refine KO.ld (v:=.int .i64 mi) rfl rfl isAgg3 bZ aQ rfl ?_
  refine KO.on rfl rfl EK ?_;refine KO.rem rfl rfl ae hm rfl ?_
  refine KO.on rfl rfl EK ?_;refine KO.sE rfl rfl isAgg29 sr rfl ?_
  refine lL ?_
  refine Jr ?_
  refine Hm ?_
  refine KO.on rfl rfl EK ?_;refine KO.sE rfl rfl isAgg3 Ng rfl ?_
  refine lL ?_
  refine D_ ?_
  refine x8 ?_
  refine jH ?_
  refine KQ.bG rfl rfl (fun w' hs=>⟨_,_,rfl,⟨?_,rfl⟩,hw.aE hs.below,hs.below⟩)
  unfold jV;simp[h1]
 ·refine acK ?_
  refine tL ?_
  refine KO.sE rfl rfl isAgg29 sr rfl ?_
  refine lJ ?_
  refine Hm ?_
  refine KO.sE rfl rfl isAgg3 Ng rfl ?_
  refine xA ?_
  refine G8 ?_
  refine VA ?_
  refine sO ?_
  refine jH ?_
  refine KQ.bG rfl rfl (fun w' hs=>⟨_,_,rfl,⟨?_,rfl⟩,hw.aE hs.below,hs.below⟩)
  unfold jV;simp[h1]
theorem acf(w0:World)(L R:List HP)(x m:Ms)(b:Nat)(E:TypeId)(hp:bQ L (bP b (.cells (du m).toArray E (0,0))) R):
 KE prog 191 #[.agg (du x).toArray,.pointer (some ⟨b,0,none⟩)] w0 L (fun v L'=>v=.bool (vY m x)/\L'=L):=by
 obtain⟨mi,mp,mb,mq,mh⟩:=m
 obtain⟨xi,xp,xb,xq,xh⟩:=x
 refine KE.mk (n:=9) func191 rfl ntmps191 aj ?_
 intro w hw
 have hw:=hw.pick hp
 refine Z3 ?_
 refine KO.box rfl rfl aQ rfl ?_;intro b2
 refine mB ?_
 refine JH ?_
 refine Qm ?_
 refine Yc ?_
 refine jH ?_
 refine KQ.bG rfl rfl (fun w' hs=>⟨_,_,rfl,⟨rfl,rfl⟩,(hw.zl hp).aE hs.below,hs.below⟩)
theorem Rv{α:Type}(f:Nat->α->Bool)(l:List α):l.zipIdx.any (fun x=>f x.2 x.1)=false↔ ∀i x,l[i]? =some x->f i x=false:=by
 rw[List.any_eq_false]
 constructor
 ·intro h i x hx
  have :=h (x,i) (List.mem_zipIdx_iff_getElem?.2 hx)
  simpa using this
 ·rintro h ⟨x,i⟩ hx
  have :=h i x (List.mem_zipIdx_iff_getElem?.1 hx)
  simpa using this
theorem I8(w0:World)(L:List HP)(A:HP)(bh bd n:Nat)(H:Ho)(D:Dk)(k m:Int)(a:Option Addr)(cap:Nat)(l:List Ms)(hT:qH w0)(hM:qK w0)(hB:cK n H)(hn:n+250<=80000)(h3:D.places.length=300)(hd: -4000000000000000000<=D.left/\D.left<=9223372036854775807)(hA:∀w R,St w0 (A::R) w->x9 w 5 du (.slice a l.length cap) l)(Tm:l.length<=cap)(hl:l.length<=250)(dK:∀m∈l,m.body.size<=maxLen/\m.queue.size<=maxLen):
 KC prog 103 #[bA bh,.int .i64 k,.int .i64 m,.slice a l.length cap] w0 (dL bh bd H::fR bd D::A::L) (fun u M=>u=.tuple #[.int .i64 (rz H D k m l),cS 70 (D7 H D k m l)]/\M=dL bh bd (lb H D k m l)::fR bd (oe H D k m l)::A::L):=by
 have early:∀e:Int,e≠0->ry H k m l=e->∀w',St w0 (dL bh bd H::fR bd D::A::L) w'->∃v L',Ending.returned (.tuple #[.int .i64 0,cS 70 e])=Ending.returned v/\(v=.tuple #[.int .i64 (rz H D k m l),cS 70 (D7 H D k m l)]/\L'=dL bh bd (lb H D k m l)::fR bd (oe H D k m l)::A::L)/\St w0 L' w':=fun e he hb w' aX=>by
  have sj:xg H k m l=false:=by unfold xg;rw[hb];simp[he]
  have Zq:D7 H D k m l=e:=by unfold D7;rw[hb,if_pos he]
  refine⟨_,_,rfl,⟨?_,rfl⟩,?_⟩
  ·unfold rz;rw[Zq,if_neg he]
  ·unfold lb oe;rw[sj];exact aX
 refine KC.mk (n:=175) func103 rfl ntmps103 aj ?_
 refine Z3 ?_
 refine KO.box rfl rfl aQ rfl ?_;intro b4
 refine nQ ?_
 refine Qe ?_
 cases hk:cj H k with
 |false=>
  have he:ry H k m l=2:=by unfold ry;rw[if_pos hk]
  refine dR ?_
  refine KO.ld rfl rfl isAgg29 bZ aQ rfl ?_
  refine Z1 ?_
  refine KO.ce (cp:=[]) rfl rfl rfl call79 rfl (eE w0 _ _ bh bd H k bo) ?_;rintro v' L' ⟨rfl,rfl⟩;rw[hk]
  refine qp ?_
  refine Z7 ?_
  refine BA ?_
  refine Nl ?_
  refine lT ?_
  refine KQ.fp rfl rfl rfl (fun w' aX=>early 2 ai he w' (aX.all Y1))
 |true=>
 obtain⟨wJ,lV,-⟩:=bM.1 hk
 obtain⟨j,rfl⟩:∃j:Nat,k=(j:Int):=⟨k.toNat,by omega⟩
 have hj:j<4:=by omega
 refine dR ?_
 refine KO.ld rfl rfl isAgg29 bZ aQ rfl ?_
 refine Z1 ?_
 refine KO.ce (cp:=[]) rfl rfl rfl call79 rfl (eE w0 _ _ bh bd H (j:Int) bo) ?_;rintro v' L' ⟨rfl,rfl⟩;rw[hk]
 refine qp ?_
 refine Z7 ?_
 refine GZ ?_
 refine qq ?_
 refine K.cx (fun _ h=>cI (h.pick bo)) ?_
 rintro⟨V,hV⟩
 dsimp only
 have qB:=hV.ps
 have nL:=hB.oq
 have Bh:=hB.sorted
 cases sq:H.down with
 |true=>
  have he:ry H (j:Int) m l=6:=by unfold ry;rw[if_neg YK,if_pos sq]
  refine dR ?_
  refine Qj ?_
  refine Z97 ?_
  refine sx ?_
  refine K.cV rfl sq ?_
  refine Nl ?_
  refine lT ?_
  refine KQ.fp rfl rfl rfl (fun w' aX=>early 6 ai he w' (cn V hV (aX.all Y5)))
 |false=>
 refine dR ?_
 refine Qj ?_
 refine Z97 ?_
 refine sx ?_
 refine K.dp rfl sq ?_
 refine qq ?_
 obtain⟨d1,-⟩:=y0 (bd:=bd) hV hj
 obtain⟨Xo,ha9⟩:0<=bY H j/\bY H j<=(n:Int):=mJ hB.ext.arr
 have qO:ry H (j:Int) m l=if m<=bY H j then 0 else if bY H j+1<m then 10 else if ju l≠none\/l.any (jV H)=true then 1 else if AY H l=true then 9 else 0:=by unfold ry;rw[if_neg YK,if_neg YJ,aA]
 refine Z8 ?_
 refine Qj ?_
 refine mA ?_
 refine Uk ?_
 refine KO.leq rfl rfl rfl ?_
 refine sx ?_
 refine K.bz rfl (fun h5=>?_) (fun h5=>?_)
 ·rw[if_pos h5]at qO
  have sj:xg H (j:Int) m l=false:=by unfold xg;rw[aA];simp;omega
  have Zq:D7 H D (j:Int) m l=0:=by unfold D7;rw[qO,sj];rfl
  refine Z3 ?_
  refine Qj ?_
  refine mA ?_
  refine Uk ?_
  refine Z7 ?_
  refine lT ?_
  refine KQ.fp rfl rfl rfl (fun w' aX=>⟨_,_,rfl,⟨?_,rfl⟩,?_⟩)
  ·unfold rz lb;rw[Zq,sj,if_pos rfl,aA];rfl
  ·unfold lb oe;rw[sj];exact cn V hV (aX.all Y5)
 rw[if_neg h5]at qO
 refine jI ?_
 refine Qj ?_
 refine mA ?_
 refine Uk ?_
 refine vP ?_
 refine vC ?_
 refine sx ?_
 refine K.bz rfl (fun h7=>?_) (fun h7=>?_)
 ·rw[if_pos ae]at qO
  refine Nl ?_
  refine lT ?_
  refine KQ.fp rfl rfl rfl (fun w' aX=>early 10 ai qO w' (cn V hV (aX.all Y5)))
 rw[if_neg ae]at qO
 refine X3 ?_
 refine K.conv (L':=dL bh bd H::fR bd D::A::bP b4 (.cells [bA bh].toArray 29 (0,0))::L) (fun w' aX=>cn V hV (aX.all Y7)) ?_
 clear d1 qB hV V
 cases fG:ju l with
 |some bi=>
  rw[fG,if_pos (.inl aj)]at qO
  refine Z8 ?_
  refine KO.ce (cp:=[]) rfl rfl rfl call60 rfl (lz w0 _ _ l (fun w' hw'=>hA w' _ (hw'.pick (A:=A) (.tail (.tail .head)))) hT dK ae) ?_;rintro v' L' hR;unfold QN at hR;rw[fG]at hR;obtain⟨bx,rfl,rfl⟩:=hR
  refine ky ?_
  refine xD ?_
  refine tM ?_
  refine xE ?_
  refine qb ?_
  refine KQ.fp rfl rfl rfl (fun w' aX=>early 1 ai qO w' (aX.all Y5))
 |none=>
 have i_:∀m∈l,bT m=true:=dG fG
 rw[fG]at qO
 refine Z8 ?_
 refine KO.ce (cp:=[]) rfl rfl rfl call60 rfl (lz w0 _ _ l (fun w' hw'=>hA w' _ (hw'.pick (A:=A) (.tail (.tail .head)))) hT dK ae) ?_;rintro v' L' hR;unfold QN at hR;rw[fG]at hR;obtain⟨rfl,rfl⟩:=hR
 refine Ei ?_
 refine KO.Zc rfl rfl rfl ?_
 refine KO.on rfl rfl rfl ?_;refine KO.ce rfl rfl rfl call189 rfl (PL w0 _ _ l 190 [.pointer (some ⟨b4,0,none⟩)] (jV H) (fun w' hw'=>hA w' _ (hw'.pick (A:=A) (.tail (.tail .head)))) ae call190 (fun e he=>acg _ _ _ _ e b4 bh bd H _ bo bZ (bV (i_ e he)).1)) ?_;rintro v' L' ⟨rfl,rfl⟩
 refine Hc ?_
 cases hnf:l.any (jV H)with
 |true=>
  rw[if_pos (.inr hnf)]at qO
  refine xo ?_
  refine qb ?_
  refine KQ.fp rfl rfl rfl (fun w' aX=>early 1 ai qO w' (aX.all Y5))
 |false=>
 rw[if_neg (by rw[hnf];simp)]at qO
 refine yA ?_
 refine xv ?_
 refine Bc ?_
 refine ZD ?_
 refine KQ.next ?_
 have hAt:∀(i:Nat) x,l[i]? =some x->∀w R,St w0 (A::R) w->∃ad,a=some ad/\dr w (ad.add (i *5)) (du x):=fun i x hx w R hw=>by
  obtain⟨a',c',e,hc⟩:=hA w R hw
  simp only[Value.slice.injEq]at e
  obtain⟨rfl,-,-⟩:=e
  exact hc i x hx
 refine K.cut (fun _:Unit=>[(1,.int .i64 (j:Nat)),(3,.slice a l.length cap),(4,.pointer (some ⟨b4,0,none⟩)),(10,.string (cF l))]) (fun _=>dL bh bd H::fR bd D::A::bP b4 (.cells [bA bh].toArray 29 (0,0))::L) (fun _=>AY H l=false) ?_ ?_
 ·refine K.block ?_
  refine K.loop (fun i:Nat=>(74,.slice a l.length cap)::(75,.int .i64 (l.length:Nat))::(76,.int .i64 (i:Nat))::[(1,.int .i64 (j:Nat)),(3,.slice a l.length cap),(4,.pointer (some ⟨b4,0,none⟩)),(10,.string (cF l))]) (fun _=>dL bh bd H::fR bd D::A::bP b4 (.cells [bA bh].toArray 29 (0,0))::L) (fun i=>i<=l.length/\∀i' x,i'<i->l[i']? =some x->Dc H l i' x=false) (fun i=>l.length-i) 0
   ⟨aV _,fun i' x h=>by omega⟩ ⟨rfl,rfl,rfl,rfl,rfl,rfl,rfl,trivial⟩ (fun w' aX=>aX.all QE) ?_
  rintro i ⟨hi,sG⟩
  refine iJ ?_
  refine K.bz rfl (fun h13=>?_) (fun h13=>?_)
  ·obtain⟨x,hx⟩:∃e,l[i]? =some e:=⟨l[i],ao ae⟩
   refine K.fact (fun w hw=>by obtain⟨ad,h,-⟩:=hAt i x hx w _ (hw.pick (A:=A) (.tail (.tail .head)));exact(⟨ad,h⟩:∃ad,a=some ad)) ?_
   rintro⟨ad,rfl⟩
   refine xy ?_
   refine KO.II (i:=i) rfl rfl runUnderlying49 sizeOf44 rfl ae rfl ?_
   refine KO.Wn (cs:=(du x).toArray) rfl rfl isAgg44 sizeOf44 rfl (fun w hw=>by obtain⟨ad2,h,hc⟩:=hAt i x hx w _ (hw.pick (A:=A) (.tail (.tail .head)));cases h;exact hc) rfl ?_
   refine KO.alloc rfl zeroValue44 aQ rfl ?_;intro K4
   refine Z7 ?_
   refine yB ?_
   refine ji ?_
   refine KO.CS (hi:=i) rfl rfl underlying49 sizeOf44 rfl ae rfl ?_
   refine KO.Zc rfl rfl rfl ?_
   refine KO.ce rfl rfl rfl call189 rfl (PL w0 _ _ (l.take i) 191 [.pointer (some ⟨K4,0,none⟩)] (vY x) (fun w' hw'=>⟨_,_,by rw[bL,Nat.min_eq_left ae],fun i' y hy=>hAt i' y (by rw[List.getElem?_take]at hy;split at hy;exact hy;cases hy) w' _ (hw'.pick (A:=A) (.tail (.tail (.tail .head))))⟩) Y33 call191 (fun e he=>acf _ _ _ e x K4 _ bZ)) ?_;rintro v' L' ⟨rfl,rfl⟩
   refine lK ?_
   obtain⟨tw0,aaH⟩:∃t,t=(l.take i).any (vY x):=⟨_,rfl⟩
   rw[<-aaH]
   refine K.cx (fun _ h=>cI (h.pick bo)) ?_
   rintro⟨V,hV⟩
   dsimp only
   have qB:=hV.ps
   refine dR ?_
   refine T_ ?_
   refine lJ ?_
   refine Yk ?_
   refine KO.rng rfl rfl underlying123 bo rfl ?_;intro r90
   refine K8 ?_
   refine K.loop (fun p:List Nat×List Nat×Bool×Option (ak×Value)=>(90,.pointer (some ⟨r90,0,none⟩))::(14,.bool p.2.2.1)::(13,.pointer (some ⟨K4,0,none⟩))::(74,.slice (some ad) l.length cap)::(75,.int .i64 (l.length:Nat))::(76,.int .i64 (i:Nat))::[(1,.int .i64 (j:Nat)),(3,.slice (some ad) l.length cap),(4,.pointer (some ⟨b4,0,none⟩)),(10,.string (cF l))])
    (fun p=>Hw Value.string V.mb r90 (dJ V H) (p.1.map fun r=>(dJ V H).getD r default) p.2.2.2::bP bh (.cells (fv bd V H).toArray 133 (0,0))::lQ V.nv H.names::cr jz V.ps H.all::cr dj (V.us.map (·.1)) (H.aB.map (·.aM))::cr dh (V.us.map (·.2)) (H.aB.map (·.bu))::cr dX V.bs H.batch::bP K4 (.cells (du x).toArray 44 (0,0))::fR bd D::A::bP b4 (.cells [bA bh].toArray 29 (0,0))::L)
    (fun p=>(p.2.1++p.1).Perm (List.range H.aI.length)/\p.2.2.1=(tw0||p.2.1.any fun r=>Dm (H.ec r) x.id)) (fun p=>p.1.length) (List.range H.aI.length,[],tw0,none)
    ⟨by simp,by simp⟩ ⟨rfl,rfl,rfl,rfl,rfl,rfl,rfl,rfl,rfl,rfl,trivial⟩ (fun _ h=>?_) ?_
   ·have e1:(List.range H.aI.length).map (fun r=>(dJ V H).getD r default)=dJ V H:=by
     have WZ:(dJ V H).length=H.aI.length:=by unfold dJ tk;rw[List.length_zipWith,bC];omega
     rw[<-WZ]
     apply List.ext_getElem
     ·simp
     ·intro i h1 h2;simp[aq,ao h2]
    dsimp only
    rw[e1]
    exact h.all nH
   rintro⟨rest,done,tw,cur⟩ ⟨fZ,F0⟩
   dsimp only at fZ F0 ⊢
   refine Z3 ?_
   refine KO.Sn rfl rfl bZ rfl (fun h0=>?_) (fun i2 e he=>?_)
   refine tK ?_
   refine Z0 ?_
   have fg:rest=[]:=by simpa using h0
   subst fg
   rw[List.append_nil]at fZ
   have aaG:tw=Dc H l i x:=by
    rw[F0,aaH]
    unfold Dc
    congr 1
    rw[Bool.eq_iff_iff,List.any_eq_true,List.any_eq_true]
    constructor
    ·rintro⟨r,hr,h⟩
     have Mi:r<H.aI.length:=by have :=fZ.mem_iff.1 hr;simpa using this
     refine⟨H.aI[r],List.getElem_mem Mi,?_⟩
     unfold Ho.ec at h
     rw[aq,ao Mi]at h
     exact h
    ·rintro⟨q,hq,h⟩
     obtain⟨r,Mi,rfl⟩:=List.getElem_of_mem hq
     refine⟨r,fZ.mem_iff.2 (by simpa using Mi),?_⟩
     unfold Ho.ec
     rw[aq,ao Mi]
     exact h
   refine yA ?_
   refine xr ?_
   refine Z2 ?_
   refine K.cond rfl (fun Po=>?_) (fun Po=>?_)
   ·have Ph:AY H l=true:=by
     unfold AY
     rw[List.any_eq_true]
     exact⟨(x,i),List.mem_zipIdx_iff_getElem?.2 hx,by dsimp only;rw[<-aaG];exact Po⟩
    rw[if_pos Ph]at qO
    refine Nl ?_
    refine lT ?_
    refine KQ.fp rfl rfl rfl (fun w' aX=>early 9 ai qO w' ?_)
    exact cn V hV (aX.all Y5)
   ·refine qD ?_
    refine KQ.round (i+1) ⟨by omega,fun i' y hi' hy=>?_⟩ ae ⟨rfl,rfl,rfl,rfl,rfl,rfl,rfl,trivial⟩ (fun w' aX=>?_)
    ·by_cases e:i'=i
     ·subst e;rw[hx]at hy;cases hy;rw[<-aaG];exact Po
     ·exact sG i' y ae hy
    ·exact cn V hV (aX.all Y5)
   obtain⟨r,hr,rfl⟩:∃r,rest[i2]? =some r/\(dJ V H).getD r default=e:=by
    rw[aG]at he
    cases hr:rest[i2]? with
    |none=>rw[hr]at he;cases he
    |some r=>rw[hr]at he;exact⟨r,rfl,by simpa using he⟩
   have Mi:r<H.aI.length:=by
    have :r∈List.range H.aI.length:=fZ.mem_iff.1 (List.mem_append_right _ (ax hr))
    simpa using this
   obtain⟨s,oz⟩:=J_ hV Mi
   rw[oz]
   refine tK ?_
   refine Z0 ?_
   refine xo ?_
   refine HU ?_
   have ku:V.ps[4+r]? =some (V.ps.getD (4+r) 0):=by rw[aq,ao ae];rfl
   have ae7:=(hB.qa Mi).len
   have Co:((done++[r])++rest.eraseIdx i2).Perm (List.range H.aI.length):=by
    refine List.Perm.trans ?_ fZ
    rw[aH]
    refine(List.Perm.refl done).append ?_
    obtain⟨Xa,rfl⟩:=au.1 hr
    exact pQ Xa
   have hml:(rest.eraseIdx i2).length<rest.length:=by
    have Xa:=(au.1 hr).1
    rw[List.length_eraseIdx,if_pos Xa];omega
   refine dR ?_
   refine KO.Jd rfl rfl bZ rfl ?_
   refine tK ?_
   refine sx ?_
   cases tw with
   |true=>
    refine ji ?_
    refine EJ ?_
    refine EJ ?_
    refine yx ?_
    refine Z7 ?_
    refine BB ?_
    refine KQ.round (rest.eraseIdx i2,done++[r],true,some (s,bA (V.ps.getD (4+r) 0))) ⟨Co,?_⟩ hml ⟨rfl,rfl,rfl,rfl,rfl,rfl,rfl,rfl,rfl,rfl,trivial⟩ (fun _ h=>?_)
    ·dsimp only
     rw[List.any_append,<-Bool.or_assoc,<-F0];rfl
    ·dsimp only
     rw[<-oP]
     exact h.all nH
   |false=>
    refine Z8 ?_
    refine MS ?_
    refine Qm ?_
    refine KO.on rfl rfl rfl ?_;refine KO.ld (v:=.int .i64 x.id) rfl rfl isAgg3 bo aQ rfl ?_
    refine KO.on rfl rfl rfl ?_;refine KO.ce (cp:=[]) rfl rfl rfl call146 rfl (KE.GL (φ:=fun v=>v=.bool (Dm (H.ec r) x.id)) ku (lI hV.ways Mi) bo (fun L=>Ve w0 _ _ (V.ps.getD (4+r) 0) (H.ec r) x.id .head ae)) ?_;rintro v' L' ⟨rfl,rfl⟩
    refine rB ?_
    refine Z7 ?_
    refine BB ?_
    refine KQ.round (rest.eraseIdx i2,done++[r],Dm (H.ec r) x.id,some (s,bA (V.ps.getD (4+r) 0))) ⟨Co,?_⟩ hml ⟨rfl,rfl,rfl,rfl,rfl,rfl,rfl,rfl,rfl,rfl,trivial⟩ (fun _ h=>?_)
    ·dsimp only
     rw[List.any_append,<-Bool.or_assoc,<-F0];simp
    ·dsimp only
     rw[<-oP]
     exact h.all Y7
  ·have qn:i=l.length:=by omega
   refine Ur ?_
   exact KQ.tf () (by
    unfold AY
    rw[Rv (f:=fun i x=>Dc H l i x)]
    intro i' y hy
    exact sG i' y (by have :=(au.1 hy).1;omega) hy) ⟨rfl,rfl,rfl,rfl,trivial⟩ (fun w' aX=>aX.all QE)
 ·rintro⟨⟩ aeU
  rw[aeU]at qO
  have aaU:ry H (j:Int) m l=0:=qO
  have sj:xg H (j:Int) m l=true:=by unfold xg;rw[aaU,aA];simp;omega
  have Zq:D7 H D (j:Int) m l=c7 H D:=by unfold D7;rw[aaU,sj];rfl
  have haH:lb H D (j:Int) m l=lM H D (nA H (j:Int) l):=by unfold lb;rw[sj];rfl
  have haD:oe H D (j:Int) m l=gU H D (nA H (j:Int) l):=by unfold oe;rw[sj];rfl
  obtain⟨jg,S0⟩:=uA (k:=(j:Int)) ⟨by omega,by omega⟩ fG hl (kS i_ []) (kT H l [])
  have tU:=kT H l []
  refine K.cx (fun _ h=>cI (h.pick bZ)) ?_
  rintro⟨V,hV⟩
  dsimp only
  have qB:=hV.ps
  refine Z3 ?_
  refine KO.mkm (Value.string) rfl rfl ?_;intro P7
  refine mB ?_
  refine mS ?_
  refine BI ?_
  refine K.loop (fun q:Nat×Value×List (ak×Int)×List ak=>[(1,.int .i64 (j:Nat)),(4,.pointer (some ⟨b4,0,none⟩)),(10,.string (cF l)),(17,.map (some P7)),(18,q.2.1),(106,.slice a l.length cap),(107,.int .i64 (l.length:Nat)),(108,.int .i64 (q.1:Nat))])
   (fun q=>l5 q.2.1 q.2.2.2::cg Value.string P7 (VW q.2.2.1)::bP bh (.cells (fv bd V H).toArray 133 (0,0))::lQ V.nv H.names::cg Value.string V.mb (dJ V H)::cr jz V.ps H.all::cr dj (V.us.map (·.1)) (H.aB.map (·.aM))::cr dh (V.us.map (·.2)) (H.aB.map (·.bu))::cr dX V.bs H.batch::fR bd D::A::bP b4 (.cells [bA bh].toArray 29 (0,0))::L)
   (fun q=>q.1<=l.length/\dq H l []=q.2.2.2++dq H (l.drop q.1) q.2.2.1/\q.2.2.2.length=q.1/\∀s,0<=J1 q.2.2.1 s/\J1 q.2.2.1 s<=(q.1:Int)) (fun q=>l.length-q.1) (0,.slice none 0 0,[],[])
   ⟨aV _,rfl,rfl,fun s=>⟨Int.le_refl _,Int.le_refl _⟩⟩ ⟨rfl,rfl,rfl,rfl,rfl,rfl,rfl,rfl,trivial⟩ (fun w' aX=>?_) ?_
  ·have h1:=cM (E:=9) (sz:=1) (cf:=ln) aX
   exact h1.all nH
  rintro⟨i,YY,room,ds⟩ ⟨hi,EE,afH,jE⟩
  dsimp only at hi EE afH jE ⊢
  refine iJ ?_
  refine K.bz rfl (fun h26=>?_) (fun h26=>?_)
  ·obtain⟨x,hx⟩:∃e,l[i]? =some e:=⟨l[i],ao ae⟩
   have uY:l.drop i=x::l.drop (i+1):=by
    obtain⟨h1,rfl⟩:=au.1 hx
    exact List.drop_eq_getElem_cons h1
   rw[uY,dq]at EE
   refine K.fact (fun w hw=>by obtain⟨ad,h,-⟩:=hAt i x hx w _ (hw.pick (A:=A) bo);exact(⟨ad,h⟩:∃ad,a=some ad)) ?_
   rintro⟨ad,rfl⟩
   refine qF ?_
   refine KO.II (i:=i) rfl rfl runUnderlying49 sizeOf44 rfl ae rfl ?_
   refine KO.Wn (cs:=(du x).toArray) rfl rfl isAgg44 sizeOf44 rfl (fun w hw=>by obtain⟨ad2,h,hc⟩:=hAt i x hx w _ (hw.pick (A:=A) bo);cases h;exact hc) rfl ?_
   refine KO.alloc rfl zeroValue44 aQ rfl ?_;intro b20
   refine yB ?_
   have hg:=lA hV x.queue
   obtain⟨zv,IJ⟩:∃zv,zv=(eI (dJ V H) x.queue).getD (.pointer none):=⟨_,rfl⟩
   refine K.draw [.read,.pure,.pure,.read,.pure,.read,.read,.pure] [0,1,2,3,4,5,6,7] bH bH ?_
   refine T_ ?_
   refine lJ ?_
   refine Uj ?_
   refine KO.dB (i:=7) rfl rfl isAgg123 bo rfl rfl rfl ?_
   refine Ym ?_
   refine KO.Ey gv x.queue rfl rfl rfl underlying123 underlying9 zeroValue119 bo rfl ?_;rw[<-IJ]
   refine lK ?_
   have abk:toDead H x room=true->dq H l []=(ds++[cL])++dq H (l.drop (i+1)) room:=fun h=>by rw[EE,if_pos h,aH];rfl
   have aa3:toDead H x room=false->dq H l []=(ds++[x.queue])++dq H (l.drop (i+1)) (gh room x.queue (J1 room x.queue+1)):=fun h=>by rw[EE,if_neg (by rw[h];simp),aH];rfl
   refine K.cut (fun b:Bool=>[(1,.int .i64 (j:Nat)),(4,.pointer (some ⟨b4,0,none⟩)),(10,.string (cF l)),(17,.map (some P7)),(18,YY),(20,.pointer (some ⟨b20,0,none⟩)),(139,.bool b),(106,.slice (some ad) l.length cap),(107,.int .i64 (l.length:Nat)),(108,.int .i64 (i:Nat))])
    (fun _=>l5 YY ds::cg Value.string P7 (VW room)::bP bh (.cells (fv bd V H).toArray 133 (0,0))::lQ V.nv H.names::cg Value.string V.mb (dJ V H)::cr jz V.ps H.all::cr dj (V.us.map (·.1)) (H.aB.map (·.aM))::cr dh (V.us.map (·.2)) (H.aB.map (·.bu))::cr dX V.bs H.batch::fR bd D::A::bP b4 (.cells [bA bh].toArray 29 (0,0))::bP b20 (.cells (du x).toArray 44 (0,0))::L) (fun b=>b=toDead H x room) ?_ ?_
   ·cases hlb:fq H.names x.queue with
    |false=>
     have ht:toDead H x room=true:=by
      unfold toDead;split
      ·rfl
      ·rw[hlb];rfl
     refine acO ?_
     refine lJ ?_
     refine Es ?_
     refine Ym ?_
     refine KO.ce (cp:=[]) rfl rfl rfl call57 rfl (uO w0 _ _ _ bh 6 (fv bd V H) 133 V.nv H.names x.queue bo bo rfl ae Bh) ?_;rintro v' L' ⟨rfl,rfl⟩;rw[hlb]
     refine qp ?_
     refine mC ?_
     refine BH ?_
     refine EJ ?_
     refine EJ ?_
     refine yx ?_
     refine KO.nil ?_
     exact KQ.tf true ht.symm ⟨rfl,rfl,rfl,rfl,rfl,rfl,rfl,rfl,rfl,rfl,trivial⟩ (fun w' aX=>aX.all Y7)
    |true=>
     obtain⟨q,hq⟩:=Kb hB hlb
     have WL:=(ik hq).1
     have ae7:=(hB.qa WL).len
     obtain⟨p,hp⟩:∃p,V.ps[4+q]? =some p:=⟨_,ao ae⟩
     rw[hq]at hg
     simp only[Option.bind_some,hp,Option.map_some]at hg
     rw[hg]at IJ
     subst IJ
     have hrm:=jE x.queue
     have ht:toDead H x room=decide (20<=((H.ec q).l.length:Int)+J1 room x.queue):=by unfold toDead;rw[hq];dsimp only;rw[hlb];rfl
     refine acO ?_
     refine lJ ?_
     refine Es ?_
     refine Ym ?_
     refine KO.ce (cp:=[]) rfl rfl rfl call57 rfl (uO w0 _ _ _ bh 6 (fv bd V H) 133 V.nv H.names x.queue bo bo rfl ae Bh) ?_;rintro v' L' ⟨rfl,rfl⟩;rw[hlb]
     refine qp ?_
     refine A2 ?_
     refine KO.on rfl rfl rfl ?_;refine KO.AF rfl underlying119 rfl ?_
     refine BK ?_
     refine HQ ?_
     refine Qb ?_
     refine KO.on rfl rfl rfl ?_;refine KO.ld (v:=.string x.queue) rfl rfl isAgg9 bZ aQ rfl ?_
     refine KO.on rfl rfl rfl ?_;refine KO.Ey gv x.queue rfl rfl rfl underlying282 underlying9 zeroValue3 bo rfl ?_;rw[JZ]
     refine KO.on rfl rfl rfl ?_;refine KO.ce (cp:=[]) rfl rfl rfl call192 rfl (KE.GL (φ:=fun v=>v=.int .i64 ((H.ec q).l.length:Nat)) hp (lI hV.ways WL) bo (fun L=>Wh w0 _ _ p (H.ec q) .head)) ?_;rintro v' L' ⟨rfl,rfl⟩
     refine KO.on rfl rfl rfl ?_;refine KO.add rfl rfl rfl ae rfl ?_
     refine KO.on rfl rfl rfl ?_;refine KO.geq rfl rfl rfl ?_
     refine rB ?_
     refine KO.nil ?_
     exact KQ.tf (decide (((H.ec q).l.length:Int)+J1 room x.queue>=20)) (by rw[ht]) ⟨rfl,rfl,rfl,rfl,rfl,rfl,rfl,rfl,rfl,rfl,trivial⟩ (fun w' aX=>aX.all Y7)
   ·rintro b hb
    refine K.cond rfl (fun sI=>?_) (fun hbf=>?_)
    ·have h1:=abk (by rw[<-hb];exact sI)
     refine jI ?_
     refine KO.lY (z:=Value.string ⟨#[]⟩) (sz:=1) (dP:=16) rfl rfl underlying115 mV aQ aQ ai ai rfl ?_;intro al2
     refine KO.app (cf:=ln) (z:=Value.string ⟨#[]⟩) (sz:=1) (dP:=16) (xs:=ds) rfl rfl rfl (.tail .head) .head underlying115 mV rfl cL rfl rfl rfl ae ai rfl ?_;intro aed
     refine xF ?_
     refine ZB ?_
     refine Rp ?_
     refine KQ.round (i+1,aed,room,ds++[cL]) ⟨by dsimp only;omega,h1,by dsimp only;simp;omega,fun s=>?_⟩ iK ⟨rfl,rfl,rfl,rfl,rfl,rfl,rfl,rfl,trivial⟩ (fun w' aX=>aX.all Y5)
     have :=jE s
     dsimp only;push_cast;omega
    ·have h1:=aa3 (by rw[<-hb];exact hbf)
     have hrm:=jE x.queue
     refine T4 ?_
     refine jI ?_
     refine Qb ?_
     refine KO.ld (v:=.string x.queue) rfl rfl isAgg9 bo aQ rfl ?_
     refine KO.Ey gv x.queue rfl rfl rfl underlying282 underlying9 zeroValue3 bo rfl ?_;rw[JZ]
     refine vP ?_
     refine KO.VN gv x.queue rfl rfl rfl rfl underlying282 underlying9 bo ?_;rw[R5]
     refine Z2 ?_
     refine Z8 ?_
     refine Qb ?_
     refine KO.ld (v:=.string x.queue) rfl rfl isAgg9 bo aQ rfl ?_
     refine KO.lY (z:=(Value.string ⟨#[]⟩)) (sz:=1) (dP:=16) rfl rfl underlying115 bH aQ aQ ai ai rfl ?_;intro al1
     refine KO.app (cf:=ln) (z:=Value.string ⟨#[]⟩) (sz:=1) (dP:=16) (xs:=ds) rfl rfl rfl (.tail (.tail .head)) .head underlying115 mV rfl x.queue rfl rfl rfl ae ai rfl ?_;intro v152
     refine vz ?_
     refine KQ.round (i+1,v152,gh room x.queue (J1 room x.queue+1),ds++[x.queue]) ⟨by dsimp only;omega,h1,by dsimp only;simp;omega,fun s=>?_⟩ iK ⟨rfl,rfl,rfl,rfl,rfl,rfl,rfl,rfl,trivial⟩ (fun w' aX=>aX.all Y5)
     dsimp only
     rw[J0]
     have :=jE s
     split<;>push_cast<;>omega
  ·obtain rfl:i=l.length:=by omega
   rw[List.drop_length,dq,List.append_nil]at EE
   subst EE
   have Nb:=cH (n:=(j:Int)) ⟨by omega,by omega⟩
   have aaP:(sV (j:Int) l (dq H l [])).size=(⟨#[114,58]⟩++b_ (j:Int)++⟨#[47]⟩++cF l++⟨#[47]⟩++dn (dq H l []) plus:ak).size/\(⟨#[114,58]⟩++b_ (j:Int)++⟨#[47]⟩++cF l++⟨#[47]⟩++dn (dq H l []) plus:ak)=nA H (j:Int) l:=by
    have e:(⟨#[114,58]⟩++b_ (j:Int)++⟨#[47]⟩++cF l++⟨#[47]⟩++dn (dq H l []) plus:ak)=sV (j:Int) l (dq H l []):=by
     unfold sV
     rw[show(⟨#[114,58]⟩:ak)=cv 114++cv 58 by decide,show(⟨#[47]⟩:ak)=cv 47 from rfl]
     simp only[ByteArray.append_assoc]
    exact⟨by rw[e],e⟩
   have hz:=aaP.1
   rw[hz]at S0
   simp only[aU]at S0
   refine Z9 ?_
   refine K.conv (L':=dL bh bd H::fR bd D::l5 YY (dq H l [])::A::bP b4 (.cells [bA bh].toArray 29 (0,0))::L) (fun w' aX=>cn V hV (aX.all Y5)) ?_
   refine K.draw [.read,.pure,.dm,.pure,.pure,.pure,.pure,.pure,.pure,.dm,.pure,.write,.pure] [0,1,5,8,2,3,4,6,7,9,10,11,12] bH bH ?_
   refine T_ ?_
   refine qG ?_
   refine KO.ce (cp:=[]) rfl rfl rfl call59 rfl (kK w0 _ (j:Int) hT ⟨by omega,by omega⟩) ?_;rintro v' L' ⟨rfl,rfl⟩
   refine rF ?_
   refine KO.cat rfl rfl Y27 rfl ?_
   refine KO.cat rfl rfl Y27 rfl ?_
   refine KO.cat rfl rfl Y27 rfl ?_
   refine KO.ce (cp:=[]) rfl rfl rfl call62 rfl (wD w0 _ _ YY (dq H l []) plus bo ae ae) ?_;rintro v' L' ⟨rfl,rfl⟩
   refine KO.cat rfl rfl Y27 rfl ?_;rw[aaP.2]
   refine KO.cl (cp:=[]) rfl rfl rfl call84 rfl (KC.QV bZ bZ (rW w0 _ bh bd n 250 H D (nA H (j:Int) l) hT hM hB jg ae h3 hd)) ?_;rintro v' L' ⟨rfl,rfl⟩
   refine yH ?_
   refine K.bz rfl (fun h35=>?_) (fun h35=>?_)
   ·refine jI ?_
    refine Z7 ?_
    refine sN ?_
    refine KQ.fp rfl rfl rfl (fun w' aX=>⟨_,_,rfl,⟨?_,rfl⟩,?_⟩)
    ·unfold rz;rw[Zq,if_neg h35]
    ·rw[haH,haD];exact aX.all Y1
   ·have abQ:c7 H D=0:=by simpa using h35
    refine Z6 ?_
    generalize hH2:lM H D (nA H (j:Int) l)=H2 at haH ⊢
    refine K.cx (fun _ h=>cI (h.pick bZ)) ?_
    rintro⟨V2,u5⟩
    dsimp only
    obtain⟨d2,-⟩:=y0 (bd:=bd) u5 hj
    refine dR ?_
    refine T_ ?_
    refine mA ?_
    refine Z62 ?_
    refine KO.dB (i:=30+j) rfl rfl isAgg3 bZ Bd d2 rfl ?_
    refine rC ?_
    refine KQ.fp rfl rfl rfl (fun w' aX=>⟨_,_,rfl,⟨?_,rfl⟩,?_⟩)
    ·unfold rz;rw[Zq,if_pos abQ,haH,abQ,aA];rfl
    ·rw[haH,haD];exact cn V2 u5 (aX.all Y5)
end Go.Proofs.YtjhogocabcdjbabGreatDoor
namespace WB
open Go
structure Fr where
 fa:Int
 num:Int
 vN:Bool
def frC (f:Fr) (v:Value):List Value:=[.int .i64 f.fa,.int .i64 f.num,.bool f.vN,v]
def colon:ak:=⟨#[58]⟩
def ni (a:Bool):ak:=if a then⟨#[97]⟩else⟨#[98]⟩
def Nj (f:Fr) (xs:List Ms):ak:=dn [ni f.vN,b_ f.fa,b_ f.num,cF xs] colon
def okF (f:Fr) (xs:List Ms):Prop:=0<=f.fa/\f.fa<=3/\0<=f.num/\f.num<=1099511627776/\f.vN=decide (xs.length=0)/\xs.length<=3/\ju xs=none
instance (f:Fr) (xs:List Ms):Decidable (okF f xs):=by unfold okF;infer_instance
def fwE (f:Fr) (xs:List Ms):Int:=if okF f xs then 0 else 1
def fwT (f:Fr) (xs:List Ms):ak:=if okF f xs then Nj f xs else⟨#[]⟩
theorem p7{f:Fr}{xs:List Ms}(h:¬okF f xs):fwE f xs=1/\fwT f xs=⟨#[]⟩:=⟨if_neg h,if_neg h⟩
theorem Kz{f:Fr}{xs:List Ms}(h:okF f xs):fwE f xs=0/\fwT f xs=Nj f xs:=⟨if_pos h,if_pos h⟩
end WB
