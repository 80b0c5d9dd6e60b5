import Derived.Shelf.SlSortFuncK.WholeK
import Derived.Shelf.GgSortFunc.Tiny
import Derived.Lib.AppendIntMem
import Derived.Sort.EncStr
import Derived.Test.YtjhogocabcdjbabGreatDoorB2
set_option linter.unusedSimpArgs false
set_option linter.unusedVariables false
set_option maxRecDepth 100000
set_option maxHeartbeats 8000000
namespace Go.Proofs.YtjhogocabcdjbabGreatDoor
open Tryz
open Go Go.RowKit WB
theorem dX(w0:World)(L R:List HP)(bh bd:Nat)(H:Ho)(k:Int)(hp:bF L (dy bh bd H) R):KE prog 79 #[bp bh,.int .i64 k] w0 L (fun u M=>u=.bool (cb H k)/\M=L):=by
 refine KE.mk (n:=19) func79 rfl ntmps79 aj ?_;intro w hw;obtain⟨V,hV,hc⟩:=nd hw hp;have QT:=hc 0 _ rfl;refine zm ?_;by_cases h1:0<=k
 ·by_cases h2:k<4
  ·refine Z8 ?_;refine vD ?_;refine s9 ?_;refine wk ?_;refine qY ?_;refine s9 ?_;refine CL ?_;refine Hm ?_;refine FA ?_;refine KO.on rfl rfl (by simp[h2]) ?_;refine KO.qM rfl rfl isAgg3 QT rfl ?_;refine kF ?_;refine zp ?_;refine qY ?_;refine iW ?_;refine KQ.bB rfl rfl (fun w' hs=>⟨_,_,rfl,⟨?_,rfl⟩,hw.aC hs.below,hs.below⟩);unfold cb;simp[h1,h2]
  ·refine Z8 ?_;refine vD ?_;refine s9 ?_;refine wk ?_;refine qY ?_;refine Fo ?_;refine wi ?_;refine iW ?_;refine KQ.bB rfl rfl (fun w' hs=>⟨_,_,rfl,⟨?_,rfl⟩,hw.aC hs.below,hs.below⟩);unfold cb;simp[h2]
 ·refine Z8 ?_;refine vD ?_;refine zx ?_;refine wi ?_;refine CY ?_;refine Dh ?_;refine Hp ?_;refine KQ.bB rfl rfl (fun w' hs=>⟨_,_,rfl,⟨?_,rfl⟩,hw.aC hs.below,hs.below⟩);unfold cb;simp[h1]
theorem JT{α β:Type}(f:α->Option β)(l:List α)(a:α):(l++[a]).mapM f=(l.mapM f).bind fun xs=>(f a).map fun x=>xs++[x]:=by
 rw[List.mapM_append];cases l.mapM f with
 |none=>rfl
 |some xs=>
  cases h:f a with
  |none=>simp[h]
  |some x=>simp[h]
theorem mapM_none{α β:Type}(f:α->Option β){l:List α}{a:α}(h:a∈l)(hn:f a=none):l.mapM f=none:=by
 induction l with
 |nil=>cases h
 |cons b l ih=>
  rw[List.mapM_cons];rcases aD.1 h with rfl|h
  ·rw[hn];rfl
  ·rw[ih h];cases f b<;>rfl
theorem Ca(w0:World)(L:List HP)(s:ak)(hs:s.size<=80000)(hM:o2 w0):
 KE prog 238 #[.string s] w0 L (fun u M=>match oE s with|none=>u=.tuple #[.slice none 0 0,.bool false]/\M=L|some l=> ∃v,u=.tuple #[v,.bool true]/\M=SL 3 1 jO v l::L):=by
 refine KE.mk (n:=29) func238 rfl ntmps238 aj ?_;intro w hw;have U0:o2 w:=hM.ext (Ext.bW hw.below);have sG:∀x∈di 32 s,x.size<=80000:=fun x hx=>by have :=gJ hx;omega
 have mG:(di 32 s).length<=100000:=by have :=ri 32 s;omega
 refine rN ?_;refine lZ ?_;refine lL ?_;refine KO.ce (cp:=[]) rfl rfl rfl call133 rfl (kP w _ s 32 ae U0) ?_;rintro v' L' ⟨b10,rfl,rfl⟩;refine Vz ?_;refine K.loop (fun p:Nat×List Int×Value=>[(4,p.2.2),(10,.slice (some ⟨b10,0,none⟩) (di 32 s).length (di 32 s).length),(11,.int .i64 ((di 32 s).length:Nat)),(12,.int .i64 (p.1:Nat))]) (fun p=>SL 3 1 jO p.2.2 p.2.1::[kO (.slice (some ⟨b10,0,none⟩) (di 32 s).length (di 32 s).length) (di 32 s)]) (fun p=>p.1<=(di 32 s).length/\((di 32 s).take p.1).mapM ep=some p.2.1/\p.2.1.length=p.1) (fun p=>(di 32 s).length-p.1) (0,[],.slice none 0 0)
  ⟨aV _,by rfl,rfl⟩ ⟨rfl,rfl,rfl,rfl,trivial⟩ (fun w' h=>cD h) ?_
 rintro⟨i,l,v⟩ ⟨hi,hm,hl⟩;dsimp only at hi hm hl ⊢;refine hF ?_;refine K.br rfl (fun h=>?_) (fun h=>?_)
 ·obtain⟨x,hx⟩:∃e,(di 32 s)[i]? =some e:=⟨(di 32 s)[i],ao ae⟩;have rY:=sG x (ax hx);have Qr:=bG hx;refine VV ?_;refine KO.ia (i:=i) (sz:=1) (cf:=j7) (e:=x) rfl rfl isAgg9 bn (fun _=>rfl) hx aj aP rfl ?_;refine kE ?_;cases lF:ep x with
  |none=>
   have qO:oE s=none:=mapM_none ep (ax hx) lF;refine Z8 ?_;refine KO.ce (cp:=[]) rfl rfl rfl call136 rfl (gR w _ x ae U0) ?_;rintro v' L' ⟨hR,rfl⟩;unfold jx at hR;rw[lF]at hR;obtain⟨xx,TT,yy,rfl⟩:=hR;refine jR ?_;refine uO ?_;refine Ac ?_;refine rN ?_;refine kG ?_;refine KQ.eE rfl rfl rfl (fun w' aT=>⟨_,_,rfl,?_,hw.aC aT.below,aT.below⟩);rw[qO];exact⟨rfl,rfl⟩
  |some k=>
   have IJ:((di 32 s).take (i+1)).mapM ep=some (l++[k]):=by rw[Qr,JT,hm,lF];rfl
   refine Z8 ?_;refine KO.ce (cp:=[]) rfl rfl rfl call136 rfl (gR w _ x ae U0) ?_;rintro v' L' ⟨hR,rfl⟩;unfold jx at hR;rw[lF]at hR;subst hR;refine jR ?_;refine I_ ?_;refine Hj ?_;refine FD ?_;refine iX ?_;refine KO.kL (z:=(Value.int .i64 0)) (sz:=1) (dI:=8) rfl rfl underlying23 bC aP aP ai ai rfl ?_;intro b25;refine KO.app (cf:=jO) (z:=Value.int .i64 0) (sz:=1) (dI:=8) (xs:=l) rfl rfl rfl (.tail .head) .head underlying23 bC aP k rfl rfl rfl ae ai rfl ?_;intro v26;refine uM ?_;refine KQ.round (i+1,l++[k],v26) ⟨by dsimp only;omega,IJ,by dsimp only;simp;omega⟩ gV ⟨rfl,rfl,rfl,rfl,trivial⟩ (fun _ h=>h.all OA)
 ·have hie:i=(di 32 s).length:=by omega
  subst hie;rw[List.take_length]at hm;have hio:oE s=some l:=hm;refine wo ?_;refine pO ?_;refine KQ.eE rfl rfl rfl (fun w' aT=>⟨_,SL 3 1 jO v l::L,rfl,?_,?_,aT.below⟩)
  ·rw[hio];exact⟨v,rfl,rfl⟩
  ·exact hw.stack (M:=[SL 3 1 jO v l]) (aT.all (by with_reducible repeat(first|exact iB.nil|refine iB.cons (by with_reducible repeat(exact bF.head)) ?_)))
theorem kl(us:List (Value×Value)):(us.flatMap (fun p=>[p.1,p.2])).length=2*us.length:=by
 induction us with
 |nil=>rfl
 |cons a l ih=>rw[aR,aX,ih];simp;omega
theorem A_(bd:Nat)(V:r5)(H:Ho):eK bd V H=(([.int .i64 H.id,bp bd,.int .i64 (H.used:Nat),.bool H.down,.int .i64 H.cZ,.int .i64 H.next,V.nv,.map (some V.mb)]:List Value)++(V.ps.take 4).map bp)++(V.us.flatMap (fun p=>[p.1,p.2])++(V.bs++(H.cg.map (Value.int .i64)++H.aM.map (Value.int .i64)))):=by
 unfold eK;simp
theorem uF{α:Type}(A R:List α)(i:Nat):(A++R)[A.length+i]? =R[i]? :=by rw[aY ae,Nat.add_sub_cancel_left]
theorem pZ{α:Type}(A R:List α)(i:Nat)(v:α):(A++R).set (A.length+i) v=A++R.set i v:=by rw[List.set_append_right _ _ ae,Nat.add_sub_cancel_left]
theorem ua(bd:Nat){V:r5}{H:Ho}(hV:iN V H):∃A:List Value,A.length=22/\∀(bs:List Value) (sn ar:List Int),eK bd {V with bs:=bs} {H with cg:=sn,aM:=ar}=A++(bs++(sn.map (Value.int .i64)++ar.map (Value.int .i64))):=by
 refine⟨(([.int .i64 H.id,bp bd,.int .i64 (H.used:Nat),.bool H.down,.int .i64 H.cZ,.int .i64 H.next,V.nv,.map (some V.mb)]:List Value)++(V.ps.take 4).map bp)++V.us.flatMap (fun p=>[p.1,p.2]),?_,fun bs sn ar=>?_⟩
 ·have h1:=hV.ps;simp only[aX,aW,bA,kl,hV.us,List.length_cons,List.length_nil];omega
 ·rw[A_];simp only[aL]
theorem qf{bd:Nat}{V:r5}{H:Ho}(hV:iN V H){k:Nat}{v:Value}(h:V.bs[k]? =some v):(eK bd V H)[22+k]? =some v/\∀u,(eK bd V H).set (22+k) u=eK bd {V with bs:=V.bs.set k u} H:=by
 obtain⟨A,hA,hc⟩:=ua bd hV;have h1:=hc V.bs H.cg H.aM;have hk:=(au.1 h).1;refine⟨?_,fun u=>?_⟩
 ·rw[show eK bd V H=_ from h1,<-hA,uF,List.getElem?_append_left hk];exact h
 ·rw[show eK bd V H=_ from h1,<-hA,pZ,List.set_append_left _ _ hk];exact(hc _ _ _).symm
theorem wZ{bd:Nat}{V:r5}{H:Ho}(hV:iN V H){k:Nat}(hk:k<4):(eK bd V H)[26+k]? =some (.int .i64 (dz H k))/\∀u,(eK bd V H).set (26+k) (.int .i64 u)=eK bd V {H with cg:=H.cg.set k u}:=by
 obtain⟨A,hA,hc⟩:=ua bd hV;have h1:=hc V.bs H.cg H.aM;have hs:=hV.cg;have hb:=hV.bs;have e1:26+k=A.length+(V.bs.length+k):=by omega
 refine⟨?_,fun u=>?_⟩
 ·rw[show eK bd V H=_ from h1,e1,uF,uF,List.getElem?_append_left lO,aG];unfold dz;rw[aq,ao ae];rfl
 ·rw[show eK bd V H=_ from h1,e1,pZ,pZ,List.set_append_left _ _ lO,<-List.map_set];exact(hc _ _ _).symm
theorem w4{bd:Nat}{V:r5}{H:Ho}(hV:iN V H){k:Nat}(hk:k<4):(eK bd V H)[30+k]? =some (.int .i64 (dc H k))/\∀u,(eK bd V H).set (30+k) (.int .i64 u)=eK bd V {H with aM:=H.aM.set k u}:=by
 obtain⟨A,hA,hc⟩:=ua bd hV;have h1:=hc V.bs H.cg H.aM;have hs:=hV.cg;have ha:=hV.aM;have hb:=hV.bs;have e1:30+k=A.length+(V.bs.length+((H.cg.map (Value.int .i64)).length+k)):=by rw[aW];omega
 refine⟨?_,fun u=>?_⟩
 ·rw[show eK bd V H=_ from h1,e1,uF,uF,uF,aG];unfold dc;rw[aq,ao ae];rfl
 ·rw[show eK bd V H=_ from h1,e1,pZ,pZ,pZ,<-List.map_set];exact(hc _ _ _).symm
theorem PE{w0 w:World}{L:List HP}{g cap:Nat}{a b:Int}{l:List Int}(h:St w0 (SL 3 1 jO (.slice (some ⟨g,0,none⟩) (l.length+2) cap) (a::b::l)::L) w):
 St w0 (dL (.slice (some (cutAt g 1 1 cap)) (l.length+2-1) (cap-1)) (b::l)::L) w:=by
 obtain⟨h1,h2,h3,cur,h4,h5,h6⟩:=gp h;have e1:(cutAt g 1 1 cap)=⟨g,1,none⟩:=by unfold cutAt;rw[if_neg ae]
 rw[e1];refine L3 (cs:=cur.toList) (cap:=cap-1) (l:=b::l) (off:=1) (fun i x hx=>?_) (by simpa using h6);have h7:(cur.toList.take ((a::b::l).length*1))[1+i]? =some (.int .i64 x):=by
  rw[h5];have h8:∀l:List Int,l.flatMap jO=l.map (Value.int .i64):=fun l=>by
   induction l with
   |nil=>rfl
   |cons x l ih=>rw[aR,ih];rfl
  rw[h8,aG,show(1+i)=i+1 by omega,List.getElem?_cons_succ,hx];rfl
 rw[List.getElem?_take]at h7;split at h7
 ·exact h7
 ·cases h7
theorem QG(w0:World)(L:List HP)(bh bd n:Nat)(H:Ho)(s:ak)(hM:o2 w0)(hB:cF n H)(hn:n<=90000)(hs:s.size<=80000):
 KC prog 140 #[bp bh,.string s] w0 (dy bh bd H::L) (fun u M=>u=.bool (gM H s).2/\M=dy bh bd (gM H s).1::L):=by
 refine KC.mk (n:=48) func140 rfl ntmps140 aj ?_;refine zm ?_;cases hi:oE s with
 |none=>
  have he:gM H s=(H,false):=by unfold gM;rw[hi]
  rw[he];refine Z8 ?_;refine KO.ce (cp:=[]) rfl rfl rfl call238 rfl (Ca w0 _ s hs hM) ?_;rintro v' L' hR;rw[hi]at hR;obtain⟨rfl,rfl⟩:=hR;refine jR ?_;refine oV ?_;refine rU ?_;refine Ai ?_;refine Dh ?_;refine HD ?_;refine KQ.bB rfl rfl (fun w' aT=>⟨_,_,rfl,⟨rfl,rfl⟩,aT⟩)
 |some l=>
  refine Z8 ?_;refine KO.ce (cp:=[]) rfl rfl rfl call238 rfl (Ca w0 _ s hs hM) ?_;rintro v' L' hR;rw[hi]at hR;obtain⟨v,rfl,rfl⟩:=hR;refine pQ ?_;refine K.fact (fun w hw=>aU (hw.pick (A:=SL 3 1 jO v l) .head)) ?_;rintro⟨ad,cap,rfl,had⟩;by_cases hl:l.length<2
  ·have he:gM H s=(H,false):=by
    unfold gM;rw[hi]
    match l,hl with
    |[],_=>rfl
    |[a],_=>rfl
   rw[he];refine zt ?_;refine rV ?_;refine qu ?_;refine wk ?_;refine qv ?_;refine Fo ?_;refine HH ?_;refine K.cL rfl (by simp[hl];try omega) ?_;refine zu ?_;refine KQ.bB rfl rfl (fun w' aT=>⟨_,_,rfl,⟨rfl,rfl⟩,aT.drop⟩)
  obtain⟨g,rfl⟩:=had ae;obtain⟨k,a,r,rfl⟩:∃k a r,l=k::a::r:=by
   match l,hl with
   |[],h=>exact absurd aj h
   |[a],h=>exact absurd aj h
   |k::a::r,_=>exact⟨k,a,r,rfl⟩
  have hld:∀z:Int,decide ((((z::a::r).length:Nat):Int)<2)=false:=fun z=>by rw[decide_eq_false_iff_not];simp;omega
  cases hk:cb H k with
  |false=>
   have qA:=hld k;have he:gM H s=(H,false):=by unfold gM;rw[hi];simp[hk]
   rw[he];refine zt ?_;refine rV ?_;refine qu ?_;refine wk ?_;refine Ak ?_;refine Z1 ?_;refine KO.on rfl rfl qA ?_;refine KO.eF (i:=0) rfl rfl runUnderlying23 sizeOf3 rfl aj rfl ?_;refine KO.on rfl rfl qA ?_;refine KO.ia (i:=0) (sz:=1) (cf:=jO) (e:=k) rfl rfl isAgg3 bQ (fun _=>rfl) rfl aP aP rfl ?_;refine KO.on rfl rfl qA ?_;refine KO.ce (cp:=[]) rfl rfl rfl call79 rfl (dX w0 _ _ bh bd H k bn) ?_;rintro v' L' ⟨rfl,rfl⟩;rw[hk];refine uL ?_;refine Z2 ?_;refine K.cL rfl (by simp[qA]) ?_;refine zu ?_;refine KQ.bB rfl rfl (fun w' aT=>⟨_,_,rfl,⟨rfl,rfl⟩,aT.drop⟩)
  |true=>
   obtain⟨qB,oe,-⟩:=bX.1 hk;obtain⟨j,rfl⟩:∃j:Nat,k=(j:Int):=⟨k.toNat,by omega⟩;have hj:j<4:=by omega
   have qA:=hld (j:Int);have he:gM H s=({H with batch:=H.batch.set j (a::r),cg:=H.cg.set j (dz H j+1)},true):=by unfold gM;rw[hi];simp[hk]
   rw[he];refine zt ?_;refine rV ?_;refine qu ?_;refine wk ?_;refine Ak ?_;refine Z1 ?_;refine KO.on rfl rfl qA ?_;refine KO.eF (i:=0) rfl rfl runUnderlying23 sizeOf3 rfl aj rfl ?_;refine KO.on rfl rfl qA ?_;refine KO.ia (i:=0) (sz:=1) (cf:=jO) (e:=(j:Int)) rfl rfl isAgg3 bQ (fun _=>rfl) rfl aP aP rfl ?_;refine KO.on rfl rfl qA ?_;refine KO.ce (cp:=[]) rfl rfl rfl call79 rfl (dX w0 _ _ bh bd H (j:Int) bn) ?_;rintro v' L' ⟨rfl,rfl⟩;rw[hk];refine uL ?_;refine Z2 ?_;refine K.da rfl (by simp[qA]) ?_;refine Z6 ?_;refine K.cq (fun _ h=>cx (h.pick bn)) ?_;rintro⟨V,hV⟩;dsimp only;refine K.fact (fun w hw=>(H7 (hw.pick (A:=SL 3 1 jO _ _) bn)).2) ?_;intro QR;have UP:=hV.bs;have qR:=hV.batch;obtain⟨bv,Bc⟩:∃e,V.bs[j]? =some e:=⟨_,ao ae⟩;obtain⟨bl,hbl⟩:∃e,H.batch[j]? =some e:=⟨_,ao ae⟩;obtain⟨c1,c2⟩:=qf (bd:=bd) hV Bc;obtain⟨mN,sH⟩:0<=dz H j/\dz H j<=(n:Int):=ni hB.ext.Ws;obtain⟨vb,hvb⟩:∃vb,vb=Value.slice (some (cutAt g 1 1 cap)) (((j:Int)::a::r).length-1) (cap-1):=⟨_,rfl⟩;have sP:∀u,iN {V with bs:=V.bs.set j u} H:=fun u=>⟨hV.ps,hV.us,by simp[UP],hV.ways,hV.aA,hV.batch,hV.cg,hV.aM⟩
   refine K.draw [.pure,.pure,.pure,.read,.pure,.pure,.pure,.pure,.pure,.write] [0,1,2,3,4,5,6,7,8,9] bC bC ?_;refine lK ?_;refine Zv ?_;refine Z1 ?_;refine KO.cutFrom (lo:=1) rfl rfl underlying23 sizeOf3 rfl aj (by simpa using QR) rfl ?_;rw[<-hvb];refine kr ?_;refine Z41 ?_;refine KO.fX (i:=22+j) rfl rfl rfl (by rw[hvb];rfl) Z_ (by rw[hvb];rfl) bQ zz O8 ?_;rw[c2];refine Z0 ?_;obtain⟨d1,d2⟩:=wZ (bd:=bd) (sP vb) hj;refine K.draw [.pure,.pure,.pure,.read,.pure,.pure,.pure,.read,.pure,.pure,.pure,.pure,.write] [0,1,2,3,4,5,6,7,8,9,10,11,12] bC bC ?_;refine lK ?_;refine Zv ?_;refine kr ?_;refine R7 ?_;refine KO.db (i:=26+j) rfl rfl isAgg3 bQ zz d1 rfl ?_;refine Ht ?_;refine R7 ?_;refine KO.fX (i:=26+j) rfl rfl rfl aP zM rfl bQ zz (by rw[qe (sP _)];omega) ?_;rw[d2];refine pP ?_;refine KQ.bB rfl rfl (fun w' aT=>⟨_,_,rfl,⟨rfl,rfl⟩,?_⟩);have h1:=PE (a:=(j:Int)) (b:=a) (l:=r) (aT.pick (A:=SL 3 1 jO (.slice (some ⟨g,0,none⟩) ((j:Int)::a::r).length cap) ((j:Int)::a::r)) bn);rw[show Value.slice (some (cutAt g 1 1 cap)) (r.length+2-1) (cap-1)=vb from hvb.symm]at h1;have h2:=dj Bc hbl (h1.pick (A:=bZ dL V.bs H.batch) bn)
   have h3:=ic (f:=dL) (ps:=V.bs) (xs:=H.batch) (i:=j) (p:=vb) (x:=a::r) ae ae (h2.all (M:=dL vb (a::r)::bZ dL (V.bs.eraseIdx j) (H.batch.eraseIdx j)::_) Y5);exact bR {V with bs:=V.bs.set j vb} ⟨hV.ps,hV.us,by simp[UP],hV.ways,hV.aA,by simp[qR],by simp[hV.cg],hV.aM⟩ (h3.all Y7)
theorem DP(q:Qu)(l:List Int)(a:Int):dF q (l++[a])=eM (dF q l) a:=by unfold dF;rw[List.foldl_append];rfl
theorem DM{w0 w:World}{L:List HP}{T:TypeId}{v:Value}{l:List Int}(hl:0<l.length)(h:St w0 (Wt T v l::L) w):
 ∃c:{c:Nat×Nat×List Value×Nat//v=.slice (some ⟨c.1,c.2.1,none⟩) l.length c.2.2.2/\∀(i:Nat) x,l[i]? =some x->c.2.2.1[c.2.1+i]? =some (Value.int .i64 x)},St w0 (bI c.1.1 (.cells c.1.2.2.1.toArray T (0,0))::L) w:=by
 obtain⟨c,h⟩:=h.Bp
 match c,h with
 |none,h=>obtain⟨⟨rfl,rfl⟩,_⟩:=h.rf;simp at hl
 |some (g,off,cs,cap),h=>obtain⟨h1,h2⟩:=h.split.rf;exact⟨⟨(g,off,cs,cap),h1⟩,h2⟩
theorem M9(w0:World)(L:List HP)(bh bd n:Nat)(H:Ho)(s:ak)(hM:o2 w0)(hB:cF n H)(hn:n<=90000)(hs:s.size<=80000):
 KC prog 141 #[bp bh,.string s] w0 (dy bh bd H::L) (fun u M=>u=.bool (eG H s).2/\M=dy bh bd (eG H s).1::L):=by
 refine KC.mk (n:=63) func141 rfl ntmps141 aj ?_;refine zm ?_;cases hi:oE s with
 |none=>
  have he:eG H s=(H,false):=by unfold eG;rw[hi]
  rw[he];refine Z8 ?_;refine KO.ce (cp:=[]) rfl rfl rfl call238 rfl (Ca w0 _ s hs hM) ?_;rintro v' L' hR;rw[hi]at hR;obtain⟨rfl,rfl⟩:=hR;refine jR ?_;refine oV ?_;refine rU ?_;refine Ai ?_;refine Dh ?_;refine HD ?_;refine KQ.bB rfl rfl (fun w' aT=>⟨_,_,rfl,⟨rfl,rfl⟩,aT⟩)
 |some l=>
  refine Z8 ?_;refine KO.ce (cp:=[]) rfl rfl rfl call238 rfl (Ca w0 _ s hs hM) ?_;rintro v' L' hR;rw[hi]at hR;obtain⟨v,rfl,rfl⟩:=hR;refine pQ ?_;refine K.fact (fun w hw=>aU (hw.pick (A:=SL 3 1 jO v l) .head)) ?_;rintro⟨ad,cap,rfl,had⟩;by_cases hl:l.length=1
  ·obtain⟨g,rfl⟩:=had ae;obtain⟨k,rfl⟩:∃k,l=[k]:=by
    match l,hl with
    |[k],_=>exact⟨k,rfl⟩
   have qA:decide ((([k].length:Nat):Int)≠1)=false:=rfl;cases hk:cb H k with
   |false=>
    have he:eG H s=(H,false):=by unfold eG;rw[hi];simp[hk]
    rw[he];refine zt ?_;refine rV ?_;refine qu ?_;refine zp ?_;refine Ak ?_;refine Z1 ?_;refine KO.on rfl rfl qA ?_;refine KO.eF (i:=0) rfl rfl runUnderlying23 sizeOf3 rfl aj rfl ?_;refine KO.on rfl rfl qA ?_;refine KO.ia (i:=0) (sz:=1) (cf:=jO) (e:=k) rfl rfl isAgg3 bQ (fun _=>rfl) rfl aP aP rfl ?_;refine KO.on rfl rfl qA ?_;refine KO.ce (cp:=[]) rfl rfl rfl call79 rfl (dX w0 _ _ bh bd H k bn) ?_;rintro v' L' ⟨rfl,rfl⟩;rw[hk];refine uL ?_;refine Ac ?_;refine zu ?_;refine KQ.bB rfl rfl (fun w' aT=>⟨_,_,rfl,⟨rfl,rfl⟩,aT.drop⟩)
   |true=>
    obtain⟨qB,oe,-⟩:=bX.1 hk;obtain⟨j,rfl⟩:∃j:Nat,k=(j:Int):=⟨k.toNat,by omega⟩;have hj:j<4:=by omega
    have he:eG H s=({H.iI j (dF (H.iq j) (cn H j))with batch:=H.batch.set j []},true):=by unfold eG;rw[hi];simp[hk]
    rw[he];refine zt ?_;refine rV ?_;refine qu ?_;refine zp ?_;refine Ak ?_;refine Z1 ?_;refine KO.on rfl rfl qA ?_;refine KO.eF (i:=0) rfl rfl runUnderlying23 sizeOf3 rfl aj rfl ?_;refine KO.on rfl rfl qA ?_;refine KO.ia (i:=0) (sz:=1) (cf:=jO) (e:=(j:Int)) rfl rfl isAgg3 bQ (fun _=>rfl) rfl aP aP rfl ?_;refine KO.on rfl rfl qA ?_;refine KO.ce (cp:=[]) rfl rfl rfl call79 rfl (dX w0 _ _ bh bd H (j:Int) bn) ?_;rintro v' L' ⟨rfl,rfl⟩;rw[hk];refine uL ?_;refine rT ?_;refine K.cq (fun _ h=>cx (h.pick bn)) ?_;rintro⟨V,hV⟩;dsimp only;have UP:=hV.bs;have qR:=hV.batch;have oS:=hV.ps;obtain⟨bv,Bc⟩:∃e,V.bs[j]? =some e:=⟨_,ao ae⟩;obtain⟨bl,uh⟩:∃e,H.batch[j]? =some e:=⟨_,ao ae⟩;have QW:cn H j=bl:=by unfold cn;rw[aq,uh];rfl
    have Yw:=hB.ext.Ta bl (ax uh);rw[QW];obtain⟨c1,c2⟩:=qf (bd:=bd) hV Bc;obtain⟨p,hp⟩:∃p,V.ps[j]? =some p:=⟨_,ao ae⟩;have hw:=od (bd:=bd) hV hj hp;have hqB:=hB.w hj;have fg:=qW hV.ways hj;refine RW ?_;refine K.fact (fun w hw=>pw (hw.pick (A:=dL bv bl) .head)) ?_;rintro⟨ba,bc,rfl⟩;refine K.draw [.pure,.pure,.pure,.read,.pure,.pure,.pure,.read,.pure,.pure] [0,1,2,3,4,5,6,7,8,9] bC bC ?_;refine lK ?_;refine Zv ?_;refine kr ?_;refine K4 ?_;refine rV ?_;refine mK ?_;refine K.loop (fun i:Nat=>[(0,bp bh),(5,.slice (some ⟨g,0,none⟩) [(j:Int)].length cap),(36,.slice ba bl.length bc),(37,.int .i64 (bl.length:Nat)),(38,.int .i64 (i:Nat))])
     (fun i=>dL (.slice ba bl.length bc) bl::bZ dL (V.bs.eraseIdx j) (H.batch.eraseIdx j)::SL 3 1 jO (.slice (some ⟨g,0,none⟩) [(j:Int)].length cap) [(j:Int)]::bI bh (.cells (eK bd V H).toArray 133 (0,0))::kA V.nv H.names::bV Value.string V.mb (dq V H)::bZ iP V.ps (H.all.set j (dF (H.iq j) (bl.take i)))::bZ cY (V.us.map (·.1)) (H.aA.map (·.aO))::bZ cV (V.us.map (·.2)) (H.aA.map (·.bf))::L)
     (fun i=>i<=bl.length) (fun i=>bl.length-i) 0 (aV _) ⟨rfl,rfl,rfl,rfl,rfl,trivial⟩ (fun w' aT=>?_) ?_
    ·rw[show H.all.set j (dF (H.iq j) (bl.take 0))=H.all from nQ fg];exact aT.all Y7
    intro i WS;refine hF ?_;refine K.br rfl (fun h=>?_) (fun h=>?_)
    ·obtain⟨x,hx⟩:∃e,bl[i]? =some e:=⟨bl[i],ao ae⟩;have Qr:dF (H.iq j) (bl.take (i+1))=eM (dF (H.iq j) (bl.take i)) x:=by rw[bG hx,DP]
     have A3:=hqB.Sl (bl.take i);have FM:=A3.len;have kC:(H.all.set j (dF (H.iq j) (bl.take i)))[j]? =some (dF (H.iq j) (bl.take i)):=List.getElem?_set_self (au.1 fg).1;generalize htm:nZ (dF (H.iq j) (bl.take i)) x=tm;obtain⟨ti,tp,tb,tq,th⟩:=tm;refine K5 ?_;refine K.cq (fun w' hw'=>DM ae (hw'.pick (A:=dL (.slice ba bl.length bc) bl) bQ)) ?_;rintro⟨⟨gb,off,cs,ahL⟩,hv,kJ⟩;dsimp only at hv kJ ⊢;simp only[Value.slice.injEq,true_and]at hv;obtain⟨rfl,rfl⟩:=hv;refine dM ?_;refine KO.Gu (i:=i) rfl rfl runUnderlying23 sizeOf3 rfl ae rfl ?_;refine KO.db (i:=off+i) rfl rfl isAgg3 bQ (by rw[Addr.add_lit,Nat.mul_one]) (kJ i x hx) rfl ?_;refine qE ?_;refine K.draw [.pure,.pure,.pure,.read,.pure,.pure,.pure,.read,.pure,.write,.pure,.pure,.pure] [0,1,2,3,4,5,6,7,8,9,10,11,12] bC bC ?_;refine lK ?_;refine Zv ?_;refine kr ?_;refine R9 ?_;refine KO.db (i:=8+j) rfl rfl isAgg119 bn zz hw rfl ?_;refine Z1 ?_;refine KO.cl (cp:=[]) rfl rfl rfl call161 rfl (KC.lW (φ:=fun v=>v=.tuple #[.agg (dh (nZ (dF (H.iq j) (bl.take i)) x)).toArray,cI 70 (jH (dF (H.iq j) (bl.take i)) x)]) hp kC bn (fun L=>LM w0 L p (dF (H.iq j) (bl.take i)) x ae)) ?_;rintro v' L' ⟨rfl,rfl⟩;rw[htm,List.set_set];refine Fh ?_;refine s8 ?_
     refine KQ.round (i+1) ae ae ⟨rfl,rfl,rfl,rfl,rfl,trivial⟩ (fun w' aT=>?_);rw[Qr];have h1:St w0 (dL (.slice (some ⟨gb,off,none⟩) bl.length bc) bl::_) w':=L3 (T:=3) (g:=gb) (off:=off) (cap:=bc) (cs:=cs) (l:=bl) kJ (aT.pick bn);exact St.all h1 Y7
    ·obtain rfl:i=bl.length:=by omega
     rw[List.take_length];refine Z9 ?_;refine K.draw [.pure,.pure,.pure,.read,.pure,.pure,.pure,.write] [0,1,2,3,4,5,6,7] bC bC ?_;refine lK ?_;refine Zv ?_;refine kr ?_;refine Z41 ?_;refine KO.fX (i:=22+j) rfl rfl rfl rfl Z_ rfl bn zz O8 ?_;rw[c2];refine pP ?_;refine KQ.bB rfl rfl (fun w' aT=>⟨_,_,rfl,⟨rfl,rfl⟩,?_⟩);have h3:=ic (f:=dL) (ps:=V.bs) (xs:=H.batch) (i:=j) (p:=.slice none 0 0) (x:=[]) ae ae (Im (aT.all (M:=bZ dL (V.bs.eraseIdx j) (H.batch.eraseIdx j)::bI bh (.cells (eK bd {V with bs:=V.bs.set j (.slice none 0 0)} H).toArray 133 (0,0))::kA V.nv H.names::bV Value.string V.mb (dq V H)::bZ iP V.ps (H.all.set j (dF (H.iq j) bl))::bZ cY (V.us.map (·.1)) (H.aA.map (·.aO))::bZ cV (V.us.map (·.2)) (H.aA.map (·.bf))::L) Y5))
     refine bR {V with bs:=V.bs.set j (.slice none 0 0)} ⟨hV.ps,hV.us,by simp[UP],by simp[Ho.iI,hV.ways],hV.aA,by simp[qR],hV.cg,hV.aM⟩ ?_;have e1:({H.iI j (dF (H.iq j) bl)with batch:=H.batch.set j []}:Ho).all=H.all.set j (dF (H.iq j) bl):=nA (by rw[hV.ways];exact hj) _;unfold zF;rw[e1];exact h3.all Y7
  ·have he:eG H s=(H,false):=by
    unfold eG;rw[hi]
    match l,hl with
    |[],_=>rfl
    |[a],h=>exact absurd rfl h
    |a::b::r,_=>rfl
   rw[he];refine zt ?_;refine rV ?_;refine qu ?_;refine zp ?_;refine qv ?_;refine Fo ?_;refine Oa ?_;refine zu ?_;refine KQ.bB rfl rfl (fun w' aT=>⟨_,_,rfl,⟨rfl,rfl⟩,aT.drop⟩)
theorem QS(w0:World)(L:List HP)(bh bd n:Nat)(H:Ho)(s:ak)(hT:o0 w0)(hM:o2 w0)(hs:s.size<=80000)(hB:cF n H)(hn:n<=90000)(hr:∀a b c l,di 47 s=[a,b,c]->rn b=some l->n+l.length<=90000/\l.length<=(di 43 c).length):
 KC prog 142 #[bp bh,.string s] w0 (dy bh bd H::L) (fun u M=>u=.bool (gO H s).2/\M=dy bh bd (gO H s).1::L):=by
 have sG:∀x∈di 47 s,x.size<=80000:=fun x hx=>by have :=gJ hx;omega
 refine KC.mk (n:=81) func142 rfl ntmps142 aj ?_;refine oX ?_;refine KO.ce (cp:=[]) rfl rfl rfl call133 rfl (kP w0 _ s 47 ae hM) ?_;rintro v' L' ⟨NZ,rfl,rfl⟩;refine kE ?_;by_cases h3:(di 47 s).length=3
 ·obtain⟨wa,wb,wc,he⟩:∃a b c,di 47 s=[a,b,c]:=by
   match h:di 47 s,h3 with
   |[a,b,c],_=>exact⟨a,b,c,rfl⟩
  have hrr:=hr wa wb wc;rw[he]at sG ⊢;have hza:=sG wa aj;have hzb:=sG wb aj;have hzc:=sG wc aj;refine Z8 ?_;refine N3 ?_;refine HQ ?_;refine Z6 ?_;have hce:gO H s=match ep wa,rn wb with
   |some k,some l=>if cb H k=true then(if(dS H (l.zip (di 43 wc))).2=true then({(dS H (l.zip (di 43 wc))).1 with aM:=H.aM.set k.toNat (dc H k.toNat+1)},true)else((dS H (l.zip (di 43 wc))).1,false))else(H,false)
   |_,_=>(H,false):=by unfold gO;rw[he];try rfl
  cases lF:ep wa with
  |none=>
   have lg:gO H s=(H,false):=by rw[hce,lF]
   rw[lg];refine Z8 ?_;refine Wa ?_;refine KO.ce (cp:=[]) rfl rfl rfl call136 rfl (gR w0 _ wa ae hM) ?_;rintro v' L' ⟨hR,rfl⟩;unfold jx at hR;rw[lF]at hR;obtain⟨xx,TT,yy,rfl⟩:=hR;refine pQ ?_;cases hm:rn wb with
   |none=>
    refine Z8 ?_;refine Xb ?_;refine KO.ce (cp:=[]) rfl rfl rfl call160 rfl (n_ w0 _ wb ae hT hM) ?_;rintro v' L' hR;unfold Sd at hR;rw[hm]at hR;obtain⟨rfl,rfl⟩:=hR;refine jR ?_;refine uO ?_;refine xa ?_;refine Ai ?_;refine HD ?_;refine KQ.bB rfl rfl (fun w' aT=>⟨_,_,rfl,⟨rfl,rfl⟩,aT.all Y1⟩)
   |some l=>
    refine Z8 ?_;refine Xb ?_;refine KO.ce (cp:=[]) rfl rfl rfl call160 rfl (n_ w0 _ wb ae hT hM) ?_;rintro v' L' hR;unfold Sd at hR;rw[hm]at hR;obtain⟨v,rfl,rfl⟩:=hR;refine jR ?_;refine uO ?_;refine xa ?_;refine Ai ?_;refine HD ?_;refine KQ.bB rfl rfl (fun w' aT=>⟨_,_,rfl,⟨rfl,rfl⟩,aT.all Y1⟩)
  |some k=>
   cases hm:rn wb with
   |none=>
    have lg:gO H s=(H,false):=by rw[hce,lF,hm]
    rw[lg];refine Z8 ?_;refine Wa ?_;refine KO.ce (cp:=[]) rfl rfl rfl call136 rfl (gR w0 _ wa ae hM) ?_;rintro v' L' ⟨hR,rfl⟩;unfold jx at hR;rw[lF]at hR;subst hR;refine jR ?_;refine Xb ?_;refine KO.ce (cp:=[]) rfl rfl rfl call160 rfl (n_ w0 _ wb ae hT hM) ?_;rintro v' L' hR;unfold Sd at hR;rw[hm]at hR;obtain⟨rfl,rfl⟩:=hR;refine Fs ?_;refine CP ?_;refine qv ?_;refine CY ?_;refine HD ?_;refine KQ.bB rfl rfl (fun w' aT=>⟨_,_,rfl,⟨rfl,rfl⟩,aT.all Y1⟩)
   |some l=>
    obtain⟨pa,WM⟩:=hrr l he hm;have ib:∀m∈l,bM m=true:=fun m IJ=>dx (mY hm).1 m IJ
    refine Z8 ?_;refine Wa ?_;refine KO.ce (cp:=[]) rfl rfl rfl call136 rfl (gR w0 _ wa ae hM) ?_;rintro v' L' ⟨hR,rfl⟩;unfold jx at hR;rw[lF]at hR;subst hR;refine jR ?_;refine Xb ?_;refine KO.ce (cp:=[]) rfl rfl rfl call160 rfl (n_ w0 _ wb ae hT hM) ?_;rintro v' L' hR;unfold Sd at hR;rw[hm]at hR;obtain⟨v,rfl,rfl⟩:=hR;refine pQ ?_;refine K.fact (fun w hw=>aU (hw.pick (A:=SL 44 5 dh v l) .head)) ?_;rintro⟨ad,cap,rfl,had⟩;cases hk:cb H k with
    |false=>
     have lg:gO H s=(H,false):=by rw[hce,lF,hm];simp[hk]
     rw[lg];refine Hk ?_;refine CS ?_;refine Z1 ?_;refine KO.on rfl rfl rfl ?_;refine KO.ce (cp:=[]) rfl rfl rfl call79 rfl (dX w0 _ _ bh bd H k bn) ?_;rintro v' L' ⟨rfl,rfl⟩;rw[hk];refine uL ?_;refine Ac ?_;refine zu ?_;refine KQ.bB rfl rfl (fun w' aT=>⟨_,_,rfl,⟨rfl,rfl⟩,aT.all Y1⟩)
    |true=>
     obtain⟨qB,oe,-⟩:=bX.1 hk;obtain⟨j,rfl⟩:∃j:Nat,k=(j:Int):=⟨k.toNat,by omega⟩;have hj:j<4:=by omega
     have lg:gO H s=if(dS H (l.zip (di 43 wc))).2=true then({(dS H (l.zip (di 43 wc))).1 with aM:=H.aM.set j (dc H j+1)},true)else((dS H (l.zip (di 43 wc))).1,false):=by rw[hce,lF,hm];simp[hk]
     have mG:=ri 43 wc;refine Hk ?_;refine CS ?_;refine Z1 ?_;refine KO.on rfl rfl rfl ?_;refine KO.ce (cp:=[]) rfl rfl rfl call79 rfl (dX w0 _ _ bh bd H (j:Int) bn) ?_;rintro v' L' ⟨rfl,rfl⟩;rw[hk];refine uL ?_;refine rT ?_;refine Z8 ?_;refine KO.eF (i:=2) rfl rfl runUnderlying115 sizeOf9 rfl aj rfl ?_;refine ZA ?_;refine KO.ce (cp:=[]) rfl rfl rfl call133 rfl (kP w0 _ wc 43 ae hM) ?_;rintro v' L' ⟨b48,rfl,rfl⟩;refine lL ?_;refine CU ?_;generalize di 43 wc=ts at WM lg mG ⊢;have J6:(l.zip ts).length=l.length:=by rw[List.length_zip];omega
     refine K.loop (fun p:Nat×Ho=>[(0,bp bh),(6,.int .i64 (j:Nat)),(10,.slice (some ⟨b48,0,none⟩) ts.length ts.length),(49,.slice ad l.length cap),(50,.int .i64 (l.length:Nat)),(51,.int .i64 (p.1:Nat))]) (fun p=>dy bh bd p.2::kO (.slice (some ⟨b48,0,none⟩) ts.length ts.length) ts::SL 44 5 dh (.slice ad l.length cap) l::L) (fun p=>p.1<=l.length/\cF (n+p.1) p.2/\dS p.2 ((l.zip ts).drop p.1)=dS H (l.zip ts)/\p.2.aM=H.aM) (fun p=>l.length-p.1) (0,H)
      ⟨aV _,hB,rfl,rfl⟩ ⟨rfl,rfl,rfl,rfl,rfl,rfl,trivial⟩ (fun _ h=>h.all Y1) ?_
     rintro⟨i,H1⟩ ⟨hi,gP,mH,YD⟩;dsimp only at hi gP mH YD ⊢;refine hF ?_;refine K.br rfl (fun h=>?_) (fun h=>?_)
     ·obtain⟨m,Kf⟩:∃e,l[i]? =some e:=⟨l[i],ao ae⟩;obtain⟨t,WA⟩:∃e,ts[i]? =some e:=⟨ts[i],ao ae⟩;have zW:=ib m (ax Kf);obtain⟨m1,m2,m3,m4,-,-,m7,m8⟩:=bN zW;obtain⟨g,rfl⟩:=had ae;have r0:(l.zip ts).drop i=(m,t)::(l.zip ts).drop (i+1):=by
       have hz:(l.zip ts)[i]? =some (m,t):=by rw[List.getElem?_zip_eq_some];exact⟨Kf,WA⟩
       obtain⟨h1,e⟩:=au.1 hz;rw[<-e];exact List.drop_eq_getElem_cons h1
      rw[r0,dS]at mH;have MX:small m.pri:=by unfold small;omega
      obtain⟨mi,mp,mb,mq,mh⟩:=m;dsimp only at m1 m2 m3 m4 m7 m8 MX;refine sZ ?_;refine V7 ?_;refine KO.alloc rfl zeroValue44 aP rfl ?_;intro O5;refine Z7 ?_;refine zn ?_;refine K.cq (fun _ h=>cx (h.pick bn)) ?_;rintro⟨V,hV⟩;dsimp only;have oS:=hV.ps;have hg:=ki hV t;obtain⟨zv,Gw⟩:∃zv,zv=(en (dq V H1) t).getD (.pointer none):=⟨_,rfl⟩;refine K.draw [.pure,.pure,.pure,.read,.pure,.pure,.pure,.read,.read,.pure] [0,1,2,3,4,5,6,7,8,9] bC bC ?_;refine lq ?_;refine VL ?_;refine lK ?_;refine KO.eF (i:=i) rfl rfl runUnderlying115 sizeOf9 rfl ae rfl ?_;refine KO.ia (i:=i) (sz:=1) (cf:=j7) (e:=t) rfl rfl isAgg9 bn (fun _=>rfl) WA aj aP rfl ?_;refine KO.Ek fI t rfl rfl rfl underlying123 underlying9 zeroValue119 bn rfl ?_;rw[<-Gw];refine kE ?_;cases hq:H1.qI t with
      |none=>
       rw[hq]at hg mH;rw[hg]at Gw;subst Gw;dsimp only at mH;refine Z8 ?_;refine KO.Rk rfl underlying119 rfl ?_;refine Ac ?_;refine Z3 ?_;refine kG ?_;refine KQ.bB rfl rfl (fun w' aT=>⟨_,_,rfl,⟨?_,rfl⟩,?_⟩)
       ·rw[lg,<-mH];rfl
       ·rw[lg,<-mH];exact bR V hV (aT.all Y5)
      |some q=>
       have WG:=(ji hq).1;obtain⟨p,hp⟩:∃p,V.ps[4+q]? =some p:=⟨_,ao ae⟩;rw[hq]at hg mH;simp only[Option.bind_some,hp,Option.map_some]at hg;rw[hg]at Gw;subst Gw;dsimp only at mH;refine Z8 ?_;refine KO.yX rfl underlying119 rfl ?_;refine Hj ?_;refine FD ?_;refine Z8 ?_;refine Al ?_;refine KO.cl (cp:=[]) rfl rfl rfl call147 rfl (KC.lW (φ:=fun v=>v=.tuple #[]) hp (oI hV.ways WG) bn (fun L=>B1 w0 L p (H1.dP q) ⟨mi,mp,mb,mq,mh⟩ (-1) ((gP.qa WG).ok ae) MX)) ?_;rintro v' L' ⟨rfl,rfl⟩;refine s8 ?_;refine KQ.round (i+1,H1.eP q (cP (H1.dP q) ⟨mi,mp,mb,mq,mh⟩ (-1))) ⟨by dsimp only;omega,?_,mH,YD⟩ gV ⟨rfl,rfl,rfl,rfl,rfl,rfl,trivial⟩ (fun w' aT=>?_)
       ·exact(gP.le (Nat.le_succ _)).eP ((gP.qa WG).mC ⟨by dsimp only;omega,by dsimp only;omega⟩ ⟨by dsimp only;omega,by dsimp only;omega⟩ (-1)) q
       ·have h1:=yC V hV q _ (L:=kO (.slice (some ⟨b48,0,none⟩) ts.length ts.length) ts::SL 44 5 dh (.slice (some ⟨g,0,none⟩) l.length cap) l::L) (aT.all Y5);exact h1
     ·obtain rfl:i=l.length:=by omega
      rw[show(l.zip ts).drop l.length=[]by rw[<-J6];exact List.drop_length,dS]at mH;rw[<-mH]at lg;rw[lg,if_pos rfl];refine Z9 ?_;refine K.cq (fun _ h=>cx (h.pick bQ)) ?_;rintro⟨V,hV⟩;dsimp only;have acW:dc H1 j=dc H j:=by unfold dc;rw[YD]
      obtain⟨d1,d2⟩:=w4 (bd:=bd) hV hj;obtain⟨UU,ha9⟩:0<=dc H j/\dc H j<=(n:Int):=ni hB.ext.arr;rw[acW]at d1;refine K.draw [.pure,.pure,.pure,.pure,.pure,.read,.pure,.pure,.pure,.pure,.write] [0,1,2,3,4,5,6,7,8,9,10] bC bC ?_;refine rP ?_;refine RV ?_;refine Ht ?_;refine Z60 ?_;refine KO.fX (i:=30+j) rfl rfl rfl aP zM rfl bQ zz O8 ?_;rw[d2];refine pP ?_;refine KQ.bB rfl rfl (fun w' aT=>⟨_,_,rfl,⟨rfl,rfl⟩,?_⟩);rw[<-YD];exact bR V ⟨hV.ps,hV.us,hV.bs,hV.ways,hV.aA,hV.batch,hV.cg,by simp[hV.aM]⟩ (aT.all Y5)
 ·have lg:gO H s=(H,false):=by
   unfold gO;split
   ·rename_i a b c e;rw[e]at h3;exact absurd rfl h3
   ·rfl
  rw[lg];refine Z8 ?_;refine N3 ?_;refine Z2 ?_;refine K.cL rfl fx ?_;refine zu ?_;refine KQ.bB rfl rfl (fun w' aT=>⟨_,_,rfl,⟨rfl,rfl⟩,aT.drop⟩)
theorem Pn(w0:World)(L:List HP)(s:ak):KE prog 138 #[.string s,.string ⟨#[45]⟩] w0 L (fun u M=>u=.string (dash s)/\M=L):=KE.bW fun w hw=>
 (Tryz.strings_TrimPrefix s ⟨#[45]⟩ w).mono fun e w' h=>⟨h.1,by rw[h.2];exact Below.refl _ _⟩
theorem Kw(s:ak):(dash s).size<=s.size:=by
 unfold dash Lib.trimPrefix;split
 ·simp only[toB,jw];simp
 ·simp only[toB,jw];simp
theorem EB(w0:World)(L:List HP)(bh bd n k:Nat)(H:Ho)(s:ak)(hT:o0 w0)(hM:o2 w0)(hB:cF n H)(hr:fF k s)(hn:n+k<=90000):
 KC prog 53 #[bp bh,.string s] w0 (dy bh bd H::L) (fun u M=>u=.bool (bY H s).2/\M=dy bh bd (bY H s).1::L):=by
 have dr:=hr.size;have lg:=(nu 58 s).2;have pa:=hB.lS;have zC:=hB.sorted;have hmx:(1000000:Nat)<=maxLen:=by decide
 refine KC.mk (n:=74) func53 rfl ntmps53 aj ?_;refine oX ?_;refine KO.ce (cp:=[]) rfl rfl rfl call135 rfl (G9 w0 _ s 58 ae hM) ?_;rintro v' L' ⟨rfl,rfl⟩;refine Fh ?_;refine rS ?_;refine lY ?_;refine lL ?_;refine N8 ?_;generalize kI:(cX 58 s).2.1=rest at lg;by_cases h1:(cX 58 s).1=b_ 110
 ·refine wB ?_;refine K.cL rfl (decide_eq_true h1) ?_;have sG:∀x∈di 32 rest,x.size<=80000:=fun x hx=>by have :=gJ hx;omega
  refine jB ?_;refine KO.ce (cp:=[]) rfl rfl rfl call133 rfl (kP w0 _ rest 32 ae hM) ?_;rintro v' L' ⟨b21,rfl,rfl⟩;refine kE ?_;by_cases h3:(di 32 rest).length=3
  ·obtain⟨wa,wb,wc,he⟩:∃a b c,di 32 rest=[a,b,c]:=by
    match h:di 32 rest,h3 with
    |[a,b,c],_=>exact⟨a,b,c,rfl⟩
   rw[he]at sG ⊢;have hza:=sG wa aj;have hzb:=sG wb aj;have hzc:=sG wc aj;have hdz:=Kw wb;have WJ:rr rest=(ep wc).map fun k=>⟨wa,dash wb,k⟩:=by unfold rr;rw[he]
   refine Z8 ?_;refine N3 ?_;refine HQ ?_;refine Z6 ?_;cases lF:ep wc with
   |none=>
    rw[lF]at WJ;have mG:bY H s=(H,false):=by unfold bY;rw[if_pos h1,kI,WJ];rfl
    rw[mG];refine Z8 ?_;refine V_ ?_;refine KO.ce (cp:=[]) rfl rfl rfl call136 rfl (gR w0 _ wc ae hM) ?_;rintro v' L' ⟨hR,rfl⟩;unfold jx at hR;rw[lF]at hR;obtain⟨xx,TT,yy,rfl⟩:=hR;refine ZQ ?_;refine Z1 ?_;refine KO.ady rfl bC rfl ?_;refine CY ?_;refine Dh ?_;refine Dh ?_;refine Dh ?_;refine Dh ?_;refine qv ?_;refine kG ?_;refine KQ.bB rfl rfl (fun w' aT=>⟨_,_,rfl,⟨rfl,rfl⟩,aT.drop⟩)
   |some kk=>
    rw[lF]at WJ;have mG:bY H s=(iL H ⟨wa,dash wb,kk⟩,decide (Ex H ⟨wa,dash wb,kk⟩=0)):=by unfold bY;rw[if_pos h1,kI,WJ];rfl
    rw[mG];refine Z8 ?_;refine V_ ?_;refine KO.ce (cp:=[]) rfl rfl rfl call136 rfl (gR w0 _ wc ae hM) ?_;rintro v' L' ⟨hR,rfl⟩;unfold jx at hR;rw[lF]at hR;subst hR;refine ZQ ?_;refine Z1 ?_;refine KO.adz rfl bC rfl ?_;refine KU ?_;refine Z1 ?_;refine KO.on rfl rfl rfl ?_;refine KO.eF (i:=0) rfl rfl runUnderlying115 sizeOf9 rfl aj rfl ?_;refine KO.on rfl rfl rfl ?_;refine KO.ia (i:=0) (sz:=1) (cf:=j7) (e:=wa) rfl rfl isAgg9 bQ (fun _=>rfl) rfl aP aP rfl ?_;refine CO ?_;refine KO.on rfl rfl rfl ?_;refine KO.eF (i:=1) rfl rfl runUnderlying115 sizeOf9 rfl aj rfl ?_;refine KO.on rfl rfl rfl ?_;refine KO.ia (i:=1) (sz:=1) (cf:=j7) (e:=wb) rfl rfl isAgg9 bQ (fun _=>rfl) rfl aP aP rfl ?_;refine CO ?_;refine KO.on rfl rfl rfl ?_;refine KO.ce (cp:=[]) rfl rfl rfl call138 rfl (Pn w0 _ wb) ?_;rintro v' L' ⟨rfl,rfl⟩;refine qu ?_;refine R0 ?_;refine KO.on rfl rfl rfl ?_;refine KO.cl (cp:=[]) rfl rfl rfl call137 rfl (KC.oN bn (Un w0 _ bh bd H ⟨wa,dash wb,kk⟩ gV gV pa zC)) ?_;rintro v' L' ⟨rfl,rfl⟩;refine qu ?_;refine KO.W3 rfl bC rfl ?_;refine wj ?_;refine kG ?_;refine KQ.bB rfl rfl (fun w' aT=>⟨_,_,rfl,⟨rfl,rfl⟩,aT.all Y1⟩)
  ·have WJ:rr rest=none:=by
    unfold rr;split
    ·rename_i a b c e;rw[e]at h3;exact absurd rfl h3
    ·rfl
   have mG:bY H s=(H,false):=by unfold bY;rw[if_pos h1,kI,WJ]
   rw[mG];refine Z8 ?_;refine N3 ?_;refine Z2 ?_;refine K.cL rfl fx ?_;refine Z3 ?_;refine kG ?_;refine KQ.bB rfl rfl (fun w' aT=>⟨_,_,rfl,⟨rfl,rfl⟩,aT.drop⟩)
 refine wB ?_;refine K.da rfl (decide_eq_false h1) ?_;refine oW ?_;by_cases h2:(cX 58 s).1=b_ 100
 ·have mG:bY H s=(sO H rest,decide (yG H rest=0)):=by unfold bY;rw[if_neg h1,if_pos h2,kI]
  rw[mG];refine wB ?_;refine K.cL rfl (decide_eq_true h2) ?_;refine rR ?_;refine KO.cl (cp:=[]) rfl rfl rfl call139 rfl (QO w0 _ bh bd H rest pa zC) ?_;rintro v' L' ⟨rfl,rfl⟩;refine KO.W3 rfl bC rfl ?_;refine kG ?_;refine KQ.bB rfl rfl (fun w' aT=>⟨_,_,rfl,⟨rfl,rfl⟩,aT⟩)
 refine wB ?_;refine K.da rfl (decide_eq_false h2) ?_;refine oW ?_;by_cases h4:(cX 58 s).1=b_ 117
 ·have mG:bY H s=eI H rest:=by unfold bY;rw[if_neg h1,if_neg h2,if_pos h4,kI]
  have M4:=hr.many h4;rw[kI]at M4;rw[mG];refine wB ?_;refine K.cL rfl (decide_eq_true h4) ?_;refine rR ?_;refine KO.cl (cp:=[]) rfl rfl rfl call65 rfl (IN w0 _ bh bd n H rest hT hM ae hB (fun l hl=>by have :=M4 l hl;omega) ae) ?_;rintro v' L' ⟨rfl,rfl⟩;refine kG ?_;refine KQ.bB rfl rfl (fun w' aT=>⟨_,_,rfl,⟨rfl,rfl⟩,aT⟩)
 refine wB ?_;refine K.da rfl (decide_eq_false h4) ?_;refine oW ?_;by_cases h5:(cX 58 s).1=b_ 98
 ·have mG:bY H s=gM H rest:=by unfold bY;rw[if_neg h1,if_neg h2,if_neg h4,if_pos h5,kI]
  rw[mG];refine wB ?_;refine K.cL rfl (decide_eq_true h5) ?_;refine rR ?_;refine KO.cl (cp:=[]) rfl rfl rfl call140 rfl (QG w0 _ bh bd n H rest hM hB ae ae) ?_;rintro v' L' ⟨rfl,rfl⟩;refine kG ?_;refine KQ.bB rfl rfl (fun w' aT=>⟨_,_,rfl,⟨rfl,rfl⟩,aT⟩)
 refine wB ?_;refine K.da rfl (decide_eq_false h5) ?_;refine oW ?_;by_cases h6:(cX 58 s).1=b_ 97
 ·have mG:bY H s=eG H rest:=by unfold bY;rw[if_neg h1,if_neg h2,if_neg h4,if_neg h5,if_pos h6,kI]
  rw[mG];refine wB ?_;refine K.cL rfl (decide_eq_true h6) ?_;refine rR ?_;refine KO.cl (cp:=[]) rfl rfl rfl call141 rfl (M9 w0 _ bh bd n H rest hM hB ae ae) ?_;rintro v' L' ⟨rfl,rfl⟩;refine kG ?_;refine KQ.bB rfl rfl (fun w' aT=>⟨_,_,rfl,⟨rfl,rfl⟩,aT⟩)
 refine wB ?_;refine K.da rfl (decide_eq_false h6) ?_;refine oW ?_;by_cases h7:(cX 58 s).1=b_ 114
 ·have mG:bY H s=gO H rest:=by unfold bY;rw[if_neg h1,if_neg h2,if_neg h4,if_neg h5,if_neg h6,if_pos h7,kI]
  have SR:=hr.Rp h7;rw[kI]at SR;rw[mG];refine wB ?_;refine K.cL rfl (decide_eq_true h7) ?_;refine rR ?_;refine KO.cl (cp:=[]) rfl rfl rfl call142 rfl (QS w0 _ bh bd n H rest hT hM ae hB ae (fun a b c l h8 h9=>by have :=SR a b c l h8 h9;exact⟨by omega,this.2⟩)) ?_;rintro v' L' ⟨rfl,rfl⟩;refine kG ?_;refine KQ.bB rfl rfl (fun w' aT=>⟨_,_,rfl,⟨rfl,rfl⟩,aT⟩)
 have mG:bY H s=(H,false):=by unfold bY;rw[if_neg h1,if_neg h2,if_neg h4,if_neg h5,if_neg h6,if_neg h7]
 rw[mG];refine wB ?_;refine K.da rfl (decide_eq_false h7) ?_;refine Vv ?_;refine C4 ?_;refine KQ.bB rfl rfl (fun w' aT=>⟨_,_,rfl,⟨rfl,rfl⟩,aT⟩)
theorem qd(w0:World)(L:List HP)(bh bd n k:Nat)(H:Ho)(D:Dk)(s:ak)(hT:o0 w0)(hM:o2 w0)(hB:cF n H)(hr:fF k s)(hn:n+k<=90000)(h3:D.places.length=300)(hd: -4000000000000000000<=D.left/\D.left<=9223372036854775807):
 KC prog 84 #[bp bh,.string s] w0 (dy bh bd H::fv bd D::L) (fun u M=>u=cI 70 (dV H D)/\M=dy bh bd (oJ H D s)::fv bd (fY H D s)::L):=by
 have dr:=hr.size;have hu:=hB.used;refine KC.mk (n:=15) func84 rfl ntmps84 aj ?_;refine Hu ?_;refine KO.cl (cp:=[]) rfl rfl rfl call61 rfl (MA w0 _ bh bd H D s hT h3 hd ae hu) ?_;rintro v' L' ⟨rfl,rfl⟩;refine wC ?_;refine K.br rfl (fun h=>?_) (fun h=>?_)
 ·have e:oJ H D s=dD H D:=by unfold oJ;rw[if_neg h]
  rw[e];refine Fp ?_;refine KQ.bB rfl rfl (fun w' aT=>⟨_,_,rfl,⟨rfl,rfl⟩,aT⟩)
 ·have h0:dV H D=0:=by simpa using h
  have e:oJ H D s=(bY (dD H D) s).1:=by unfold oJ;rw[if_pos h0]
  rw[e];refine Z6 ?_;refine iX ?_;refine KO.cl (cp:=[]) rfl rfl rfl call53 rfl (EB w0 _ bh bd n k (dD H D) s hT hM hB.log hr hn) ?_;rintro v' L' ⟨rfl,rfl⟩;refine pP ?_;refine KQ.bB rfl rfl (fun w' aT=>⟨_,_,rfl,⟨by rw[h0];rfl,rfl⟩,aT⟩)
end Go.Proofs.YtjhogocabcdjbabGreatDoor
namespace WB
open Go Go.RowKit
theorem F4{l:List Nm}{x:Nm}(hr:cc x=true)(hs:∀y∈l,gy y.name x.name<0)(hl:l.length<20):ew l x=l++[x]/\cG l x=0:=by
 have hk:bK l x.name=l.length:=by
  unfold bK;rw[show(l.takeWhile fun y=>decide (gy y.name x.name<0))=l from ?_];clear hl
  induction l with
  |nil=>rfl
  |cons a l ih=>
   rw[List.takeWhile_cons,if_pos (by simpa using hs a aj),ih fun y hy=>hs y (by simp[hy])]
 have hh:eN l x.name (bK l x.name)=false:=by unfold eN;rw[hk];simp
 constructor
 ·unfold ew;rw[if_neg (by simp[hr]),if_neg (by simp[hh]),if_neg ae,hk,List.take_length,List.drop_length]
 ·unfold cG;rw[if_neg (by simp[hr]),if_neg (by simp[hh]),if_neg ae]
theorem LV{l:List Nm}(hs:dH l)(hr:∀y∈l,cc y=true)(hl:l.length<=20){k:Nat}{y:Nm}(hy:l[k]? =some y):ew (l.take k) y=l.take (k+1):=by
 obtain⟨hk,rfl⟩:=au.1 hy;rw[(F4 (hr _ (List.getElem_mem hk)) (fun z hz=>?_) fx).1,bG hy];obtain⟨j,hj,rfl⟩:=List.getElem_of_mem hz;rw[bA]at hj;rw[List.getElem_take];exact List.pairwise_iff_getElem.1 hs j k ae hk ae
theorem iG{s:ak}(h:c6 s=true):1<=s.size/\s.size<=8:=by
 unfold c6 du at h;simp at h;exact⟨h.1,h.2.1⟩
theorem iJ{x:Nm}(h:cc x=true):c6 x.name=true/\(c6 x.jz=true\/x.jz=⟨#[]⟩)/\ -1<=x.ck/\x.ck<=3:=by
 unfold cc at h;simp only[a_,Bool.or_eq_true,decide_eq_true_eq]at h;refine⟨h.1,?_,h.2.1,h.2.2.1⟩;rcases h.2.2.2 with h1|h1
 ·exact .inl h1
 ·have :=h1.1;rw[ux]at this;exact .inr (of_decide_eq_true this)
theorem xR{x:Nm}(h:cc x=true):x.name.size<=8/\x.jz.size<=8:=by
 obtain⟨h1,h2,_⟩:=iJ h;refine⟨(iG h1).2,?_⟩;rcases h2 with h2|h2
 ·exact(iG h2).2
 ·rw[h2];decide
def jv (s:ak):ak:=if s=⟨#[]⟩then b_ 45 else s
def lz (x:Nm):ak:=⟨#[110,58]⟩++x.name++⟨#[32]⟩++jv x.jz++⟨#[32]⟩++bP x.ck
def cz:ak:=⟨#[100,101,97,100]⟩
theorem Ef(x:Nm):lz x=b_ 110++b_ 58++(x.name++b_ 32++(jv x.jz++b_ 32++bP x.ck)):=by
 unfold lz;rw[show(⟨#[110,58]⟩:ak)=b_ 110++b_ 58 by decide];rw[show(⟨#[32]⟩:ak)=b_ 32 from rfl];simp only[ByteArray.append_assoc]
theorem d_{c d:UInt8}(h:d≠c):oO c (b_ d):=fun b hb=>by
 simp[b_]at hb;subst hb;exact h
theorem rE(x:Nm):cX 58 (lz x)=(b_ 110,x.name++b_ 32++(jv x.jz++b_ 32++bP x.ck),true):=by
 rw[Ef,cutB_hit (d_ ai)]
theorem rb{x:Nm}(h:cc x=true):fF 1 (lz x):=by
 obtain⟨h1,h2⟩:=xR h;obtain⟨_,_,h5,h6⟩:=iJ h;have h3:=cv (n:=x.ck) ⟨by omega,by omega⟩;have h4:(jv x.jz).size<=8:=by
  unfold jv;split
  ·decide
  ·omega
 have e1:(⟨#[110,58]⟩:ak).size=2:=rfl;have e2:(⟨#[32]⟩:ak).size=1:=rfl;refine⟨?_,fun hk=>?_,fun hk=>?_⟩
 ·unfold lz;simp only[aQ];omega
 ·rw[rE]at hk;exact absurd (show b_ 110=b_ 117 from hk) ai
 ·rw[rE]at hk;exact absurd (show b_ 110=b_ 114 from hk) ai
def jI (H:Ho) (x:Nm):Int:=if cG H.names x≠0 then cG H.names x else if x.name=cz then 5 else 0
def yg (H:Ho) (D:Dk) (x:Nm):Int:=if jI H x≠0 then jI H x else dV H D
def mX (H:Ho) (D:Dk) (x:Nm):Ho:=if jI H x≠0 then H else oJ H D (lz x)
def iu (H:Ho) (D:Dk) (x:Nm):Dk:=if jI H x≠0 then D else fY H D (lz x)
end WB
namespace Go.Proofs.YtjhogocabcdjbabGreatDoor
open Tryz
open Go Go.RowKit WB
theorem PQ(w0:World)(L R R2:List HP)(b off:Nat)(cs:List Value)(T:TypeId)(v:Value)(l:List Nm)(x:Nm)(hp:bF L (bI b (.cells cs.toArray T (0,0))) R)(hq:bF R (kA v l) R2)(hc:cs[off]? =some v)(hl:l.length<=20)(hs:dH l)(hr:∀y∈l,cc y=true)(h1:x.name.size<=maxLen)(h2:x.jz.size<=maxLen):
 KC prog 83 #[.pointer (some ⟨b,off,none⟩),.agg x.cells.toArray] w0 L (fun u M=>u=cI 70 (cG l x)/\M=L):=by
 obtain⟨xn,xt,xh⟩:=x;dsimp only at h1 h2;have hmx:(1000000:Nat)<=maxLen:=by decide
 refine KC.mk (n:=20) func83 rfl ntmps83 aj ?_;refine Z3 ?_;refine KO.box rfl rfl aP rfl ?_;intro b3;refine lZ ?_;refine KO.alloc rfl zeroValue125 aP rfl ?_;intro b5;refine Fi ?_;refine KO.ce (cp:=[]) rfl rfl rfl call169 rfl (TR w0 _ _ _ b off cs T v l (.tail (.tail hp)) (.tail (.tail hq)) hc ae) ?_;rintro va L' rfl;refine KO.fact (fun w hw=>aU (E:=75) (sz:=3) (cf:=Nm.cells) (hw.pick .head)) ?_;rintro⟨ad,cap,rfl,had⟩;refine KO.len rfl underlying86 rfl ?_;refine mK ?_;refine K.loop (fun p:Nat×Value=>[(3,.pointer (some ⟨b3,0,none⟩)),(5,.pointer (some ⟨b5,0,none⟩)),(9,.slice ad l.length cap),(10,.int .i64 (l.length:Nat)),(11,.int .i64 (p.1:Nat))])
  (fun p=>bI b5 (.cells [p.2].toArray 125 (0,0))::kA p.2 (l.take p.1)::kA (.slice ad l.length cap) l::bI b3 (.cells [Value.string xn,.string xt,.int .i64 xh].toArray 75 (0,0))::L) (fun p=>p.1<=l.length) (fun p=>l.length-p.1) (0,.slice none 0 0)
  (aV _) ⟨rfl,rfl,rfl,rfl,rfl,trivial⟩ (fun _ h=>?_) ?_
 ·have h1:=cD (E:=75) (sz:=3) (cf:=Nm.cells) h;dsimp only[List.take_zero];exact h1.all Y7
 rintro⟨k,vm⟩ hk;dsimp only at hk ⊢;refine hF ?_;refine K.br rfl (fun h=>?_) (fun h=>?_)
 ·obtain⟨y,hy⟩:∃e,l[k]? =some e:=⟨l[k],ao ae⟩;obtain⟨g,rfl⟩:=had ae;have hyr:=hr y (ax hy);have dr:=xR hyr;have e1:=LV hs hr hl hy;have kj:dH (l.take k):=List.Pairwise.sublist (List.take_sublist _ _) hs;obtain⟨yn,yt,yh⟩:=y;dsimp only at dr;refine oY ?_;refine KO.eF rfl rfl runUnderlying86 sizeOf75 aP ae rfl ?_;refine KO.vS rfl rfl isAgg75 sizeOf75 bn (fun _=>rfl) tr rfl ?_;refine KO.alloc rfl zeroValue75 aP rfl ?_;intro b7;refine KO.oL rfl rfl rfl aP (by exact sizeOf75) aP bQ aP ?_;refine Z2 ?_;refine dM ?_;refine VC ?_;refine KO.cl (cp:=[]) rfl rfl rfl call170 rfl (Gf w0 _ _ _ b5 0 [vm] 125 vm (l.take k) ⟨yn,yt,yh⟩ bn bn rfl gV gV fx kj) ?_;rintro v' L' ⟨rfl,v2,rfl⟩;rw[e1,show[vm].set 0 v2=[v2]from rfl];refine s8 ?_;refine KQ.round (k+1,v2) gV gV ⟨rfl,rfl,rfl,rfl,rfl,trivial⟩ (fun _ h=>h.all Y1)
 ·have ru:k=l.length:=by omega
  subst ru;rw[List.take_length];refine Z9 ?_;refine dM ?_;refine KO.vT rfl rfl isAgg75 sizeOf75 bn aP rfl ?_;refine KO.cl (cp:=[]) rfl rfl rfl call170 rfl (Gf w0 _ _ _ b5 0 [vm] 125 vm l ⟨xn,xt,xh⟩ bQ bQ rfl h1 h2 hl hs) ?_;rintro v' L' ⟨rfl,v2,rfl⟩;refine iW ?_;refine KQ.bB rfl rfl (fun w' aT=>⟨_,_,rfl,⟨rfl,rfl⟩,aT.all (by with_reducible repeat(first|exact iB.refl|apply iB.drop))⟩)
theorem QE(w0:World)(L:List HP)(bh bd n:Nat)(H:Ho)(D:Dk)(x:Nm)(hT:o0 w0)(hM:o2 w0)(hB:cF n H)(hn:n+1<=90000)(h3:D.places.length=300)(hd: -4000000000000000000<=D.left/\D.left<=9223372036854775807)(h1:x.name.size<=maxLen)(h2:x.jz.size<=maxLen):
 KC prog 31 #[bp bh,.agg x.cells.toArray] w0 (dy bh bd H::fv bd D::L) (fun u M=>u=cI 70 (yg H D x)/\M=dy bh bd (mX H D x)::fv bd (iu H D x)::L):=by
 have pa:=hB.lS;have zC:=hB.sorted;have jY:=fun h0:cG H.names x=0=>jc h0
 obtain⟨xn,xt,xh⟩:=x;dsimp only at h1 h2;refine KC.mk (n:=38) func31 rfl ntmps31 aj ?_;refine oW ?_;refine K.cq (fun _ h=>cx h) ?_;rintro⟨V,hV⟩;dsimp only;refine K.fact (fun w hw=>aU (E:=75) (sz:=3) (cf:=Nm.cells) (v:=V.nv) (xs:=H.names) (hw.pick (A:=kA V.nv H.names) bn)) ?_;rintro⟨na,nk,hnv,-⟩;refine dM ?_;refine KO.box rfl rfl aP rfl ?_;intro b3;refine uN ?_;refine RB ?_;refine KO.T6 (us:=[V.nv]) rfl rfl isAgg125 sizeOf125 bn aP aP rfl ?_;refine KO.alloc rfl zeroValue125 aP rfl ?_;intro b5;refine KO.oL (us:=[V.nv]) rfl rfl rfl (by rw[hnv];rfl) (by exact sizeOf125) (by rw[hnv];rfl) bQ aP ?_;refine wA ?_;refine KO.vT rfl rfl isAgg75 sizeOf75 bn aP rfl ?_;refine KO.cl (cp:=[]) rfl rfl rfl call83 rfl (PQ w0 _ _ _ b5 0 [V.nv] 125 V.nv H.names ⟨xn,xt,xh⟩ bQ bn rfl pa zC hB.right h1 h2) ?_;rintro v' L' ⟨rfl,rfl⟩;refine wC ?_;refine K.br rfl (fun h=>?_) (fun h=>?_)
 ·have o_:jI H ⟨xn,xt,xh⟩=cG H.names ⟨xn,xt,xh⟩:=by unfold jI;rw[if_pos h]
  refine Fp ?_;refine KQ.bB rfl rfl (fun w' aT=>⟨_,_,rfl,⟨?_,rfl⟩,?_⟩)
  ·unfold yg;rw[o_,if_pos h]
  ·unfold mX iu;rw[o_,if_pos h,if_pos h];exact bR V hV (aT.all Y5)
 have h0:cG H.names ⟨xn,xt,xh⟩=0:=by simpa using h
 have hr0:=rb (jY h0);have dr:=xR (jY h0);obtain⟨-,-,wY,Eu⟩:=iJ (jY h0);dsimp only at dr wY Eu;refine wx ?_;refine Oi ?_;refine s_ ?_;refine zo ?_;refine Z2 ?_;refine K.br rfl (fun h5=>?_) (fun h5=>?_)
 ·have o_:jI H ⟨xn,xt,xh⟩=5:=by unfold jI;exact(if_neg h).trans (if_pos h5)
  refine rO ?_;refine KQ.bB rfl rfl (fun w' aT=>⟨_,_,rfl,⟨?_,rfl⟩,?_⟩)
  ·unfold yg;rw[o_];rfl
  ·unfold mX iu;rw[o_,if_pos ai,if_pos ai];exact bR V hV (aT.all Y5)
 have o_:jI H ⟨xn,xt,xh⟩=0:=by unfold jI;exact(if_neg h).trans (if_neg h5)
 refine wx ?_;refine KO.fw (off:=1) rfl runUnderlying75 rfl rfl sizeOf9 rfl ?_;refine s_ ?_;refine lL ?_;refine zo ?_;refine Z2 ?_;refine K.cut (fun _:Unit=>[(0,bp bh),(3,.pointer (some ⟨b3,0,none⟩)),(7,.string (jv xt))]) (fun _=>dy bh bd H::fv bd D::bI b3 (.cells [Value.string xn,.string xt,.int .i64 xh].toArray 75 (0,0))::L) (fun _=>True) ?_ ?_
 ·refine K.br rfl (fun h8=>?_) (fun h8=>?_)
  ·(skip)
   refine dM ?_;refine uR ?_;exact KQ.qL () trivial ⟨rfl,rfl,by unfold jv;rw[if_pos h8];rfl,trivial⟩ (fun w' aT=>bR V hV (aT.all Y5))
  ·refine CW ?_;exact KQ.qL () trivial ⟨rfl,rfl,by unfold jv;rw[if_neg h8];rfl,trivial⟩ (fun w' aT=>bR V hV (aT.all Y5))
 ·rintro⟨⟩-
  try dsimp only
  have hi:=cv (n:=xh) ⟨by omega,by omega⟩;have hdz:(jv xt).size<=8:=by
   unfold jv;split
   ·decide
   ·omega
  have z1:(⟨#[110,58]⟩:ak).size=2:=rfl;have z2:(⟨#[32]⟩:ak).size=1:=rfl;have z3:(⟨#[110,58]⟩++xn:ak).size<=10:=by simp only[aQ];omega
  have z4:(⟨#[110,58]⟩++xn++⟨#[32]⟩:ak).size<=11:=by simp only[aQ];omega
  have z5:(⟨#[110,58]⟩++xn++⟨#[32]⟩++jv xt:ak).size<=19:=by simp only[aQ];omega
  have z6:(⟨#[110,58]⟩++xn++⟨#[32]⟩++jv xt++⟨#[32]⟩:ak).size<=20:=by simp only[aQ];omega
  refine oW ?_;refine K.draw [.pure,.pure,.read,.pure,.pure,.pure,.pure,.pure,.pure,.read,.c7,.pure,.write,.pure] [0,1,2,3,4,5,6,7,8,9,10,11,12,13] bC bC ?_;refine Z1 ?_;refine Oi ?_;refine s_ ?_;refine pR ?_;refine pR ?_;refine Z1 ?_;refine pR ?_;refine pR ?_;refine KO.fw (off:=2) rfl runUnderlying75 rfl rfl sizeOf3 rfl ?_;refine zL ?_;refine KO.ce (cp:=[]) rfl rfl rfl call59 rfl (jM w0 _ xh hT ⟨by omega,by omega⟩) ?_;rintro v' L' ⟨rfl,rfl⟩;refine pR ?_;refine KO.cl (cp:=[]) rfl rfl rfl call84 rfl (qd w0 _ bh bd n 1 H D (lz ⟨xn,xt,xh⟩) hT hM hB hr0 hn h3 hd) ?_;rintro v' L' ⟨rfl,rfl⟩;refine iW ?_;refine KQ.bB rfl rfl (fun w' aT=>⟨_,_,rfl,⟨?_,rfl⟩,?_⟩)
  ·unfold yg;rw[o_];rfl
  ·unfold mX iu;rw[o_,if_neg ai,if_neg ai];exact aT.all Y5
end Go.Proofs.YtjhogocabcdjbabGreatDoor
namespace WB
open Go Go.RowKit
namespace Ho
def r4 (H:Ho) (j:Nat):Qu:=H.all.getD j default
def eo (H:Ho) (j:Nat) (q:Qu):Ho:=if j<4 then H.iI j q else H.eP (j-4) q
end Ho
section
variable {n:Nat} {H:Ho} {q:Qu} {i j:Nat}
theorem nU(j:Nat)(q:Qu):(H.eo j q).names=H.names:=by unfold Ho.eo;split<;>rfl
theorem sf(j:Nat)(q:Qu):(H.eo j q).aK.map (·.1)=H.aK.map (·.1):=by
 unfold Ho.eo;split
 ·rfl
 ·exact jb _ _
theorem AE(j:Nat)(q:Qu):(H.eo j q).aK.length=H.aK.length:=by
 have :=congrArg List.length (sf (H:=H) j q);simpa using this
theorem gG(j:Nat)(q:Qu):(H.eo j q).aA=H.aA:=by unfold Ho.eo;split<;>rfl
theorem q8(j:Nat)(q:Qu):(H.eo j q).batch=H.batch:=by unfold Ho.eo;split<;>rfl
theorem wL(j:Nat)(q:Qu):(H.eo j q).id=H.id:=by unfold Ho.eo;split<;>rfl
theorem mU(j:Nat)(q:Qu):(H.eo j q).used=H.used:=by unfold Ho.eo;split<;>rfl
theorem Jv(j:Nat)(q:Qu):(H.eo j q).down=H.down:=by unfold Ho.eo;split<;>rfl
theorem Ju(j:Nat)(q:Qu):(H.eo j q).cZ=H.cZ:=by unfold Ho.eo;split<;>rfl
theorem tH(j:Nat)(q:Qu):(H.eo j q).cg=H.cg:=by unfold Ho.eo;split<;>rfl
theorem nV(j:Nat)(q:Qu):(H.eo j q).aM=H.aM:=by unfold Ho.eo;split<;>rfl
theorem Jt(j:Nat)(q:Qu):(H.eo j q).ways.length=H.ways.length:=by unfold Ho.eo;split<;>simp[Ho.iI,Ho.eP]
theorem zj(h4:H.ways.length=4)(j:Nat)(q:Qu):(H.eo j q).all=H.all.set j q:=by
 unfold Ho.eo;split
 ·exact nA ae q
 ·rw[kq h4,show 4+(j-4)=j by omega]
theorem BK(hj:j<H.all.length):H.all[j]? =some (H.r4 j):=by
 unfold Ho.r4;rw[aq,ao hj];rfl
theorem Zt(h4:H.ways.length=4)(hj:j<4):H.r4 j=H.iq j:=by
 have h1:=qW h4 hj;have h2:H.all[j]? =some (H.r4 j):=BK (by rw[ot h4];omega);rw[h1]at h2;exact(Option.some.inj h2).symm
theorem cF.a(h:cF n H)(hj:j<H.all.length):QB n (H.r4 j):=h.qs _ (ax (BK hj))
theorem cF.eo(h:cF n H)(hq:QB n q)(j:Nat):cF n (H.eo j q):=by
 unfold Ho.eo;split
 ·exact h.iI hq tr
 ·exact h.eP hq _
end
theorem KQ.PI{P:Program}{fn:Func}{R:Ending->World->Prop}{n:Nat}{w0:World}{G:Env}{L:List HP}{v1 v2 v3 v4:Value}{t1 t2 t3 t4:Nat}(hr:fn.results=#[.tmp t1,.tmp t2,.tmp t3,.tmp t4])(h1:cQ G t1=some v1)(h2:cQ G t2=some v2)(h3:cQ G t3=some v3)(h4:cQ G t4=some v4)(h:∀w,St w0 L w->R (.returned (.tuple #[v1,v2,v3,v4])) w):KQ (bodyPost P fn R) .ret n [] w0 G L:=
 KQ.fin (fun a w ha _=>by simp[results,hr,Array.getD_eq_getD_getElem?,ha.get _ _ h1,ha.get _ _ h2,ha.get _ _ h3,ha.get _ _ h4]) h
def jA (H:Ho) (s:ak):ak×Int×Int:=
 if(fK H.names (H.names.length+1) s).2.2≠0 then(⟨#[]⟩,0,(fK H.names (H.names.length+1) s).2.2)
 else if(fK H.names (H.names.length+1) s).2.1<0\/(fK H.names (H.names.length+1) s).2.1=H.id then
  if fb H.names (fK H.names (H.names.length+1) s).1=false then(⟨#[]⟩,0,7)else((fK H.names (H.names.length+1) s).1,-1,0)
 else((fK H.names (H.names.length+1) s).1,(fK H.names (H.names.length+1) s).2.1,0)
def jV (H:Ho) (s:ak):Nat:=if(jA H s).2.1<0 then 4+(H.qI (jA H s).1).getD 0 else(jA H s).2.1.toNat
theorem xV{l:List Nm}:∀{n:Nat} {s t:ak} {k:Int},fK l n s=(t,k,0)->k= -1\/∃x∈l,x.ck=k/\0<=k
 |0,s,t,k,h=>by simp[fK]at h
 |n+1,s,t,k,h=>by
  rw[fK]at h;split at h
  ·simp at h
  ·rename_i x hx;split at h
   ·simp at h;exact .inl h.2.symm
   ·split at h
    ·rename_i h2;simp at h;refine .inr ⟨x,?_,h.2,h.2▸h2⟩;unfold look at hx;split at hx
     ·rename_i h3;simp only[az]at hx;subst hx;unfold dW;have :=ub h3;rw[aq,ao this];exact List.getElem_mem this
     ·cases hx
    ·exact xV h
theorem IB{n:Nat}{H:Ho}(hB:cF n H){s:ak}(h:fb H.names s=true):∃i,H.qI s=some i:=by
 unfold fb at h;cases hl:look H.names s with
 |none=>rw[hl]at h;cases h
 |some x=>
  rw[hl]at h;rw[me hB.sorted]at hl;obtain⟨h1,h2⟩:=p_ hl;obtain⟨i,hi⟩:=hB.loc x h1 (by simp only[ux]at h;exact of_decide_eq_true h);exact⟨i,by rw[<-h2];exact hi⟩
theorem tK{n:Nat}{H:Ho}(hB:cF n H){s:ak}(h:(jA H s).2.2=0):jV H s<H.all.length/\((jA H s).2.1<0->(jA H s).2.1= -1/\∃i,H.qI (jA H s).1=some i/\jV H s=4+i)/\(¬(jA H s).2.1<0->jV H s<4/\(jA H s).2.1=((jV H s:Nat):Int)):=by
 rw[ot hB.ways];unfold jV;unfold jA at h ⊢;split
 ·rename_i h1;rw[if_pos h1]at h;exact absurd h h1
 ·rename_i h1;rw[if_neg h1]at h;have Cv:(fK H.names (H.names.length+1) s).2.2=0:=by simpa using h1
  generalize hr:fK H.names (H.names.length+1) s=r at *;obtain⟨t,k,e⟩:=r;dsimp only at h Cv ⊢;subst Cv;split
  ·rename_i h2;rw[if_pos h2]at h;split
   ·rename_i h3;rw[if_pos h3]at h;cases h
   ·rename_i h3;obtain⟨i,hi⟩:=IB hB (s:=t) Xh;have :=(ji hi).1;dsimp only;rw[if_pos ai];refine⟨by rw[hi];simp;omega,fun _=>⟨rfl,i,hi,by rw[hi];rfl⟩,fun h=>absurd ai h⟩
  ·rename_i h2;dsimp only;have h3:¬k<0:=fun h=>h2 (.inl h)
   rw[if_neg h3];rcases xV hr with h4|⟨x,hx,hk,h0⟩
   ·omega
   ·obtain⟨-,-,-,h5⟩:=iJ (hB.right x hx);exact⟨by omega,fun h=>absurd h h3,fun _=>⟨by omega,by omega⟩⟩
theorem P9{l:List Nm}{s:ak}{x:Nm}(h:look l s=some x):x∈l/\x.name=s:=by
 unfold look at h;split at h
 ·rename_i h3;simp only[az]at h;subst h;have :=ub h3;refine⟨?_,?_⟩
  ·unfold dW;rw[aq,ao this];exact List.getElem_mem this
  ·unfold eN at h3;rw[a_]at h3;exact qj (by simpa using h3.2)
 ·cases h
theorem AI{l:List Nm}(hr:∀x∈l,cc x=true):∀{n:Nat} {s t:ak} {k:Int},fK l n s=(t,k,0)->c6 t=true
 |0,s,t,k,h=>by simp[fK]at h
 |n+1,s,t,k,h=>by
  rw[fK]at h;split at h
  ·simp at h
  ·rename_i x hx;obtain⟨h1,h2⟩:=P9 hx;obtain⟨w1,w2,-,-⟩:=iJ (hr x h1);split at h
   ·simp at h;rw[<-h.1,<-h2];exact w1
   ·rename_i he;split at h
    ·simp at h;rw[<-h.1];rcases w2 with w2|w2
     ·exact w2
     ·exact absurd (by rw[ux,w2];rfl) he
    ·exact AI hr h
theorem Ma{n:Nat}{H:Ho}(hB:cF n H){s:ak}(h:(jA H s).2.2=0):c6 (jA H s).1=true:=by
 unfold jA at h ⊢;split
 ·rename_i h1;rw[if_pos h1]at h;exact absurd h h1
 ·rename_i h1;rw[if_neg h1]at h;have Cv:(fK H.names (H.names.length+1) s).2.2=0:=by simpa using h1
  generalize hr:fK H.names (H.names.length+1) s=r at *;obtain⟨t,k,e⟩:=r;dsimp only at h Cv ⊢;subst Cv;have :=AI hB.right hr;split
  ·rename_i h2;rw[if_pos h2]at h;split
   ·rename_i h3;rw[if_pos h3]at h;cases h
   ·exact this
  ·exact this
def eA (H:Ho) (s:ak) (pri:Int) (body:ak):Ms:=⟨H.next *4+H.id,pri,body,(jA H s).1,if(jA H s).2.1<0 then H.id else(jA H s).2.1⟩
def gY (H:Ho) (u:Int) (s:ak) (pri:Int) (body:ak):Int:=
 if u<0\/5<=u then 2 else if(pri<0\/9<pri)\/ko body=false then 1 else if(jA H s).2.2≠0 then(jA H s).2.2 else if H.down=true then 6
 else ga (H.r4 (jV H s)) (eA H s pri body)
def cM (H:Ho) (u:Nat) (x:ox):Ho:={H with aA:=H.aA.set u x}
def gv (H:Ho) (u:Int) (s:ak) (pri:Int) (body:ak):Ho:=
 if gY H u s pri body=0 then
  cM {H.eo (jV H s) (mA (H.r4 (jV H s)) (eA H s pri body) u)with next:=H.next+1} u.toNat ⟨(H.fa u.toNat).aO++[(eA H s pri body,(jA H s).2.1)],(H.fa u.toNat).bf⟩
 else H
def sl (H:Ho) (u:Int) (s:ak) (pri:Int) (body:ak):Int:=if gY H u s pri body=0 then(eA H s pri body).id else 0
def iU (H:Ho) (u:Int) (s:ak):Int:=
 if u<0\/5<=u then 2 else match H.qI s with
 |none=>7
 |some i=>if s≠cz/\fb H.names s=false then 7 else if H.down=true then 6 else hI (H.dP i)
def getM (H:Ho) (u:Int) (s:ak):Ms:=if iU H u s=0 then gI (H.dP ((H.qI s).getD 0))else lr
def g_ (H:Ho) (u:Int) (s:ak):Ho:=
 if iU H u s=0 then cM (H.eP ((H.qI s).getD 0) (fT (H.dP ((H.qI s).getD 0)) u)) u.toNat ⟨(H.fa u.toNat).aO,(H.fa u.toNat).bf++[((gI (H.dP ((H.qI s).getD 0))).id,s)]⟩else H
theorem cF.cM{n:Nat}{H:Ho}(h:cF n H)(u:Nat)(x:ox):cF n (cM H u x):=⟨h.id,h.used,h.next,h.sorted,h.lS,h.mB,h.qs,h.nodup,h.ways,by simp[WB.cM,h.aA],h.batch,h.cg,h.aM,h.right,h.loc,h.ext⟩
theorem cF.put{n:Nat}{H:Ho}(h:cF n H)(u:Int)(s:ak)(pri:Int)(body:ak):cF (n+1) (gv H u s pri body):=by
 unfold gv;split
 ·rename_i h0;unfold gY at h0;split at h0
  ·cases h0
  ·split at h0
   ·cases h0
   ·split at h0
    ·exact absurd h0 tr
    ·rename_i h1;split at h0
     ·cases h0
     ·have hj:=(tK h (s:=s) K6).1;have hn:H.next+1<=274877906945:=by
       unfold ga at h0;cases hr:bM (eA H s pri body)with
       |false=>rw[if_pos hr]at h0;cases h0
       |true=>
        have h2:=(bN hr).2.1;have :=h.id;unfold eA at h2;dsimp only at h2;omega
      have hx:=h.next
      exact cF.cM (((h.le (Nat.le_succ n)).eo ((h.a hj).put _ u) _).P1 ⟨by omega,hn⟩) _ _
 ·exact h.le (Nat.le_succ n)
theorem cF.get{n:Nat}{H:Ho}(h:cF n H)(u:Int)(s:ak):cF n (g_ H u s):=by
 unfold g_;split
 ·rename_i h0;unfold iU at h0;split at h0
  ·cases h0
  ·cases hq:H.qI s with
   |none=>rw[hq]at h0;cases h0
   |some i=>exact cF.cM (h.eP ((h.qa (ji hq).1).get u) _) _ _
 ·exact h
end WB
namespace Go.Proofs.YtjhogocabcdjbabGreatDoor
open Tryz
open Go Go.RowKit WB
theorem A8{w0 w:World}{bh bd:Nat}{H:Ho}{L:List HP}{V:r5}(hV:iN V H){cs:List Value}{nv:Value}{l:List Nm}{m:List (ak×Value)}{mb:Nat}{ps:List Nat}{a:List Qu}{p1 p2 bs:List Value}{u1:List (List (Ms×Int))}{u2:List (List (Int×ak))}{ba:List (List Int)}(h:St w0 (bI bh (.cells cs.toArray 133 (0,0))::kA nv l::bV Value.string mb m::bZ iP ps a::bZ cY p1 u1::bZ cV p2 u2::bZ dL bs ba::L) w)(e1:cs=eK bd V H)(e2:nv=V.nv)(e3:l=H.names)(e4:m=dq V H)(e5:mb=V.mb)(e6:ps=V.ps)(e7:a=H.all)(e8:p1=V.us.map (·.1))(e9:u1=H.aA.map (·.aO))(e10:p2=V.us.map (·.2))(e11:u2=H.aA.map (·.bf))(e12:bs=V.bs)(e13:ba=H.batch):
 St w0 (dy bh bd H::L) w:=by
 subst e1 e2 e3 e4 e5 e6 e7 e8 e9 e10 e11 e12 e13;exact bR V hV h
theorem flat_get:∀(us:List (Value×Value)) (u:Nat) (p:Value×Value),us[u]? =some p->(us.flatMap (fun p=>[p.1,p.2]))[2*u]? =some p.1/\(us.flatMap (fun p=>[p.1,p.2]))[2*u+1]? =some p.2
 |[],_,_,h=>by simp at h
 |a::us,0,p,h=>by simp at h;subst h;exact⟨rfl,rfl⟩
 |a::us,u+1,p,h=>by
  have ih:=flat_get us u p H4;rw[aR,show 2*(u+1)=2*u+2 by omega];exact⟨ih.1,ih.2⟩
theorem yO:∀(us:List (Value×Value)) (u:Nat) (p:Value×Value) (v:Value),us[u]? =some p->(us.flatMap (fun p=>[p.1,p.2])).set (2*u) v=(us.set u (v,p.2)).flatMap (fun p=>[p.1,p.2])/\(us.flatMap (fun p=>[p.1,p.2])).set (2*u+1) v=(us.set u (p.1,v)).flatMap (fun p=>[p.1,p.2])
 |[],_,_,_,h=>by simp at h
 |a::us,0,p,v,h=>by simp at h;subst h;exact⟨rfl,rfl⟩
 |a::us,u+1,p,v,h=>by
  have ih:=yO us u p v H4;rw[aR,show 2*(u+1)=2*u+2 by omega,List.set_cons_succ,List.set_cons_succ,aR,aR,<-ih.1,<-ih.2];exact⟨rfl,rfl⟩
theorem nf{bd:Nat}{V:r5}{H:Ho}(hV:iN V H){u:Nat}{p:Value×Value}(hp:V.us[u]? =some p):
 (eK bd V H)[12+2*u]? =some p.1/\(eK bd V H)[13+2*u]? =some p.2/\(∀v,(eK bd V H).set (12+2*u) v=eK bd {V with us:=V.us.set u (v,p.2)} H)/\(∀v,(eK bd V H).set (13+2*u) v=eK bd {V with us:=V.us.set u (p.1,v)} H):=by
 have oS:=hV.ps;have hu:=(au.1 hp).1;have WZ:(([.int .i64 H.id,bp bd,.int .i64 (H.used:Nat),.bool H.down,.int .i64 H.cZ,.int .i64 H.next,V.nv,.map (some V.mb)]:List Value)++(V.ps.take 4).map bp).length=12:=by simp[oS]
 have Lh:=kl V.us;obtain⟨g1,g2⟩:=flat_get V.us u p hp;have s1:=fun v=>(yO V.us u p v hp).1
 have s2:=fun v=>(yO V.us u p v hp).2
 simp only[A_];generalize ([.int .i64 H.id,bp bd,.int .i64 (H.used:Nat),.bool H.down,.int .i64 H.cZ,.int .i64 H.next,V.nv,.map (some V.mb)]:List Value)++(V.ps.take 4).map bp=A at WZ;refine⟨?_,?_,fun v=>?_,fun v=>?_⟩
 ·rw[aY ae,WZ,show 12+2*u-12=2*u by omega,List.getElem?_append_left ae,g1]
 ·rw[aY ae,WZ,show 13+2*u-12=2*u+1 by omega,List.getElem?_append_left ae,g2]
 ·rw[List.set_append_right _ _ ae,WZ,show 12+2*u-12=2*u by omega,List.set_append_left _ _ ae,s1]
 ·rw[List.set_append_right _ _ ae,WZ,show 13+2*u-12=2*u+1 by omega,List.set_append_left _ _ ae,s2]
def PS (V:r5) (H:Ho) (s:ak):Value:=if(jA H s).2.2≠0 then .pointer none else match V.ps[jV H s]? with
 |some p=>bp p
 |none=>.pointer none
theorem PR(w0:World)(L:List HP)(bh bd n:Nat)(V:r5)(H:Ho)(s:ak)(hV:iN V H)(hB:cF n H):
 KC prog 55 #[bp bh,.string s] w0 (zF bh bd V H L) (fun u M=>u=.tuple #[PS V H s,.string (jA H s).1,.int .i64 (jA H s).2.1,cI 70 (jA H s).2.2]/\M=zF bh bd V H L):=by
 have pa:=hB.lS;have zC:=hB.sorted;have oS:=hV.ps;have dt:=tK hB (s:=s);have fin:∀(a:Value) (b:ak) (c d:Int),PS V H s=a->jA H s=(b,c,d)->(Value.tuple #[a,.string b,.int .i64 c,cI 70 d])=.tuple #[PS V H s,.string (jA H s).1,.int .i64 (jA H s).2.1,cI 70 (jA H s).2.2]:=fun a b c d h1 h2=>by rw[h1,h2]
 refine KC.mk (n:=54) func55 rfl ntmps55 aj ?_;refine Z3 ?_;refine lY ?_;refine Z7 ?_;refine uN ?_;refine RB ?_;refine Z1 ?_;refine KO.ce (cp:=[]) rfl rfl rfl call144 rfl (JB w0 _ _ _ bh 6 (eK bd V H) 133 V.nv H.names s bQ bQ rfl ae zC) ?_;rintro v' L' ⟨rfl,rfl⟩;refine Fh ?_;refine rS ?_;refine lY ?_;refine Z7 ?_;refine N8 ?_;obtain⟨⟨t,k,e⟩,hr⟩:∃r,fK H.names (H.names.length+1) s=r:=⟨_,rfl⟩;have zD:jA H s=(if e≠0 then(⟨#[]⟩,0,e)else if k<0\/k=H.id then if fb H.names t=false then(⟨#[]⟩,0,7)else(t,-1,0)else(t,k,0)):=by unfold jA;rw[hr]
 rw[hr];refine Z8 ?_;refine CP ?_;refine qE ?_;refine K.br rfl (fun h=>?_) (fun h=>?_)
 ·rw[if_pos h]at zD;refine jB ?_;refine lY ?_;refine Z7 ?_;refine kG ?_;refine KQ.PI rfl rfl rfl rfl rfl (fun w' aT=>⟨_,_,rfl,⟨fin _ _ _ _ ?_ zD,rfl⟩,aT⟩);unfold PS;rw[zD,if_pos h]
 rw[if_neg h]at zD;have Km:e=0:=by simpa using h
 subst Km;refine oW ?_;refine K.cut (fun _:Unit=>[(0,bp bh),(5,.string t),(6,.int .i64 k),(21,.bool (decide (k<0\/k=H.id)))]) (fun _=>zF bh bd V H L) (fun _=>True) ?_ ?_
 ·by_cases qB:k<0
  ·refine wD ?_;refine Fo ?_;refine qY ?_;refine uR ?_;exact KQ.qL () trivial ⟨rfl,rfl,rfl,by simp[qB,cQ],trivial⟩ (fun w' aT=>aT)
  ·refine HX ?_;refine CL ?_;refine Hm ?_;refine FA ?_;refine KO.on rfl rfl Ow ?_;refine KO.db (i:=0) rfl rfl isAgg3 bQ rfl rfl rfl ?_;refine kF ?_;refine Jb ?_;refine wi ?_;refine uR ?_;exact KQ.qL () trivial ⟨rfl,rfl,rfl,by simp[qB,cQ],trivial⟩ (fun w' aT=>aT)
 rintro⟨⟩-;refine K.br rfl (fun hk=>?_) (fun hk=>?_)
 ·rw[if_pos hk]at zD;refine Z3 ?_;refine lq ?_;refine RB ?_;refine Z1 ?_;refine KO.ce (cp:=[]) rfl rfl rfl call57 rfl (sC w0 _ _ _ bh 6 (eK bd V H) 133 V.nv H.names t bQ bQ rfl ae zC) ?_;rintro v' L' ⟨rfl,rfl⟩;refine oV ?_;refine Z2 ?_;cases Yb:fb H.names t with
  |false=>
   rw[Yb]at zD;rw[if_pos rfl]at zD;refine uJ ?_;refine Lq ?_;refine lY ?_;refine kG ?_;refine KQ.PI rfl rfl rfl rfl rfl (fun w' aT=>⟨_,_,rfl,⟨fin _ _ _ 7 ?_ zD,rfl⟩,aT⟩);unfold PS;rw[zD];rfl
  |true=>
   rw[Yb]at zD;rw[if_neg aj]at zD;obtain⟨h1,h2,-⟩:=dt (by rw[zD]);obtain⟨-,i,hi,hj⟩:=h2 (by rw[zD];exact(by decide:(-1:Int)<0));rw[zD]at hi;have hg:=ki hV t;have oG:=(ji hi).1;obtain⟨p,hp⟩:∃p,V.ps[4+i]? =some p:=⟨_,ao ae⟩;rw[show H.qI t=some i from hi]at hg;simp only[Option.bind_some,hp,Option.map_some]at hg;refine wm ?_;refine Z6 ?_;refine Fl ?_;refine KO.Ek fI t rfl rfl rfl underlying123 underlying9 zeroValue119 bn rfl ?_;rw[hg];refine Z1 ?_;refine lY ?_;refine Z7 ?_;refine kG ?_;refine KQ.PI rfl rfl rfl rfl rfl (fun w' aT=>⟨_,_,rfl,⟨fin _ _ _ 0 ?_ zD,rfl⟩,aT⟩);unfold PS;rw[hj,hp,if_neg (by rw[zD];simp)];rfl
 ·rw[if_neg hk]at zD;obtain⟨h1,-,h2⟩:=dt (by rw[zD]);obtain⟨h3,h4⟩:=h2 (by rw[zD];exact fun h=>hk (.inl h));rw[zD]at h4;dsimp only at h4;obtain⟨p,hp⟩:∃p,V.ps[jV H s]? =some p:=⟨_,ao ae⟩;have hw:=od hV (bd:=bd) h3 hp;refine Vv ?_;refine nD ?_;refine RT ?_;refine KO.jP (i:=jV H s) rfl rfl runUnderlying126 sizeOf119 h4 ae rfl ?_;refine KO.db (i:=8+jV H s) rfl rfl isAgg119 bQ zz hw rfl ?_;refine lK ?_;refine lY ?_;refine pO ?_;refine KQ.PI rfl rfl rfl rfl rfl (fun w' aT=>⟨_,_,rfl,⟨fin _ _ _ 0 ?_ zD,rfl⟩,aT⟩);unfold PS;rw[hp,if_neg (by rw[zD];simp)]
theorem EC{w0 w:World}{bh bd:Nat}{H:Ho}{L:List HP}{V:r5}(hV:iN V H)(j:Nat)(q:Qu)(u:Nat)(k:Int)(x:ox)(p:Value×Value){p1 p2:List Value}{u1:List (List (Ms×Int))}{u2:List (List (Int×ak))}(h:St w0 (bI bh (.cells (eK bd {V with us:=V.us.set u p} {H with next:=k}).toArray 133 (0,0))::kA V.nv H.names::bV Value.string V.mb (dq V H)::bZ iP V.ps (H.all.set j q)::bZ cY p1 u1::bZ cV p2 u2::bZ dL V.bs H.batch::L) w)(e1:p1=(V.us.map (·.1)).set u p.1)(e2:p2=(V.us.map (·.2)).set u p.2)(e3:u1=(H.aA.map (·.aO)).set u x.aO)(e4:u2=(H.aA.map (·.bf)).set u x.bf):
 St w0 (dy bh bd (cM {H.eo j q with next:=k} u x)::L) w:=by
 refine A8 (V:={V with us:=V.us.set u p}) ⟨?_,by simp[hV.us],hV.bs,?_,?_,?_,?_,?_⟩ h ?_ rfl ?_ ?_ rfl rfl ?_ ?_ ?_ ?_ ?_ rfl ?_
 ·unfold cM;dsimp only;rw[AE];exact hV.ps
 ·unfold cM;dsimp only;rw[Jt];exact hV.ways
 ·unfold cM;dsimp only;rw[gG];simp[hV.aA]
 ·unfold cM;dsimp only;rw[q8];exact hV.batch
 ·unfold cM;dsimp only;rw[tH];exact hV.cg
 ·unfold cM;dsimp only;rw[nV];exact hV.aM
 ·unfold cM eK;dsimp only;rw[wL,mU,Jv,Ju,tH,nV]
 ·unfold cM;dsimp only;rw[nU]
 ·unfold cM dq;dsimp only;exact sB _ _ _ (sf j q).symm
 ·exact(zj hV.ways j q).symm
 ·rw[e1,List.map_set]
 ·rw[e3];unfold cM;dsimp only;rw[gG,List.map_set]
 ·rw[e2,List.map_set]
 ·rw[e4];unfold cM;dsimp only;rw[gG,List.map_set]
 ·unfold cM;dsimp only;rw[q8]
theorem sS{α β:Type}{l:List α}{f:α->β}{i:Nat}{x:α}{y:β}(h:l[i]? =some x)(e:f x=y):l.map f=(l.map f).set i y:=by
 rw[<-e,<-List.map_set,List.gE h]
theorem MY(w0:World)(L:List HP)(bh bd n:Nat)(H:Ho)(u:Int)(s:ak)(pri:Int)(body:ak)(hB:cF n H)(hn:n<90000)(hs:s.size<=maxLen)(hb:body.size<=maxLen)(hl:∀x∈H.aA,x.aO.length<=90000):
 KC prog 14 #[bp bh,.int .i64 u,.string s,.int .i64 pri,.string body] w0 (dy bh bd H::L) (fun v M=>v=.tuple #[.int .i64 (sl H u s pri body),cI 70 (gY H u s pri body)]/\M=dy bh bd (gv H u s pri body)::L):=by
 have hx:=hB.next
 have hid:=hB.id;have ends:∀k:Int,k≠0->gY H u s pri body=k->∀w',St w0 (dy bh bd H::L) w'->(Value.tuple #[.int .i64 0,cI 70 k]=.tuple #[.int .i64 (sl H u s pri body),cI 70 (gY H u s pri body)]/\dy bh bd H::L=dy bh bd (gv H u s pri body)::L):=fun k hk he w' _=>by
  have h0:¬gY H u s pri body=0:=by rw[he];exact hk
  unfold sl gv;rw[if_neg h0,if_neg h0,he];exact⟨rfl,rfl⟩
 refine KC.mk (n:=109) func14 rfl ntmps14 aj ?_;refine rN ?_;refine kE ?_;by_cases hu:u<0\/5<=u
 ·have he:gY H u s pri body=2:=by unfold gY;rw[if_pos hu]
  by_cases SI:u<0
  ·refine wD ?_;refine zx ?_;refine Oa ?_;refine ou ?_;refine KQ.eE rfl rfl rfl (fun w' aT=>⟨_,_,rfl,ends 2 ai he w' aT,aT⟩)
  ·refine CT ?_;refine Z2 ?_;refine K.cL rfl Ow ?_;refine ou ?_;refine KQ.eE rfl rfl rfl (fun w' aT=>⟨_,_,rfl,ends 2 ai he w' aT,aT⟩)
 refine CT ?_;refine Z2 ?_;refine K.da rfl Ow ?_;refine Z6 ?_;by_cases hp:pri<0\/9<pri
 ·have he:gY H u s pri body=1:=by unfold gY;rw[if_neg hu,if_pos (.inl hp)]
  by_cases hp0:pri<0
  ·refine wD ?_;refine zx ?_;refine qY ?_;refine rU ?_;refine wj ?_;refine Z2 ?_;refine K.cL rfl Y63 ?_;refine ou ?_;refine KQ.eE rfl rfl rfl (fun w' aT=>⟨_,_,rfl,ends 1 ai he w' aT,aT⟩)
  ·refine HX ?_;refine Hy ?_;refine Oe ?_;refine Oa ?_;refine ou ?_;refine KQ.eE rfl rfl rfl (fun w' aT=>⟨_,_,rfl,ends 1 ai he w' aT,aT⟩)
 refine HX ?_;refine Hy ?_;refine CL ?_;refine Z1 ?_;refine KO.on rfl rfl Ow ?_;refine KO.ce (cp:=[]) rfl rfl rfl call54 rfl (ze w0 _ body hb) ?_;rintro v' L' ⟨rfl,rfl⟩;refine kF ?_;refine oV ?_;refine wi ?_;refine Z2 ?_;cases Yx:ko body with
 |false=>
  have he:gY H u s pri body=1:=by unfold gY;rw[if_neg hu,if_pos (.inr Yx)]
  refine K.cL rfl aj ?_;refine ou ?_;refine KQ.eE rfl rfl rfl (fun w' aT=>⟨_,_,rfl,ends 1 ai he w' aT,aT⟩)
 |true=>
 refine K.da rfl Y63 ?_;have SI:¬((pri<0\/9<pri)\/ko body=false):=by rw[Yx];simpa using hp
 refine Z6 ?_;refine K.cq (fun _ h=>cx h) ?_;rintro⟨V,hV⟩;dsimp only;have oS:=hV.ps;refine iX ?_;refine KO.cl (cp:=[]) rfl rfl rfl call55 rfl (PR w0 L bh bd n V H s hV hB) ?_;rintro v' L' ⟨rfl,rfl⟩;refine Fh ?_;refine Z16 ?_;refine lY ?_;refine Z7 ?_;refine wC ?_;refine K.br rfl (fun h=>?_) (fun h=>?_)
 ·have he:gY H u s pri body=(jA H s).2.2:=by unfold gY;rw[if_neg hu,if_neg SI,if_pos h]
  refine jB ?_;refine Z7 ?_;refine qX ?_;refine KQ.eE rfl rfl rfl (fun w' aT=>⟨_,_,rfl,ends _ h he w' (bR V hV aT),bR V hV aT⟩)
 have h0:(jA H s).2.2=0:=by simpa using h
 refine Z6 ?_;cases rv:H.down with
 |true=>
  have he:gY H u s pri body=6:=by unfold gY;rw[if_neg hu,if_neg SI,if_neg h,if_pos rv]
  refine Fk ?_;refine Z2 ?_;refine K.cL rfl rv ?_;refine ou ?_;refine KQ.eE rfl rfl rfl (fun w' aT=>⟨_,_,rfl,ends 6 ai he w' (bR V hV aT),bR V hV aT⟩)
 |false=>
 refine Fk ?_;refine Z2 ?_;refine K.da rfl rv ?_;refine Z6 ?_;have he:gY H u s pri body=ga (H.r4 (jV H s)) (eA H s pri body):=by unfold gY;rw[if_neg hu,if_neg SI,if_neg h,if_neg Wd]
 obtain⟨hj,h2,h3⟩:=tK hB h0;have SM:=ot hV.ways;obtain⟨p,kB⟩:∃p,V.ps[jV H s]? =some p:=⟨_,ao ae⟩;have hpV:PS V H s=bp p:=by unfold PS;rw[kB,if_neg h]
 rw[hpV];refine K.draw [.pure,.pure,.pure,.read,.pure,.pure,.pure,.pure,.read,.pure,.pure,.pure,.pure,.pure,.pure,.c7,.write] [0,1,2,3,4,5,6,7,8,9,10,11,12,13,14,15,16] bC bC ?_;refine lq ?_;refine Om ?_;refine KO.db (i:=5) rfl rfl isAgg3 bQ rfl rfl rfl ?_;refine KO.mul rfl rfl rfl ae rfl ?_;refine lq ?_;refine FA ?_;refine KO.db (i:=0) rfl rfl isAgg3 bQ rfl rfl rfl ?_;refine xc ?_;refine lK ?_;refine lK ?_;refine Zw ?_;refine KO.alloc rfl zeroValue44 aP rfl ?_;intro b16;refine zn ?_;refine wD ?_;refine Z2 ?_;refine K.cut (fun _:Unit=>[(0,bp bh),(1,.int .i64 u),(12,bp p),(14,.int .i64 (jA H s).2.1),(16,.pointer (some ⟨b16,0,none⟩))]) (fun _=>bI b16 (.cells (dh (eA H s pri body)).toArray 44 (0,0))::zF bh bd V H L) (fun _=>True) ?_ ?_
 ·refine K.br rfl (fun FP=>?_) (fun FP=>?_)
  ·(skip)
   refine kX ?_;refine FA ?_;refine KO.db (i:=0) rfl rfl isAgg3 bn rfl rfl rfl ?_;refine N4 ?_
   (refine KO.Jo rfl rfl rfl aP zM aP bQ aP Y0 ?_)
   refine KO.nil ?_;exact KQ.qL () trivial ⟨rfl,rfl,rfl,rfl,rfl,trivial⟩ (fun w' aT=>by unfold eA;rw[if_pos FP];exact aT.all nI)
  ·refine CW ?_;exact KQ.qL () trivial ⟨rfl,rfl,rfl,rfl,rfl,trivial⟩ (fun w' aT=>by unfold eA;rw[if_neg FP];exact aT.all nI)
 ·rintro⟨⟩-
  try dsimp only
  have X5:=(hB.a hj).ok ae;have Ux:(eA H s pri body).queue.size<=maxLen:=Nat.le_trans (iG (Ma hB h0)).2 ai;have X_:(eA H s pri body).body.size<=maxLen:=hb;rcases vY:eA H s pri body with⟨mi,mp,mb,mq,mh⟩
  rw[vY]at Ux X_;dsimp only at Ux X_;refine jB ?_;refine CZ ?_;refine Z1 ?_;refine KO.cl (cp:=[]) rfl rfl rfl call56 rfl (KC.lW (φ:=fun v=>v=cI 70 (ga (H.r4 (jV H s)) ⟨mi,mp,mb,mq,mh⟩)) kB (BK hj) bn (fun L=>XA w0 L p (H.r4 (jV H s)) ⟨mi,mp,mb,mq,mh⟩ u X5 X_ Ux)) ?_;rintro v' L' ⟨rfl,rfl⟩;refine kE ?_;rw[vY]at he;refine Z8 ?_;refine R6 ?_;refine K.br rfl (fun WY=>?_) (fun WY=>?_)
  ·have A2:mA (H.r4 (jV H s)) ⟨mi,mp,mb,mq,mh⟩ u=H.r4 (jV H s):=by unfold mA;rw[if_neg WY]
   refine jB ?_;refine Z7 ?_;refine qX ?_;refine KQ.eE rfl rfl rfl (fun w' aT=>?_);rw[A2,nQ (BK hj)]at aT;exact⟨_,_,rfl,ends _ WY he w' (bR V hV (aT.all Y5)),bR V hV (aT.all Y5)⟩
  ·have adq:ga (H.r4 (jV H s)) ⟨mi,mp,mb,mq,mh⟩=0:=by simpa using WY
   rw[adq]at he;have Qo:u.toNat<5:=by omega
   have J9:u=((u.toNat:Nat):Int):=by omega
   have Ce:=hV.us;have iy:=hV.aA;obtain⟨pv,Ey⟩:∃e,V.us[u.toNat]? =some e:=⟨_,ao ae⟩;obtain⟨x,Cd⟩:∃e,H.aA[u.toNat]? =some e:=⟨_,ao ae⟩;have rZ:=hl x (ax Cd);have Ld:H.fa u.toNat=x:=by unfold Ho.fa;rw[aq,Cd];rfl
   have GV:iN V {H with next:=H.next+1}:=⟨hV.ps,hV.us,hV.bs,hV.ways,hV.aA,hV.batch,hV.cg,hV.aM⟩;obtain⟨c1,-,c3,-⟩:=nf (bd:=bd) GV Ey;have qP:(V.us.map (·.1))[u.toNat]? =some pv.1:=by rw[aG,Ey];rfl
   have Nf:(H.aA.map (·.aO))[u.toNat]? =some x.aO:=by rw[aG,Cd];rfl
   have acz:sl H u s pri body=mi:=by unfold sl;rw[if_pos he,vY]
   refine Z6 ?_;refine kX ?_;refine Om ?_;refine KO.db (i:=5) rfl rfl isAgg3 bn rfl rfl rfl ?_;refine Ht ?_;refine Om ?_;refine KO.fX (i:=5) rfl rfl rfl aP zM rfl bn rfl O8 ?_;rw[show(eK bd V H).set 5 (.int .i64 (H.next+1))=eK bd V {H with next:=H.next+1}from rfl];refine Z0 ?_;refine K.conv (fun w hw=>dj qP Nf (hw.pick (A:=bZ cY (V.us.map (·.1)) (H.aA.map (·.aO))) bn)) ?_
   refine K.draw [.pure,.pure,.pure,.pure,.pure,.pure,.pure,.pure,.read,.read,.pure,.pure,.c7,.write,.pure,.pure,.pure,.pure,.write] [0,1,2,3,4,5,6,7,8,9,10,11,14,15,12,13,16,17,18] bC bC ?_;refine oZ ?_;refine lq ?_;refine Vw ?_;refine VN ?_;refine KO.db (i:=12+2*u.toNat) rfl rfl isAgg127 bn Sb c1 rfl ?_;refine Al ?_;refine Z1 ?_;refine KO.wh (pl:=[(0,5),(5,1)]) rfl zeroValue142 runUnderlying142 (by intro w;simp[sizeOf3,sizeOf44]) aP rfl ?_;refine kr ?_;refine KO.fw (off:=12) rfl runUnderlying133 rfl rfl sizeOf131 rfl ?_;refine KO.kL (z:=(Value.agg #[.int .i64 0,.int .i64 0,.string ⟨#[]⟩,.string ⟨#[]⟩,.int .i64 0,.int .i64 0])) (sz:=6) (dI:=64) rfl rfl underlying127 bC aP aP ai ai rfl ?_;intro ahV;refine KO.app (z:=Value.agg #[.int .i64 0,.int .i64 0,.string ⟨#[]⟩,.string ⟨#[]⟩,.int .i64 0,.int .i64 0]) (sz:=6) (dI:=64) (xs:=x.aO) (cf:=BZ) rfl rfl rfl (.tail .head) .head underlying127 bC aP (⟨mi,mp,mb,mq,mh⟩,(jA H s).2.1) rfl rfl rfl ae ai rfl ?_;intro v13;refine KO.fact (fun _ hs=>aU hs) ?_;rintro⟨a13,k13,MS,-⟩;refine KO.jP (i:=u.toNat) rfl rfl runUnderlying131 sizeOf130 J9 ae rfl ?_;refine VN ?_
   refine KO.fX (i:=12+2*u.toNat) rfl rfl rfl (by rw[MS];rfl) (by exact sizeOf127) (by rw[MS];rfl) bn Sb (by rw[qe GV];omega) ?_;rw[c3];refine wA ?_;refine Hl ?_;refine pO ?_;refine KQ.eE rfl rfl rfl (fun w' aT=>⟨_,_,rfl,⟨by rw[he,acz];rfl,rfl⟩,?_⟩);have e1:gv H u s pri body=cM {H.eo (jV H s) (mA (H.r4 (jV H s)) (eA H s pri body) u)with next:=H.next+1} u.toNat ⟨x.aO++[(eA H s pri body,(jA H s).2.1)],x.bf⟩:=by unfold gv;rw[if_pos he,Ld]
   rw[e1,vY];have oR:=ic (f:=cY) (ps:=V.us.map (·.1)) (xs:=H.aA.map (·.aO)) (i:=u.toNat) (p:=v13) (x:=x.aO++[(⟨mi,mp,mb,mq,mh⟩,(jA H s).2.1)]) (by simp[Ce];omega) (by simp[iy];omega) (aT.all (M:=cY v13 (x.aO++[(⟨mi,mp,mb,mq,mh⟩,(jA H s).2.1)])::bZ cY ((V.us.map (·.1)).eraseIdx u.toNat) ((H.aA.map (·.aO)).eraseIdx u.toNat)::bI bh (.cells (eK bd {V with us:=V.us.set u.toNat (v13,pv.2)} {H with next:=H.next+1}).toArray 133 (0,0))::kA V.nv H.names::bV Value.string V.mb (dq V H)::bZ iP V.ps (H.all.set (jV H s) (mA (H.r4 (jV H s)) ⟨mi,mp,mb,mq,mh⟩ u))::bZ cV (V.us.map (·.2)) (H.aA.map (·.bf))::bZ dL V.bs H.batch::L) Y5)
   exact EC hV (jV H s) _ u.toNat (H.next+1) _ (v13,pv.2) (oR.all Y7) rfl (sS Ey rfl) rfl (sS Cd rfl)
theorem UF(w0:World)(L:List HP)(bh bd n:Nat)(H:Ho)(u:Int)(s:ak)(hB:cF n H)(hn:n<90000)(hl:∀x∈H.aA,x.bf.length<=90000):
 KC prog 15 #[bp bh,.int .i64 u,.string s] w0 (dy bh bd H::L) (fun v M=>v=.tuple #[.agg (dh (getM H u s)).toArray,cI 70 (iU H u s)]/\M=dy bh bd (g_ H u s)::L):=by
 have pa:=hB.lS;have zC:=hB.sorted;have ends:∀k:Int,k≠0->iU H u s=k->(Value.tuple #[.agg (dh lr).toArray,cI 70 k]=.tuple #[.agg (dh (getM H u s)).toArray,cI 70 (iU H u s)]/\dy bh bd H::L=dy bh bd (g_ H u s)::L):=fun k hk he=>by
  have h0:¬iU H u s=0:=by rw[he];exact hk
  unfold getM g_;rw[if_neg h0,if_neg h0,he];exact⟨rfl,rfl⟩
 refine KC.mk (n:=81) func15 rfl ntmps15 aj ?_;refine Z3 ?_;refine KO.alloc rfl zeroValue44 aP rfl ?_;intro b6;refine kE ?_;by_cases hu:u<0\/5<=u
 ·have he:iU H u s=2:=by unfold iU;rw[if_pos hu]
  by_cases SI:u<0
  ·refine wD ?_;refine zx ?_;refine Oa ?_;refine Hr ?_;refine Jc ?_;refine qX ?_;refine KQ.jf rfl rfl isAgg44 bQ Jd rfl (fun w' aT=>⟨_,dy bh bd H::L,rfl,?_,?_⟩)
   ·exact ends 2 ai he
   ·exact aT.all Y1
  ·refine CT ?_;refine Z2 ?_;refine K.cL rfl Ow ?_;refine Hr ?_;refine Jc ?_;refine qX ?_;refine KQ.jf rfl rfl isAgg44 bQ Jd rfl (fun w' aT=>⟨_,dy bh bd H::L,rfl,?_,?_⟩)
   ·exact ends 2 ai he
   ·exact aT.all Y1
 refine CT ?_;refine Z2 ?_;refine K.da rfl Ow ?_;refine Z6 ?_;refine K.cq (fun _ h=>cx (h.pick bn)) ?_;rintro⟨V,hV⟩;dsimp only;have oS:=hV.ps;have hg:=ki hV s;cases hq:H.qI s with
 |none=>
  have he:iU H u s=7:=by unfold iU;rw[if_neg hu,hq]
  rw[hq]at hg;refine Fl ?_;refine KO.AY fI s rfl rfl rfl underlying123 underlying9 zeroValue119 bn rfl ?_;rw[hg];refine jR ?_;refine oV ?_;refine rU ?_;refine Ot ?_;refine Ot ?_;refine RG ?_;refine wj ?_;refine Z2 ?_;refine K.cL rfl aj ?_;refine Hr ?_;refine KZ ?_;refine qX ?_;refine KQ.jf rfl rfl isAgg44 bQ Jd rfl (fun w' aT=>⟨_,dy bh bd H::L,rfl,?_,?_⟩)
  ·exact ends 7 ai he
  ·exact bR V hV (aT.all Y1)
 |some i=>
 have oG:=(ji hq).1;obtain⟨p,hp⟩:∃p,V.ps[4+i]? =some p:=⟨_,ao ae⟩;rw[hq]at hg;simp only[Option.bind_some,hp,Option.map_some]at hg;have heq:iU H u s=if s≠cz/\fb H.names s=false then 7 else if H.down=true then 6 else hI (H.dP i):=by unfold iU;rw[if_neg hu,hq]
 refine Fl ?_;refine KO.AY fI s rfl rfl rfl underlying123 underlying9 zeroValue119 bn rfl ?_;rw[hg];refine pQ ?_;refine K.cut (fun _:Unit=>[(0,bp bh),(1,.int .i64 u),(2,.string s),(6,.pointer (some ⟨b6,0,none⟩)),(8,bp p),(42,.bool (decide (s≠cz/\fb H.names s=false)))]) (fun _=>bI b6 (.cells [Value.int .i64 0,.int .i64 0,.string ⟨#[]⟩,.string ⟨#[]⟩,.int .i64 0].toArray 44 (0,0))::zF bh bd V H L) (fun _=>True) ?_ ?_
 ·by_cases Qs:s=cz
  ·have Cg:s=⟨#[100,101,97,100]⟩:=Qs;have Uo:(!decide (s=⟨#[100,101,97,100]⟩))=false:=by rw[Cg];rfl
   clear Qs;refine RD ?_;refine CO ?_;refine Fz ?_;refine Fz ?_;refine KO.no rfl rfl Uo rfl ?_;refine KO.no rfl rfl tr rfl ?_;refine qu ?_;refine KO.mc rfl ?_ rfl rfl ?_
   (focus assumption)
   refine qv ?_;refine KO.nil ?_;exact KQ.qL () trivial ⟨rfl,rfl,rfl,rfl,rfl,by simp[Cg,cz,cQ],trivial⟩ (fun w' aT=>aT.all Y3)
  ·have Cg:¬s=⟨#[100,101,97,100]⟩:=Qs;refine RD ?_;refine CO ?_;refine Ae ?_;refine Z1 ?_;refine Ae ?_;refine kr ?_;refine Ae ?_;refine RB ?_;refine Ae ?_;refine Z1 ?_;refine KO.on rfl rfl (by simp[Cg]) ?_;refine KO.ce (cp:=[]) rfl rfl rfl call57 rfl (sC w0 _ _ _ bh 6 (eK bd V H) 133 V.nv H.names s bQ bQ rfl ae zC) ?_;rintro v' L' ⟨rfl,rfl⟩;refine Ae ?_;refine oV ?_;refine qu ?_;refine KO.sq rfl ?_ rfl rfl ?_
   (focus(simp_all;done))
   refine qv ?_;refine KO.nil ?_;exact KQ.qL () trivial ⟨rfl,rfl,rfl,rfl,rfl,by simp[Qs,cQ],trivial⟩ (fun w' aT=>aT.all Y3)
 rintro⟨⟩-
 try dsimp only
 refine K.br rfl (fun h4=>?_) (fun h4=>?_)
 ·have he:iU H u s=7:=by rw[heq,if_pos h4]
  refine Hr ?_;refine Jc ?_;refine qX ?_;refine KQ.jf rfl rfl isAgg44 bQ Jd rfl (fun w' aT=>⟨_,dy bh bd H::L,rfl,?_,?_⟩)
  ·exact ends 7 ai he
  ·exact bR V hV (aT.all Y1)
 rw[if_neg h4]at heq;refine Z6 ?_;cases rv:H.down with
 |true=>
  have he:iU H u s=6:=by rw[heq,if_pos rv]
  refine Z8 ?_;refine Z40 ?_;refine KO.db (i:=3) rfl rfl isAgg4 bn rfl rfl rfl ?_;refine Z2 ?_;refine K.cL rfl rv ?_;refine Hr ?_;refine Jc ?_;refine qX ?_;refine KQ.jf rfl rfl isAgg44 bQ Jd rfl (fun w' aT=>⟨_,dy bh bd H::L,rfl,?_,?_⟩)
  ·exact ends 6 ai he
  ·exact bR V hV (aT.all Y1)
 |false=>
 have he:iU H u s=hI (H.dP i):=by rw[heq,if_neg Wd]
 have FM:=(hB.qa oG).len;refine Z8 ?_;refine Z40 ?_;refine KO.db (i:=3) rfl rfl isAgg4 bn rfl rfl rfl ?_;refine Z2 ?_;refine K.da rfl rv ?_;refine Z6 ?_;rcases vY:gI (H.dP i)with⟨mi,mp,mb,mq,mh⟩
 refine iX ?_;refine KO.cl (cp:=[]) rfl rfl rfl call58 rfl (KC.lW (φ:=fun v=>v=.tuple #[.agg (dh (gI (H.dP i))).toArray,cI 70 (hI (H.dP i))]) hp (oI hV.ways oG) bn (fun L=>YX w0 L p (H.dP i) u ae)) ?_;rintro v' L' ⟨rfl,rfl⟩;rw[vY];refine Fh ?_;refine KO.alloc rfl zeroValue44 aP rfl ?_;intro b10;refine Jc ?_;refine wC ?_;refine K.br rfl (fun h9=>?_) (fun h9=>?_)
 ·have A2:fT (H.dP i) u=H.dP i:=by
   unfold hI at h9;unfold fT;split
   ·rfl
   ·rename_i k hk;rw[hk]at h9;exact absurd rfl h9
  refine Z3 ?_;refine Zw ?_;refine Z1 ?_;refine KZ ?_;refine qX ?_;refine KQ.jf rfl rfl isAgg44 bQ Jd rfl (fun w' aT=>?_);rw[A2,nQ (oI hV.ways oG)]at aT;exact⟨_,dy bh bd H::L,rfl,ends _ h9 he,bR V hV (aT.all Y5)⟩
 have h90:hI (H.dP i)=0:=by simpa using h9
 rw[h90]at he;have Qo:u.toNat<5:=by omega
 have J9:u=((u.toNat:Nat):Int):=by omega
 have Ce:=hV.us;have iy:=hV.aA;obtain⟨pv,Ey⟩:∃e,V.us[u.toNat]? =some e:=⟨_,ao ae⟩;obtain⟨x,Cd⟩:∃e,H.aA[u.toNat]? =some e:=⟨_,ao ae⟩;have rZ:=hl x (ax Cd);have Ld:H.fa u.toNat=x:=by unfold Ho.fa;rw[aq,Cd];rfl
 obtain⟨-,c2,-,c4⟩:=nf (bd:=bd) hV Ey;have qP:(V.us.map (·.2))[u.toNat]? =some pv.2:=by rw[aG,Ey];rfl
 have Nf:(H.aA.map (·.bf))[u.toNat]? =some x.bf:=by rw[aG,Cd];rfl
 have IJ:getM H u s=⟨mi,mp,mb,mq,mh⟩:=by unfold getM;rw[if_pos he,hq];exact vY
 refine Z6 ?_;refine K.conv (fun w hw=>dj qP Nf (hw.pick (A:=bZ cV (V.us.map (·.2)) (H.aA.map (·.bf))) bn)) ?_
 refine K.draw [.pure,.pure,.pure,.pure,.pure,.pure,.pure,.pure,.read,.pure,.read,.pure,.pure,.c7,.write,.pure,.pure,.pure,.pure,.write] [0,1,2,3,4,5,6,7,8,9,10,11,12,15,16,13,14,17,18,19] bC bC ?_;refine oZ ?_;refine lq ?_;refine Vw ?_;refine VM ?_;refine KO.db (i:=13+2*u.toNat) rfl rfl isAgg128 bn Sb c2 rfl ?_;refine Hl ?_;refine Z1 ?_;refine KO.wh (pl:=[(0,1),(1,1)]) rfl zeroValue146 runUnderlying146 Y20 aP rfl ?_;refine kr ?_;refine KO.fw (off:=12) rfl runUnderlying133 rfl rfl sizeOf131 rfl ?_;refine KO.kL (z:=(Value.agg #[.int .i64 0,.string ⟨#[]⟩])) (sz:=2) (dI:=24) rfl rfl underlying128 bC aP aP ai ai rfl ?_;intro b74;refine KO.app (z:=Value.agg #[.int .i64 0,.string ⟨#[]⟩]) (sz:=2) (dI:=24) (xs:=x.bf) (cf:=Cw) rfl rfl rfl (.tail .head) .head underlying128 bC aP (mi,s) rfl rfl rfl ae ai rfl ?_;intro v14;refine KO.fact (fun _ hs=>aU hs) ?_;rintro⟨a13,k13,MS,-⟩;refine KO.jP (i:=u.toNat) rfl rfl runUnderlying131 sizeOf130 J9 ae rfl ?_;refine VM ?_;refine KO.fX (b:=bh) (i:=13+2*u.toNat) rfl rfl rfl (by rw[MS];rfl) (by exact sizeOf128) (by rw[MS];rfl) bn Sb O8 ?_;rw[c4];refine wA ?_;refine Al ?_;refine KZ ?_;refine iW ?_
 refine KQ.jf rfl rfl isAgg44 bQ Jd rfl (fun w' aT=>⟨_,_,rfl,⟨by rw[he,IJ];rfl,rfl⟩,?_⟩);have e1:g_ H u s=cM {H.eo (4+i) (fT (H.dP i) u)with next:=H.next} u.toNat ⟨x.aO,x.bf++[(mi,s)]⟩:=by
  unfold g_;rw[if_pos he,Ld,hq];simp only[Option.getD_some];rw[vY];unfold Ho.eo;rw[if_neg ae,show 4+i-4=i by omega];rfl
 rw[e1];have oR:=ic (f:=cV) (ps:=V.us.map (·.2)) (xs:=H.aA.map (·.bf)) (i:=u.toNat) (p:=v14) (x:=x.bf++[(mi,s)]) (by simp[Ce];omega) (by simp[iy];omega) (aT.all (M:=cV v14 (x.bf++[(mi,s)])::bZ cV ((V.us.map (·.2)).eraseIdx u.toNat) ((H.aA.map (·.bf)).eraseIdx u.toNat)::bI bh (.cells (eK bd {V with us:=V.us.set u.toNat (pv.1,v14)} H).toArray 133 (0,0))::kA V.nv H.names::bV Value.string V.mb (dq V H)::bZ iP V.ps (H.all.set (4+i) (fT (H.dP i) u))::bZ cY (V.us.map (·.1)) (H.aA.map (·.aO))::bZ dL V.bs H.batch::L) Y5)
 exact EC hV (4+i) _ u.toNat H.next _ (pv.1,v14) (oR.all Y7) (sS Ey rfl) rfl (sS Cd rfl) rfl
end Go.Proofs.YtjhogocabcdjbabGreatDoor
namespace WB
open Go Go.RowKit
theorem KO.Vf{P:Program}{ops:Array Oper}{d:Bool}{Q:Exit->Act->World->Prop}{n:Nat}{D:List Deferred}{w0:World}{G:Env}{L:List HP}{l:List (Kd×Oper)}{k:Kd}{t:Nat}{ty T:TypeId}{pos:String}{af:Array Edge}{x:Operand}{ad:Addr}{len sz:Nat}(hx:ev G x=some (.pointer (some ad)))(hT:P.underlying T=some (.array (P.arrayLen T) (P.elem T)))(hl:P.arrayLen T=len+1)(hs:∀w,(Go.sizeOf (P.elem T)).run P w=.ok sz w)(ht:Nat.blt t n=true)(h:KO P ops d Q n D w0 ((t,.slice (some (ad.add 0)) (len+1) (len+1))::G) L l):KO P ops d Q n D w0 G L ((k,⟨some t,.slice T x none none none,ty,pos,af,none⟩)::l):=
 KO.val (fun a w ha=>by
  have :=run_sliceAt_array_all (P:=P) w T ad hT;rw[hs w]at this
  simp[execOp,ha.eval hx,this,slicedAt,hl]) ht h
theorem KO.Il{P:Program}{ops:Array Oper}{d:Bool}{Q:Exit->Act->World->Prop}{n:Nat}{D:List Deferred}{w0:World}{G:Env}{L R:List HP}{l:List (Kd×Oper)}{k:Kd}{ty T E:TypeId}{pos:String}{af:Array Edge}{x y:Operand}{v:Value}{off b:Nat}{ad:Addr}{cs Dc us:List Value}(hk:(!d||k== .write)=true)(hx:ev G x=some (.pointer (some ad)))(ha:ad=⟨b,off,none⟩)(hy:ev G y=some v)(hv:v.cells=us.toArray)(hn:∀w,(Go.sizeOf T).run P w=.ok us.length w)(h1:us.all Value.oneCell'=true)(hp:bF L (bI b (.cells cs.toArray E (0,0))) R)(nh:off+us.length<=cs.length)(hc:kR off us cs=Dc)(h:KO P ops d Q n D w0 G (bI b (.cells Dc.toArray E (0,0))::R) l):
  KO P ops d Q n D w0 G L ((k,⟨none,.store T x y,ty,pos,af,none⟩)::l):=by
 subst ha;exact KO.Jo hk hx hy hv hn h1 hp (by simpa[Nat.ble_eq]using nh) hc h
def cK (H:Ho) (u:Int):Ho:={H with ways:=H.ways.map (fun q=>c8 q u true),aK:=H.aK.map (fun x=>(x.1,c8 x.2 u true))}
theorem uj(H:Ho)(u:Int):(cK H u).all=H.all.map fun q=>c8 q u true:=by
 unfold cK Ho.all;simp
def jq (u:Int) (l:List Qu) (js:List Nat):List Qu:=js.foldl (fun l j=>l.set j (c8 (l.getD j default) u true)) l
theorem uw(u:Int):∀(js:List Nat) (l:List Qu),(jq u l js).length=l.length
 |[],_=>rfl
 |j::js,l=>by
  have :=uw u js (l.set j (c8 (l.getD j default) u true));rw[List.length_set]at this;exact this
theorem Bt(u:Int):∀(js:List Nat) (l:List Qu) (i:Nat),js.Nodup->(jq u l js)[i]? =if i∈js then(l[i]?).map (fun q=>c8 q u true)else l[i]?
 |[],l,i,_=>by simp[jq]
 |j::js,l,i,h=>by
  rw[bJ]at h;have ih:=Bt u js (l.set j (c8 (l.getD j default) u true)) i h.2;rw[show jq u l (j::js)=jq u (l.set j (c8 (l.getD j default) u true)) js from rfl,ih];by_cases e:j=i
  ·subst e;rw[if_neg h.1,if_pos aj,List.getElem?_set,if_pos rfl];split
   ·rename_i hj;rw[aq,ao hj];rfl
   ·rename_i hj;rw[bH ae];rfl
  ·rw[List.getElem?_set,if_neg e];simp only[aD,Ne.symm e,false_or]
theorem Br(u:Int){js:List Nat}{l:List Qu}(h:js.Perm (List.range l.length)):jq u l js=l.map fun q=>c8 q u true:=by
 apply List.ext_getElem?;intro i;rw[Bt u js l i (h.nodup_iff.2 List.nodup_range),aG];split
 ·rfl
 ·rename_i hi;rw[h.mem_iff,aZ]at hi;rw[bH ae];rfl
theorem yZ{n:Nat}(u:Int):∀(js:List Nat) (l:List Qu),(∀q∈l,QB n q)->∀q∈jq u l js,QB n q
 |[],_,h,q,hq=>h q hq
 |j::js,l,h,q,hq=>yZ u js (l.set j (c8 (l.getD j default) u true)) (fun q hq=>by
  rcases bj hq with h1|rfl
  ·exact h q h1
  ·rcases Nat.lt_or_ge j l.length with hj|hj
   ·rw[aq,ao hj];exact(h _ (List.getElem_mem hj)).ends u true
   ·rw[List.set_eq_of_length_le hj]at hq
    exact h _ hq) q hq
theorem yY{u:Int}{l:List Qu}{js:List Nat}{k j:Nat}(hj:js[k]? =some j):jq u l (js.take (k+1))=(jq u l (js.take k)).set j (c8 ((jq u l (js.take k)).getD j default) u true):=by
 rw[bG hj];unfold jq;rw[List.foldl_append];rfl
theorem cF.cK{n:Nat}{H:Ho}(h:cF n H)(u:Int):cF n (cK H u):=by
 have hf:(WB.cK H u).aK.map (·.1)=H.aK.map (·.1):=by unfold WB.cK;simp
 have hq:∀s,(WB.cK H u).qI s=H.qI s:=fun s=>by rw[py,py,hf]
 refine⟨h.id,h.used,h.next,h.sorted,h.lS,by unfold WB.cK;simpa using h.mB,fun q hq=>?_,by rw[hf];exact h.nodup,by unfold WB.cK;simpa using h.ways,h.aA,h.batch,h.cg,h.aM,h.right,fun x hx ht=>by(rw[hq];exact h.loc x hx ht),h.ext⟩;rw[uj]at hq;obtain⟨q0,h0,rfl⟩:=ay.1 hq;exact(h.qs q0 h0).ends u true
def cN:ox:=⟨[],[]⟩
def BF (H:Ho) (u:Int):Int:=if u<0\/5<=u then 2 else if(H.fa u.toNat).aO.length+(H.fa u.toNat).bf.length=0 then 8 else if H.down=true then 6 else 0
def rH (H:Ho) (u:Int):Ho:=if BF H u=0 then cM (cK H u) u.toNat cN else H
theorem cF.bk{n:Nat}{H:Ho}(h:cF n H)(u:Int):cF n (rH H u):=by
 unfold rH;split
 ·exact(h.cK u).cM _ _
 ·exact h
def gx (g:Int×ak):ak:=bP g.1++sp++g.2
def nY (x:ox):ak:=ct (x.aO.map (·.1))++b_ 47++cS (x.bf.map gx) plus
def ku (x:ox):ak:=⟨#[117,58]⟩++ct (x.aO.map (·.1))++b_ 47++cS (x.bf.map gx) plus
def lI (H:Ho) (u:Int):Int:=if u<0\/5<=u then 2 else if(H.fa u.toNat).aO.length+(H.fa u.toNat).bf.length=0 then 8 else 0
def vA (H:Ho) (D:Dk) (u:Int):Int:=if lI H u≠0 then lI H u else dV H D
def oU (H:Ho) (D:Dk) (u:Int):Ho:=if lI H u≠0 then H else if dV H D≠0 then dD H D else(eI (cM (cK (dD H D) u) u.toNat cN) (nY (H.fa u.toNat))).1
def qn (H:Ho) (D:Dk) (u:Int):Dk:=if lI H u≠0 then D else fY H D (ku (H.fa u.toNat))
structure fE (x:ox):Prop where
 aO:∀p∈x.aO,bM p.1=true
 bf:∀g∈x.bf,0<=g.1/\g.1<=1099511627776/\c6 g.2=true
 many:x.aO.length+x.bf.length<=700
section
variable {x:ox}
theorem fE.bad(h:fE x):iV (x.aO.map (·.1))=none:=KK fun j m hm=>by
 obtain⟨p,hp,rfl⟩:=ay.1 (ax hm);exact h.aO p hp
theorem Be{g:Int×ak}(h:0<=g.1/\g.1<=1099511627776/\c6 g.2=true):(gx g).size<=30:=by
 have h1:=cv (n:=g.1) ⟨by omega,by omega⟩;have h2:=(iG h.2.2).2;have h3:sp.size=1:=rfl;unfold gx;simp only[aQ];omega
theorem fE.YV(h:fE x):(cS (x.bf.map gx) plus).size<=700*31:=by
 have :=fN plus 30 (x.bf.map gx) (fun y hy=>by
  obtain⟨g,hg,rfl⟩:=ay.1 hy
  exact Be (h.bf g hg))
 have h2:=h.many;have h3:plus.size=1:=rfl;rw[h3,aW]at this;omega
theorem fE.XC(h:fE x):(ct (x.aO.map (·.1))).size<=700*101:=by
 have :=jZ (l:=x.aO.map (·.1)) (fun m hm=>by
  obtain⟨p,hp,rfl⟩:=ay.1 hm
  exact h.aO p hp)
 have h2:=h.many;rw[aW]at this;omega
theorem fE.size(h:fE x):(nY x).size<=72000:=by
 have h2:=h.many;have h1:(b_ 47).size=1:=rfl;have h3:plus.size=1:=rfl
 have a:=fN plus 30 (x.bf.map gx) (fun y hy=>by
  obtain⟨g,hg,rfl⟩:=ay.1 hy
  exact Be (h.bf g hg))
 have b:=jZ (l:=x.aO.map (·.1)) (fun m hm=>by
  obtain⟨p,hp,rfl⟩:=ay.1 hm
  exact h.aO p hp)
 rw[h3,aW]at a;rw[aW]at b;unfold nY;simp only[aQ];omega
theorem p7{c:UInt8}(h1:c.toNat≠45/\(c.toNat<48\/57<c.toNat))(h2:isLet c=false)(h3:c≠32/\c≠43){l:List Ms}(h:∀m∈l,bM m=true):oO c (ct l):=fun b hb=>by
 unfold ct at hb;rcases iS hb with hb|⟨y,hy,hb⟩
 ·simp[plus]at hb;subst hb;exact fun e=>h3.2 e.symm
 ·obtain⟨m,hm,rfl⟩:=ay.1 hy;obtain⟨-,-,-,-,m5,m6,-,-⟩:=bN (h m hm);rw[p8]at hb;have Yd:∀s:ak,gS s=true->b∈s.data.toList->b≠c:=fun s hs hb e=>by
   subst e;unfold gS at hs;rw[aI]at hs;rw[hs b hb]at h2;cases h2
  rcases iS hb with hb|⟨z,hz,hb⟩
  ·simp[sp]at hb;subst hb;exact fun e=>h3.1 e.symm
  ·simp only[aD,List.not_mem_nil,or_false]at hz;rcases hz with rfl|rfl|rfl|rfl|rfl
   ·exact fp _ h1 b hb
   ·exact fp _ h1 b hb
   ·exact Yd _ (sV m5) hb
   ·exact Yd _ (gB m6) hb
   ·exact fp _ h1 b hb
theorem fE.cut(h:fE x):cX 47 (nY x)=(ct (x.aO.map (·.1)),cS (x.bf.map gx) plus,true):=by
 unfold nY
 exact cutB_hit (p7 ai ai ai fun m hm=>by
  obtain⟨p,hp,rfl⟩:=ay.1 hm
  exact h.aO p hp) _
theorem fE.read(h:fE x):rn (cX 47 (nY x)).1=some (x.aO.map (·.1)):=by
 rw[h.cut];exact p9 h.bad
theorem sj(x:ox):ku x=b_ 117++b_ 58++nY x:=by
 unfold ku nY;rw[show(⟨#[117,58]⟩:ak)=b_ 117++b_ 58 by decide];simp only[ByteArray.append_assoc]
theorem nw(x:ox):cX 58 (ku x)=(b_ 117,nY x,true):=by rw[sj];exact cutB_hit (d_ ai) _
theorem fE.Xx(h:fE x):fF 700 (ku x):=by
 have h1:=h.size;refine⟨?_,fun _ l hl=>?_,fun hk=>?_⟩
 ·have e1:(b_ 117).size=1:=rfl;have e2:(b_ 58).size=1:=rfl;rw[sj];simp only[aQ];omega
 ·rw[nw,h.read]at hl;simp only[az]at hl;subst hl;have :=h.many;simp;omega
 ·rw[nw]at hk;exact absurd (show b_ 117=b_ 114 from hk) ai
end
theorem ym(H:Ho)(D:Dk):(dD H D).aA=H.aA:=by
 unfold dD;split
 ·rfl
 ·split<;>rfl
theorem cF.cm{n:Nat}{H:Ho}{D:Dk}(h:cF n H)(u:Int)(hu:∀x∈H.aA,fE x):cF (n+(H.fa u.toNat).aO.length) (oU H D u):=by
 unfold oU;split
 ·exact h.le ae
 ·rename_i h1;split
  ·exact(h.log (D:=D)).le ae
  ·have Qo:u.toNat<5:=by
    unfold lI at h1;rcases Decidable.em (u<0\/5<=u)with h2|h2
    ·rw[if_pos h2]at h1;exact absurd ai h1
    ·omega
   have hx:fE (H.fa u.toNat):=by
    apply hu;unfold Ho.fa;rw[aq,ao (by rw[h.aA];exact Qo)];exact List.getElem_mem _
   refine(((h.log (D:=D)).cK u).cM _ _).ends (fun l hl=>?_) (fun l hl=>?_) ae
   ·rw[hx.read]at hl;simp only[az]at hl;subst hl;exact dx hx.bad
   ·rw[hx.read]at hl;simp only[az]at hl;subst hl;simp
end WB
namespace Go.Proofs.YtjhogocabcdjbabGreatDoor
open Tryz
open Go Go.RowKit WB
def B2 (p:Nat):List Value:=[bp p]
def Ir (v:Value) (l:List Nat):HP:=SL 119 1 B2 v l
theorem Kq{l:List Nat}(h:4<=l.length):l.take 4=[0,1,2,3].map fun j=>l.getD j 0:=by
 match l,h with
 |a::b::c::d::l,_=>rfl
theorem QC{w0 w:World}{L R:List HP}{bh bd:Nat}{V:r5}{H:Ho}(hV:iN V H)(hp:bF L (bI bh (.cells (eK bd V H).toArray 133 (0,0))) R)(hw:St w0 L w):Src w B2 (.slice (some ((⟨bh,8,none⟩:Addr).add 0)) 4 4) (V.ps.take 4):=by
 have oS:=hV.ps;have h4:(V.ps.take 4).length=4:=by simp[oS]
 refine⟨_,4,by rw[h4],(fun h=>by cases h),fun ad had=>?_⟩;cases had
 intro j c hj;have Lh:(V.ps.take 4).flatMap B2=(V.ps.take 4).map bp:=by
  generalize V.ps.take 4=l
  induction l with
  |nil=>rfl
  |cons a l ih=>rw[aR,ih];rfl
 rw[Lh,aG]at hj;cases kB:(V.ps.take 4)[j]? with
 |none=>rw[kB]at hj;cases hj
 |some p=>
  rw[kB]at hj;simp only[Option.map_some,az]at hj;subst hj;have EK:j<4:=by have :=(au.1 kB).1;omega
  rw[List.getElem?_take,if_pos EK]at kB;have :=od (bd:=bd) hV EK kB;rw[Addr.add_lit,Addr.add_lit,World.cell?,(hw.oD hp).2];simpa using this
theorem Iz{V:r5}{H:Ho}(hV:iN V H){r:Nat}(hr:r<H.aK.length):∃s,(dq V H).getD r default=(s,bp (V.ps.getD (4+r) 0)):=by
 have oS:=hV.ps;obtain⟨x,hx⟩:∃e,H.aK[r]? =some e:=⟨_,ao hr⟩;obtain⟨p,hp⟩:∃e,V.ps[4+r]? =some e:=⟨_,ao ae⟩;refine⟨x.1,?_⟩;unfold dq rq;rw[aq,List.getElem?_zipWith,hx,List.getElem?_drop,hp,aq,hp];rfl
theorem mZ{α β:Type}(f:α->β):∀(l:List α) (i:Nat),(l.map f).eraseIdx i=(l.eraseIdx i).map f
 |[],_=>rfl
 |a::l,0=>rfl
 |a::l,i+1=>by simp[mZ f l i]
theorem n5{α:Type}:∀{l:List α} {i:Nat} (h:i<l.length),(l[i]::l.eraseIdx i).Perm l
 |a::l,0,_=>.refl _
 |a::l,i+1,h=>(List.Perm.swap _ _ _).trans ((n5 (l:=l) (i:=i) H4).cons a)
theorem Tc(w0:World)(L:List HP)(bh bd:Nat)(V:r5)(H:Ho)(hV:iN V H)(hn:H.aK.length<=100000):
 KC prog 63 #[bp bh] w0 (zF bh bd V H L) (fun u M=> ∃js:List Nat,js.Perm (List.range V.ps.length)/\M=Ir u (js.map fun j=>V.ps.getD j 0)::zF bh bd V H L):=by
 have oS:=hV.ps;have hsE:∀w,(Go.sizeOf (prog.elem 126)).run prog w=.ok 1 w:=by
  have e:prog.elem 126=119:=by kernel_rfl
  rw[e];exact sizeOf119
 refine KC.mk (n:=25) func63 rfl ntmps63 aj ?_;refine Z3 ?_;refine lZ ?_;refine uN ?_;refine VL ?_;refine KO.rng rfl rfl underlying123 bn rfl ?_;intro r10;refine Lr ?_;refine K.loop (fun p:List Nat×List Nat×Value×Option (ak×Value)=>[(0,bp bh),(3,p.2.2.1),(10,.pointer (some ⟨r10,0,none⟩))])
  (fun p=>Ir p.2.2.1 (p.2.1.map fun r=>V.ps.getD (4+r) 0)::FK Value.string V.mb r10 (dq V H) (p.1.map fun r=>(dq V H).getD r default) p.2.2.2::bI bh (.cells (eK bd V H).toArray 133 (0,0))::kA V.nv H.names::bZ iP V.ps H.all::bZ cY (V.us.map (·.1)) (H.aA.map (·.aO))::bZ cV (V.us.map (·.2)) (H.aA.map (·.bf))::bZ dL V.bs H.batch::L)
  (fun p=>(p.2.1++p.1).Perm (List.range H.aK.length)) (fun p=>p.1.length) (List.range H.aK.length,[],.slice none 0 0,none)
  aj ⟨rfl,rfl,rfl,trivial⟩ (fun _ h=>?_) ?_
 ·have h1:=cD (E:=119) (sz:=1) (cf:=B2) h;have e1:(List.range H.aK.length).map (fun r=>(dq V H).getD r default)=dq V H:=by
   have hl:(dq V H).length=H.aK.length:=by unfold dq rq;rw[List.length_zipWith,bu];omega
   rw[<-hl];apply List.ext_getElem
   ·simp
   ·intro i h1 h2;simp[aq,ao h2]
  dsimp only;rw[e1];exact h1.all nI
 rintro⟨rest,done,v,cur⟩ iz;dsimp only at iz ⊢;refine Z3 ?_;refine KO.P1 rfl rfl bn rfl (fun h0=>?_) (fun i e he=>?_);refine rS ?_;refine Z0 ?_;have kI:rest=[]:=by simpa using h0
 subst kI;rw[List.append_nil]at iz;have r0:done.length<=100000:=by have :=iz.length_eq;simp at this;omega
 refine wm ?_;refine Z9 ?_;refine nD ?_;refine RT ?_;refine KO.Vf (len:=3) (sz:=1) rfl bC bC hsE rfl ?_;refine KO.RA (cf:=B2) (z:=Value.pointer none) (sz:=1) (dI:=8) (xs:=done.map fun r=>V.ps.getD (4+r) 0) (ys:=V.ps.take 4) rfl rfl rfl (.tail .head) (fun w hw=>QC hV bn hw) underlying152 bC rfl (fun _=>rfl) (fun _=>rfl) fx ai rfl ?_;intro v24;refine iW ?_;refine KQ.bB rfl rfl (fun w' aT=>⟨_,_,rfl,⟨done.map (4+ ·)++[0,1,2,3],?_,rfl⟩,?_⟩)
 ·rw[oS,List.range_add];exact List.perm_append_comm.trans ((List.Perm.refl _).append (iz.map _))
 ·rw[aN,<-Kq ae,List.map_map];exact aT.all Y7
 obtain⟨r,hr,rfl⟩:∃r,rest[i]? =some r/\(dq V H).getD r default=e:=by
  rw[aG]at he;cases hr:rest[i]? with
  |none=>rw[hr]at he;cases he
  |some r=>rw[hr]at he;exact⟨r,rfl,by simpa using he⟩
 have Kc:r<H.aK.length:=by
  have :r∈List.range H.aK.length:=iz.mem_iff.1 (List.mem_append_right _ (ax hr));simpa using this
 obtain⟨s,mN⟩:=Iz hV Kc;rw[mN];have r0:done.length<=100000:=by have :=iz.length_eq;simp at this;omega
 refine rS ?_;refine Z0 ?_;refine uJ ?_;refine oY ?_;refine KO.Ln rfl rfl bQ rfl ?_;refine rS ?_;refine qE ?_;refine iX ?_;refine KO.kL (z:=(Value.pointer none)) (sz:=1) (dI:=8) rfl rfl underlying152 bC aP aP ai ai rfl ?_;intro Vt;refine KO.app (cf:=B2) (z:=Value.pointer none) (sz:=1) (dI:=8) (xs:=done.map fun r=>V.ps.getD (4+r) 0) rfl rfl rfl (.tail (.tail .head)) .head underlying152 bC aP (V.ps.getD (4+r) 0) rfl rfl rfl fx ai rfl ?_;intro Wq;refine Z7 ?_;refine Ad ?_;refine KQ.round (rest.eraseIdx i,done++[r],Wq,some (s,bp (V.ps.getD (4+r) 0))) ?_ ?_ ⟨rfl,rfl,rfl,trivial⟩ (fun _ h=>?_)
 ·dsimp only;refine List.Perm.trans ?_ iz;rw[aL];refine(List.Perm.refl done).append ?_;obtain⟨hi,rfl⟩:=au.1 hr;exact n5 hi
 ·dsimp only;have hi:=(au.1 hr).1;rw[List.length_eraseIdx,if_pos hi];omega
 ·dsimp only;rw[aN,<-mZ];exact h.all nI
theorem DT:∀(i:Nat) (a c:Value) (cs:List Value),i+2<=cs.length->kR i [a,c] cs=(cs.set i a).set (i+1) c
 |0,a,c,x::y::cs,_=>rfl
 |0,a,c,[x],h=>by simp at h
 |0,a,c,[],h=>by simp at h
 |i+1,a,c,x::cs,h=>by
  simp only[List.length_cons]at h;rw[kR,DT i a c cs ae];rfl
 |i+1,a,c,[],h=>by simp at h
theorem ED{bd:Nat}{V:r5}{H:Ho}(hV:iN V H){u:Nat}(hu:u<5):kR (12+2*u) [.slice none 0 0,.slice none 0 0] (eK bd V H)=eK bd {V with us:=V.us.set u (.slice none 0 0,.slice none 0 0)} H:=by
 have Ce:=hV.us;obtain⟨p,hp⟩:∃e,V.us[u]? =some e:=⟨_,ao ae⟩;rw[DT _ _ _ _ O8,(nf (bd:=bd) hV hp).2.2.1];have sP:iN {V with us:=V.us.set u (.slice none 0 0,p.2)} H:=⟨hV.ps,by simp[hV.us],hV.bs,hV.ways,hV.aA,hV.batch,hV.cg,hV.aM⟩;have kB:(V.us.set u (.slice none 0 0,p.2))[u]? =some (.slice none 0 0,p.2):=by rw[List.getElem?_set_self ae]
 rw[show 12+2*u+1=13+2*u by omega];have :=(nf (bd:=bd) sP kB).2.2.2 (.slice none 0 0);rw[this];simp only[List.set_set]
theorem Jj{w0 w:World}{L:List HP}{V:r5}{H:Ho}(hV:iN V H){u:Nat}(hu:u<5)(h:St w0 (bZ cY (V.us.map (·.1)) (H.aA.map (·.aO))::bZ cV (V.us.map (·.2)) (H.aA.map (·.bf))::L) w):
 St w0 (bZ cY ((V.us.set u (.slice none 0 0,.slice none 0 0)).map (·.1)) ((H.aA.set u cN).map (·.aO))::bZ cV ((V.us.set u (.slice none 0 0,.slice none 0 0)).map (·.2)) ((H.aA.set u cN).map (·.bf))::L) w:=by
 have Ce:=hV.us;have iy:=hV.aA;obtain⟨p,hp⟩:∃e,V.us[u]? =some e:=⟨_,ao ae⟩;obtain⟨x,hx⟩:∃e,H.aA[u]? =some e:=⟨_,ao ae⟩;rw[List.map_set,List.map_set,List.map_set,List.map_set];have h1:=dj (i:=u) (p:=p.1) (x:=x.aO) (by rw[aG,hp];rfl) (by rw[aG,hx];rfl) h;have h2:=ic (f:=cY) (i:=u) (p:=.slice none 0 0) (x:=[]) fx fx (cD (E:=142) (sz:=6) (cf:=BZ) h1.drop);have h3:=dj (i:=u) (p:=p.2) (x:=x.bf) (by rw[aG,hp];rfl) (by rw[aG,hx];rfl) (h2.all (M:=bZ cV (V.us.map (·.2)) (H.aA.map (·.bf))::bZ cY ((V.us.map (·.1)).set u (.slice none 0 0)) ((H.aA.map (·.aO)).set u [])::L) Y3)
 have h4:=ic (f:=cV) (i:=u) (p:=.slice none 0 0) (x:=[]) fx fx (cD (E:=146) (sz:=2) (cf:=Cw) h3.drop);exact h4.all Y7
theorem A7{w0 w:World}{bh bd:Nat}{H:Ho}{L:List HP}{V:r5}(hV:iN V H)(a:Int){u:Nat}(hu:u<5)(h:St w0 (bI bh (.cells (eK bd {V with us:=V.us.set u (.slice none 0 0,.slice none 0 0)} H).toArray 133 (0,0))::kA V.nv H.names::bV Value.string V.mb (dq V H)::bZ iP V.ps (H.all.map fun q=>c8 q a true)::bZ cY (V.us.map (·.1)) (H.aA.map (·.aO))::bZ cV (V.us.map (·.2)) (H.aA.map (·.bf))::bZ dL V.bs H.batch::L) w):
 St w0 (dy bh bd (cM (cK H a) u cN)::L) w:=by
 have h1:=Jj (L:=bI bh (.cells (eK bd {V with us:=V.us.set u (.slice none 0 0,.slice none 0 0)} H).toArray 133 (0,0))::kA V.nv H.names::bV Value.string V.mb (dq V H)::bZ iP V.ps (H.all.map fun q=>c8 q a true)::bZ dL V.bs H.batch::L) hV hu (h.all Y3);refine A8 (V:={V with us:=V.us.set u (.slice none 0 0,.slice none 0 0)}) (H:=cM (cK H a) u cN) ⟨?_,by simp[hV.us],hV.bs,?_,by simp[cM,cK,hV.aA],hV.batch,hV.cg,hV.aM⟩ (h1.all (M:=bI bh (.cells (eK bd {V with us:=V.us.set u (.slice none 0 0,.slice none 0 0)} H).toArray 133 (0,0))::kA V.nv H.names::bV Value.string V.mb (dq V H)::bZ iP V.ps (H.all.map fun q=>c8 q a true)::bZ cY ((V.us.set u (.slice none 0 0,.slice none 0 0)).map (·.1)) ((H.aA.set u cN).map (·.aO))::bZ cV ((V.us.set u (.slice none 0 0,.slice none 0 0)).map (·.2)) ((H.aA.set u cN).map (·.bf))::bZ dL V.bs H.batch::L) Y3) rfl rfl rfl ?_ rfl rfl ?_ rfl rfl rfl rfl rfl rfl
 ·simp[cM,cK,hV.ps]
 ·simp[cM,cK,hV.ways]
 ·unfold dq;exact sB _ _ _ (by simp[cM,cK])
 ·exact(uj H a).symm
theorem QV(w0:World)(L:List HP)(bh bd n:Nat)(H:Ho)(u:Int)(hB:cF n H)(hn:n<90000)(hl:∀x∈H.aA,x.aO.length+x.bf.length<=90000):
 KC prog 17 #[bp bh,.int .i64 u] w0 (dy bh bd H::L) (fun v M=>v=cI 70 (BF H u)/\M=dy bh bd (rH H u)::L):=by
 have FM:=hB.mB;have ends:∀k:Int,k≠0->BF H u=k->(cI 70 k=cI 70 (BF H u)/\dy bh bd H::L=dy bh bd (rH H u)::L):=fun k hk he=>by
  have h0:¬BF H u=0:=by rw[he];exact hk
  unfold rH;rw[if_neg h0,he];exact⟨rfl,rfl⟩
 refine KC.mk (n:=58) func17 rfl ntmps17 aj ?_;refine rN ?_;refine N8 ?_;by_cases hu:u<0\/5<=u
 ·have he:BF H u=2:=by unfold BF;rw[if_pos hu]
  by_cases SI:u<0
  ·refine wD ?_;refine zx ?_;refine qY ?_;refine qE ?_;refine K.cL rfl Y63 ?_;refine wz ?_;refine KQ.bB rfl rfl (fun w' aT=>⟨_,_,rfl,ends 2 ai he,aT⟩)
  ·refine CT ?_;refine qE ?_;refine K.cL rfl Ow ?_;refine wz ?_;refine KQ.bB rfl rfl (fun w' aT=>⟨_,_,rfl,ends 2 ai he,aT⟩)
 refine CT ?_;refine qE ?_;refine K.da rfl Ow ?_;refine oW ?_;refine K.cq (fun _ h=>cx h) ?_;rintro⟨V,hV⟩;dsimp only;have Qo:u.toNat<5:=by omega
 have J9:u=((u.toNat:Nat):Int):=by omega
 have Ce:=hV.us;have iy:=hV.aA;have oS:=hV.ps;obtain⟨pv,Ey⟩:∃e,V.us[u.toNat]? =some e:=⟨_,ao ae⟩;obtain⟨x,Cd⟩:∃e,H.aA[u.toNat]? =some e:=⟨_,ao ae⟩;have rZ:=hl x (ax Cd);have Ld:H.fa u.toNat=x:=by unfold Ho.fa;rw[aq,Cd];rfl
 obtain⟨c1,c2,-,-⟩:=nf (bd:=bd) hV Ey;refine K.fact (fun w hw=>aU (E:=142) (sz:=6) (cf:=BZ) (v:=pv.1) (xs:=x.aO) (dj (f:=cY) (i:=u.toNat) (by rw[aG,Ey];rfl) (by rw[aG,Cd];rfl) (hw.pick (A:=bZ cY (V.us.map (·.1)) (H.aA.map (·.aO))) bn))) ?_
 rintro⟨a1,k1,GD,-⟩;refine K.fact (fun w hw=>aU (E:=146) (sz:=2) (cf:=Cw) (v:=pv.2) (xs:=x.bf) (dj (f:=cV) (i:=u.toNat) (by rw[aG,Ey];rfl) (by rw[aG,Cd];rfl) (hw.pick (A:=bZ cV (V.us.map (·.2)) (H.aA.map (·.bf))) bn))) ?_
 rintro⟨a2,k2,hv2,-⟩;rw[GD]at c1;rw[hv2]at c2;refine K.draw [.pure,.pure,.pure,.pure,.pure,.pure,.read,.pure,.pure,.pure,.pure,.pure,.pure,.pure,.read,.pure,.pure,.pure,.pure] [0,1,2,3,4,5,6,7,8,9,10,11,12,13,14,15,16,17,18] bC bC ?_;refine rP ?_;refine Vw ?_;refine VN ?_;refine KO.db (i:=12+2*u.toNat) rfl rfl isAgg127 bQ Sb c1 rfl ?_;refine KO.len rfl underlying127 rfl ?_;refine rP ?_;refine Vw ?_;refine VM ?_;refine KO.db (i:=13+2*u.toNat) rfl rfl isAgg128 bQ Sb c2 rfl ?_;refine KO.len rfl underlying128 rfl ?_;refine xc ?_;refine VW ?_;refine K.br rfl (fun h3=>?_) (fun h3=>?_)
 ·have he:BF H u=8:=by unfold BF;rw[if_neg hu,Ld,if_pos ae]
  refine wz ?_;refine KQ.bB rfl rfl (fun w' aT=>⟨_,_,rfl,ends 8 ai he,bR V hV (aT.all OA)⟩)
 refine oW ?_;cases rv:H.down with
 |true=>
  have he:BF H u=6:=by unfold BF;rw[if_neg hu,Ld,if_neg ae,if_pos rv]
  refine Fk ?_;refine qE ?_;refine K.cL rfl rv ?_;refine wz ?_;refine KQ.bB rfl rfl (fun w' aT=>⟨_,_,rfl,ends 6 ai he,bR V hV (aT.all OA)⟩)
 |false=>
 have he:BF H u=0:=by unfold BF;rw[if_neg hu,Ld,if_neg ae,if_neg Wd]
 refine Fk ?_;refine qE ?_;refine K.da rfl rv ?_;refine Vv ?_;refine Z8 ?_;refine KO.cl (cp:=[]) rfl rfl rfl call63 rfl (Tc w0 L bh bd V H hV ae) ?_;rintro va L' ⟨js,EJ,rfl⟩;refine KO.fact (fun w hw=>aU (E:=119) (sz:=1) (cf:=B2) (hw.pick .head)) ?_;rintro⟨ad,cap,rfl,had⟩;refine KO.len rfl underlying152 rfl ?_;refine mK ?_;have SM:js.length=V.ps.length:=by have :=EJ.length_eq;simpa using this
 refine K.loop (fun k:Nat=>[(0,bp bh),(1,.int .i64 u),(42,.slice ad (js.map fun j=>V.ps.getD j 0).length cap),(43,.int .i64 ((js.map fun j=>V.ps.getD j 0).length:Nat)),(44,.int .i64 (k:Nat))])
  (fun k=>Ir (.slice ad (js.map fun j=>V.ps.getD j 0).length cap) (js.map fun j=>V.ps.getD j 0)::bZ iP V.ps (jq u H.all (js.take k))::bI bh (.cells (eK bd V H).toArray 133 (0,0))::kA V.nv H.names::bV Value.string V.mb (dq V H)::bZ cY (V.us.map (·.1)) (H.aA.map (·.aO))::bZ cV (V.us.map (·.2)) (H.aA.map (·.bf))::bZ dL V.bs H.batch::L)
  (fun k=>k<=js.length) (fun k=>js.length-k) 0 (aV _) ⟨rfl,rfl,rfl,rfl,rfl,trivial⟩ (fun _ h=>h.all Y7) ?_
 rintro k hk;refine hF ?_;refine K.br rfl (fun h8=>?_) (fun h8=>?_)
 ·rw[aW]at h8;obtain⟨j,hj⟩:∃e,js[k]? =some e:=⟨js[k],ao ae⟩;have hjr:j<V.ps.length:=by have :=EJ.mem_iff.1 (ax hj);simpa using this
  obtain⟨p,hp⟩:∃e,V.ps[j]? =some e:=⟨_,ao hjr⟩;have hpj:(js.map fun j=>V.ps.getD j 0)[k]? =some p:=by rw[aG,hj,Option.map_some,aq,hp];rfl
  obtain⟨g,rfl⟩:=had lO;have hal:=ot hV.ways;have hle:=uw u (js.take k) H.all;have hq:(jq u H.all (js.take k))[j]? =some ((jq u H.all (js.take k)).getD j default):=by rw[aq,ao ae];rfl
  have X5:=yZ u (js.take k) H.all hB.qs _ (ax hq);have SJ:=X5.len;have yA:=yY (u:=u) (l:=H.all) hj;generalize jq u H.all (js.take k)=lk at hq SJ yA;generalize lk.getD j default=q at hq SJ yA;refine oY ?_;refine ZI ?_;refine qE ?_;refine iX ?_;refine KO.cl (cp:=[]) rfl rfl rfl call64 rfl (KC.lW (φ:=fun v=>v=.tuple #[]) hp hq bn (fun L=>Ny w0 L p q u true ae)) ?_;rintro v' L' ⟨rfl,rfl⟩;refine s8 ?_;refine KQ.round (k+1) ae ae ⟨rfl,rfl,rfl,rfl,rfl,trivial⟩ (fun _ h=>?_);rw[yA];exact h.all Y3
 ·have ru:k=js.length:=by rw[aW]at h8;omega
  subst ru;rw[List.take_length,Br u (by rw[ot hV.ways,<-oS];exact EJ)];refine Z9 ?_;refine ZF ?_;refine kr ?_;refine Vw ?_;refine KO.Il (b:=bh) (off:=12+2*u.toNat) (us:=[.slice none 0 0,.slice none 0 0]) rfl rfl Sb rfl aP (by exact sizeOf130) aP bn (by rw[qe hV];simp;omega) (ED hV Qo) ?_;refine pP ?_;refine KQ.bB rfl rfl (fun w' aT=>⟨_,_,rfl,⟨by rw[he];rfl,rfl⟩,?_⟩);have e1:rH H u=cM (cK H u) u.toNat cN:=by unfold rH;rw[if_pos he]
  rw[e1];exact A7 hV u Qo (aT.all Y1)
theorem QA{w0 w:World}{L R:List HP}{bh bd:Nat}{V:r5}{H:Ho}(hV:iN V H){u:Nat}{p:Value×Value}(hp:V.us[u]? =some p)(hk:bF L (bI bh (.cells (eK bd V H).toArray 133 (0,0))) R)(hw:St w0 L w){ad:Addr}(ha:ad=⟨bh,12+2*u,none⟩):cr w ad [p.1,p.2]:=by
 obtain⟨c1,c2,-,-⟩:=nf (bd:=bd) hV hp;subst ha;intro j c hj;rw[Addr.add_lit,World.cell?,(hw.oD hk).2]
 match j with
 |0=>simp at hj;subst hj;simpa using c1
 |1=>simp at hj;subst hj;rw[show 12+2*u+1=13+2*u by omega];simpa using c2
 |j+2=>simp at hj
theorem Bb(w0:World)(L:List HP)(bh bd n:Nat)(H:Ho)(D:Dk)(u:Int)(hT:o0 w0)(hM:o2 w0)(hB:cF n H)(hn:n+700<=90000)(hl:∀x∈H.aA,fE x)(h3:D.places.length=300)(hd: -4000000000000000000<=D.left/\D.left<=9223372036854775807):
 KC prog 16 #[bp bh,.int .i64 u] w0 (dy bh bd H::fv bd D::L) (fun v M=>v=cI 70 (vA H D u)/\M=dy bh bd (oU H D u)::fv bd (qn H D u)::L):=by
 have FM:=hB.mB;have abP:=hB.used;have ends:∀k:Int,k≠0->lI H u=k->(cI 70 k=cI 70 (vA H D u)/\dy bh bd H::fv bd D::L=dy bh bd (oU H D u)::fv bd (qn H D u)::L):=fun k hk he=>by
  have h0:lI H u≠0:=by rw[he];exact hk
  unfold vA oU qn;rw[if_pos h0,if_pos h0,if_pos h0,he];exact⟨rfl,rfl⟩
 refine KC.mk (n:=113) func16 rfl ntmps16 aj ?_;refine zm ?_;by_cases hu:u<0\/5<=u
 ·have he:lI H u=2:=by unfold lI;rw[if_pos hu]
  by_cases SI:u<0
  ·refine wD ?_;refine zx ?_;refine Oa ?_;refine rO ?_;refine KQ.bB rfl rfl (fun w' aT=>⟨_,_,rfl,ends 2 ai he,aT⟩)
  ·refine CT ?_;refine Z2 ?_;refine K.cL rfl Ow ?_;refine rO ?_;refine KQ.bB rfl rfl (fun w' aT=>⟨_,_,rfl,ends 2 ai he,aT⟩)
 refine CT ?_;refine Z2 ?_;refine K.da rfl Ow ?_;refine Z6 ?_;refine K.cq (fun _ h=>cx h) ?_;rintro⟨V,hV⟩;dsimp only;have Qo:u.toNat<5:=by omega
 have J9:u=((u.toNat:Nat):Int):=by omega
 have Ce:=hV.us;have iy:=hV.aA;have oS:=hV.ps;obtain⟨⟨v1,v2⟩,Ey⟩:∃e,V.us[u.toNat]? =some e:=⟨_,ao ae⟩;obtain⟨x,Cd⟩:∃e,H.aA[u.toNat]? =some e:=⟨_,ao ae⟩;have SE:=hl x (ax Cd);have M4:=SE.many;have Ld:H.fa u.toNat=x:=by unfold Ho.fa;rw[aq,Cd];rfl
 have g1:(V.us.map (·.1))[u.toNat]? =some v1:=by rw[aG,Ey];rfl
 have g2:(V.us.map (·.2))[u.toNat]? =some v2:=by rw[aG,Ey];rfl
 have g3:(H.aA.map (·.aO))[u.toNat]? =some x.aO:=by rw[aG,Cd];rfl
 have g4:(H.aA.map (·.bf))[u.toNat]? =some x.bf:=by rw[aG,Cd];rfl
 refine K.fact (fun w hw=>aU (E:=142) (sz:=6) (cf:=BZ) (v:=v1) (xs:=x.aO) (dj (f:=cY) g1 g3 (hw.pick (A:=bZ cY (V.us.map (·.1)) (H.aA.map (·.aO))) bn))) ?_
 rintro⟨a1,k1,rfl,ac0⟩;refine K.fact (fun w hw=>aU (E:=146) (sz:=2) (cf:=Cw) (v:=v2) (xs:=x.bf) (dj (f:=cV) g2 g4 (hw.pick (A:=bZ cV (V.us.map (·.2)) (H.aA.map (·.bf))) bn))) ?_
 rintro⟨a2,k2,rfl,acZ⟩;refine nD ?_;refine Vw ?_;refine KO.T5 (cs:=#[.slice a1 x.aO.length k1,.slice a2 x.bf.length k2]) rfl rfl isAgg130 sizeOf130 rfl (fun w hw=>QA hV Ey (L:=zF bh bd V H (fv bd D::L)) .head hw Sb) rfl ?_;refine KO.alloc rfl zeroValue130 aP rfl ?_;intro b5;refine KO.oL rfl rfl rfl aP (by exact sizeOf130) aP bQ aP ?_;refine wA ?_;refine KO.fw (off:=0) rfl runUnderlying130 rfl rfl sizeOf127 rfl ?_;refine KO.ld rfl rfl isAgg127 bQ aP rfl ?_;refine KO.len rfl underlying127 rfl ?_;refine KO.fw (off:=1) rfl runUnderlying130 rfl rfl sizeOf128 rfl ?_;refine KO.ld rfl rfl isAgg128 bQ aP rfl ?_;refine KO.len rfl underlying128 rfl ?_;refine xc ?_;refine uK ?_;refine K.br rfl (fun h4=>?_) (fun h4=>?_)
 ·have he:lI H u=8:=by unfold lI;rw[if_neg hu,Ld,if_pos ae]
  refine rO ?_;refine KQ.bB rfl rfl (fun w' aT=>⟨_,dy bh bd H::fv bd D::L,rfl,?_,?_⟩)
  ·exact ends 8 ai he
  ·exact bR V hV (aT.all Y1)
 have he:lI H u=0:=by unfold lI;rw[if_neg hu,Ld,if_neg ae]
 have Yt:vA H D u=dV H D:=by unfold vA;rw[if_neg (by rw[he];decide)]
 have Yu:qn H D u=fY H D (ku x):=by unfold qn;rw[if_neg (by rw[he];decide),Ld]
 have QQ:oU H D u=if dV H D≠0 then dD H D else(eI (cM (cK (dD H D) u) u.toNat cN) (nY x)).1:=by unfold oU;rw[if_neg (by rw[he];decide),Ld]
 refine wx ?_;refine kE ?_;refine K.conv (L':=SL 142 6 BZ (.slice a1 x.aO.length k1) x.aO::SL 146 2 Cw (.slice a2 x.bf.length k2) x.bf::bI b5 (.cells [Value.slice a1 x.aO.length k1,.slice a2 x.bf.length k2].toArray 130 (0,0))::bI bh (.cells (eK bd V H).toArray 133 (0,0))::kA V.nv H.names::bV Value.string V.mb (dq V H)::bZ iP V.ps H.all::bZ cY ((V.us.map (·.1)).eraseIdx u.toNat) ((H.aA.map (·.aO)).eraseIdx u.toNat)::bZ cV ((V.us.map (·.2)).eraseIdx u.toNat) ((H.aA.map (·.bf)).eraseIdx u.toNat)::bZ dL V.bs H.batch::fv bd D::L) (fun w hw=>?_) ?_
 ·have h1:=dj (f:=cY) g1 g3 (hw.pick (A:=bZ cY (V.us.map (·.1)) (H.aA.map (·.aO))) bn)
  have h2:=dj (f:=cV) g2 g4 (h1.pick (A:=bZ cV (V.us.map (·.2)) (H.aA.map (·.bf))) bn)
  exact h2.all Y7
 refine dM ?_;refine KO.fw (off:=1) rfl runUnderlying130 rfl rfl sizeOf128 rfl ?_;refine KO.ld rfl rfl isAgg128 bn aP rfl ?_;refine KO.len rfl underlying128 rfl ?_;refine mK ?_;refine K.loop (fun p:Nat×Value=>[(0,bp bh),(1,.int .i64 u),(5,.pointer (some ⟨b5,0,none⟩)),(6,p.2),(40,.slice a2 x.bf.length k2),(41,.int .i64 (x.bf.length:Nat)),(42,.int .i64 (p.1:Nat))])
  (fun p=>kO p.2 ((x.bf.take p.1).map gx)::SL 142 6 BZ (.slice a1 x.aO.length k1) x.aO::SL 146 2 Cw (.slice a2 x.bf.length k2) x.bf::bI b5 (.cells [Value.slice a1 x.aO.length k1,.slice a2 x.bf.length k2].toArray 130 (0,0))::bI bh (.cells (eK bd V H).toArray 133 (0,0))::kA V.nv H.names::bV Value.string V.mb (dq V H)::bZ iP V.ps H.all::bZ cY ((V.us.map (·.1)).eraseIdx u.toNat) ((H.aA.map (·.aO)).eraseIdx u.toNat)::bZ cV ((V.us.map (·.2)).eraseIdx u.toNat) ((H.aA.map (·.bf)).eraseIdx u.toNat)::bZ dL V.bs H.batch::fv bd D::L) (fun p=>p.1<=x.bf.length) (fun p=>x.bf.length-p.1) (0,.slice none 0 0)
  (aV _) ⟨rfl,rfl,rfl,rfl,rfl,rfl,rfl,trivial⟩ (fun _ h=>?_) ?_
 ·have h1:=cD (E:=9) (sz:=1) (cf:=j7) h;exact h1
 rintro⟨k,v6⟩ hk;dsimp only at hk ⊢;refine hF ?_;refine K.br rfl (fun h8=>?_) (fun h8=>?_)
 ·obtain⟨g,hg⟩:∃e,x.bf[k]? =some e:=⟨x.bf[k],ao ae⟩;obtain⟨ag,rfl⟩:=acZ ae;have hgo:=SE.bf g (ax hg);obtain⟨gi,gq⟩:=g;dsimp only at hgo;have hq8:=(iG hgo.2.2).2;have hi:=cv (n:=gi) ⟨by omega,by omega⟩;have z2:(⟨#[32]⟩:ak).size=1:=rfl;have z3:(bP gi++⟨#[32]⟩:ak).size<=22:=by simp only[aQ];omega
  refine oY ?_;refine KO.eF rfl rfl runUnderlying128 sizeOf146 aP ae rfl ?_;refine KO.vS rfl rfl isAgg146 sizeOf146 bn (fun _=>rfl) tr rfl ?_;refine KO.alloc rfl zeroValue146 aP rfl ?_;intro b8;refine KO.oL rfl rfl rfl aP (by exact sizeOf146) aP bQ aP ?_;refine Z2 ?_;refine K.draw [.pure,.pure,.read,.c7,.pure,.pure,.read,.pure,.c7,.write,.pure] [0,1,2,5,6,3,4,7,8,9,10] bC bC ?_;refine Z1 ?_;refine KO.fw (off:=0) rfl runUnderlying146 rfl rfl sizeOf3 rfl ?_;refine KO.ld (v:=.int .i64 gi) rfl rfl isAgg3 bQ aP rfl ?_;refine KO.fw (off:=1) rfl runUnderlying146 rfl rfl sizeOf9 rfl ?_;refine KO.ld (v:=.string gq) rfl rfl isAgg9 bQ aP rfl ?_;refine KO.ce (cp:=[]) rfl rfl rfl call59 rfl (jM w0 _ gi hT ⟨by omega,by omega⟩) ?_;rintro v' L' ⟨rfl,rfl⟩;refine pR ?_;refine pR ?_;refine KO.kL (z:=(Value.string ⟨#[]⟩)) (sz:=1) (dI:=16) rfl rfl underlying115 bC aP aP ai ai rfl ?_;intro b54;refine KO.app (cf:=j7) (z:=Value.string ⟨#[]⟩) (sz:=1) (dI:=16) (xs:=(x.bf.take k).map gx) rfl rfl rfl (.tail (.tail .head)) .head underlying115 lv rfl (gx (gi,gq)) rfl rfl rfl fx ai rfl ?_;intro v9;refine uM ?_;refine KQ.round (k+1,v9) gV gV ⟨rfl,rfl,rfl,rfl,rfl,rfl,rfl,trivial⟩ (fun _ h=>?_);dsimp only
  rw[bG hg,aN];exact h.all Y5
 have ru:k=x.bf.length:=by omega
 subst ru;rw[List.take_length];refine Z9 ?_;refine dM ?_;refine lZ ?_;refine KO.fw (off:=0) rfl runUnderlying130 rfl rfl sizeOf127 rfl ?_;refine KO.ld rfl rfl isAgg127 bn aP rfl ?_;refine KO.len rfl underlying127 rfl ?_;refine mK ?_;refine K.loop (fun p:Nat×Value=>[(0,bp bh),(1,.int .i64 u),(6,v6),(9,p.2),(58,.slice a1 x.aO.length k1),(59,.int .i64 (x.aO.length:Nat)),(60,.int .i64 (p.1:Nat))])
  (fun p=>SL 44 5 dh p.2 ((x.aO.take p.1).map (·.1))::kO v6 (x.bf.map gx)::SL 142 6 BZ (.slice a1 x.aO.length k1) x.aO::SL 146 2 Cw (.slice a2 x.bf.length k2) x.bf::bI bh (.cells (eK bd V H).toArray 133 (0,0))::kA V.nv H.names::bV Value.string V.mb (dq V H)::bZ iP V.ps H.all::bZ cY ((V.us.map (·.1)).eraseIdx u.toNat) ((H.aA.map (·.aO)).eraseIdx u.toNat)::bZ cV ((V.us.map (·.2)).eraseIdx u.toNat) ((H.aA.map (·.bf)).eraseIdx u.toNat)::bZ dL V.bs H.batch::fv bd D::L) (fun p=>p.1<=x.aO.length) (fun p=>x.aO.length-p.1) (0,.slice none 0 0)
  (aV _) ⟨rfl,rfl,rfl,rfl,rfl,rfl,rfl,trivial⟩ (fun _ h=>?_) ?_
 ·have h1:=cD (E:=44) (sz:=5) (cf:=dh) h;exact h1.all Y5
 rintro⟨k,v9⟩ hk;dsimp only at hk ⊢;refine hF ?_;refine K.br rfl (fun WY=>?_) (fun WY=>?_)
 ·obtain⟨g,hg⟩:∃e,x.aO[k]? =some e:=⟨x.aO[k],ao ae⟩;obtain⟨ag,rfl⟩:=ac0 ae;obtain⟨⟨mi,mp,mb,mq,mh⟩,pt⟩:=g;refine oY ?_;refine KO.eF rfl rfl runUnderlying127 sizeOf142 aP ae rfl ?_;refine KO.vS rfl rfl isAgg142 sizeOf142 bn (fun _=>rfl) tr rfl ?_;refine KO.alloc rfl zeroValue142 aP rfl ?_;intro b11;refine KO.oL rfl rfl rfl aP (by exact sizeOf142) aP bQ aP ?_;refine Z2 ?_;refine Z8 ?_;refine KO.fw (off:=0) rfl runUnderlying142 rfl rfl sizeOf44 rfl ?_
  (refine KO.T6 rfl rfl isAgg44 sizeOf44 bQ Y8 aP rfl ?_)
  refine KO.kL (z:=(Value.agg #[.int .i64 0,.int .i64 0,.string ⟨#[]⟩,.string ⟨#[]⟩,.int .i64 0])) (sz:=5) (dI:=56) rfl rfl underlying49 bC aP aP ai ai rfl ?_;intro b67;refine KO.app (cf:=dh) (z:=Value.agg #[.int .i64 0,.int .i64 0,.string ⟨#[]⟩,.string ⟨#[]⟩,.int .i64 0]) (sz:=5) (dI:=56) (xs:=(x.aO.take k).map (·.1)) rfl rfl rfl (.tail (.tail .head)) .head underlying49 bC aP (⟨mi,mp,mb,mq,mh⟩:Ms) rfl rfl rfl fx ai rfl ?_;intro v9'
  refine uM ?_;refine KQ.round (k+1,v9') gV gV ⟨rfl,rfl,rfl,rfl,rfl,rfl,rfl,trivial⟩ (fun _ h=>?_);dsimp only;rw[bG hg,aN];exact h.all Y5
 have ru:k=x.aO.length:=by omega
 subst ru;rw[List.take_length];refine K.conv (L':=SL 44 5 dh v9 (x.aO.map (·.1))::kO v6 (x.bf.map gx)::dy bh bd H::fv bd D::L) (fun w hw=>?_) ?_
 ·have h1:=km (f:=cY) g1 g3 (hw.all (M:=cY (.slice a1 x.aO.length k1) x.aO::bZ cY ((V.us.map (·.1)).eraseIdx u.toNat) ((H.aA.map (·.aO)).eraseIdx u.toNat)::cV (.slice a2 x.bf.length k2) x.bf::bZ cV ((V.us.map (·.2)).eraseIdx u.toNat) ((H.aA.map (·.bf)).eraseIdx u.toNat)::SL 44 5 dh v9 (x.aO.map (·.1))::kO v6 (x.bf.map gx)::bI bh (.cells (eK bd V H).toArray 133 (0,0))::kA V.nv H.names::bV Value.string V.mb (dq V H)::bZ iP V.ps H.all::bZ dL V.bs H.batch::fv bd D::L) Y7)
  have h2:=km (f:=cV) g2 g4 (h1.all (M:=cV (.slice a2 x.bf.length k2) x.bf::bZ cV ((V.us.map (·.2)).eraseIdx u.toNat) ((H.aA.map (·.bf)).eraseIdx u.toNat)::SL 44 5 dh v9 (x.aO.map (·.1))::kO v6 (x.bf.map gx)::bI bh (.cells (eK bd V H).toArray 133 (0,0))::kA V.nv H.names::bV Value.string V.mb (dq V H)::bZ iP V.ps H.all::bZ cY (V.us.map (·.1)) (H.aA.map (·.aO))::bZ dL V.bs H.batch::fv bd D::L) Y7)
  exact(bR V hV (h2.all (M:=zF bh bd V H (SL 44 5 dh v9 (x.aO.map (·.1))::kO v6 (x.bf.map gx)::fv bd D::L)) Y7)).all Y3
 refine Z9 ?_;have eZ:=SE.bad;have OU:∀m∈x.aO.map (·.1),m.body.size<=maxLen/\m.queue.size<=maxLen:=fun m hm=>nX (dx eZ m hm)
 have hgs:=SE.YV;have hpz:=SE.XC;have hrb:=SE.size;refine Z8 ?_;refine KO.ce (cp:=[]) rfl rfl rfl call60 rfl (kg w0 _ v9 (x.aO.map (·.1)) (fun w hw=>vE.Ea (E:=44) (fun _=>rfl) .head hw) hT OU fx) ?_;rintro v' L' hR;unfold OJ at hR;rw[eZ]at hR;obtain⟨rfl,rfl⟩:=hR
 refine jR ?_;refine I_ ?_;refine rT ?_;have z1:(⟨#[117,58]⟩:ak).size=2:=rfl;have z2:(⟨#[47]⟩:ak).size=1:=rfl;have z3:(⟨#[117,58]⟩++ct (x.aO.map (·.1)):ak).size<=70702:=by simp only[aQ];omega
 have z4:(⟨#[117,58]⟩++ct (x.aO.map (·.1))++⟨#[47]⟩:ak).size<=70703:=by simp only[aQ];omega
 have z5:(ct (x.aO.map (·.1))++⟨#[47]⟩:ak).size<=70701:=by simp only[aQ];omega
 have hrU:(ku x).size<=80000:=SE.Xx.size;refine iX ?_;refine pR ?_;refine pR ?_;refine Z1 ?_;refine KO.ce (cp:=[]) rfl rfl rfl call62 rfl (tU w0 _ _ v6 (x.bf.map gx) plus bn fx ae) ?_;rintro v' L' ⟨rfl,rfl⟩;refine pR ?_;refine KO.cl (cp:=[]) rfl rfl rfl call61 rfl (KC.Mc bn bn (MA w0 _ bh bd H D (ku x) hT h3 hd ae abP)) ?_;rintro v' L' ⟨rfl,rfl⟩;refine wC ?_;refine K.br rfl (fun h22=>?_) (fun h22=>?_)
 ·rw[if_pos h22]at QQ;refine Fp ?_;refine KQ.bB rfl rfl (fun w' aT=>⟨_,_,rfl,⟨by rw[Yt],rfl⟩,?_⟩);rw[QQ,Yu];exact aT.all Y5
 rw[if_neg h22]at QQ;have ado:dV H D=0:=by simpa using h22
 have gP:cF n (dD H D):=hB.log;have hq1:=gP.mB;generalize Bd:dD H D=H1 at *;refine Z6 ?_;refine K.cq (fun _ h=>cx (h.pick bQ)) ?_;rintro⟨V1,GV⟩;dsimp only;have ab7:=GV.ps;refine Z8 ?_;refine KO.cl (cp:=[]) rfl rfl rfl call63 rfl (Tc w0 _ bh bd V1 H1 GV ae) ?_;rintro va L' ⟨js,EJ,rfl⟩;refine KO.fact (fun w hw=>aU (E:=119) (sz:=1) (cf:=B2) (hw.pick .head)) ?_;rintro⟨ad,cap,rfl,had⟩;refine KO.len rfl underlying152 rfl ?_;refine mK ?_;have SM:js.length=V1.ps.length:=by have :=EJ.length_eq;simpa using this
 refine K.loop (fun k:Nat=>[(0,bp bh),(1,.int .i64 u),(6,v6),(12,.string (ct (x.aO.map (·.1)))),(90,.slice ad (js.map fun j=>V1.ps.getD j 0).length cap),(91,.int .i64 ((js.map fun j=>V1.ps.getD j 0).length:Nat)),(92,.int .i64 (k:Nat))])
  (fun k=>Ir (.slice ad (js.map fun j=>V1.ps.getD j 0).length cap) (js.map fun j=>V1.ps.getD j 0)::bZ iP V1.ps (jq u H1.all (js.take k))::bI bh (.cells (eK bd V1 H1).toArray 133 (0,0))::kA V1.nv H1.names::bV Value.string V1.mb (dq V1 H1)::bZ cY (V1.us.map (·.1)) (H1.aA.map (·.aO))::bZ cV (V1.us.map (·.2)) (H1.aA.map (·.bf))::bZ dL V1.bs H1.batch::kO v6 (x.bf.map gx)::fv bd (fY H D (ku x))::L)
  (fun k=>k<=js.length) (fun k=>js.length-k) 0 (aV _) ⟨rfl,rfl,rfl,rfl,rfl,rfl,rfl,trivial⟩ (fun _ h=>h.all Y5) ?_
 rintro k hk;refine hF ?_;refine K.br rfl (fun h8=>?_) (fun h8=>?_)
 ·rw[aW]at h8;obtain⟨j,hj⟩:∃e,js[k]? =some e:=⟨js[k],ao ae⟩;have hjr:j<V1.ps.length:=by have :=EJ.mem_iff.1 (ax hj);simpa using this
  obtain⟨p,hp⟩:∃e,V1.ps[j]? =some e:=⟨_,ao hjr⟩;have hpj:(js.map fun j=>V1.ps.getD j 0)[k]? =some p:=by rw[aG,hj,Option.map_some,aq,hp];rfl
  obtain⟨g,rfl⟩:=had lO;have hal:=ot GV.ways;have hle:=uw u (js.take k) H1.all;have hq:(jq u H1.all (js.take k))[j]? =some ((jq u H1.all (js.take k)).getD j default):=by rw[aq,ao ae];rfl
  have X5:=yZ u (js.take k) H1.all gP.qs _ (ax hq);have SJ:=X5.len;have yA:=yY (u:=u) (l:=H1.all) hj;generalize jq u H1.all (js.take k)=lk at hq SJ yA;generalize lk.getD j default=q at hq SJ yA;refine oY ?_;refine ZI ?_;refine qE ?_;refine iX ?_;refine KO.cl (cp:=[]) rfl rfl rfl call64 rfl (KC.lW (φ:=fun v=>v=.tuple #[]) hp hq bn (fun L=>Ny w0 L p q u true ae)) ?_;rintro v' L' ⟨rfl,rfl⟩;refine s8 ?_;refine KQ.round (k+1) ae ae ⟨rfl,rfl,rfl,rfl,rfl,rfl,rfl,trivial⟩ (fun _ h=>?_);rw[yA];exact h.all Y3
 have ru:k=js.length:=by rw[aW]at h8;omega
 subst ru;rw[List.take_length,Br u (by rw[ot GV.ways,<-ab7];exact EJ)];refine Z9 ?_;refine ZF ?_;refine kr ?_;refine Vw ?_;refine KO.Il (b:=bh) (off:=12+2*u.toNat) (us:=[.slice none 0 0,.slice none 0 0]) rfl rfl Sb rfl aP (by exact sizeOf130) aP bn (by rw[qe GV];simp;omega) (ED GV Qo) ?_;refine Z0 ?_;refine K.conv (L':=dy bh bd (cM (cK H1 u) u.toNat cN)::kO v6 (x.bf.map gx)::fv bd (fY H D (ku x))::L) (fun w hw=>A7 GV u Qo (hw.all Y1)) ?_
 have w5:cF n (cM (cK H1 u) u.toNat cN):=(gP.cK u).cM _ _;have Qw:∀l,rn (cX 47 (nY x)).1=some l->n+l.length<=90000:=fun l zI=>by
  rw[SE.read]at zI;simp only[az]at zI;subst zI;simp;omega
 refine iX ?_;refine pR ?_;refine Z1 ?_;refine KO.ce (cp:=[]) rfl rfl rfl call62 rfl (tU w0 _ _ v6 (x.bf.map gx) plus bn fx ae) ?_;rintro v' L' ⟨rfl,rfl⟩;refine pR ?_;refine KO.cl (cp:=[]) rfl rfl rfl call65 rfl (KC.oN bQ (IN w0 _ bh bd n (cM (cK H1 u) u.toNat cN) (nY x) hT hM ae w5 Qw ae)) ?_;rintro v' L' ⟨rfl,rfl⟩;refine pP ?_;refine KQ.bB rfl rfl (fun w' aT=>⟨_,_,rfl,⟨by rw[Yt,ado];rfl,rfl⟩,?_⟩);rw[QQ,Yu];exact aT.all Y5
end Go.Proofs.YtjhogocabcdjbabGreatDoor
namespace WB
open Go Go.RowKit Go.Sort Go.Shelf Go.Proofs
section
variable {w0 w:World} {L R:List HP} {E:TypeId} {α:Type} [Inhabited α] {cf:α->List Value} {k:Nat} {xs ys:List α} {v:Value} {g n cap:Nat}
theorem Bk(hk:∀x,(cf x).length=k)(xs:List α)(j:Nat)(hj:j<xs.length *k):(xs.flatMap cf)[j]? =some (flatK cf k xs.toArray)[j]! :=by
 have qB:0<k:=by rcases Nat.eq_zero_or_pos k with h|h;· subst h;simp at hj
                 ·exact h
 have hd:j/k<xs.length:=(Nat.div_lt_iff_lt_mul qB).2 hj;have hm:j%k<k:=Nat.mod_lt _ qB;rw[get_flatK _ _ _ _ ZZ];have :=flat_get cf k hk default xs (j/k) (j%k) hd hm;rw[Nat.div_add_mod']at this;rw[this];have e1:xs.toArray[j/k]! =xs.getD (j/k) default:=by simp[aq,hd]
 rw[e1,ao (by rw[hk];exact hm),List.getElem!_eq_getElem?_getD,ao (by rw[hk];exact hm)];rfl
theorem A6(hk:∀x,(cf x).length=k)(h:St w0 (SL E k cf (.slice (some ⟨g,0,none⟩) n cap) xs::R) w):HoldsK cf k w g 0 xs.toArray:=by
 obtain⟨rfl,h2,_,cur,h4,h5,h6⟩:=gp h;intro j hj;have WQ:j<xs.length *k:=by simpa using hj
 have hl:=h6.look.2;refine⟨?_,?_⟩
 ·rw[Nat.zero_add,World.cell?,hl];have :=Bk (cf:=cf) hk xs j WQ;rw[<-h5,List.getElem?_take,if_pos WQ]at this;simpa using this
 ·rw[World.frozen?,hl];simp
theorem St.grow(h:St w0 L w)(q:Nat)(os:Array Obj):St w0 L (Sort.grow (Sort.ahead w q) os):=h.aC (Lib.below_grow w.heap.size w (aF _) q os)
theorem St.sorted(hk:∀x,(cf x).length=k)(h:St w0 (SL E k cf (.slice (some ⟨g,0,none⟩) n cap) xs::R) w)(hl:ys.length=xs.length)(q:Nat)(os:Array Obj):
 St w0 (SL E k cf (.slice (some ⟨g,0,none⟩) n cap) ys::R) (Sort.grow (putRowK cf k (Sort.ahead w q) g 0 ys.toArray) os):=by
 obtain⟨rfl,h2,h3,cur,h4,h5,h6⟩:=gp h;have WN:=h6.look.2;have hle:xs.length *k<=cap *k:=Nat.mul_le_mul_right _ h2;have hup:St w0 (bI g (.cells (putCells id 0 (flatK cf k ys.toArray) cur) E (0,0))::R) (putRowK cf k (Sort.ahead w q) g 0 ys.toArray):=by
  refine h6.upd rfl rfl rfl (by simp[putRowK]) ?_ ?_
  ·simp[putRowK,putRow,mapBlock,Array.getElem?_modify,WN,onCells]
  ·intro b hb;simp[putRowK,putRow,mapBlock,Array.getElem?_modify,Ne.symm hb]
 have hs:(putCells id 0 (flatK cf k ys.toArray) cur).size=cap *k:=by simp[putCells,h4]
 have hr:=FF (cf:=cf) (sz:=k) (xs:=ys) hup ae h3 hs ?_
 ·rw[hl]at hr;exact hr.grow 0 os
 ·apply List.ext_getElem?;intro j;rw[List.getElem?_take];by_cases hj:j<ys.length *k
  ·rw[if_pos hj,Bk hk ys j hj];have hjc:j<cur.size:=by rw[h4];rw[hl]at hj;omega
   simp[putCells,hjc,hj]
  ·rw[if_neg hj,bH (by rw[nj hk];omega)]
end
section
variable {P:Program} {ρ:Ren} {α:Type} [Inhabited α]
def adX (P:Program) (f:Nat) (cf:α->List Value) (k:Nat) (lt:α->α->Bool) (Bs:Nat):Prop:=
 ∀(W:World) (g n c:Nat) (dk:Array α),dk.size=n->W.cell? ⟨Bs,0,none⟩=some (.slice (some ⟨g,0,none⟩) n c)->HoldsK cf k W g 0 dk->∀i j:Nat,i<n->j<n->
  Calls P f #[.int .i64 i,.int .i64 j,.pointer (some ⟨Bs,0,none⟩)] W fun e w'=>e=.returned (.bool (lt dk[i]! dk[j]!))/\∃q,w'=W.drewN q
end
open Go Go.RowKit
section
variable {κ:Type} [DecidableEq κ] {kv:κ->Value} {kd:TypeDesc}
variable {P:Program} {ops:Array Oper} {d:Bool} {Q:Exit->Act->World->Prop} {n:Nat} {D:List Deferred} {w0:World} {G:Env} {L R:List HP} {l:List (Kd×Oper)} {k:Kd}
 {ty T KT E:TypeId} {pos:String} {af:Array Edge} {x y u:Operand} {v:Value} {b:Nat} {m:List (κ×Value)}
theorem KO.ins(K:KeyLaw kd kv)(s:κ)(hk:(!d||k== .write)=true)(hx:ev G x=some (.map (some b)))(hy:ev G y=some (kv s))(hu:ev G u=some v)(hT:P.underlying T=some (.map KT E))(hK:P.underlying KT=some kd)(hp:bF L (bV kv b m) R)(h:KO P ops d Q n D w0 G (bV kv b (fL m s v)::R) l):KO P ops d Q n D w0 G L ((k,⟨none,.insert T x y u,ty,pos,af,none⟩)::l):=
 KO.Dq hk (fun a w ha hw=>by
  obtain⟨w',hr,hs⟩:=AS (P:=P) K (hw.pick hp) hT hK s v
  exact⟨w',by simp[execOp,ha.eval hx,ha.eval hy,ha.eval hu,hr],hs⟩) h
end
theorem pG{α β:Type}{f:α->β->HP}{w0 w:World}{L:List HP}{p:α}{x:β}(hf:∀L,St w0 L w->St w0 (f p x::L) w)(n:Nat)(h:St w0 L w):St w0 (bZ f (List.replicate n p) (List.replicate n x)::L) w:=by
 refine uu ?_
 induction n with
 |zero=>exact h
 |succ n ih=>exact hf _ ih
def bO (id:Int):Ho:=⟨id,0,false,-1,0,[],[(cz,⟨[],0⟩)],List.replicate 4 ⟨[],0⟩,List.replicate 5 ⟨[],[]⟩,List.replicate 4 [],List.replicate 4 0,List.replicate 4 0⟩
theorem Ct{id:Int}(h:0<=id/\id<4):cF 10 (bO id):=by
 refine⟨h,by simp[bO],by simp[bO],xH,by simp[bO],by simp[bO],fun q hq=>?_,by simp[bO],rfl,rfl,rfl,rfl,rfl,(fun x hx=>by simp[bO]at hx),(fun x hx=>by simp[bO]at hx),⟨fun l hl=>by simp[bO]at hl;subst hl;simp,fun x hx=>by simp[bO]at hx;subst hx;omega,fun x hx=>by simp[bO]at hx;subst hx;omega⟩⟩;have :q=⟨[],0⟩:=by simp[bO,Ho.all]at hq;exact hq
 subst this;exact QB.nil
structure kY (H H':Ho):Prop where
 id:H'.id=H.id
 used:H'.used=H.used
 down:H'.down=H.down
 cZ:H'.cZ=H.cZ
 aA:H'.aA=H.aA
 batch:H'.batch=H.batch
 cg:H'.cg=H.cg
 aM:H'.aM=H.aM
theorem kY.refl(H:Ho):kY H H:=⟨rfl,rfl,rfl,rfl,rfl,rfl,rfl,rfl⟩
theorem kY.trans{A B C:Ho}(h:kY A B)(g:kY B C):kY A C:=⟨g.id.trans h.id,g.used.trans h.used,g.down.trans h.down,g.cZ.trans h.cZ,g.aA.trans h.aA,g.batch.trans h.batch,g.cg.trans h.cg,g.aM.trans h.aM⟩
theorem J_(H:Ho)(x:Nm):kY H (iL H x):=by unfold iL;split<;>exact⟨rfl,rfl,rfl,rfl,rfl,rfl,rfl,rfl⟩
theorem GG{H H1:Ho}{m:Ms}(h:fC H m=some H1):kY H H1:=by
 unfold fC at h;dsimp only at h;split at h
 ·simp only[az]at h;subst h;exact⟨rfl,rfl,rfl,rfl,rfl,rfl,rfl,rfl⟩
 ·split at h
  ·cases h
  ·simp only[az]at h;subst h;exact⟨rfl,rfl,rfl,rfl,rfl,rfl,rfl,rfl⟩
theorem oc:∀(l:List Ms) (H:Ho),kY H (eW H l).1
 |[],H=>.refl H
 |m::l,H=>by
  unfold eW;cases hp:fC H m with
  |none=>exact⟨rfl,rfl,rfl,rfl,rfl,rfl,rfl,rfl⟩
  |some H1=>exact(GG hp).trans (oc l H1)
theorem GM{H H1:Ho}{s:ak}(h:gN H s=some H1):kY H H1:=by
 unfold gN at h;split at h
 ·cases h
 ·split at h
  ·cases h
  ·split at h
   ·simp only[az]at h;subst h;exact⟨rfl,rfl,rfl,rfl,rfl,rfl,rfl,rfl⟩
   ·cases h
theorem yE:∀(l:List ak) (H:Ho),kY H (gk H l).1
 |[],H=>.refl H
 |s::l,H=>by
  unfold gk;cases hp:gN H s with
  |none=>exact .refl H
  |some H1=>exact(GM hp).trans (yE l H1)
theorem og(H:Ho)(s:ak):kY H (eI H s).1:=by
 unfold eI;split
 ·exact .refl H
 ·split
  ·exact .refl H
  ·rename_i l hl;split
   ·exact oc l H
   ·split
    ·exact oc l H
    ·exact(oc l H).trans (yE _ _)
structure nE (H H':Ho):Prop where
 id:H'.id=H.id
 used:H'.used=H.used
 down:H'.down=H.down
 cZ:H'.cZ=H.cZ
 aA:H'.aA=H.aA
theorem nE.refl(H:Ho):nE H H:=⟨rfl,rfl,rfl,rfl,rfl⟩
theorem nE.trans{A B C:Ho}(h:nE A B)(g:nE B C):nE A C:=⟨g.id.trans h.id,g.used.trans h.used,g.down.trans h.down,g.cZ.trans h.cZ,g.aA.trans h.aA⟩
theorem kY.p{H H':Ho}(h:kY H H'):nE H H':=⟨h.id,h.used,h.down,h.cZ,h.aA⟩
theorem GJ(H:Ho)(s:ak):nE H (gM H s).1:=by
 unfold gM;split
 ·split
  ·exact⟨rfl,rfl,rfl,rfl,rfl⟩
  ·exact .refl H
 ·exact .refl H
theorem EH(H:Ho)(s:ak):nE H (eG H s).1:=by
 unfold eG;split
 ·split
  ·exact⟨rfl,rfl,rfl,rfl,rfl⟩
  ·exact .refl H
 ·exact .refl H
theorem pE:∀(l:List (Ms×ak)) (H:Ho),nE H (dS H l).1
 |[],H=>.refl H
 |(m,t)::l,H=>by
  unfold dS;split
  ·exact .refl H
  ·rename_i i _;exact nE.trans (B:=H.eP i (cP (H.dP i) m (-1))) ⟨rfl,rfl,rfl,rfl,rfl⟩ (pE l _)
theorem GQ(H:Ho)(s:ak):nE H (gO H s).1:=by
 unfold gO;split
 ·rename_i a b c _;split
  ·rename_i k l _ _;split
   ·split
    ·have h1:=pE (l.zip (di 43 c)) H;exact⟨h1.id,h1.used,h1.down,h1.cZ,h1.aA⟩
    ·exact pE _ H
   ·exact .refl H
  ·exact .refl H
 ·exact .refl H
theorem fD(H:Ho)(s:ak):nE H (bY H s).1:=by
 unfold bY;split
 ·split
  ·exact .refl H
  ·exact(J_ H _).p
 ·split
  ·exact⟨rfl,rfl,rfl,rfl,rfl⟩
  ·split
   ·exact(og H _).p
   ·split
    ·exact GJ H _
    ·split
     ·exact EH H _
     ·split
      ·exact GQ H _
      ·exact .refl H
def hU (D:Dk):Nat->Ho->Ho
 |0,H=>H
 |f+1,H=>match gd (H.used:Nat) (D.places.getD H.used ⟨#[]⟩)with
  |none=>H
  |some s=>if(bY H s).2=false then(bY H s).1 else hU D f {(bY H s).1 with used:=H.used+1}
def iQ (id:Int) (D:Dk):Ho:=hU D 300 (bO id)
structure H9 (D:Dk):Prop where
 len:D.places.length=300
 left: -4000000000000000000<=D.left/\D.left<=9223372036854775807
 size:∀t∈D.places,t.size<=800000
 lQ:∀(k:Nat) t s,D.places[k]? =some t->gd (k:Nat) t=some s->fF 250 s
theorem cF.LH{n:Nat}{H:Ho}(h:cF n H){k:Nat}(hk:k<=300):cF n {H with used:=k}:=⟨h.id,hk,h.next,h.sorted,h.lS,h.mB,h.qs,h.nodup,h.ways,h.aA,h.batch,h.cg,h.aM,h.right,h.loc,h.ext⟩
theorem cF.Sk{n:Nat}{H:Ho}(h:cF n H)(k:Int):cF n {H with cZ:=k}:=⟨h.id,h.used,h.next,h.sorted,h.lS,h.mB,h.qs,h.nodup,h.ways,h.aA,h.batch,h.cg,h.aM,h.right,h.loc,h.ext⟩
theorem D9{D:Dk}(hD:H9 D):∀(f:Nat) (H:Ho),H.used+f<=300->cF (10+250*H.used) H->cF (260+250*(hU D f H).used) (hU D f H)
 |0,H,hu,h=>h.le (by simp only[hU];omega)
 |f+1,H,hu,h=>by
  unfold hU;obtain⟨t,ht⟩:∃t,D.places[H.used]? =some t:=⟨_,ao (by rw[hD.len];omega)⟩;have e:D.places.getD H.used ⟨#[]⟩=t:=by rw[aq,ht];rfl
  rw[e];split
  ·exact h.le ae
  ·rename_i s hs;have hr:=hD.lQ _ t s ht hs;have h1:=h.AO hr ae;split
   ·exact h1.le (by rw[(fD H s).used];omega)
   ·have h2:=(h1.LH (k:=H.used+1) ae).le (k:=10+250*(H.used+1)) ae;exact D9 hD f _ gV h2
theorem Ml{id:Int}(h:0<=id/\id<4){D:Dk}(hD:H9 D):cF (260+250*(iQ id D).used) (iQ id D):=D9 hD 300 _ (by simp[bO]) ((Ct h).le ae)
def iK (H:Ho) (s:ak):List Ms:=match H.qI s with
 |some i=>cT (H.dP i)
 |none=>[]
def lu (H:Ho) (s:ak):Int:=match H.qI s with
 |none=>7
 |some _=>if s≠cz/\fb H.names s=false then 7 else 0
def tB (H:Ho) (s:ak):List Ms:=if lu H s=0 then dK (H.dP ((H.qI s).getD 0))else[]
theorem ya(D:Dk):∀(f:Nat) (H:Ho),(hU D f H).id=H.id/\(hU D f H).down=H.down/\(hU D f H).cZ=H.cZ/\(hU D f H).aA=H.aA
 |0,H=>⟨rfl,rfl,rfl,rfl⟩
 |f+1,H=>by
  unfold hU;split
  ·exact⟨rfl,rfl,rfl,rfl⟩
  ·rename_i s hs;have h:=fD H s;split
   ·exact⟨h.id,h.down,h.cZ,h.aA⟩
   ·obtain⟨a,b,c,d⟩:=ya D f {(bY H s).1 with used:=H.used+1};exact⟨a.trans h.id,b.trans h.down,c.trans h.cZ,d.trans h.aA⟩
def fc (xs:List ak):List ak:=((xs.map (·.data.toList)).mergeSort fun x y=>decide (x<=y)).map toB
theorem q7(xs:List ak):(fc xs).Perm xs:=by
 unfold fc;refine((List.mergeSort_perm _ _).map toB).trans ?_;rw[List.map_map];have :toB∘(fun x:ak=>x.data.toList)=id:=by funext x;simp[toB]
 rw[this,List.map_id]
section
open Go.Sort Go.Shelf Go.Proofs
variable {w0 w:World} {L R:List HP} {E:TypeId} {xs ys:List ak} {v:Value} {g n cap:Nat}
def Vh (l:List UInt8):List Value:=[encStr l]
def S_ (s:ak):List Value:=[.string s]
theorem OD(E:TypeId)(v:Value)(xs:List ak):SL E 1 S_ v xs=SL E 1 Vh v (xs.map (·.data.toList)):=by
 unfold SL;rw[aW,List.flatMap_map];rfl
theorem Bj(d:Array (List UInt8))(j:Nat)(hj:j<d.size):(flatK Vh 1 d)[j]! =encStr d[j]! :=by
 rw[get_flatK _ _ _ _ ae,Nat.div_one,Nat.mod_one];rfl
theorem Ga(w:World)(g:Nat)(d:Array (List UInt8)):putRow encStr w g 0 d=putRowK Vh 1 w g 0 d:=by
 unfold putRowK putRow;congr 1;funext c;unfold putCells;congr 1;funext k x;have :(flatK Vh 1 d).size=d.size:=by simp
 rw[this];by_cases h:0<=k/\k<0+d.size
 ·rw[if_pos h,if_pos h,Nat.sub_zero,Bj d k ae];rfl
 ·rw[if_neg h,if_neg h]
theorem holds_one{d:Array (List UInt8)}(h:HoldsK Vh 1 w g 0 d):Holds encStr w g 0 d:=fun j hj=>by
 have :=h j ZZ;rw[Bj d j hj]at this;exact this
theorem Jq{P:Program}{f:FuncId}(h0:∀(p:Option Addr) (cap:Nat) (w:World),Calls P f #[.slice p 0 cap] w fun e w'=>e=.returned (.tuple #[])/\w'=w)(h1:∀(bI off cap:Nat) (ss:List (List UInt8)) (w:World),Holds encStr w bI off ss.toArray->bI<w.heap.size->ss.length<4611686018427387904->
  Calls P f #[.slice (some ⟨bI,off,none⟩) ss.length cap] w fun e w'=>e=.returned (.tuple #[])/\∃n os,w'=Go.Sort.grow (putRow encStr (Go.Sort.ahead w n) bI off (ss.mergeSort fun x y=>decide (x<=y)).toArray) os)(w0:World)(L:List HP)(v:Value)(xs:List ak)(hl:xs.length<1000000):
 KC P f #[v] w0 (SL E 1 S_ v xs::L) (fun u M=>u=.tuple #[]/\M=SL E 1 S_ v (fc xs)::L):=fun w hw=>by
 obtain⟨a,cap,rfl,ha⟩:=aU hw;by_cases hz:xs=[]
 ·subst hz;refine(h0 a cap w).mono ?_;rintro e w' ⟨rfl,rfl⟩;exact⟨_,_,rfl,⟨rfl,rfl⟩,by rw[show fc []=[]by simp[fc]];exact hw⟩
 ·have hlen:0<xs.length:=List.length_pos_iff.2 hz;obtain⟨g,rfl⟩:=ha hlen;rw[OD]at hw;have hH:=holds_one (A6 (cf:=Vh) (fun _=>rfl) hw);obtain⟨-,-,-,cur,-,-,h6⟩:=gp hw;have dt:=h6.lt;have hc:=h1 g 0 cap (xs.map (·.data.toList)) w hH dt lO
  rw[aW]at hc;refine hc.mono ?_;rintro e w' ⟨rfl,q,os,rfl⟩;refine⟨_,_,rfl,⟨rfl,rfl⟩,?_⟩;rw[Ga];have hs:=St.sorted (cf:=Vh) (fun _=>rfl) hw (ys:=(xs.map (·.data.toList)).mergeSort fun x y=>decide (x<=y)) aj q os
  rw[OD];have e:(fc xs).map (·.data.toList)=(xs.map (·.data.toList)).mergeSort fun x y=>decide (x<=y):=by
   unfold fc;rw[List.map_map];have :(fun x:ak=>x.data.toList)∘toB=id:=by funext l;simp[toB]
   rw[this,List.map_id]
  rw[e];exact hs
end
end WB
namespace Go.Proofs.YtjhogocabcdjbabGreatDoor
open Tryz
open Go Go.RowKit WB
def nR:List Value:=List.replicate 14 (.slice none 0 0)++List.replicate 8 (.int .i64 0)
def nC (id:Int) (bd mb:Nat) (ps:List Nat):List Value:=
 [.int .i64 id,bp bd,.int .i64 0,.bool false,.int .i64 (-1),.int .i64 0,.slice none 0 0,.map (some mb)]++(ps.map bp++(List.replicate (4-ps.length) (.pointer none)++nR))
theorem Mt{id:Int}{bd mb:Nat}{ps:List Nat}(p:Nat)(h:ps.length<4):(nC id bd mb ps).set (8+ps.length) (bp p)=nC id bd mb (ps++[p])/\(nC id bd mb ps).length=34:=by
 match ps,h with
 |[],_=>exact⟨rfl,rfl⟩
 |[a],_=>exact⟨rfl,rfl⟩
 |[a,b],_=>exact⟨rfl,rfl⟩
 |[a,b,c],_=>exact⟨rfl,rfl⟩
theorem Qz{w0 w:World}{L:List HP}{id:Int}{bh bd mb p0:Nat}{ps:List Nat}(h4:ps.length=4)(h:St w0 (bI bh (.cells (nC id bd mb ps).toArray 133 (0,0))::bZ iP ps (List.replicate 4 ⟨[],0⟩)::iP p0 ⟨[],0⟩::bV Value.string mb [(cz,bp p0)]::L) w):St w0 (dy bh bd (bO id)::L) w:=by
 have h1:=yT (f:=iP) (ps:=ps) (xs:=List.replicate 4 ⟨[],0⟩) (p:=p0) (x:=⟨[],0⟩) (by simpa using h4) (h.all (M:=iP p0 ⟨[],0⟩::bZ iP ps (List.replicate 4 ⟨[],0⟩)::bI bh (.cells (nC id bd mb ps).toArray 133 (0,0))::bV Value.string mb [(cz,bp p0)]::L) Y3);have h2:=pG (f:=cY) (p:=.slice none 0 0) (x:=[]) (fun L h=>cD (E:=142) (sz:=6) (cf:=BZ) h) 5 h1;have h3:=pG (f:=cV) (p:=.slice none 0 0) (x:=[]) (fun L h=>cD (E:=146) (sz:=2) (cf:=Cw) h) 5 h2;have h5:=pG (f:=dL) (p:=.slice none 0 0) (x:=[]) (fun L h=>Im h) 4 h3;have h6:=cD (E:=75) (sz:=3) (cf:=Nm.cells) h5;refine bR ⟨.slice none 0 0,mb,ps++[p0],List.replicate 5 (.slice none 0 0,.slice none 0 0),List.replicate 4 (.slice none 0 0)⟩ ⟨by simp[bO,h4],rfl,rfl,rfl,rfl,rfl,rfl,rfl⟩ ?_
 match ps,h4 with
 |[a,b,c,d],_=>exact h6.all Y7
theorem Cj(w0:World)(L:List HP)(bd:Nat)(id:Int)(D:Dk)(hT:o0 w0)(hM:o2 w0)(hid:0<=id/\id<4)(hD:H9 D):
 KC prog 11 #[.int .i64 id,bp bd] w0 (fv bd D::L) (fun u M=> ∃bh,u=.tuple #[bp bh,.nilIface]/\M=dy bh bd (iQ id D)::fv bd D::L):=by
 have hlen:=hD.len;refine KC.mk (n:=79) func11 rfl ntmps11 aj ?_;refine Z3 ?_;refine lY ?_;refine N8 ?_;refine CT ?_;refine qE ?_;refine K.da rfl Ow ?_;refine jB ?_;refine KO.yX rfl underlying25 rfl ?_;refine Z7 ?_;refine Hj ?_;refine Vv ?_;refine iX ?_;refine KO.mkm (Value.string) rfl rfl ?_;intro W6;refine VX ?_;refine KO.box rfl rfl aP rfl ?_;intro Vs;refine KO.ins fI cz rfl rfl rfl rfl underlying123 underlying9 bn ?_;refine Z1 ?_;refine KO.wh (pl:=[(0,1),(1,1),(2,1),(3,1),(4,1),(5,1),(6,1),(7,1),(8,4),(12,10),(22,4),(26,4),(30,4)]) rfl zeroValue133 runUnderlying133 (by intro w;simp[sizeOf3,sizeOf4,sizeOf25,sizeOf94,sizeOf95,sizeOf123,sizeOf125,sizeOf126,sizeOf131]) aP rfl ?_;refine KO.box rfl rfl aP rfl ?_;intro I7;refine lL ?_;refine Lr ?_;refine K.loop (fun k:List Nat=>[(1,bp bd),(6,bp I7),(30,.int .i64 (k.length:Nat))])
  (fun k=>bI I7 (.cells (nC id bd W6 k).toArray 133 (0,0))::bZ iP k (List.replicate k.length ⟨[],0⟩)::iP Vs ⟨[],0⟩::bV Value.string W6 [(cz,bp Vs)]::fv bd D::L) (fun k=>k.length<=4) (fun k=>4-k.length) []
  aj ⟨rfl,rfl,rfl,trivial⟩ (fun w h=>?_) ?_
 ·have h1:=cD (E:=243) (sz:=8) (cf:=lT) h;have h2:St w0 (iP Vs ⟨[],0⟩::bI I7 (.cells (nC id bd W6 []).toArray 133 (0,0))::bV Value.string W6 [(cz,bp Vs)]::fv bd D::L) w:=jG (h1.all Y7);exact(Rh (f:=iP) h2).all Y7
 rintro ps hk;refine hF ?_;refine K.br rfl (fun h7=>?_) (fun h7=>?_)
 ·have oe:ps.length<4:=by omega
  refine sZ ?_;refine qE ?_;refine iX ?_;refine VX ?_;refine KO.box rfl rfl aP rfl ?_;intro W5;refine kr ?_;refine RT ?_;refine KO.jP (i:=ps.length) rfl rfl runUnderlying126 sizeOf119 rfl ae rfl ?_;refine KO.fX (b:=I7) (i:=8+ps.length) rfl rfl rfl aP (by exact sizeOf119) rfl bn zz (by rw[(Mt 0 oe).2];omega) ?_;rw[show Value.pointer (some ⟨W5,0,none⟩)=bp W5 from rfl,(Mt W5 oe).1];refine s8 ?_;refine KQ.round (ps++[W5]) fx fx ⟨rfl,rfl,by simp[cQ],trivial⟩ (fun w h=>?_);have h1:=cD (E:=243) (sz:=8) (cf:=lT) h;have h2:St w0 (iP W5 ⟨[],0⟩::bZ iP ps (List.replicate ps.length ⟨[],0⟩)::bI I7 (.cells (nC id bd W6 (ps++[W5])).toArray 133 (0,0))::iP Vs ⟨[],0⟩::bV Value.string W6 [(cz,bp Vs)]::fv bd D::L) w:=jG (h1.all Y7);have h3:=yT aj h2;rw[aX,List.length_singleton,List.replicate_succ'];exact h3.all Y3
 have oe:ps.length=4:=by omega
 repeat(first|(with_reducible refine K.seq ?_)|(with_reducible refine KQ.next ?_)|(with_reducible refine KQ.iO ?_)|(with_reducible refine KQ.kp ?_)|(with_reducible refine K.exit ?_)|(with_reducible refine K.block ?_))
 refine K.conv (L':=dy I7 bd (bO id)::fv bd D::L) (fun w h=>Qz oe (by rw[oe]at h;exact h)) ?_
 refine K.loop (fun p:Nat×Ho=>[(1,bp bd),(6,bp I7)]) (fun p=>dy I7 bd p.2::fv bd D::L) (fun p=>p.1<=300/\p.2.used=p.1/\cF (10+250*p.1) p.2/\hU D (300-p.1) p.2=iQ id D) (fun p=>300-p.1) (0,bO id)
  ⟨aV _,rfl,Ct hid,rfl⟩ ⟨rfl,rfl,trivial⟩ (fun _ h=>h) ?_
 rintro⟨j,H⟩ ⟨hj,hju,hB,hop⟩;dsimp only at hj hju hB hop ⊢;have fin:∀w',St w0 (dy I7 bd (iQ id D)::fv bd D::L) w'->∃v L',Ending.returned (.tuple #[bp I7,.nilIface])=Ending.returned v/\(∃bh,v=.tuple #[bp bh,.nilIface]/\L'=dy bh bd (iQ id D)::fv bd D::L)/\St w0 L' w':=fun w' aT=>⟨_,_,rfl,⟨I7,rfl,rfl⟩,aT⟩
 refine K.cq (fun _ h=>cx (h.pick bQ)) ?_;rintro⟨V,hV⟩;dsimp only;refine Z3 ?_;refine lq ?_;refine W8 ?_;refine rQ ?_;refine K.br rfl (fun FP=>?_) (fun FP=>?_)
 ·have hj3:j<300:=by omega
  obtain⟨t,ht⟩:∃t,D.places[H.used]? =some t:=⟨_,ao ae⟩;have htz:=hD.size t (ax ht);have h_:=Kv ht;have hg:D.places.getD H.used ⟨#[]⟩=t:=by rw[aq,ht];rfl
  obtain⟨f,hf⟩:∃f,300-j=f+1:=⟨299-j,by omega⟩;rw[hf,hU,hg]at hop;refine K5 ?_;refine K.draw [.pure,.pure,.pure,.read,.pure,.pure,.pure,.pure,.read,.pure,.pure,.pure,.read,.c7,.pure,.pure,.pure,.pure,.pure] [0,1,2,3,4,5,6,7,8,9,10,11,12,13,14,15,16,17,18] bC bC ?_;refine lq ?_;refine W8 ?_;refine rP ?_;refine W8 ?_;refine kr ?_;refine KO.fw (off:=0) rfl runUnderlying28 rfl rfl sizeOf26 rfl ?_;refine KO.jP (i:=H.used) rfl rfl runUnderlying26 sizeOf9 rfl ae rfl ?_;refine KO.db (b:=bd) (cs:=CB D) (i:=H.used) rfl rfl isAgg9 (.tail (.tail (.tail (.tail (.tail (.tail (.tail .head))))))) zz h_ rfl ?_;refine KO.ce (cp:=[]) rfl rfl rfl call52 rfl (Mh w0 _ (H.used:Nat) t ⟨by omega,by omega⟩ htz hT hM) ?_;rintro v' L' ⟨rfl,rfl⟩;refine pQ ?_;refine K.conv (L':=dy I7 bd H::fv bd D::L) (fun w h=>bR V hV (h.all OA)) ?_
  cases zC:gd (H.used:Nat) t with
  |none=>
   rw[zC]at hop
   replace hop:H=iQ id D:=hop
   refine Oh ?_;refine CY ?_;refine uQ ?_;refine ZT ?_;rw[hop];refine Z8 ?_;refine pO ?_;refine KQ.eE rfl rfl rfl (fun w' aT=>fin w' aT)
  |some s=>
   rw[zC]at hop;have hr:=hD.lQ _ t s ht zC;have w5:=(hB.AO hr ae).le (show 10+250*j+250<=10+250*(j+1)by omega);have MX:=fD H s;refine zt ?_;refine Z1 ?_;refine KO.on rfl rfl rfl ?_;refine KO.cl (cp:=[]) rfl rfl rfl call53 rfl (KC.oN bQ (EB w0 _ I7 bd (10+250*j) 250 H s hT hM hB hr ae)) ?_;rintro v' L' ⟨rfl,rfl⟩;refine uL ?_;refine Z2 ?_;cases mG:(bY H s).2 with
   |false=>
    simp only[mG,if_true]at hop;refine uJ ?_;refine ZT ?_;rw[hop];refine Z8 ?_;refine pO ?_;refine KQ.eE rfl rfl rfl (fun w' aT=>fin w' (aT.all OA))
   |true=>
    simp only[mG,Bool.true_eq_false,if_false]at hop;refine wm ?_;generalize hH2:(bY H s).1=H2 at hop w5 MX;refine FD ?_;refine K.cq (fun _ h=>cx (h.pick bQ)) ?_;rintro⟨V2,sP⟩;dsimp only;have XT:H2.used=H.used:=MX.used;refine kX ?_;refine W8 ?_;refine Ht ?_;refine RP ?_;refine KO.fX (i:=2) rfl rfl rfl aP zM rfl bQ rfl (by rw[qe sP];omega) ?_;rw[show(eK bd V2 H2).set 2 (.int .i64 ((H2.used:Nat)+1:Int))=eK bd V2 {H2 with used:=H2.used+1}from rfl];refine Ad ?_;refine KQ.round (j+1,{H2 with used:=H2.used+1}) ⟨by dsimp only;omega,by dsimp only;omega,(w5.LH ae),?_⟩ gV ⟨rfl,rfl,trivial⟩ (fun w h=>?_)
    ·dsimp only;rw[show 300-(j+1)=f by omega,XT];exact hop
    ·exact bR V2 ⟨sP.ps,sP.us,sP.bs,sP.ways,sP.aA,sP.batch,sP.cg,sP.aM⟩ (h.all nI)
 ·have hj3:j=300:=by omega
  subst hj3;rw[Nat.sub_self,hU]at hop;refine Z9 ?_;refine K.conv (L':=dy I7 bd H::fv bd D::L) (fun w h=>bR V hV (h.all OA)) ?_
  rw[hop];refine Z8 ?_;refine pO ?_;refine KQ.eE rfl rfl rfl (fun w' aT=>fin w' aT)
theorem Qq(w0:World)(L:List HP)(bh bd:Nat)(H:Ho)(n:Int):KC prog 19 #[bp bh,.int .i64 n] w0 (dy bh bd H::L) (fun u M=>u=.tuple #[]/\M=dy bh bd {H with cZ:=n}::L):=by
 refine KC.mk (n:=8) func19 rfl ntmps19 aj ?_;refine K.cq (fun _ h=>cx h) ?_;rintro⟨V,hV⟩;dsimp only;refine nD ?_;refine KO.fw (off:=4) rfl runUnderlying133 rfl rfl sizeOf3 rfl ?_;refine KO.fX (i:=4) rfl rfl rfl aP zM rfl bQ rfl O8 ?_;rw[show(eK bd V H).set 4 (.int .i64 n)=eK bd V {H with cZ:=n}from rfl];refine KO.nil ?_;refine KQ.jr rfl (fun w' aT=>⟨_,_,rfl,⟨rfl,rfl⟩,bR V ⟨hV.ps,hV.us,hV.bs,hV.ways,hV.aA,hV.batch,hV.cg,hV.aM⟩ (aT.all nI)⟩)
theorem Mz{V:r5}{H:Ho}(hV:iN V H){r:Nat}{x:ak×Qu}(hx:H.aK[r]? =some x):∃v,(dq V H).getD r default=(x.1,v):=by
 have oS:=hV.ps;have hr:=(au.1 hx).1;obtain⟨p,hp⟩:∃e,V.ps[4+r]? =some e:=⟨_,ao ae⟩;refine⟨bp p,?_⟩;unfold dq rq;rw[aq,List.getElem?_zipWith,hx,List.getElem?_drop,hp];rfl
theorem UA(N M:Nat)(hNM:M *N<=900000000)(hM1:M<=800000)(hN1:N<=800000)(w0:World)(L:List HP)(bh bd n:Nat)(H:Ho)(hB:cF n H)(hn:n<=N)(vV:H.aK.length<=M):
 KC prog 20 #[bp bh] w0 (dy bh bd H::L) (fun u M=> ∃ns:List ak,ns.Perm (H.aK.map (·.1))/\M=SL 44 5 dh u ((fc ns).flatMap (iK H))::dy bh bd H::L):=by
 have FM:=hB.mB;refine KC.mk (n:=40) func20 rfl ntmps20 aj ?_;refine oW ?_;refine K.cq (fun _ h=>cx h) ?_;rintro⟨V,hV⟩;dsimp only;have oS:=hV.ps;refine dM ?_;refine lZ ?_;refine uN ?_;refine VL ?_;refine KO.rng rfl rfl underlying123 bn rfl ?_;intro r12;refine Lr ?_;refine K.loop (fun p:List Nat×List Nat×Value×Option (ak×Value)=>[(0,bp bh),(3,p.2.2.1),(12,.pointer (some ⟨r12,0,none⟩))])
  (fun p=>SL 9 1 S_ p.2.2.1 (p.2.1.map fun r=>(H.aK.getD r (⟨#[]⟩,default)).1)::FK Value.string V.mb r12 (dq V H) (p.1.map fun r=>(dq V H).getD r default) p.2.2.2::bI bh (.cells (eK bd V H).toArray 133 (0,0))::kA V.nv H.names::bZ iP V.ps H.all::bZ cY (V.us.map (·.1)) (H.aA.map (·.aO))::bZ cV (V.us.map (·.2)) (H.aA.map (·.bf))::bZ dL V.bs H.batch::L)
  (fun p=>(p.2.1++p.1).Perm (List.range H.aK.length)) (fun p=>p.1.length) (List.range H.aK.length,[],.slice none 0 0,none)
  aj ⟨rfl,rfl,rfl,trivial⟩ (fun _ h=>?_) ?_
 ·have h1:=cD (E:=9) (sz:=1) (cf:=S_) h;have e1:(List.range H.aK.length).map (fun r=>(dq V H).getD r default)=dq V H:=by
   have hl:(dq V H).length=H.aK.length:=by unfold dq rq;rw[List.length_zipWith,bu];omega
   rw[<-hl];apply List.ext_getElem
   ·simp
   ·intro i h1 h2;simp[aq,ao h2]
  dsimp only;rw[e1];exact h1.all nI
 rintro⟨rest,done,v,cur⟩ iz;dsimp only at iz ⊢;have r0:done.length<=M:=by have :=iz.length_eq;simp at this;omega
 refine Z3 ?_;refine KO.P1 rfl rfl bn rfl (fun h0=>?_) (fun i e he=>?_);refine rS ?_;refine Z0 ?_;have kI:rest=[]:=by simpa using h0
 subst kI;rw[List.append_nil]at iz;have Lf:(done.map fun r=>(H.aK.getD r (⟨#[]⟩,default)).1).Perm (H.aK.map (·.1)):=by
  refine(iz.map _).trans ?_;have :(List.range H.aK.length).map (fun r=>(H.aK.getD r (⟨#[]⟩,default)).1)=H.aK.map (·.1):=by
   apply List.ext_getElem
   ·simp
   ·intro i h1 h2;simp only[aW]at h2;simp[aq,ao h2]
  rw[this]
 generalize OX:(done.map fun r=>(H.aK.getD r (⟨#[]⟩,default)).1)=ns at Lf;have agh:ns.length<=M:=by rw[<-OX,aW];exact r0
 have hsl:(fc ns).length=ns.length:=(q7 ns).length_eq;have MX:∀s∈fc ns,∃i,H.qI s=some i:=fun s hs=>by
  have h1:s∈H.aK.map (·.1):=Lf.mem_iff.1 ((q7 ns).mem_iff.1 hs)
  cases hq:H.qI s with
  |some i=>exact⟨i,rfl⟩
  |none=>
   rw[py,List.findIdx?_eq_none_iff]at hq;have :=hq s h1;simp at this
 refine wm ?_;refine wo ?_;refine KO.cl (cp:=[]) rfl rfl rfl call66 rfl (KC.oN (.tail .head) (Jq (E:=9) Tryz.slices_Sort_string_none Tryz.slices_Sort_string w0 _ v ns ae)) ?_;rintro v' L' ⟨rfl,rfl⟩;refine Z0 ?_;refine K.fact (fun w hw=>aU (E:=9) (sz:=1) (cf:=S_) (hw.pick .head)) ?_;rintro⟨ad,cap,rfl,had⟩;refine dM ?_;refine lL ?_;refine Vz ?_;refine K.loop (fun p:Nat×Value=>[(0,bp bh),(5,p.2),(23,.slice ad (fc ns).length cap),(24,.int .i64 ((fc ns).length:Nat)),(25,.int .i64 (p.1:Nat))])
  (fun p=>SL 44 5 dh p.2 (((fc ns).take p.1).flatMap (iK H))::SL 9 1 S_ (.slice ad (fc ns).length cap) (fc ns)::bV Value.string V.mb (dq V H)::bI bh (.cells (eK bd V H).toArray 133 (0,0))::kA V.nv H.names::bZ iP V.ps H.all::bZ cY (V.us.map (·.1)) (H.aA.map (·.aO))::bZ cV (V.us.map (·.2)) (H.aA.map (·.bf))::bZ dL V.bs H.batch::L) (fun p=>p.1<=(fc ns).length/\(((fc ns).take p.1).flatMap (iK H)).length<=p.1 *N) (fun p=>(fc ns).length-p.1) (0,.slice none 0 0)
  ⟨aV _,by simp⟩ ⟨rfl,rfl,rfl,rfl,rfl,trivial⟩ (fun _ h=>?_) ?_
 ·have h1:=cD (E:=44) (sz:=5) (cf:=dh) h;exact h1.all nI
 rintro⟨k,v5⟩ ⟨hk,ru⟩;dsimp only at hk ru ⊢;refine hF ?_;refine K.br rfl (fun h9=>?_) (fun h9=>?_)
 ·obtain⟨s,hs⟩:∃e,(fc ns)[k]? =some e:=⟨(fc ns)[k],ao ae⟩;obtain⟨ag,rfl⟩:=had ae;obtain⟨i,hi⟩:=MX s (ax hs);have oG:=(ji hi).1;have hg:=ki hV s;obtain⟨p,hp⟩:∃p,V.ps[4+i]? =some p:=⟨_,ao ae⟩;rw[hi]at hg;simp only[Option.bind_some,hp,Option.map_some]at hg;have FN:iK H s=cT (H.dP i):=by unfold iK;rw[hi]
  have SJ:=(hB.qa oG).len;have pb:(cT (H.dP i)).length<=N:=by
   unfold cT;have :=List.length_filter_le (fun e:It=>decide (e.put<0)) (H.dP i).l;rw[aW];omega
  have hk3:k *N+N<=900000000:=by have :=Nat.mul_le_mul_right N (show k+1<=M by omega);rw[Nat.succ_mul]at this;omega
  refine VV ?_;refine KO.ia rfl rfl isAgg9 bn (fun _=>rfl) tr aP aP rfl ?_;refine qE ?_;refine nD ?_;refine RU ?_;refine KO.db (i:=7) rfl rfl isAgg123 bn rfl rfl rfl ?_;refine Z1 ?_;refine KO.Ek fI s rfl rfl rfl underlying123 underlying9 zeroValue119 bn rfl ?_;rw[hg];refine KO.ce (cp:=[]) rfl rfl rfl call67 rfl (KE.E0 (A:=fun v=>SL 44 5 dh v (cT (H.dP i))) (φ:=fun _=>True) hp (oI hV.ways oG) bn (fun L=>(Gq w0 _ L p (H.dP i) .head ae).oK (by rintro v M rfl;exact⟨_,⟨trivial,rfl⟩,fun _ h=>h⟩))) ?_;rintro vk L' ⟨-,rfl⟩;refine KO.RA (cf:=dh) (z:=Value.agg #[.int .i64 0,.int .i64 0,.string ⟨#[]⟩,.string ⟨#[]⟩,.int .i64 0]) (sz:=5) (dI:=56) (xs:=((fc ns).take k).flatMap (iK H)) (ys:=cT (H.dP i)) rfl rfl rfl (.tail (.tail .head)) (fun w hw=>Src.of (E:=44) (sz:=5) (cf:=dh) .head w hw) underlying49 bC rfl (fun _=>rfl) (fun _=>rfl) ae ai rfl ?_;intro v37;refine uM ?_;refine KQ.round (k+1,v37) ⟨by dsimp only;omega,?_⟩ gV ⟨rfl,rfl,rfl,rfl,rfl,trivial⟩ (fun _ h=>?_)
  ·dsimp only;rw[bG hs,List.flatMap_append,aX];simp only[aR,List.flatMap_nil,List.append_nil,FN,Nat.succ_mul];omega
  ·dsimp only;rw[bG hs,List.flatMap_append];simp only[aR,List.flatMap_nil,List.append_nil,FN];exact h.all Y5
 have zY:k=(fc ns).length:=by omega
 subst zY;rw[List.take_length];refine wo ?_;refine iW ?_;refine KQ.bB rfl rfl (fun w' aT=>⟨_,_,rfl,⟨ns,Lf,rfl⟩,?_⟩);exact(bR V hV (aT.all (M:=zF bh bd V H (SL 44 5 dh v5 ((fc ns).flatMap (iK H))::L)) Y1)).all Y3;obtain⟨r,hr,rfl⟩:∃r,rest[i]? =some r/\(dq V H).getD r default=e:=by
  rw[aG]at he;cases hr:rest[i]? with
  |none=>rw[hr]at he;cases he
  |some r=>rw[hr]at he;exact⟨r,rfl,by simpa using he⟩
 have Kc:r<H.aK.length:=by
  have :r∈List.range H.aK.length:=iz.mem_iff.1 (List.mem_append_right _ (ax hr));simpa using this
 obtain⟨x,hx⟩:∃e,H.aK[r]? =some e:=⟨_,ao Kc⟩;have Wy:(H.aK.getD r (⟨#[]⟩,default)).1=x.1:=by rw[aq,hx];rfl
 obtain⟨pv,mN⟩:=Mz hV hx;rw[mN];refine rS ?_;refine Z0 ?_;refine uJ ?_;refine oY ?_;refine KO.Ln rfl rfl bQ rfl ?_;refine rS ?_;refine qE ?_;refine iX ?_;refine KO.kL (z:=(Value.string ⟨#[]⟩)) (sz:=1) (dI:=16) rfl rfl underlying115 bC aP aP ai ai rfl ?_;intro b19;refine KO.app (cf:=S_) (z:=Value.string ⟨#[]⟩) (sz:=1) (dI:=16) (xs:=done.map fun r=>(H.aK.getD r (⟨#[]⟩,default)).1) rfl rfl rfl (.tail (.tail .head)) .head underlying115 lv rfl x.1 rfl rfl rfl fx ai rfl ?_;intro v20;refine Z7 ?_;refine Ad ?_;refine KQ.round (rest.eraseIdx i,done++[r],v20,some (x.1,pv)) ?_ ?_ ⟨rfl,rfl,rfl,trivial⟩ (fun _ h=>?_)
 ·dsimp only;refine List.Perm.trans ?_ iz;rw[aL];refine(List.Perm.refl done).append ?_;obtain⟨hi,rfl⟩:=au.1 hr;exact n5 hi
 ·dsimp only;have hi:=(au.1 hr).1;rw[List.length_eraseIdx,if_pos hi];omega
 ·dsimp only;rw[aN,<-mZ,aJ,List.map_nil,Wy];exact h.all nI
theorem M_(w0:World)(L:List HP)(bh bd n:Nat)(H:Ho)(hB:cF n H)(hn:n<=80000)(vV:H.aK.length<=1000):
 KC prog 20 #[bp bh] w0 (dy bh bd H::L) (fun u M=> ∃ns:List ak,ns.Perm (H.aK.map (·.1))/\M=SL 44 5 dh u ((fc ns).flatMap (iK H))::dy bh bd H::L):=
 UA 80000 1000 ai ai ai w0 L bh bd n H hB hn vV
theorem MU(w0:World)(L:List HP)(bh bd n:Nat)(H:Ho)(s:ak)(hB:cF n H)(hn:n<=80000):
 KC prog 28 #[bp bh,.string s] w0 (dy bh bd H::L) (fun u M=> ∃v,u=.tuple #[v,cI 70 (lu H s)]/\M=SL 44 5 dh v (tB H s)::dy bh bd H::L):=by
 have pa:=hB.lS;have zC:=hB.sorted;have ends:lu H s=7->∀w',St w0 (dy bh bd H::L) w'->∃v L',Ending.returned (.tuple #[.slice none 0 0,cI 70 7])=Ending.returned v/\(∃u,v=.tuple #[u,cI 70 (lu H s)]/\L'=SL 44 5 dh u (tB H s)::dy bh bd H::L)/\St w0 L' w':=fun he w' aT=>by
  refine⟨_,_,rfl,⟨_,by rw[he],rfl⟩,?_⟩;unfold tB;rw[if_neg (by rw[he];decide)];exact cD aT
 refine KC.mk (n:=34) func28 rfl ntmps28 aj ?_;refine oW ?_;refine K.cq (fun _ h=>cx h) ?_;rintro⟨V,hV⟩;dsimp only;have oS:=hV.ps;have hg:=ki hV s;refine dM ?_;refine Z7 ?_;refine kE ?_;cases hq:H.qI s with
 |none=>
  have he:lu H s=7:=by unfold lu;rw[hq]
  rw[hq]at hg;refine Fl ?_;refine KO.AY fI s rfl rfl rfl underlying123 underlying9 zeroValue119 bn rfl ?_;rw[hg];refine jR ?_;refine oV ?_;refine rU ?_;refine Ot ?_;refine Ot ?_;refine RG ?_;refine wj ?_;refine Z2 ?_;refine K.cL rfl aj ?_;refine ou ?_;refine KQ.eE rfl rfl rfl (fun w' aT=>ends he w' (bR V hV (aT.all OA)))
 |some i=>
 have oG:=(ji hq).1;obtain⟨p,hp⟩:∃p,V.ps[4+i]? =some p:=⟨_,ao ae⟩;rw[hq]at hg;simp only[Option.bind_some,hp,Option.map_some]at hg;have heq:lu H s=if s≠cz/\fb H.names s=false then 7 else 0:=by unfold lu;rw[hq]
 refine Fl ?_;refine KO.AY fI s rfl rfl rfl underlying123 underlying9 zeroValue119 bn rfl ?_;rw[hg];refine pQ ?_;refine K.cut (fun _:Unit=>[(0,bp bh),(6,bp p),(30,.bool (decide (s≠cz/\fb H.names s=false)))]) (fun _=>zF bh bd V H L) (fun _=>True) ?_ ?_
 ·by_cases Qs:s=cz
  ·have Cg:s=⟨#[100,101,97,100]⟩:=Qs;have Uo:(!decide (s=⟨#[100,101,97,100]⟩))=false:=by rw[Cg];rfl
   clear Qs;refine RD ?_;refine CO ?_;refine Fz ?_;refine Fz ?_;refine KO.no rfl rfl Uo rfl ?_;refine KO.no rfl rfl tr rfl ?_;refine qu ?_;refine KO.mc rfl ?_ rfl rfl ?_
   (focus assumption)
   refine qv ?_;refine KO.nil ?_;exact KQ.qL () trivial ⟨rfl,rfl,by simp[Cg,cz,cQ],trivial⟩ (fun w' aT=>aT)
  ·have Cg:¬s=⟨#[100,101,97,100]⟩:=Qs;refine RD ?_;refine CO ?_;refine Ae ?_;refine Z1 ?_;refine Ae ?_;refine kr ?_;refine Ae ?_;refine RB ?_;refine Ae ?_;refine Z1 ?_;refine KO.on rfl rfl (by simp[Cg]) ?_;refine KO.ce (cp:=[]) rfl rfl rfl call57 rfl (sC w0 _ _ _ bh 6 (eK bd V H) 133 V.nv H.names s bQ bQ rfl ae zC) ?_;rintro v' L' ⟨rfl,rfl⟩;refine Ae ?_;refine oV ?_;refine qu ?_;refine KO.sq rfl ?_ rfl rfl ?_
   (focus(simp_all;done))
   refine qv ?_;refine KO.nil ?_;exact KQ.qL () trivial ⟨rfl,rfl,by simp[Qs,cQ],trivial⟩ (fun w' aT=>aT)
 rintro⟨⟩-;refine K.br rfl (fun h4=>?_) (fun h4=>?_)
 ·have he:lu H s=7:=by rw[heq,if_pos h4]
  refine ou ?_;refine KQ.eE rfl rfl rfl (fun w' aT=>ends he w' (bR V hV aT))
 have he:lu H s=0:=by rw[heq,if_neg h4]
 have FM:=(hB.qa oG).len;have MT:tB H s=dK (H.dP i):=by unfold tB;rw[if_pos he,hq];rfl
 refine wq ?_;refine KO.ce (cp:=[]) rfl rfl rfl call80 rfl (KE.E0 (A:=fun v=>SL 44 5 dh v (dK (H.dP i))) (φ:=fun _=>True) hp (oI hV.ways oG) bn (fun L=>(Ij w0 _ L p (H.dP i) .head ae).oK (by rintro v M rfl;exact⟨_,⟨trivial,rfl⟩,fun _ h=>h⟩))) ?_;rintro vk L' ⟨-,rfl⟩;refine pO ?_;refine KQ.eE rfl rfl rfl (fun w' aT=>⟨_,_,rfl,⟨vk,by rw[he];rfl,rfl⟩,?_⟩);rw[MT];exact(bR V hV (aT.all (M:=zF bh bd V H (SL 44 5 dh vk (dK (H.dP i))::L)) Y3)).all Y3
end Go.Proofs.YtjhogocabcdjbabGreatDoor
namespace WB
open Go
structure En where
 j:Nat
 m:Ms
 put:Int
 ft:Int
def fU (j:Nat) (e:It):En:=⟨j,e.m,e.put,e.ft⟩
def Ln (j:Nat) (l:List It):List En:=l.map (fU j)
def vw (l:List Qu):List En:=l.zipIdx.flatMap fun x=>Ln x.2 x.1.l
def vr (l:List Qu) (j:Nat):List En:=(l.zipIdx.eraseIdx j).flatMap fun x=>Ln x.2 x.1.l
theorem p6{α:Type}:∀{l:List α} {i:Nat} {x:α},l[i]? =some x->l.Perm (x::l.eraseIdx i)
 |[],i,x,h=>by simp at h
 |a::l,0,x,h=>by simp at h;subst h;exact .refl _
 |a::l,i+1,x,h=>((p6 (l:=l) H4).cons a).trans (.swap _ _ _)
theorem DY{α:Type}:∀{l:List α} {i:Nat} {x:α} (y:α),l[i]? =some x->(l.set i y).Perm (y::l.eraseIdx i)
 |[],i,x,y,h=>by simp at h
 |a::l,0,x,y,h=>.refl _
 |a::l,i+1,x,y,h=>((DY (l:=l) y H4).cons a).trans (.swap _ _ _)
theorem B3{α β:Type}{f:α->List β}{l l':List α}(h:l.Perm l'):(l.flatMap f).Perm (l'.flatMap f):=by
 induction h with
 |nil=>exact .refl _
 |cons a _ ih=>rw[aR,aR];exact(List.Perm.refl _).append ih
 |swap a b l=>
  rw[aR,aR,aR,aR,<-aL,<-aL];exact List.perm_append_comm.append (.refl _)
 |trans _ _ h1 h2=>exact h1.trans h2
theorem r9{l:List Qu}{j:Nat}{q:Qu}(h:l[j]? =some q):(vw l).Perm (Ln j q.l++vr l j):=by
 unfold vw vr;have h1:l.zipIdx[j]? =some (q,j):=by rw[List.getElem?_zipIdx,h];simp
 exact B3 (p6 h1)
theorem FU(l:List Qu)(j:Nat)(q:Qu):(l.set j q).zipIdx=l.zipIdx.set j (q,j):=by
 apply List.ext_getElem?;intro i;rw[List.getElem?_zipIdx,List.getElem?_set,List.getElem?_set,List.getElem?_zipIdx,List.length_zipIdx];by_cases e:j=i
 ·subst e;rw[if_pos rfl,if_pos rfl];split<;>simp
 ·rw[if_neg e,if_neg e]
theorem Tr(l:List Qu)(j:Nat)(q:Qu):vr (l.set j q) j=vr l j:=by
 unfold vr;rw[FU,List.eraseIdx_set_eq]
theorem F0{l:List Qu}{j:Nat}{q:Qu}(q':Qu)(h:l[j]? =some q):(vw (l.set j q')).Perm (Ln j q'.l++vr l j):=by
 have h1:(l.set j q')[j]? =some q':=by rw[List.getElem?_set_self (au.1 h).1]
 have :=r9 h1
 rwa [Tr]at this
theorem BQ{l:List Qu}{e:En}:e∈vw l↔ ∃q,l[e.j]? =some q/\∃x∈q.l,e=fU e.j x:=by
 unfold vw Ln;rw[List.mem_flatMap];constructor
 ·rintro⟨⟨q,j⟩,h1,h2⟩;rw[ay]at h2;obtain⟨x,hx,rfl⟩:=h2;rw[List.mem_zipIdx_iff_getElem?]at h1;exact⟨q,h1,x,hx,rfl⟩
 ·rintro⟨q,h1,x,hx,he⟩;refine⟨(q,e.j),List.mem_zipIdx_iff_getElem?.2 h1,?_⟩;rw[ay];exact⟨x,hx,he.symm⟩
theorem r_{l:List Qu}{j:Nat}{q:Qu}(m:Ms)(u:Int)(h:l[j]? =some q):(vw (l.set j (cP q m u))).Perm (⟨j,m,max u (-1),-1⟩::vw l):=by
 refine(F0 _ h).trans (List.Perm.trans ?_ (((r9 h).symm).cons _));have h1:(cP q m u).l.Perm (cU q m u::q.l):=by
  unfold cP;dsimp only;refine List.perm_middle.trans ?_;rw[List.take_append_drop]
 have h2:=h1.map (fU j);exact h2.append (.refl _)
theorem Dv{l:List Qu}{j k:Nat}{q:Qu}{x:It}(h:l[j]? =some q)(hx:q.l[k]? =some x)(nx:Int):(vw l).Perm (fU j x::vw (l.set j ⟨q.l.eraseIdx k,nx⟩)):=by
 refine(r9 h).trans (List.Perm.trans ?_ ((F0 _ h).symm.cons _));exact((p6 hx).map (fU j)).append (.refl _)
theorem Ar{l:List Qu}{j k:Nat}{q:Qu}{x:It}(y:It)(h:l[j]? =some q)(hx:q.l[k]? =some x)(nx:Int):∃R,(vw l).Perm (fU j x::R)/\(vw (l.set j ⟨q.l.set k y,nx⟩)).Perm (fU j y::R):=by
 refine⟨Ln j (q.l.eraseIdx k)++vr l j,?_,?_⟩
 ·exact(r9 h).trans (((p6 hx).map (fU j)).append (.refl _))
 ·exact(F0 _ h).trans (((DY y hx).map (fU j)).append (.refl _))
def dB (u:Int) (e:En):En:=⟨e.j,e.m,if e.put=u then -1 else e.put,if e.ft=u then -1 else e.ft⟩
theorem Pg{l:List Qu}{u:Int}(hu:0<=u):vw (l.map fun q=>c8 q u true)=((vw l).filter fun e=> !decide (e.put=u)).map (dB u):=by
 unfold vw;rw[List.zipIdx_map,List.flatMap_map,List.filter_flatMap,List.map_flatMap];congr 1;funext x;unfold Ln;dsimp only[Prod.map];rw[show(c8 x.1 u true).l=(x.1.l.filter fun e=> !nq u true e).map (jo u)by unfold c8;rw[if_neg ae]];rw[List.map_map,List.filter_map,List.map_map];have :(fun e=> !nq u true e)=((fun e:En=> !decide (e.put=u))∘fU x.2):=by
  funext e;unfold nq fU;simp
 rw[this];rfl
def c_ (e:En):Int:=e.m.id
def hv (H:Ho):List En:=vw H.all
def eb (e:En):Bool:=decide (e.put<0)
def jX (e:En):Nat×Ms:=(e.j,e.m)
def hk (H:Ho):List (Nat×Ms):=((hv H).filter eb).map jX
def afA (H:Ho) (s:ak):Option Nat:=(H.qI s).map (4+ ·)
def bL (H:Ho):List ak:=H.aK.map (·.1)
theorem bE{H H':Ho}(h:bL H'=bL H)(s:ak):H'.qI s=H.qI s:=by rw[py,py];unfold bL at h;rw[h]
theorem Fc{n:Nat}{H:Ho}(hB:cF n H){i:Nat}(hi:i<H.aK.length):H.all[4+i]? =some (H.dP i):=oI hB.ways hi
theorem DX{n:Nat}{H:Ho}(hB:cF n H){m:Ms}{i:Nat}(hm:m.ck=H.id)(hq:H.qI m.queue=some i):∃H1,fC H m=some H1/\(hv H1).Perm (⟨4+i,m,-1,-1⟩::hv H)/\bL H1=bL H/\H1.names=H.names/\H1.ways=H.ways/\H1.next=max H.next (m.id/4+1)/\kY H H1:=by
 have hi:=(ji hq).1;let H0:Ho:={H with next:=max H.next (m.id/4+1)};refine⟨H0.eP i (cP (H0.dP i) m (-1)),?_,?_,?_,rfl,rfl,rfl,⟨rfl,rfl,rfl,rfl,rfl,rfl,rfl,rfl⟩⟩
 ·unfold fC;dsimp only;rw[if_neg (by rw[hm];simp)];rw[hq];rfl
 ·unfold hv;rw[kq (H:=H0) hB.ways];have :=r_ (l:=H0.all) m (-1) (Fc hB hi);exact this
 ·unfold bL;exact jb (H:=H0) i _
theorem DR{n:Nat}:∀(l:List Ms) {H:Ho},cF n H->(∀m∈l,bM m=true/\m.ck=H.id/\∃i,H.qI m.queue=some i)->
 ∃H1,eW H l=(H1,true)/\(hv H1).Perm (l.map (fun m=>⟨4+(H.qI m.queue).getD 0,m,-1,-1⟩)++hv H)/\bL H1=bL H/\H1.names=H.names/\H1.ways=H.ways/\kY H H1/\H.next<=H1.next/\(∀m∈l,m.id/4<H1.next)/\cF (n+l.length) H1
 |[],H,hB,_=>⟨H,rfl,.refl _,rfl,rfl,rfl,.refl _,Int.le_refl _,(fun m hm=>by cases hm),hB⟩
 |m::l,H,hB,h=>by
  obtain⟨hr,hm,i,hi⟩:=h m aj;obtain⟨H1,e1,p1,k1,n1,w1,x1,s1⟩:=DX hB hm hi;have gP:=hB.PO hr e1;obtain⟨H2,e2,p2,k2,n2,w2,s2,x2,y2,w5⟩:=DR (n:=n+1) l gP fun m' zX=>by
   obtain⟨a,b,j,c⟩:=h m' (by simp[zX]);exact⟨a,by rw[s1.id];exact b,j,by rw[bE k1];exact c⟩
  refine⟨H2,?_,?_,k2.trans k1,n2.trans n1,w2.trans w1,s1.trans s2,by omega,fun m' zX=>?_,w5.le fx⟩
  ·rw[eW,e1];exact e2
  ·refine p2.trans ?_;rw[aJ,hi,Option.getD_some];have :(l.map fun m'=>(⟨4+(H1.qI m'.queue).getD 0,m',-1,-1⟩:En))=l.map fun m'=>⟨4+(H.qI m'.queue).getD 0,m',-1,-1⟩:=by
    apply List.map_congr_left;intro m' _;rw[bE k1]
   rw[this];refine((List.Perm.refl _).append p1).trans ?_;rw[bz];exact List.perm_middle
  ·rcases aD.1 zX with rfl|zX
   ·omega
   ·exact y2 m' zX
theorem eB{α β:Type}{f:α->β}{l:List α}(h:(l.map f).Nodup){x y:α}(hx:x∈l)(hy:y∈l)(e:f x=f y):x=y:=by
 induction l with
 |nil=>cases hx
 |cons a l ih=>
  rw[aJ,bJ]at h;rcases aD.1 hx with h1|h1<;>rcases aD.1 hy with h2|h2
  ·rw[h1,h2]
  ·exact absurd (by rw[<-h1,e];exact List.mem_map_of_mem (f:=f) h2) h.1
  ·exact absurd (by rw[<-h2,<-e];exact List.mem_map_of_mem (f:=f) h1) h.1
  ·exact ih h.2 h1 h2
theorem Bn{l R:List En}{e:En}(h:(l.map c_).Nodup)(hp:l.Perm (e::R)):R.Perm (l.filter fun x=> !decide (c_ x=c_ e)):=by
 have h1:=hp.filter (fun x=> !decide (c_ x=c_ e));have h2:(e::R).filter (fun x=> !decide (c_ x=c_ e))=R:=by
  rw[bT,if_neg aj];rw[bo];intro x hx;have hn:=(hp.map c_).nodup_iff.1 h;rw[aJ,bJ]at hn;have :c_ x≠c_ e:=fun e2=>hn.1 (e2▸List.mem_map_of_mem (f:=c_) hx)
  simpa using this
 rw[h2]at h1;exact h1.symm
theorem Ro(g:Int×ak):cX 32 (gx g)=(bP g.1,g.2,true):=by
 unfold gx;rw[show(sp:ak)=b_ 32 from rfl];exact cutB_hit (fp _ ai) _
theorem No{n:Nat}{H:Ho}(hB:cF n H){g:Int×ak}(hg:0<=g.1/\g.1<=1099511627776/\c6 g.2=true){i:Nat}(hq:H.qI g.2=some i)(hn:((hv H).map c_).Nodup){e:En}(he:e∈hv H)(hj:e.j=4+i)(hid:c_ e=g.1):
 ∃H1,gN H (gx g)=some H1/\(hv H1).Perm ((hv H).filter fun x=> !decide (c_ x=g.1))/\bL H1=bL H/\H1.names=H.names/\H1.ways=H.ways/\H1.next=H.next/\kY H H1:=by
 have hi:=(ji hq).1;obtain⟨q,h1,x,hx,hex⟩:=BQ.1 he;rw[hj]at h1;have h2:=Fc hB hi;rw[h2]at h1;simp only[az]at h1;subst h1;have abN:x.m.id=g.1:=by rw[<-hid,hex];rfl
 obtain⟨k,hk⟩:∃k,my (H.dP i) g.1=some k:=by
  unfold my;cases hf:(H.dP i).l.findIdx? (IF g.1)with
  |some k=>exact⟨k,rfl⟩
  |none=>
   rw[List.findIdx?_eq_none_iff]at hf;have :=hf x hx;unfold IF at this;simp[abN]at this
 obtain⟨ru,SK,-⟩:=List.findIdx?_eq_some_iff_getElem.1 hk;have Kh:(H.dP i).l[k]? =some (H.dP i).l[k]:=ao ru;have Uz:((H.dP i).l[k]).m.id=g.1:=by unfold IF at SK;simpa using SK
 refine⟨H.eP i (eM (H.dP i) g.1),?_,?_,by unfold bL;exact jb i _,rfl,rfl,rfl,⟨rfl,rfl,rfl,rfl,rfl,rfl,rfl,rfl⟩⟩
 ·unfold gN;rw[Ro];dsimp only;rw[gZ ⟨by omega,by omega⟩];dsimp only;rw[hq];dsimp only;rw[if_pos (by unfold jH;rw[hk])]
 ·unfold hv;rw[kq hB.ways];have e1:eM (H.dP i) g.1=⟨(H.dP i).l.eraseIdx k,(H.dP i).next⟩:=by unfold eM;rw[hk]
  rw[e1];have hp:=Dv (l:=H.all) h2 Kh (H.dP i).next
  have :=Bn hn hp;rw[show c_ (fU (4+i) (H.dP i).l[k])=g.1 from Uz]at this;exact this
theorem yI{n:Nat}:∀(l:List (Int×ak)) {H:Ho},cF n H->((hv H).map c_).Nodup->(l.map (·.1)).Nodup->(∀g∈l,(0<=g.1/\g.1<=1099511627776/\c6 g.2=true)/\∃i,H.qI g.2=some i/\∃e∈hv H,e.j=4+i/\c_ e=g.1)->
 ∃H1,gk H (l.map gx)=(H1,true)/\(hv H1).Perm ((hv H).filter fun x=> !decide (c_ x∈l.map (·.1)))/\bL H1=bL H/\H1.names=H.names/\H1.ways=H.ways/\H1.next=H.next/\kY H H1/\cF n H1
 |[],H,hB,_,_,_=>⟨H,rfl,by rw[bo.2 (fun _ _=>by simp)],rfl,rfl,rfl,rfl,.refl _,hB⟩
 |g::l,H,hB,hn,hd,h=>by
  obtain⟨hr,i,hi,e,he,hj,hid⟩:=h g aj;obtain⟨H1,e1,p1,k1,n1,w1,x1,s1⟩:=No hB hr hi hn he hj hid;have gP:=hB.U8 e1;rw[aJ,bJ]at hd;have zH:((hv H1).map c_).Nodup:=by
   refine(p1.map c_).nodup_iff.2 ?_;exact hn.sublist (List.filter_sublist.map _)
  obtain⟨H2,e2,p2,k2,n2,w2,x2,s2,w5⟩:=yI l gP zH hd.2 fun g' SP=>by
   obtain⟨hr',i',hi',e',he',WQ,Yl⟩:=h g' (by simp[SP]);refine⟨hr',i',by rw[bE k1];exact hi',e',?_,WQ,Yl⟩;rw[p1.mem_iff,aB];refine⟨he',?_⟩;have :c_ e'≠g.1:=by rw[Yl];exact fun e=>hd.1 (e▸List.mem_map_of_mem (f:=(·.1)) SP)
   simpa using this
  refine⟨H2,?_,?_,k2.trans k1,n2.trans n1,w2.trans w1,x2.trans x1,s1.trans s2,w5⟩
  ·rw[aJ,gk,e1];exact e2
  ·refine p2.trans ((p1.filter _).trans ?_);rw[bm];refine List.Perm.of_eq (List.filter_congr fun x _=>?_);rw[aJ];by_cases h1:c_ x=g.1<;>by_cases h2:c_ x∈l.map (·.1)<;>simp[h1,h2]
theorem tM{c:UInt8}:∀{l:List ak},l≠[]->(∀p∈l,oO c p)->di c (cS l (b_ c))=l
 |[],h,_=>absurd rfl h
 |[p],_,h=>by rw[jL];exact j9 (h p aj)
 |p::q::l,_,h=>by
  rw[fB,iD (h p aj),tM aj fun x hx=>h x wF]
theorem EV{g:Int×ak}(h:c6 g.2=true){c:UInt8}(h1:c.toNat≠45/\(c.toNat<48\/57<c.toNat))(h2:isLet c=false)(h3:c≠32):oO c (gx g):=by
 unfold gx;refine dN (dN (fp _ h1) ?_) ?_
 ·exact fun b hb=>by simp[sp]at hb;subst hb;exact fun e=>h3 e.symm
 ·intro b hb e;subst e;have hw:=gB h;unfold gS at hw;rw[aI]at hw;rw[hw b hb]at h2;cases h2
theorem Bf{l:List (Int×ak)}(h:∀g∈l,c6 g.2=true)(h0:l≠[]):cS (l.map gx) plus≠⟨#[]⟩/\di 43 (cS (l.map gx) plus)=l.map gx:=by
 have h2:di 43 (cS (l.map gx) plus)=l.map gx:=by
  rw[show(plus:ak)=b_ 43 from rfl];refine tM Xj fun p hp=>?_
  obtain⟨g,hg,rfl⟩:=ay.1 hp;exact EV (h g hg) ai ai ai
 refine⟨fun e=>?_,h2⟩;rw[e,show di 43 ⟨#[]⟩=[⟨#[]⟩]from j9 (fun b hb=>by simp at hb)]at h2
 match l,h0 with
 |g::l,_=>
  rw[aJ,List.cons.injEq]at h2;have :=congrArg ByteArray.size h2.1;unfold gx at this;have h3:sp.size=1:=rfl;simp only[aQ]at this;have h4:(⟨#[]⟩:ak).size=0:=rfl;omega
theorem E4{n:Nat}{H:Ho}{x:ox}(hB:cF n H)(hx:fE x)(hn:((hv H).map c_).Nodup)(hp:∀p∈x.aO,p.1.ck=H.id/\∃i,H.qI p.1.queue=some i)(hpn:(x.aO.map fun p=>p.1.id).Nodup)(hpf:∀p∈x.aO,∀e∈hv H,c_ e≠p.1.id)(OX:(x.bf.map (·.1)).Nodup)(hg:∀g∈x.bf,∃i,H.qI g.2=some i/\∃e∈hv H,e.j=4+i/\c_ e=g.1):
 ∃H1,eI H (nY x)=(H1,true)/\(hv H1).Perm ((x.aO.map (fun p=>(⟨4+(H.qI p.1.queue).getD 0,p.1,-1,-1⟩:En))++hv H).filter fun e=> !decide (c_ e∈x.bf.map (·.1)))/\bL H1=bL H/\H1.names=H.names/\H1.ways=H.ways/\kY H H1/\H.next<=H1.next/\(∀p∈x.aO,p.1.id/4<H1.next)/\cF (n+x.aO.length) H1:=by
 obtain⟨H1,e1,p1,k1,n1,w1,s1,x1,y1,gP⟩:=DR (x.aO.map (·.1)) hB fun m hm=>by
  obtain⟨p,zV,rfl⟩:=ay.1 hm;exact⟨hx.aO p zV,hp p zV⟩
 rw[List.map_map]at p1;have y2:∀p∈x.aO,p.1.id/4<H1.next:=fun p hp=>y1 _ (List.mem_map_of_mem (f:=(·.1)) hp)
 rw[aW]at gP;have zH:((hv H1).map c_).Nodup:=by
  refine(p1.map c_).nodup_iff.2 ?_;rw[aN,List.map_map,List.nodup_append];refine⟨?_,hn,fun a ha b hb=>?_⟩
  ·exact hpn
  ·obtain⟨p,zV,rfl⟩:=ay.1 ha;obtain⟨e,he,rfl⟩:=ay.1 hb;exact fun e2=>hpf p zV e he e2.symm
 have zJ:eI H (nY x)=if cS (x.bf.map gx) plus=⟨#[]⟩then(H1,true)else gk H1 (di 43 (cS (x.bf.map gx) plus)):=by
  unfold eI;have Qw:=hx.read;rw[hx.cut]at Qw ⊢;dsimp only at Qw ⊢;rw[if_neg aj,Qw];dsimp only;rw[e1];rfl
 by_cases h0:x.bf=[]
 ·refine⟨H1,?_,?_,k1,n1,w1,s1,x1,y2,gP⟩
  ·rw[zJ,h0];rfl
  ·rw[h0];refine p1.trans ?_;rw[bo.2 (fun a _=>by simp)];exact .refl _
 ·obtain⟨t1,t2⟩:=Bf (fun g hg=>(hx.bf g hg).2.2) h0;rw[if_neg t1,t2]at zJ;obtain⟨H2,e2,p2,k2,n2,w2,x2,s2,w5⟩:=yI x.bf gP zH OX fun g SP=>by
   obtain⟨i,hi,e,he,hj,hid⟩:=hg g SP;exact⟨hx.bf g SP,i,by rw[bE k1];exact hi,e,p1.mem_iff.2 (List.mem_append_right _ he),hj,hid⟩
  exact⟨H2,zJ.trans e2,p2.trans (p1.filter _),k2.trans k1,n2.trans n1,w2.trans w1,s1.trans s2,by omega,fun p hp=>by rw[x2];exact y2 p hp,w5⟩
inductive jD:Ho->List ak->Ho->Prop
 |nil (H:Ho):jD H [] H
 |cons {H H1 H':Ho} {s:ak} {R:List ak} (h:bY H s=(H1,true)) (t:jD {H1 with used:=H.used+1} R H'):jD H (s::R) H'
theorem jD.snoc{H H' H1:Ho}{R:List ak}{s:ak}(h:jD H R H')(hs:bY H' s=(H1,true)):jD H (R++[s]) {H1 with used:=H'.used+1}:=by
 induction h with
 |nil H=>exact .cons hs (.nil _)
 |cons e _ ih=>exact .cons e (ih hs)
theorem jD.used{H H':Ho}{R:List ak}(h:jD H R H'):H'.used=H.used+R.length:=by
 induction h with
 |nil H=>rfl
 |cons e _ ih=>rw[ih];simp;omega
theorem jD.same{H H':Ho}{R:List ak}(h:jD H R H'):H'.id=H.id/\H'.down=H.down/\H'.cZ=H.cZ/\H'.aA=H.aA:=by
 induction h with
 |nil H=>exact⟨rfl,rfl,rfl,rfl⟩
 | @cons H H1 H' s R e _ ih=>
  have :=fD H s;rw[e]at this;obtain⟨a,b,c,d⟩:=ih;exact⟨a.trans this.id,b.trans this.down,c.trans this.cZ,d.trans this.aA⟩
theorem jD.bound{H H':Ho}{R:List ak}(h:jD H R H'):∀{n:Nat},cF n H->(∀s∈R,fF 250 s)->H.used+R.length<=300->cF (n+250*R.length) H':=by
 induction h with
 |nil H=>exact fun h _ _=>h
 | @cons H H1 H' s R e _ ih=>
  intro n hB hr hl;have h1:=hB.AO (hr s aj) ae;rw[e]at h1;simp only[List.length_cons]at hl;exact(ih (h1.LH (k:=H.used+1) ae) (fun x hx=>hr x wF) gV).le fx
structure gT (D:Dk) (R:List ak):Prop where
 len:D.places.length=300
 many:R.length<=300
 on:∀(k:Nat) s,R[k]? =some s->D.places[k]? =some (dA (k:Nat) s)
 off:∀(k:Nat) t,R.length<=k->D.places[k]? =some t->gd (k:Nat) t=none
 size:∀t∈D.places,t.size<=800000
 lQ:∀s∈R,fF 250 s/\oO 124 s
theorem gT.ok{D:Dk}{R:List ak}(h:gT D R)(hl: -4000000000000000000<=D.left/\D.left<=9223372036854775807):H9 D:=by
 refine⟨h.len,hl,h.size,fun k t s ht hs=>?_⟩;rcases Nat.lt_or_ge k R.length with hk|hk
 ·have h1:=h.on k R[k] (ao hk);rw[ht]at h1;simp only[az]at h1;rw[h1,rm (h.lQ _ (List.getElem_mem hk)).2]at hs;simp only[az]at hs;rw[<-hs];exact(h.lQ _ (List.getElem_mem hk)).1
 ·rw[h.off k t hk ht]at hs;cases hs
theorem PZ{D:Dk}{R:List ak}(h:gT D R){H H':Ho}{R2:List ak}(hp:jD H R2 H'):∀{pre:List ak},R=pre++R2->H.used=pre.length->∀f,f+H.used=300->hU D f H=H':=by
 induction hp with
 |nil H=>
  intro pre he hu f hf;rw[List.append_nil]at he;subst he
  match f with
  |0=>rfl
  |f+1=>
   unfold hU;obtain⟨t,ht⟩:∃t,D.places[H.used]? =some t:=⟨_,ao (by rw[h.len];omega)⟩;have e:D.places.getD H.used ⟨#[]⟩=t:=by rw[aq,ht];rfl
   rw[e,h.off H.used t ae ht]
 | @cons H H1 H' s R2 e hp ih=>
  intro pre he hu f hf;have hm:=h.many;have hl:R.length=pre.length+(R2.length+1):=by rw[he];simp
  have hk:R[H.used]? =some s:=by rw[he,aY ae,hu];simp
  obtain⟨f',rfl⟩:∃f',f=f'+1:=⟨f-1,by omega⟩;unfold hU;have ht:=h.on _ _ hk;have e2:D.places.getD H.used ⟨#[]⟩=dA (H.used:Nat) s:=by rw[aq,ht];rfl
  have hs:s∈R:=ax hk;rw[e2,rm (h.lQ s hs).2];dsimp only;rw[e];dsimp only;rw[if_neg aj];exact ih (pre:=pre++[s]) (by rw[he];simp) fx f' gV
theorem rk{D:Dk}{R:List ak}(h:gT D R){id:Int}{H':Ho}(hp:jD (bO id) R H'):iQ id D=H':=PZ h hp (pre:=[]) rfl rfl 300 rfl
theorem vz(s:ak)(cZ:Int):(y0 s cZ).size<=s.size:=by unfold y0;simp;omega
theorem gT.cut{D:Dk}{R:List ak}(h:gT D R)(n:Int):gT (cu D n) R:=⟨h.len,h.many,h.on,h.off,h.size,h.lQ⟩
theorem gT.bad{D:Dk}{R:List ak}(h:gT D R){s:ak}(hs:s.size<=700000)(hb:oO 124 s){cZ:Int}(ho:ju D=true)(hr:R.length<300):gT (dG D R.length (dA (R.length:Nat) s) cZ) R:=by
 unfold dG;rw[if_pos ho];split
 ·rename_i ht;refine⟨by simpa using h.len,h.many,fun k x hk=>?_,fun k t hk hx=>?_,fun t hx=>?_,h.lQ⟩
  ·have :=(au.1 hk).1;dsimp only;rw[List.getElem?_set_ne ae];exact h.on k x hk
  ·dsimp only at hx;rw[List.getElem?_set]at hx;split at hx
   ·rename_i e;subst e;split at hx
    ·simp only[az]at hx;subst hx;unfold y0;have h0:=q9 (R.length:Nat) s;exact x9 hb ae
    ·cases hx
   ·exact h.off k t hk hx
  ·dsimp only at hx;rcases bj hx with h1|rfl
   ·exact h.size t h1
   ·have :=vz (dA (R.length:Nat) s) cZ;have :=sg (k:=(R.length:Nat)) ⟨by omega,by omega⟩ hs;omega
 ·exact h
theorem gT.U4{D:Dk}{R:List ak}(h:gT D R){s:ak}(hs:s.size<=700000)(hb:oO 124 s)(lE:fF 250 s){cZ:Int}(ho:¬ju D=true)(hr:R.length<300):gT (dG D R.length (dA (R.length:Nat) s) cZ) (R++[s]):=by
 unfold dG;rw[if_neg ho];have hl:=h.len;refine⟨by simpa using h.len,by simp;omega,fun k x hk=>?_,fun k t hk hx=>?_,fun t hx=>?_,fun x hx=>?_⟩
 ·dsimp only;rcases Nat.lt_or_ge k R.length with dt|Da
  ·rw[List.getElem?_append_left dt]at hk;rw[List.getElem?_set_ne ae];exact h.on k x hk
  ·have :=(au.1 hk).1;simp at this;obtain rfl:k=R.length:=by omega
   rw[aY (aF _)]at hk;simp at hk;subst hk;rw[List.getElem?_set_self ae]
 ·dsimp only at hx;simp at hk;rw[List.getElem?_set_ne ae]at hx;exact h.off k t ae hx
 ·dsimp only at hx;rcases bj hx with h1|rfl
  ·exact h.size t h1
  ·have :=sg (k:=(R.length:Nat)) ⟨by omega,by omega⟩ hs;omega
 ·rcases aH.1 hx with hx|hx
  ·exact h.lQ x hx
  ·simp at hx;subst hx;exact⟨lE,hb⟩
theorem uy:gT bD []:=by
 refine⟨List.length_replicate,by simp,fun k s h=>by simp at h,fun k t _ ht=>?_,fun t ht=>?_,fun s h=>by cases h⟩
 ·have :t=⟨#[]⟩:=List.eq_of_mem_replicate (ax ht);subst this;exact JL _
 ·have :t=⟨#[]⟩:=List.eq_of_mem_replicate ht;subst this;decide
theorem wT{c:UInt8}(h2:isLet c=false){s:ak}(h:gS s=true):oO c s:=fun b hb e=>by
 subst e;unfold gS at h;rw[aI]at h;rw[h b hb]at h2;cases h2
theorem sW{x:ox}(h:fE x):oO 124 (ku x):=by
 rw[sj];unfold nY;refine dN (dN (d_ ai) (d_ ai)) (dN (dN (p7 ai ai ai fun m hm=>?_) (d_ ai)) fun b hb=>?_)
 ·obtain⟨p,hp,rfl⟩:=ay.1 hm;exact h.aO p hp
 ·rcases iS hb with hb|⟨y,hy,hb⟩
  ·simp[plus]at hb;subst hb;decide
  ·obtain⟨g,hg,rfl⟩:=ay.1 hy;exact EV (h.bf g hg).2.2 ai ai ai b hb
theorem NT{x:Nm}(h:cc x=true):oO 124 (lz x):=by
 obtain⟨h1,h2,-,-⟩:=iJ h;rw[Ef];have hd:oO 124 (jv x.jz):=by
  unfold jv;split
  ·exact d_ ai
  ·rename_i h3;rcases h2 with h2|h2
   ·exact wT ai (gB h2)
   ·exact absurd h2 h3
 exact dN (dN (d_ ai) (d_ ai)) (dN (dN (wT ai (gB h1)) (d_ ai)) (dN (dN hd (d_ ai)) (fp _ ai)))
theorem fE.TH{x:ox}(h:fE x){k:Nat}(hk:x.aO.length<=k):fF k (ku x):=by
 have h1:=h.Xx;refine⟨h1.size,fun _ l hl=>?_,fun Cn=>?_⟩
 ·rw[nw,h.read]at hl;simp only[az]at hl;subst hl;simpa using hk
 ·rw[nw]at Cn;exact absurd (show b_ 117=b_ 114 from Cn) ai
theorem fF.mono{k m:Nat}{s:ak}(h:fF k s)(hk:k<=m):fF m s:=⟨h.size,fun e l hl=>Nat.le_trans (h.many e l hl) hk,fun e a b c l h1 h2=>⟨Nat.le_trans (h.Rp e a b c l h1 h2).1 hk,(h.Rp e a b c l h1 h2).2⟩⟩
theorem Ke{x:Nm}(h:cc x=true):rr (x.name++b_ 32++(jv x.jz++b_ 32++bP x.ck))=some x:=by
 obtain⟨h1,h2,h5,h6⟩:=iJ h;have hd:oO 32 (jv x.jz):=by
  unfold jv;split
  ·exact d_ ai
  ·rename_i h3;rcases h2 with h2|h2
   ·exact wT ai (gB h2)
   ·exact absurd h2 h3
 unfold rr;rw[iD (wT ai (gB h1)),iD hd,j9 (fp _ ai)];dsimp only;rw[gZ ⟨by omega,by omega⟩];have hda:dash (jv x.jz)=x.jz:=by
  unfold jv;split
  ·rename_i h3;rw[h3];decide
  ·rename_i h3;unfold dash Lib.trimPrefix;rw[if_neg]
   ·rfl
   ·rcases h2 with h2|h2
    ·have hl:=gB h2;unfold gS at hl;rw[aI]at hl;intro hp;cases ht:x.jz.data.toList with
     |nil=>rw[ht]at hp;revert hp;decide
     |cons b r=>
      rw[ht]at hp;have hb:(45:UInt8)=b:=by unfold Lib.hasPrefix at hp;simpa using hp
      have :=hl b (by rw[ht];simp);rw[<-hb]at this
      revert this;decide
    ·exact absurd h2 h3
 rw[hda];rfl
theorem mj{H:Ho}{x:Nm}(h:cG H.names x=0):bY H (lz x)=(iL H x,true):=by
 unfold bY;rw[rE];dsimp only;rw[if_pos rfl,Ke (jc h)];dsimp only;unfold Ex;rw[h];rfl
theorem u9{H:Ho}(x:ox):bY H (ku x)=eI H (nY x):=by
 unfold bY;rw[nw];dsimp only;rw[if_neg ai,if_neg ai,if_pos rfl]
structure UI (H:Ho) (u:Nat) (x:ox) (c:Nat):Prop where
 many:x.aO.length+x.bf.length<=c
 aO:∀p∈x.aO,bM p.1=true/\p.1.ck=H.id/\∃i,H.qI p.1.queue=some i/\∃e∈hv H,e.j=4+i/\e.m=p.1/\e.put=(u:Int)
 pn:(x.aO.map fun p=>p.1.id).Nodup
 bf:∀g∈x.bf,c6 g.2=true/\∃i,H.qI g.2=some i/\∃e∈hv H,e.j=4+i/\c_ e=g.1/\e.put<0/\e.ft=(u:Int)
 gn:(x.bf.map (·.1)).Nodup
structure dU (W:ak->Prop) (id:Int) (c:Nat) (H H0:Ho) (D:Dk) (R:List ak) (T:List Int) (P G:Nat->List Int):Prop where
 hid:H.id=id
 B:cF (1000+250*c) H
 dk:gT D R
 rl:R.length<=3+c
 left: -(10+(c:Int))<=D.left/\D.left<=10
 pl:jD (bO id) R H0
 used:H.used=R.length
 names:H0.names=H.names
 keys:bL H0=bL H
 ways:(∀q∈H.ways,q.l=[])/\∀q∈H0.ways,q.l=[]
 iA:∀e∈hv H0,e.put= -1/\e.ft= -1
 o7:(hk H).Perm ((hv H0).map jX)
 kz:((hv H).map c_).Nodup
 lt:∀e∈hv H,0<=e.m.id/\e.m.id<=1099511627776/\e.m.id/4<H.next
 zS:∀e∈hv H0,e.m.id/4<H0.next
 unit:∀(u:Nat) x,H.aA[u]? =some x->UI H u x c/\(x.aO.map fun p=>p.1.id)=P u/\x.bf.map (·.1)=G u
 tn:T.Nodup
 te:T.Perm ((hk H).map (·.2.id))
 loc:∀s,W s->c6 s=true/\jA H s=(s,-1,0)
section
variable {W:ak->Prop} {id:Int} {c:Nat} {H H0:Ho} {D:Dk} {R:List ak} {T:List Int} {P G:Nat->List Int}
theorem UI.up{u:Nat}{x:ox}(h:UI H u x c):UI H u x (c+1):=⟨Nat.le_succ_of_le h.many,h.aO,h.pn,h.bf,h.gn⟩
theorem dU.up(h:dU W id c H H0 D R T P G):dU W id (c+1) H H0 D R T P G:=
 ⟨h.hid,h.B.le ae,h.dk,by have :=h.rl;omega,by have :=h.left;omega,h.pl,h.used,h.names,h.keys,h.ways,h.iA,h.o7,h.kz,h.lt,h.zS,fun u x hx=>⟨(h.unit u x hx).1.up,(h.unit u x hx).2⟩,h.tn,h.te,h.loc⟩
theorem dU.ok(h:dU W id c H H0 D R T P G)(hc:c<=200):H9 D:=h.dk.ok (by have :=h.left;omega)
theorem UI.ok{u:Nat}{x:ox}(h:dU W id c H H0 D R T P G)(hx:H.aA[u]? =some x)(hc:c<=200):fE x:=by
 obtain⟨hu,-,-⟩:=h.unit u x hx;refine⟨fun p hp=>(hu.aO p hp).1,fun g hg=>?_,by have :=hu.many;omega⟩;obtain⟨h1,i,-,e,he,-,hid,-⟩:=hu.bf g hg;have :=h.lt e he;unfold c_ at hid;rw[hid]at this;exact⟨this.1,this.2.1,h1⟩
theorem dU.aA(h:dU W id c H H0 D R T P G)(hc:c<=200):∀x∈H.aA,fE x:=fun x hx=>by
 obtain⟨u,hu,rfl⟩:=List.getElem_of_mem hx;exact UI.ok h (ao hu) hc
theorem pz{H H':Ho}(h1:H'.names=H.names)(h2:H'.id=H.id)(s:ak):jA H' s=jA H s:=by unfold jA;rw[h1,h2]
theorem Cm(H:Ho):(hk H).map (·.2.id)=((hv H).filter eb).map c_:=by unfold hk;rw[List.map_map];rfl
theorem fR{us:List ox}{u v:Nat}{x y:ox}(hu:u<us.length)(h:(us.set u y)[v]? =some x):(v=u/\x=y)\/(v≠u/\us[v]? =some x):=by
 rw[List.getElem?_set]at h;split at h
 ·rename_i e;simp only[hu,if_true,az]at h;exact .inl ⟨e.symm,h.symm⟩
 ·rename_i e;exact .inr ⟨fun e2=>e e2.symm,h⟩
def upd (P:Nat->List Int) (u:Nat) (l:List Int):Nat->List Int:=fun v=>if v=u then l else P v
theorem tA(P:Nat->List Int)(u:Nat)(l:List Int):upd P u l u=l:=if_pos rfl
theorem tz{P:Nat->List Int}{u v:Nat}{l:List Int}(h:v≠u):upd P u l v=P v:=if_neg h
theorem fW{u:Nat}(h:cF c H)(hu:u<5):H.aA[u]? =some (H.fa u):=by
 unfold Ho.fa;rw[aq,ao (by rw[h.aA];exact hu)];rfl
theorem dU.put(h:dU W id c H H0 D R T P G)(SN:0<=id/\id<4){u:Nat}(hu:u<5){s:ak}(hs:W s)(pri:Int)(body:ak):
 dU W id (c+1) (gv H u s pri body) H0 D R T (if gY H u s pri body=0 then upd P u (P u++[sl H u s pri body])else P) G:=by
 by_cases he:gY H u s pri body=0
 ·rw[if_pos he];obtain⟨hw,mG⟩:=h.loc s hs;have hB:=h.B;obtain⟨hj,h2,-⟩:=tK hB (s:=s) (by rw[mG]);obtain⟨-,i,A3,WO⟩:=h2 (by rw[mG];exact(by decide:(-1:Int)<0));rw[mG]at A3;dsimp only at A3;have vV:ga (H.r4 (jV H s)) (eA H s pri body)=0:=by
   have h0:=he;unfold gY at h0;split at h0
   ·cases h0
   ·split at h0
    ·cases h0
    ·split at h0
     ·exact absurd h0 tr
     ·split at h0
      ·cases h0
      ·exact h0
  have zW:bM (eA H s pri body)=true:=by
   unfold ga at vV;cases hr:bM (eA H s pri body)with
   |true=>rfl
   |false=>rw[if_pos hr]at vV;cases vV
  have hm:eA H s pri body=⟨H.next *4+H.id,pri,body,s,H.id⟩:=by unfold eA;rw[mG];rfl
  generalize vY:eA H s pri body=m at vV zW hm;have vZ:m.id=H.next *4+id:=by rw[hm,<-h.hid]
  have hmq:m.queue=s:=by rw[hm]
  have hmh:m.ck=H.id:=by rw[hm]
  have hpI:sl H u s pri body=m.id:=by unfold sl;rw[if_pos he,vY]
  have lN:=fW hB hu;generalize hx:H.fa u=x at lN;have e1:gv H u s pri body=cM {H.eo (jV H s) (cP (H.r4 (jV H s)) m u)with next:=H.next+1} u ⟨x.aO++[(m,-1)],x.bf⟩:=by
   unfold gv;rw[if_pos he,vY];unfold mA;rw[if_pos vV,aE,hx,mG]
  have Nl:=hB.put u s pri body;rw[e1]at Nl ⊢;rw[hpI];have fg:H.all[jV H s]? =some (H.r4 (jV H s)):=BK hj;generalize jy:cM {H.eo (jV H s) (cP (H.r4 (jV H s)) m u)with next:=H.next+1} u ⟨x.aO++[(m,-1)],x.bf⟩=H' at Nl;have lM:(hv H').Perm (⟨4+i,m,(u:Int),-1⟩::hv H):=by
   have h3:H'.all=(H.eo (jV H s) (cP (H.r4 (jV H s)) m u)).all:=by rw[<-jy];rfl
   unfold hv;rw[h3,zj hB.ways];have :=r_ m u fg;rw[WO,show max (u:Int) (-1)=u by omega]at this;rw[WO];exact this
  have iF:bL H'=bL H:=by rw[<-jy];exact sf _ _
  have pA:H'.names=H.names:=by rw[<-jy];exact nU _ _
  have eX:H'.id=H.id:=by rw[<-jy];exact wL _ _
  have Ce:H'.used=H.used:=by rw[<-jy];exact mU _ _
  have qN:H'.next=H.next+1:=by rw[<-jy];rfl
  have iy:H'.aA=H.aA.set u ⟨x.aO++[(m,-1)],x.bf⟩:=by rw[<-jy];unfold cM;dsimp only;rw[gG]
  have Gx:H'.ways=H.ways:=by
   rw[<-jy];unfold cM;dsimp only;unfold Ho.eo;rw[if_neg ae];rfl
  have zY:(hk H').Perm (hk H):=by
   unfold hk;refine((lM.filter _).map _).trans (List.Perm.of_eq ?_);rw[bT,if_neg (by unfold eb;simp)]
  have fq:∀e∈hv H,e∈hv H':=fun e he=>lM.mem_iff.2 (List.mem_cons_of_mem _ he)
  have M3:∀e∈hv H,c_ e≠m.id:=fun e he e2=>by
   have :=(h.lt e he).2.2;unfold c_ at e2;rw[e2,vZ]at this;omega
  obtain⟨m1,m2,-⟩:=bN zW;refine⟨by rw[eX,h.hid],Nl.le ae,h.dk,by have :=h.rl;omega,by have :=h.left;omega,h.pl,by rw[Ce,h.used],by rw[pA,h.names],by rw[iF,h.keys],by rw[Gx];exact h.ways,h.iA,zY.trans h.o7,?_,?_,h.zS,?_,h.tn,h.te.trans (zY.map _).symm,fun s' aT=>by rw[pz pA eX];exact h.loc s' aT⟩
  ·refine(lM.map c_).nodup_iff.2 ?_;rw[aJ,bJ];refine⟨fun IJ=>?_,h.kz⟩;obtain⟨e,ei,Kl⟩:=ay.1 IJ;exact M3 e ei Kl
  ·intro e ei;rw[qN];rcases aD.1 (lM.mem_iff.1 ei)with rfl|Kl
   ·refine⟨m1,m2,?_⟩;dsimp only;rw[vZ];omega
   ·obtain⟨a,b,d⟩:=h.lt e Kl;exact⟨a,b,by omega⟩
  ·intro v y hy;rw[iy]at hy;rcases fR Oz hy with⟨rfl,rfl⟩|⟨gh,hy⟩
   ·obtain⟨ui,up,ug⟩:=h.unit v x lN;refine⟨⟨by have :=ui.many;simp;omega,fun p hp=>?_,?_,fun g hg=>?_,ui.gn⟩,?_,ug⟩
    ·rcases aH.1 hp with hp|hp
     ·obtain⟨a,b,i',d,e,ei,e3⟩:=ui.aO p hp;exact⟨a,by rw[eX];exact b,i',by rw[bE iF];exact d,e,fq e ei,e3⟩
     ·simp at hp;subst hp;refine⟨zW,by rw[eX];exact hmh,i,by rw[bE iF,hmq];exact A3,_,lM.mem_iff.2 List.mem_cons_self,rfl,rfl,rfl⟩
    ·dsimp only;rw[aN,List.nodup_append];refine⟨ui.pn,by simp,fun a ha b hb=>?_⟩;obtain⟨p,hp,rfl⟩:=ay.1 ha;obtain⟨-,-,i',-,e,ei,-,e3,-⟩:=ui.aO p hp;simp at hb;subst hb;have :=M3 e ei;unfold c_ at this;rw[e3]at this;exact this
    ·obtain⟨a,i',d,e,ei,e3⟩:=ui.bf g hg;exact⟨a,i',by rw[bE iF];exact d,e,fq e ei,e3⟩
    ·rw[tA];dsimp only;rw[aN,up];rfl
   ·obtain⟨ui,up,ug⟩:=h.unit v y hy;refine⟨⟨by have :=ui.many;omega,fun p hp=>?_,ui.pn,fun g hg=>?_,ui.gn⟩,by rw[tz gh];exact up,ug⟩
    ·obtain⟨a,b,i',d,e,ei,e3⟩:=ui.aO p hp;exact⟨a,by rw[eX];exact b,i',by rw[bE iF];exact d,e,fq e ei,e3⟩
    ·obtain⟨a,i',d,e,ei,e3⟩:=ui.bf g hg;exact⟨a,i',by rw[bE iF];exact d,e,fq e ei,e3⟩
 ·rw[if_neg he];have :gv H u s pri body=H:=by unfold gv;rw[if_neg he]
  rw[this];exact h.up
theorem dU.get(h:dU W id c H H0 D R T P G){u:Nat}(hu:u<5){s:ak}(hs:W s):
 dU W id (c+1) (g_ H u s) H0 D R T P (if iU H u s=0 then upd G u (G u++[(getM H u s).id])else G)/\(iU H u s=0->(getM H u s).id∈T):=by
 by_cases he:iU H u s=0
 ·rw[if_pos he];obtain⟨hw,mG⟩:=h.loc s hs;have hB:=h.B;obtain⟨i,A3,vV⟩:∃i,H.qI s=some i/\hI (H.dP i)=0:=by
   have h0:=he;unfold iU at h0;split at h0
   ·cases h0
   ·cases hq:H.qI s with
    |none=>rw[hq]at h0;cases h0
    |some i=>
     rw[hq]at h0;dsimp only at h0;split at h0
     ·cases h0
     ·split at h0
      ·cases h0
      ·exact⟨i,rfl,h0⟩
  have oG:=(ji A3).1;obtain⟨k,Nd⟩:∃k,oB (H.dP i)=some k:=by
   unfold hI at vV;split at vV
   ·cases vV
   ·rename_i k Ba;exact⟨k,Ba⟩
  obtain⟨ru,FN,-⟩:=List.findIdx?_eq_some_iff_getElem.1 Nd;have Kh:(H.dP i).l[k]? =some (H.dP i).l[k]:=ao ru;generalize hy:(H.dP i).l[k]=y at Kh FN;have hit:lU (H.dP i).l k=y:=iE Kh;have Co:gI (H.dP i)=y.m:=by unfold gI;rw[Nd];dsimp only;rw[hit]
  have hgq:fT (H.dP i) u=⟨(H.dP i).l.set k {y with ft:=(u:Int)},(H.dP i).next⟩:=by unfold fT;rw[Nd];dsimp only;rw[if_neg ae,hit]
  have hM:getM H u s=y.m:=by unfold getM;rw[if_pos he,A3];exact Co
  unfold cC at FN;simp only[a_,decide_eq_true_eq]at FN;obtain⟨Rr,p1,p2⟩:=Ar {y with ft:=(u:Int)} (Fc hB oG) Kh (H.dP i).next
  have lN:=fW hB hu;generalize hx:H.fa u=x at lN;have e1:g_ H u s=cM (H.eP i (fT (H.dP i) u)) u ⟨x.aO,x.bf++[(y.m.id,s)]⟩:=by
   unfold g_;rw[if_pos he,aE,hx,A3];simp only[Option.getD_some];rw[Co]
  have Nl:=hB.get u s;rw[e1]at Nl ⊢;rw[hM];generalize jy:cM (H.eP i (fT (H.dP i) u)) u ⟨x.aO,x.bf++[(y.m.id,s)]⟩=H' at Nl;have lM:(hv H').Perm (fU (4+i) {y with ft:=(u:Int)}::Rr):=by
   have h3:H'.all=(H.eP i (fT (H.dP i) u)).all:=by rw[<-jy];rfl
   unfold hv;rw[h3,kq hB.ways,hgq];exact p2
  have MR:(hv H).Perm (fU (4+i) y::Rr):=p1;have iF:bL H'=bL H:=by rw[<-jy];exact jb _ _
  have pA:H'.names=H.names:=by rw[<-jy];rfl
  have eX:H'.id=H.id:=by rw[<-jy];rfl
  have Ce:H'.used=H.used:=by rw[<-jy];rfl
  have qN:H'.next=H.next:=by rw[<-jy];rfl
  have iy:H'.aA=H.aA.set u ⟨x.aO,x.bf++[(y.m.id,s)]⟩:=by rw[<-jy];rfl
  have Gx:H'.ways=H.ways:=by rw[<-jy];rfl
  have zY:(hk H').Perm (hk H):=by
   unfold hk;refine((lM.filter _).map _).trans (List.Perm.trans (List.Perm.of_eq ?_) ((MR.filter _).map _).symm);rw[bT,bT];have :eb (fU (4+i) y)=true:=by unfold eb fU;simpa using FN.1
   rw[if_pos this,if_pos (show eb (fU (4+i) {y with ft:=(u:Int)})=true from this)];rfl
  have lV:((hv H').map c_).Perm ((hv H).map c_):=(lM.map c_).trans (MR.map c_).symm;have fq:∀e∈hv H,e∈hv H'\/e=fU (4+i) y:=fun e he=>by
   rcases aD.1 (MR.mem_iff.1 he)with rfl|h1
   ·exact .inr rfl
   ·exact .inl (lM.mem_iff.2 (List.mem_cons_of_mem _ h1))
  have Ue:fU (4+i) y∈hv H:=MR.mem_iff.2 List.mem_cons_self;have Ud:fU (4+i) {y with ft:=(u:Int)}∈hv H':=lM.mem_iff.2 List.mem_cons_self;have zU:∀v p (i':Nat) (e:En),e∈hv H->e.j=4+i'->e.m=p->e.put=((v:Nat):Int)->∃e∈hv H',e.j=4+i'/\e.m=p/\e.put=((v:Nat):Int):=fun v p i' e he a b d=>by
   rcases fq e he with h1|rfl
   ·exact⟨e,h1,a,b,d⟩
   ·have :y.put=(v:Int):=d;omega
  have kC:∀(v:Nat) k' (i':Nat) (e:En),e∈hv H->e.j=4+i'->c_ e=k'->e.put<0->e.ft=((v:Nat):Int)->∃e∈hv H',e.j=4+i'/\c_ e=k'/\e.put<0/\e.ft=((v:Nat):Int):=fun v k' i' e he a b d f=>by
   rcases fq e he with h1|rfl
   ·exact⟨e,h1,a,b,d,f⟩
   ·have :y.ft=(v:Int):=f;omega
  refine⟨⟨by rw[eX,h.hid],Nl.le ae,h.dk,by have :=h.rl;omega,by have :=h.left;omega,h.pl,by rw[Ce,h.used],by rw[pA,h.names],by rw[iF,h.keys],by rw[Gx];exact h.ways,h.iA,zY.trans h.o7,lV.nodup_iff.2 h.kz,?_,h.zS,?_,h.tn,h.te.trans (zY.map _).symm,fun s' aT=>by rw[pz pA eX];exact h.loc s' aT⟩,fun _=>?_⟩
  ·intro e ei;rw[qN];rcases aD.1 (lM.mem_iff.1 ei)with rfl|Kl
   ·have :=h.lt (fU (4+i) y) Ue;exact this
   ·exact h.lt e (MR.mem_iff.2 (List.mem_cons_of_mem _ Kl))
  ·intro v z hz;rw[iy]at hz;rcases fR Oz hz with⟨rfl,rfl⟩|⟨gh,hz⟩
   ·obtain⟨ui,up,ug⟩:=h.unit v x lN;refine⟨⟨by have :=ui.many;simp;omega,fun p hp=>?_,ui.pn,fun g hg=>?_,?_⟩,up,?_⟩
    ·obtain⟨a,b,i',d,e,ei,e3,e4,e5⟩:=ui.aO p hp;exact⟨a,by rw[eX];exact b,i',by rw[bE iF];exact d,zU v _ i' e ei e3 e4 e5⟩
    ·rcases aH.1 hg with hg|hg
     ·obtain⟨a,i',d,e,ei,e3,e4,e5,e6⟩:=ui.bf g hg;exact⟨a,i',by rw[bE iF];exact d,kC v _ i' e ei e3 e4 e5 e6⟩
     ·simp at hg;subst hg;exact⟨hw,i,by rw[bE iF];exact A3,_,Ud,rfl,rfl,FN.1,rfl⟩
    ·dsimp only;rw[aN,List.nodup_append];refine⟨ui.gn,by simp,fun a ha b hb=>?_⟩;obtain⟨g,hg,rfl⟩:=ay.1 ha;obtain⟨-,i',-,e,ei,-,e4,-,e6⟩:=ui.bf g hg;simp at hb;subst hb;intro e7;have :e=fU (4+i) y:=eB h.kz ei Ue (by rw[e4,e7];rfl);rw[this]at e6;have :y.ft=(v:Int):=e6;omega
    ·rw[tA];dsimp only;rw[aN,ug];rfl
   ·obtain⟨ui,up,ug⟩:=h.unit v z hz;refine⟨⟨by have :=ui.many;omega,fun p hp=>?_,ui.pn,fun g hg=>?_,ui.gn⟩,up,by rw[tz gh];exact ug⟩
    ·obtain⟨a,b,i',d,e,ei,e3,e4,e5⟩:=ui.aO p hp;exact⟨a,by rw[eX];exact b,i',by rw[bE iF];exact d,zU v _ i' e ei e3 e4 e5⟩
    ·obtain⟨a,i',d,e,ei,e3,e4,e5,e6⟩:=ui.bf g hg;exact⟨a,i',by rw[bE iF];exact d,kC v _ i' e ei e3 e4 e5 e6⟩
  ·rw[h.te.mem_iff,Cm];exact ay.2 ⟨fU (4+i) y,aB.2 ⟨Ue,by unfold eb fU;simpa using FN.1⟩,rfl⟩
 ·rw[if_neg he];have :g_ H u s=H:=by unfold g_;rw[if_neg he]
  rw[this];exact⟨h.up,fun h0=>absurd h0 he⟩
end
section
variable {W:ak->Prop} {id:Int} {c:Nat} {H H0:Ho} {D:Dk} {R:List ak} {T:List Int} {P G:Nat->List Int}
theorem dU.cZ(h:dU W id c H H0 D R T P G)(n:Int):dU W id c {H with cZ:=n} H0 D R T P G:=
 ⟨h.hid,h.B.Sk n,h.dk,h.rl,h.left,h.pl,h.used,h.names,h.keys,h.ways,h.iA,h.o7,h.kz,h.lt,h.zS,fun u x hx=>⟨⟨(h.unit u x hx).1.many,(h.unit u x hx).1.aO,(h.unit u x hx).1.pn,(h.unit u x hx).1.bf,(h.unit u x hx).1.gn⟩,(h.unit u x hx).2⟩,h.tn,h.te,h.loc⟩
theorem dU.G5(h:dU W id c H H0 D R T P G):dU W id c {H with down:=true} H0 D R T P G:=
 ⟨h.hid,⟨h.B.id,h.B.used,h.B.next,h.B.sorted,h.B.lS,h.B.mB,h.B.qs,h.B.nodup,h.B.ways,h.B.aA,h.B.batch,h.B.cg,h.B.aM,h.B.right,h.B.loc,h.B.ext⟩,h.dk,h.rl,h.left,h.pl,h.used,h.names,h.keys,h.ways,h.iA,h.o7,h.kz,h.lt,h.zS,fun u x hx=>⟨⟨(h.unit u x hx).1.many,(h.unit u x hx).1.aO,(h.unit u x hx).1.pn,(h.unit u x hx).1.bf,(h.unit u x hx).1.gn⟩,(h.unit u x hx).2⟩,h.tn,h.te,h.loc⟩
theorem dU.NB(h:dU W id c H H0 D R T P G){D':Dk}(hd:gT D' R)(hl: -(10+(c:Int))<=D'.left/\D'.left<=10):dU W id c H H0 D' R T P G:=
 ⟨h.hid,h.B,hd,h.rl,hl,h.pl,h.used,h.names,h.keys,h.ways,h.iA,h.o7,h.kz,h.lt,h.zS,h.unit,h.tn,h.te,h.loc⟩
theorem dU.cut(h:dU W id c H H0 D R T P G){n:Int}(hn:n<=10):dU W id c H H0 (cu D n) R T P G:=h.NB (h.dk.cut n) (by unfold cu;dsimp only;omega)
theorem dU.opened(h:dU W id c H H0 D R T P G):iQ id D=H0:=rk h.dk h.pl
theorem dU.B0(h:dU W id c H H0 D R T P G)(SN:0<=id/\id<4)(hc:c<=200):cF (10+250*R.length) H0:=
 h.pl.bound (Ct SN) (fun s hs=>(h.dk.lQ s hs).1) (by have :=h.rl;simp only[bO];omega)
theorem dU.qB(h:dU W id c H H0 D R T P G):hk H0=(hv H0).map jX:=by
 unfold hk;rw[bo.2];intro e he;have :=(h.iA e he).1;unfold eb;simp[this]
theorem dU.BR(h:dU W id c H H0 D R T P G){u:Nat}{x:ox}(hx:H0.aA[u]? =some x):x=⟨[],[]⟩:=by
 rw[h.pl.same.2.2.2]at hx;have :=ax hx;exact List.eq_of_mem_replicate this
theorem UI.nil(H:Ho)(u:Nat)(c:Nat):UI H u ⟨[],[]⟩ c:=⟨aV _,(fun p hp=>by cases hp),List.nodup_nil,(fun p hp=>by cases hp),List.nodup_nil⟩
theorem dU.Gv(h:dU W id c H H0 D R T P G):((hv H0).map c_).Nodup:=by
 have h1:((hv H0).map c_).Perm ((hk H).map (·.2.id)):=by
  refine List.Perm.trans (List.Perm.of_eq ?_) (h.o7.map (·.2.id)).symm
  rw[List.map_map];rfl
 rw[h1.nodup_iff,Cm];exact h.kz.sublist (List.filter_sublist.map _)
theorem dU.T_(h:dU W id c H H0 D R T P G){e:En}(he:e∈hv H0):∃e'∈hv H,e'.j=e.j/\e'.m=e.m/\e'.put<0:=by
 have h1:jX e∈hk H:=h.o7.mem_iff.2 (cO he);unfold hk at h1;obtain⟨e',h2,h3⟩:=ay.1 h1;obtain⟨h4,h5⟩:=aB.1 h2;unfold jX at h3;simp only[Prod.mk.injEq]at h3;exact⟨e',h4,h3.1,h3.2,by unfold eb at h5;simpa using h5⟩
theorem dU.to0(h:dU W id c H H0 D R T P G){e:En}(he:e∈hv H)(hp:e.put<0):∃e'∈hv H0,e'.j=e.j/\e'.m=e.m:=by
 have h1:jX e∈(hv H0).map jX:=h.o7.mem_iff.1 (by
  unfold hk
  exact cO (aB.2 ⟨he,by unfold eb;simpa using hp⟩))
 obtain⟨e',h2,h3⟩:=ay.1 h1;unfold jX at h3;simp only[Prod.mk.injEq]at h3;exact⟨e',h2,h3.1,h3.2⟩
theorem dU.L5(h:dU W id c H H0 D R T P G)(SN:0<=id/\id<4)(hc:c<=200):dU W id c H0 H0 D R T (fun _=>[]) (fun _=>[]):=by
 have Db:=h.B0 SN hc;refine⟨h.pl.same.1,Db.le (by have :=h.rl;omega),h.dk,h.rl,h.left,h.pl,by rw[h.pl.used];simp[bO],rfl,rfl,⟨h.ways.2,h.ways.2⟩,h.iA,by rw[h.qB],h.Gv,fun e he=>?_,h.zS,fun u x hx=>?_,h.tn,?_,fun s hs=>?_⟩
 ·obtain⟨e',h1,-,h2,-⟩:=h.T_ he;have :=h.lt e' h1;rw[h2]at this;exact⟨this.1,this.2.1,h.zS e he⟩
 ·have :=h.BR hx;subst this;exact⟨UI.nil _ _ _,rfl,rfl⟩
 ·rw[h.qB];exact h.te.trans (h.o7.map _)
 ·rw[pz h.names (by rw[h.pl.same.1,h.hid];rfl)];exact h.loc s hs
def Hh (T:List Int) (k:Int):List Int:=if k∈T then T else T++[k]
def ND (T:List Int) (k:Int):List Int:=T.filter fun x=> !decide (x=k)
theorem N2{T:List Int}{k x:Int}:x∈Hh T k↔x=k\/x∈T:=by
 unfold Hh;split
 ·rename_i h;exact⟨.inr,fun h1=>h1.elim (fun e=>e▸h) id⟩
 ·rw[aH,List.mem_singleton,or_comm]
theorem Hg{T:List Int}(h:T.Nodup)(k:Int):(Hh T k).Nodup:=by
 unfold Hh;split
 ·exact h
 ·rename_i h1;rw[List.nodup_append];exact⟨h,by simp,fun a ha b hb=>by simp at hb;subst hb;rintro rfl;exact h1 ha⟩
theorem NC{T:List Int}{k x:Int}:x∈ND T k↔x≠k/\x∈T:=by
 unfold ND;rw[aB];simp[and_comm]
theorem Fg{x:Int}:∀(l T:List Int),x∈l.foldl Hh T↔x∈l\/x∈T
 |[],T=>by simp
 |k::l,T=>by
  rw[List.foldl_cons,Fg l,N2,aD];constructor
  ·rintro(h|h|h)
   ·exact .inl (.inr h)
   ·exact .inl (.inl h)
   ·exact .inr h
  ·rintro((h|h)|h)
   ·exact .inr (.inl h)
   ·exact .inl h
   ·exact .inr (.inr h)
theorem rM:∀(l:List Int) {T:List Int},T.Nodup->(l.foldl Hh T).Nodup
 |[],_,h=>h
 |k::l,_,h=>rM l (Hg h k)
theorem E5{x:Int}:∀(l T:List Int),x∈l.foldl ND T↔x∉l/\x∈T
 |[],T=>by simp
 |k::l,T=>by
  rw[List.foldl_cons,E5 l,NC,aD];constructor
  ·rintro⟨h,h1,h2⟩;exact⟨fun h3=>h3.elim h1 h,h2⟩
  ·rintro⟨h,h1⟩;exact⟨fun h3=>h (.inr h3),fun h3=>h (.inl h3),h1⟩
theorem rC:∀(l:List Int) {T:List Int},T.Nodup->(l.foldl ND T).Nodup
 |[],_,h=>h
 |k::l,_,h=>rC l (h.sublist List.filter_sublist)
def S6 (T p g:List Int):List Int:=g.foldl ND (p.foldl Hh T)
theorem sQ(H:Ho){u:Int}(hu:0<=u):hv (cK H u)=((hv H).filter fun e=> !decide (e.put=u)).map (dB u):=by
 unfold hv;rw[uj,Pg hu]
theorem dU.back(h:dU W id c H H0 D R T P G){u:Nat}(hu:u<5):
 dU W id (c+1) (rH H u) H0 D R T (if BF H u=0 then upd P u []else P) (if BF H u=0 then upd G u []else G):=by
 by_cases he:BF H u=0
 ·rw[if_pos he,if_pos he];have hB:=h.B;have Nl:=hB.bk (u:Int);have e1:rH H u=cM (cK H u) u cN:=by unfold rH;rw[if_pos he,aE]
  rw[e1]at Nl ⊢;have lM:hv (cM (cK H u) u cN)=((hv H).filter fun e=> !decide (e.put=(u:Int))).map (dB u):=sQ H ae;have iF:bL (cM (cK H u) u cN)=bL H:=by unfold bL cM cK;simp
  have WE:=bE iF;generalize jy:cM (cK H u) u cN=H' at Nl lM iF WE;have pA:H'.names=H.names:=by rw[<-jy];rfl
  have eX:H'.id=H.id:=by rw[<-jy];rfl
  have Ce:H'.used=H.used:=by rw[<-jy];rfl
  have qN:H'.next=H.next:=by rw[<-jy];rfl
  have iy:H'.aA=H.aA.set u cN:=by rw[<-jy];rfl
  have Gx:H'.ways=H.ways.map fun q=>c8 q u true:=by rw[<-jy];rfl
  have fq:∀e∈hv H,e.put≠(u:Int)->dB u e∈hv H':=fun e he hp=>by
   rw[lM];exact cO (aB.2 ⟨he,by simpa using hp⟩)
  have zY:hk H'=hk H:=by
   unfold hk;rw[lM,List.filter_map,List.map_map,bm];rw[show(jX∘dB u)=jX from rfl];congr 1;apply List.filter_congr;intro e _;unfold eb dB;dsimp only[Function.comp];by_cases e1:e.put=(u:Int)
   ·have :¬e.put<0:=by omega
    simp[e1]
   ·simp[e1]
  refine⟨by rw[eX,h.hid],Nl.le ae,h.dk,by have :=h.rl;omega,by have :=h.left;omega,h.pl,by rw[Ce,h.used],by rw[pA,h.names],by rw[iF,h.keys],⟨fun q hq=>?_,h.ways.2⟩,h.iA,by rw[zY];exact h.o7,?_,?_,h.zS,?_,h.tn,by rw[zY];exact h.te,fun s' aT=>by rw[pz pA eX];exact h.loc s' aT⟩
  ·rw[Gx]at hq;obtain⟨q0,h0,rfl⟩:=ay.1 hq;have :=h.ways.1 q0 h0;unfold c8;split
   ·exact this
   ·dsimp only;rw[this];rfl
  ·rw[lM,List.map_map,show(c_∘dB u)=c_ from rfl];exact h.kz.sublist (List.filter_sublist.map _)
  ·intro e ei;rw[lM]at ei;obtain⟨e',h1,rfl⟩:=ay.1 ei;rw[qN];exact h.lt e' (aB.1 h1).1
  ·intro v y hy;rw[iy]at hy;rcases fR Oz hy with⟨rfl,rfl⟩|⟨gh,hy⟩
   ·exact⟨UI.nil _ _ _,by rw[tA];rfl,by rw[tA];rfl⟩
   ·obtain⟨ui,up,ug⟩:=h.unit v y hy;have Gz:((v:Nat):Int)≠(u:Int):=fun e=>gh ae
    refine⟨⟨by have :=ui.many;omega,fun p hp=>?_,ui.pn,fun g hg=>?_,ui.gn⟩,by rw[tz gh];exact up,by rw[tz gh];exact ug⟩
    ·obtain⟨a,b,i',d,e,ei,e3,e4,e5⟩:=ui.aO p hp;refine⟨a,by rw[eX];exact b,i',by rw[WE];exact d,_,fq e ei (by rw[e5];exact Gz),e3,e4,?_⟩;unfold dB;dsimp only;rw[if_neg (by rw[e5];exact Gz)];exact e5
    ·obtain⟨a,i',d,e,ei,e3,e4,e5,e6⟩:=ui.bf g hg;have A4:e.put≠(u:Int):=by omega
     refine⟨a,i',by rw[WE];exact d,_,fq e ei A4,e3,e4,?_,?_⟩
     ·unfold dB;dsimp only;rw[if_neg A4];exact e5
     ·unfold dB;dsimp only;rw[if_neg (by rw[e6];exact Gz)];exact e6
 ·rw[if_neg he,if_neg he];have :rH H u=H:=by unfold rH;rw[if_neg he]
  rw[this];exact h.up
end
end WB
