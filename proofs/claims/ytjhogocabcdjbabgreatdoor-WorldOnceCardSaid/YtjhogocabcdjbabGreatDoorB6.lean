import Derived.Shelf.SlSortCmp.NoneTotal
import Derived.Shelf.SlSortCmp.WholeK
import Derived.Ground.SlsfProg
import Derived.Conc.Holds
import Derived.Leaving
import Derived.SevenTiedAt
import Derived.Test.YtjhogocabcdjbabGreatDoorB5
set_option linter.unusedSimpArgs false
set_option linter.unusedVariables false
set_option maxRecDepth 100000
set_option maxHeartbeats 8000000
namespace Go.Proofs.YtjhogocabcdjbabGreatDoor
open Tryz
open Go Go.RowKit WB
def Wh (w:World):Prop:= ∀k,k<3->w.cell? ⟨0,k,none⟩=some (.string (uU k))
theorem Wh.ext{w w':World}(h:Wh w)(e:Ext w w'):Wh w':=fun k hk=>e.cell (h k hk)
theorem Pf(w0:World)(M:List HP)(bw:Nat)(V:OB)(W:Wo):KE prog 46 #[bp bw] w0 (oz bw V W M) (fun u N=>u=.int .i64 (W.dQ.length:Nat)/\N=oz bw V W M):=by
 refine KE.mk (n:=8) func46 rfl ntmps46 aj ?_;intro w hw;obtain⟨a,cap,hv,-⟩:=aU (hw.pick (A:=GZ V.wv W.dQ) bn);have lg:w.cell? ⟨bw,2,none⟩=some (.slice a W.dQ.length cap):=by rw[World.cell?,hw.look.2,<-hv];rfl
 refine oX ?_;refine kr ?_;refine Te ?_;refine KO.qM rfl rfl isAgg162 lg rfl ?_;refine CX ?_;refine iW ?_;refine KQ.bB rfl rfl (fun w' hs=>⟨_,_,rfl,⟨rfl,rfl⟩,hw.aC hs.below,hs.below⟩)
theorem l5{bt bw:Nat}{hd:zB}{V:OB}{TV:FE}{S':pc}{w0 w:World}{L:List HP}(hV:V.ps.length=S'.W.hs.length)(e8:V.hv=hd.1)(e9:FH hd V.dv V.ps)(hT:OC TV S'.ks)(h:St w0 (oz bw V S'.W (DE bt bw TV S' L)) w):St w0 (lP bt bw S'::kZ bw hd S'.W::L) w:=by
 have h1:St w0 (kZ bw hd S'.W::DE bt bw TV S' L) w:=dm V hV h e8 e9;exact fG TV hT (h1.all (M:=DE bt bw TV S' (kZ bw hd S'.W::L)) Y7)
theorem Pu(w0:World)(L:List HP)(bt bw c kb:Nat)(hd:zB)(hN:hd.2.2=none)(S:pc)(x:Ia)(hT:o0 w0)(hM:o2 w0)(hQ:Wh w0)(hS:mL c kb S)(hO:nG (1000*c) S.ks S.Ls)(hc:c<=120)(hK:kb<=2000000):
 KC prog 23 #[bp bt,.agg (nB x).toArray] w0 (lP bt bw S::kZ bw hd S.W::L) (fun v M=>v=.tuple #[]/\M=lP bt bw (kt S x)::kZ bw hd (kt S x).W::L):=by
 have hn:=hS.hn;have vX:=hS.n2;obtain⟨k,hk,pb⟩:∃k:Nat,o5 S x=k/\k<S.n:=⟨_,rfl,by unfold o5;have :=jj x.k (n:=(S.n:Int)) ae;omega⟩;obtain⟨u,hu,Qp⟩:∃u:Nat,Ik x=u/\u<5:=⟨_,rfl,by unfold Ik;have :=jj x.unit (n:=5) ae;omega⟩;have hpk:pk x.k (S.n:Nat)=(k:Nat):=by unfold o5 at hk;have :=jj x.k (n:=(S.n:Int)) ae;omega
 have A4:pk x.unit 5=(u:Nat):=by unfold Ik at hu;have :=jj x.unit (n:=5) ae;omega
 obtain⟨y,hy,eH,eD,Uf,afM,hy5⟩:=hS.at pb;have hyO:=Uf.B.le (k:=75420) (by have :=Uf.B.used;omega);have XJ:∀z∈y.1.aA,z.aO.length+z.bf.length<=120:=fun z hz=>by have :=hS.um k z (by rw[eH];exact hz);omega
 have Nd:ix k u<20:=by unfold ix;omega
 obtain⟨UZ,hPt⟩:=hS.P;obtain⟨U1,hGt⟩:=hS.G;have YJ:=hPt k u ae Qp;have YO:=hGt k u ae Qp;have lN:y.1.aA[u]? =some (y.1.fa u):=fW Uf.B Qp;have YH:(((S.W.H k).fa u).aO.map (·.1)).length<=120:=by
  have :=XJ _ (ax lN);rw[eH,aW];omega
 have YM:(((S.W.H k).fa u).bf.map (·.1)).length<=120:=by
  have :=XJ _ (ax lN);rw[eH,aW];omega
 obtain⟨Pl,YI,ag_,hPe⟩:∃Pl,S.P[ix k u]? =some Pl/\Pl.length<=120/\Pl=((S.W.H k).fa u).aO.map (·.1):=⟨_,YJ,YH,rfl⟩
 obtain⟨Gl,YN,ahj,hGe⟩:∃Gl,S.G[ix k u]? =some Gl/\Gl.length<=120/\Gl=((S.W.H k).fa u).bf.map (·.1):=⟨_,YO,YM,rfl⟩
 have SZ:S.P.getD (ix k u) []=Pl:=by rw[aq,YI];rfl
 have S0:S.G.getD (ix k u) []=Gl:=by rw[aq,YN];rfl
 have J7:=hS.B.wl;obtain⟨i,hi,WS⟩:∃i:Int,Wr S x=i/\(0<S.W.dQ.length->0<=i/\i<(S.W.dQ.length:Nat)):=⟨_,rfl,fun h=>by unfold Wr;rw[if_pos h];exact jj x.n ae⟩;have hd0:kt S x=kt S x:=rfl
 conv at hd0=>rhs;unfold kt;rw[hk,hu,hi]
 rw[hd0];unfold Wr at hi;clear hd0 hk hu;obtain⟨xw,xk,xn,xm,xu⟩:=x;dsimp only at hpk A4 hi ⊢;refine KC.mk (n:=267) func23 rfl ntmps23 aj ?_;refine oW ?_;refine K.cq (fun _ h=>jF h) ?_;rintro⟨⟨us,vs,os,mT,mO⟩,hV⟩;dsimp only;refine K.conv (fun w h=>h.pick (A:=kZ bw hd S.W) bn) ?_
 refine K.cq (fun _ h=>dE h) ?_;rintro⟨⟨hv,dv,wv,ps⟩,QY,e8,e9⟩;dsimp only at QY e8 e9 ⊢;obtain⟨h1,h2,h3⟩:=hV;dsimp only at h1 h2 h3;obtain⟨p,hp⟩:∃e,ps[k]? =some e:=⟨_,ao ae⟩;obtain⟨uv,huv⟩:∃e,us[ix k u]? =some e:=⟨us[ix k u],ao ae⟩;obtain⟨vv,hvv⟩:∃e,vs[ix k u]? =some e:=⟨vs[ix k u],ao ae⟩;have hlen:=pX (bw:=bw) (n:=S.n) (V:=⟨us,vs,os,mT,mO⟩) h1 h2;have zY:k<S.W.hs.length:=by omega
 refine dM ?_;refine KO.box rfl rfl aP rfl ?_;intro b3;refine Z0 ?_;refine K.draw [.pure,.pure,.pure,.read,.pure,.read,.pure,.pure,.pure,.read,.c7,.pure,.read,.c7,.pure,.pure,.pure] [0,1,2,3,4,5,6,7,8,9,11,12,10,13,14,15,16] bC bC ?_;refine lq ?_;refine VH ?_;refine KO.ld rfl rfl isAgg55 bn aP rfl ?_;refine KO.fw (off:=1) rfl runUnderlying38 rfl rfl sizeOf3 rfl ?_;refine s7 ?_;refine Hw ?_;refine zL ?_;refine KO.fw (off:=4) rfl runUnderlying38 rfl rfl sizeOf3 rfl ?_;refine s7 ?_;refine KO.ce (cp:=[]) rfl rfl rfl call13 rfl (mD w0 _ xk (S.n:Nat) ae ae) ?_;rintro v' L' ⟨rfl,rfl⟩;rw[hpk];refine KO.ce (cp:=[]) rfl rfl rfl call13 rfl (mD w0 _ xu 5 ai ai) ?_;rintro v' L' ⟨rfl,rfl⟩;rw[A4];refine lY ?_;refine kE ?_;refine K.conv (L':=oz bw ⟨hv,dv,wv,ps⟩ S.W (DE bt bw ⟨us,vs,os,mT,mO⟩ S (bI b3 (.cells (nB ⟨xw,xk,xn,xm,xu⟩).toArray 38 (0,0))::L))) (fun w h=>h.all Y7) ?_
 refine iX ?_;refine KO.ce (cp:=[]) rfl rfl rfl call26 rfl (mP w0 _ bw ⟨hv,dv,wv,ps⟩ S.W k p QY hp) ?_;rintro v' L' ⟨rfl,rfl⟩;refine jR ?_;refine I_ ?_;refine rT ?_;refine dM ?_;refine lL ?_;refine KO.ce (cp:=[]) rfl rfl rfl call46 rfl (Pf w0 _ bw ⟨hv,dv,wv,ps⟩ S.W) ?_;rintro v' L' ⟨rfl,rfl⟩;refine lL ?_;refine uP ?_;refine KO.nil ?_;refine KQ.next ?_
 refine K.cut (fun _:Unit=>[(0,bp bt),(3,.pointer (some ⟨b3,0,none⟩)),(4,bp bw),(5,.int .i64 (k:Nat)),(6,.int .i64 (u:Nat)),(7,bp p.1),(9,.int .i64 i)]) (fun _=>oz bw ⟨hv,dv,wv,ps⟩ S.W (DE bt bw ⟨us,vs,os,mT,mO⟩ S (bI b3 (.cells (nB ⟨xw,xk,xn,xm,xu⟩).toArray 38 (0,0))::L))) (fun _=>True) ?_ ?_
 ·refine K.br rfl (fun tg=>?_) (fun tg=>?_)
  ·have tY:0<S.W.dQ.length:=by omega
   rw[if_pos tY]at hi;refine dM ?_;refine RZ ?_;refine Z1 ?_;refine KO.ce (cp:=[]) rfl rfl rfl call13 rfl (mD w0 _ xn (S.W.dQ.length:Nat) ae ae) ?_;rintro v' L' ⟨rfl,rfl⟩;rw[hi];refine uR ?_;refine KQ.qL () trivial ⟨rfl,rfl,rfl,rfl,rfl,rfl,rfl,trivial⟩ (fun w' aT=>aT)
  ·have tY:¬0<S.W.dQ.length:=by omega
   rw[if_neg tY]at hi;subst hi;refine CW ?_;refine KQ.qL () trivial ⟨rfl,rfl,rfl,rfl,rfl,rfl,rfl,trivial⟩ (fun w' aT=>aT)
 rintro _ _;clear hi WS;refine Z3 ?_;refine KO.fw (off:=0) rfl runUnderlying38 rfl rfl sizeOf3 rfl ?_;refine zL ?_;refine N8 ?_;refine dM ?_;refine VW ?_;refine K.br rfl (fun oF=>?_) (fun oF=>?_)
 ·rw[if_pos oF];obtain⟨j,hj,hj3⟩:∃j:Nat,pk xn 3=(j:Nat)/\j<3:=⟨(pk xn 3).toNat,by have :=jj xn (n:=3) ai;omega,by have :=jj xn (n:=3) ai;omega⟩;have WH:=jj xm (n:=3) ai;have hq:w0.cell? ((⟨0,0,none⟩:Addr).add (j *1))=some (.string (uU j)):=by rw[Addr.add_lit,Nat.zero_add,Nat.mul_one];exact hQ j hj3
  have WE:=(iG (x5 j)).2;have hmx:(1000000:Nat)<=maxLen:=by decide
  rw[show(pk xn 3).toNat=j by omega];refine oW ?_;refine K.draw [.pure,.read,.c7,.pure,.read,.pure,.read,.c7,.pure,.pure] [0,1,5,6,2,3,4,7,8,9] bC bC ?_;refine RZ ?_;refine VT ?_;refine KO.ce (cp:=[]) rfl rfl rfl call13 rfl (mD w0 _ xn 3 ai ai) ?_;rintro v' L' ⟨rfl,rfl⟩;rw[hj];refine ZD ?_;refine KO.ce (cp:=[]) rfl rfl rfl call13 rfl (mD w0 _ xm 3 ai ai) ?_;rintro v' L' ⟨rfl,rfl⟩;refine Z7 ?_;refine kE ?_;generalize uU j=q at WE hq ⊢;generalize pk xm 3=pm at WH ⊢;refine Z8 ?_;refine oZ ?_;refine KO.cl (cp:=[]) rfl rfl rfl call14 rfl (KC.lW (φ:=fun v=>v=.tuple #[.int .i64 (sl y.1 (u:Nat) q pm xS),cI 70 (gY y.1 (u:Nat) q pm xS)]) hp hy bn (fun L=>KC.Yr (fun L=>MY w0 L p.1 p.2 75420 y.1 (u:Nat) q pm xS hyO ae ae ai (fun z hz=>by have :=XJ z hz;omega)))) ?_;rintro v' L' ⟨rfl,rfl⟩;refine pQ ?_;refine K.conv (L':=oz bw ⟨hv,dv,wv,ps⟩ (S.W.cy k (gv y.1 (u:Nat) q pm xS,y.2)) (DE bt bw ⟨us,vs,os,mT,mO⟩ S (bI b3 (.cells (nB ⟨xw,xk,xn,xm,xu⟩).toArray 38 (0,0))::L))) (fun w h=>h.all Y7) ?_
  have pa:ps.length=(S.W.cy k (gv y.1 (u:Nat) q pm xS,y.2)).hs.length:=by rw[gF];exact QY
  unfold DF;dsimp only;rw[eH,eD];generalize Bd:gv y.1 (u:Nat) q pm xS=H1 at pa ⊢;refine Z8 ?_;refine HJ ?_;refine K.br rfl (fun he=>?_) (fun he=>?_)
  ·rw[if_pos he,SZ];generalize sl y.1 (u:Nat) q pm xS=id;refine rR ?_;refine lK ?_;refine Zw ?_;refine KO.alloc rfl zeroValue44 aP rfl ?_;intro NZ;refine zn ?_;refine Z8 ?_;refine zo ?_;refine KO.nil ?_;refine KQ.next ?_
   refine K.cut (fun _:Unit=>[(0,bp bt),(5,.int .i64 (k:Nat)),(6,.int .i64 (u:Nat)),(15,.pointer (some ⟨NZ,0,none⟩))]) (fun _=>bI NZ (.cells (dh (nO S.n k id pm q)).toArray 44 (0,0))::oz bw ⟨hv,dv,wv,ps⟩ (S.W.cy k (H1,y.2)) (DE bt bw ⟨us,vs,os,mT,mO⟩ S (bI b3 (.cells (nB ⟨xw,xk,xn,xm,xu⟩).toArray 38 (0,0))::L))) (fun _=>True) ?_ ?_
   ·refine K.br rfl (fun hf=>?_) (fun hf=>?_)
    ·have hm:nO S.n k id pm q=⟨id,pm,xS,gU,((k:Int)+1)%S.n⟩:=by unfold nO;rw[if_pos (show q=kS from hf)]
     rw[hm];refine K.I1 [.pure,.pure,.pure,.pure,.pure,.read,.pure,.pure,.write,.pure,.write] [(5,8)] [[0,1,2,3,4,5,6,7,8,9,10],[0,1,2,3,4,7,8,5,6,9,10]] bC bC bC ⟨?_,?_,trivial⟩
     focus
      show KO _ _ _ _ _ _ _ _ _ _
      refine Z1 ?_;refine xc ?_;refine Hw ?_;refine VD ?_;refine N5 ?_
      (refine KO.Jo rfl rfl rfl aP Xk aP bQ aP Y0 ?_)
      refine N4 ?_
      (refine KO.Jo rfl rfl rfl aP zM aP bQ aP Y0 ?_)
      refine KO.nil ?_
     rotate_left
     focus
      show KO _ _ _ _ _ _ _ _ _ _
      refine Z1 ?_;refine xc ?_;refine Hw ?_;refine N5 ?_
      (refine KO.Jo rfl rfl rfl aP Xk aP bQ aP Y0 ?_)
      refine VD ?_;refine N4 ?_
      (refine KO.Jo rfl rfl rfl aP zM aP bQ aP Y0 ?_)
      refine KO.nil ?_
     rotate_left
     all_goals (refine KQ.qL () trivial ⟨rfl,rfl,rfl,rfl,trivial⟩ (fun w' aT=>aT.all nI))
    ·have hm:nO S.n k id pm q=⟨id,pm,xS,q,k⟩:=by unfold nO;rw[if_neg (show ¬q=kS from hf)]
     rw[hm];refine CW ?_;refine KQ.qL () trivial ⟨rfl,rfl,rfl,rfl,trivial⟩ (fun w' aT=>aT.all nI)
   rintro _ _;generalize nO S.n k id pm q=mm;refine VP ?_;refine K.fact (fun _ hs=>aU hs) ?_;rintro⟨a1,c1,rfl,qP⟩;have hcu:=LP (bw:=bw) (n:=S.n) (V:=⟨us,vs,os,mT,mO⟩) huv;refine K.draw [.pure,.pure,.pure,.pure,.pure,.pure,.pure,.pure,.pure,.pure,.read,.read,.c7,.write,.pure,.pure,.pure,.pure,.write] [0,1,2,3,4,5,6,7,8,9,10,11,14,15,16,12,13,17,18] bC bC ?_;refine lK ?_;refine oZ ?_;refine lq ?_;refine W_ ?_;refine Oq ?_;refine KO.db (i:=3+ix k u) rfl rfl isAgg49 bn O9 hcu rfl ?_;refine Al ?_;refine kr ?_;refine W_ ?_;refine KO.kL (z:=(Value.agg #[.int .i64 0,.int .i64 0,.string ⟨#[]⟩,.string ⟨#[]⟩,.int .i64 0])) (sz:=5) (dI:=56) rfl rfl underlying49 bC aP aP ai ai rfl ?_;intro N0;refine KO.app (cf:=dh) (z:=Value.agg #[.int .i64 0,.int .i64 0,.string ⟨#[]⟩,.string ⟨#[]⟩,.int .i64 0]) (sz:=5) (dI:=56) (xs:=Pl) rfl rfl rfl (.tail .head) .head underlying49 bC aP mm rfl rfl rfl ae ai rfl ?_;intro Ts;refine KO.fact (fun _ hs=>aU hs) ?_;rintro⟨ah0,afE,SH,-⟩;refine Oq ?_;refine KO.fX (b:=bt) (i:=3+ix k u) rfl rfl rfl (by rw[SH];rfl) Y43 (by rw[SH];rfl) bn O9 (by rw[hlen];omega) ?_;rw[tF gV];refine Ad ?_;refine KQ.jr rfl (fun w' aT=>⟨_,_,rfl,⟨rfl,rfl⟩,?_⟩)
   have oR:=ic (f:=Au) (ps:=us) (xs:=S.P) (i:=ix k u) (p:=Ts) (x:=Pl++[mm]) ae ae (aT.fA (A:=Au Ts (Pl++[mm])) (B:=bZ Au (us.eraseIdx (ix k u)) (S.P.eraseIdx (ix k u))) bn bn);exact l5 (V:=⟨hv,dv,wv,ps⟩) (TV:=⟨us.set (ix k u) Ts,vs,os,mT,mO⟩) pa e8 e9 ⟨by simpa using h1,h2,h3⟩ (oR.all Y5)
  ·rw[if_neg he];refine Ou ?_;refine KQ.jr rfl (fun w' aT=>⟨_,_,rfl,⟨rfl,rfl⟩,?_⟩);exact l5 (V:=⟨hv,dv,wv,ps⟩) (TV:=⟨us,vs,os,mT,mO⟩) pa e8 e9 ⟨h1,h2,h3⟩ (aT.all Y5)
 refine Ag ?_;refine K.br rfl (fun tg=>?_) (fun tg=>?_)
 ·rw[if_neg oF,if_pos tg];obtain⟨j,hj,FO⟩:∃j:Nat,pk xn 2=(j:Nat)/\j<2:=⟨(pk xn 2).toNat,by have :=jj xn (n:=2) ai;omega,by have :=jj xn (n:=2) ai;omega⟩;have hq:w0.cell? ((⟨0,0,none⟩:Addr).add (j *1))=some (.string (uU j)):=by rw[Addr.add_lit,Nat.zero_add,Nat.mul_one];exact hQ j ae
  rw[show(pk xn 2).toNat=j by omega];refine Z3 ?_;refine RZ ?_;refine KO.ce (cp:=[]) rfl rfl rfl call13 rfl (mD w0 _ xn 2 ai ai) ?_;rintro v' L' ⟨rfl,rfl⟩;rw[hj];refine ZD ?_;refine kE ?_;have Ql:=x5 j;clear hq;generalize uU j=q0 at Ql ⊢;refine dM ?_;refine VT ?_;refine KO.ce (cp:=[]) rfl rfl rfl call13 rfl (mD w0 _ xm 5 ai ai) ?_;rintro v' L' ⟨rfl,rfl⟩;refine Jb ?_;refine KO.nil ?_;refine KQ.next ?_
  refine K.cut (fun _:Unit=>[(0,bp bt),(5,.int .i64 (k:Nat)),(6,.int .i64 (u:Nat)),(7,bp p.1),(16,.string (if pk xm 5=0 then cz else q0))]) (fun _=>oz bw ⟨hv,dv,wv,ps⟩ S.W (DE bt bw ⟨us,vs,os,mT,mO⟩ S (bI b3 (.cells (nB ⟨xw,xk,xn,xm,xu⟩).toArray 38 (0,0))::L))) (fun _=>True) ?_ ?_
  ·refine K.br rfl (fun hf=>?_) (fun hf=>?_)
   ·rw[if_pos hf];refine dM ?_;refine uR ?_;refine KQ.qL () trivial ⟨rfl,rfl,rfl,rfl,rfl,trivial⟩ (fun w' aT=>aT.all nI)
   ·rw[if_neg hf];refine CW ?_;refine KQ.qL () trivial ⟨rfl,rfl,rfl,rfl,rfl,trivial⟩ (fun w' aT=>aT.all nI)
  rintro _ _;have hqw:c6 (if pk xm 5=0 then cz else q0)=true:=by
   split
   ·exact rD
   ·exact Ql
  generalize (if pk xm 5=0 then cz else q0)=q at hqw ⊢;unfold xD;dsimp only;rw[eH,eD];have kC:iU y.1 (u:Nat) q=0->getM y.1 (u:Nat) q∈S.T.map (·.2):=fun he=>by
   obtain⟨C0,gg⟩:=hS.gi;have :=(gg.get hS.B pb Qp (s:=q) (by rw[eH];exact he)).2;rw[eH]at this;exact this
  refine Z3 ?_;refine oZ ?_;refine KO.cl (cp:=[]) rfl rfl rfl call15 rfl (KC.lW (φ:=fun v=>v=.tuple #[.agg (dh (getM y.1 (u:Nat) q)).toArray,cI 70 (iU y.1 (u:Nat) q)]) hp hy bn (fun L=>KC.Yr (fun L=>UF w0 L p.1 p.2 75420 y.1 (u:Nat) q hyO ae (fun z hz=>by have :=XJ z hz;omega)))) ?_;rintro v' L' ⟨rfl,rfl⟩;refine Fh ?_;refine KO.alloc rfl zeroValue44 aP rfl ?_;intro Vt;refine Jc ?_;refine kE ?_;refine K.conv (L':=bI Vt (.cells (dh (getM y.1 (u:Nat) q)).toArray 44 (0,0))::oz bw ⟨hv,dv,wv,ps⟩ (S.W.cy k (g_ y.1 (u:Nat) q,y.2)) (DE bt bw ⟨us,vs,os,mT,mO⟩ S (bI b3 (.cells (nB ⟨xw,xk,xn,xm,xu⟩).toArray 38 (0,0))::L))) (fun w h=>h.all Y7) ?_
  have pa:ps.length=(S.W.cy k (g_ y.1 (u:Nat) q,y.2)).hs.length:=by rw[gF];exact QY
  generalize Bd:g_ y.1 (u:Nat) q=H1 at pa ⊢;refine Z8 ?_;refine HJ ?_;refine K.br rfl (fun he=>?_) (fun he=>?_)
  ·rw[if_pos he,S0];have hfm:=hS.find (kC he);clear kC;generalize getM y.1 (u:Nat) q=m at hfm ⊢;have Co:(en (BT S.T) m.id).getD (.agg (dh lr).toArray)=.agg (dh m).toArray:=by rw[BS,hfm];rfl
   have acb:(S.ok&&decide ((en S.T m.id).getD lr=m))=S.ok:=by rw[hfm];simp
   rw[acb];refine oW ?_;refine K.draw [.pure,.pure,.pure,.read,.pure,.read,.read,.read,.pure] [0,1,2,3,4,5,6,7,8] bC bC ?_;refine lq ?_;refine W7 ?_;refine O7 ?_;refine KO.ld (v:=.int .i64 m.id) rfl rfl isAgg3 bQ aP rfl ?_;refine KO.Ek jN m.id rfl rfl rfl underlying56 underlying3 zeroValue44 bn rfl ?_;rw[show(Value.agg #[.int .i64 0,.int .i64 0,.string ⟨#[]⟩,.string ⟨#[]⟩,.int .i64 0])=.agg (dh lr).toArray from rfl,Co];refine CZ ?_;refine KO.neA (b:=decide (m=m)) rfl rfl bC (Mw m m) rfl ?_;refine HQ ?_;refine VR ?_;refine K.fact (fun _ hs=>aU hs) ?_;rintro⟨a1,c1,rfl,qP⟩;have hcv:=LO (bw:=bw) (n:=S.n) (V:=⟨us,vs,os,mT,mO⟩) h1 hvv;refine FD ?_;refine K.draw [.pure,.pure,.pure,.pure,.pure,.pure,.pure,.pure,.pure,.pure,.read,.pure,.read,.c7,.write,.pure,.pure,.pure,.pure,.write] [0,1,2,3,4,5,6,7,8,9,10,11,12,15,16,17,13,14,18,19] bC bC ?_;refine lK ?_;refine oZ ?_;refine lq ?_;refine Zu ?_;refine Oo ?_;refine KO.db (i:=23+ix k u) rfl rfl isAgg23 bn O9 hcv rfl ?_;refine O7 ?_;refine KO.ld (v:=.int .i64 m.id) rfl rfl isAgg3 bn aP rfl ?_;refine kr ?_;refine Zu ?_;refine KO.kL (z:=(Value.int .i64 0)) (sz:=1) (dI:=8) rfl rfl underlying23 bC aP aP ai ai rfl ?_;intro ahR
   refine KO.app (cf:=iC) (z:=Value.int .i64 0) (sz:=1) (dI:=8) (xs:=Gl) rfl rfl rfl (.tail .head) .head underlying23 bC aP m.id rfl rfl rfl ae ai rfl ?_;intro v157;refine KO.fact (fun _ hs=>aU hs) ?_;rintro⟨a157,afC,SG,-⟩;refine Oo ?_;refine KO.fX (b:=bt) (i:=23+ix k u) rfl rfl rfl (by rw[SG];rfl) Z_ (by rw[SG];rfl) bn O9 (by rw[hlen];omega) ?_;rw[tE h1 gV];refine Ad ?_;refine KQ.jr rfl (fun w' aT=>⟨_,_,rfl,⟨rfl,rfl⟩,?_⟩);have oR:=ic (f:=iw) (ps:=vs) (xs:=S.G) (i:=ix k u) (p:=v157) (x:=Gl++[m.id]) ae ae (aT.fA (A:=iw v157 (Gl++[m.id])) (B:=bZ iw (vs.eraseIdx (ix k u)) (S.G.eraseIdx (ix k u))) bn bn);exact l5 (V:=⟨hv,dv,wv,ps⟩) (TV:=⟨us,vs.set (ix k u) v157,os,mT,mO⟩) pa e8 e9 ⟨h1,by simpa using h2,h3⟩ (oR.all Y5)
  ·rw[if_neg he];refine Ou ?_;refine KQ.jr rfl (fun w' aT=>⟨_,_,rfl,⟨rfl,rfl⟩,?_⟩);exact l5 (V:=⟨hv,dv,wv,ps⟩) (TV:=⟨us,vs,os,mT,mO⟩) pa e8 e9 ⟨h1,h2,h3⟩ (aT.all Y5)
 refine Ag ?_;refine K.br rfl (fun tY=>?_) (fun tY=>?_)
 ·rw[if_neg oF,if_neg tg,if_pos tY];unfold DG;dsimp only;obtain⟨C0,gg⟩:=hS.gi;obtain⟨acp,UB⟩:=hS.keys;have huy:(S.W.H k).aA[u]? =some (y.1.fa u):=by rw[eH];exact lN
  have QN:=gg.IU pb huy;have J9:=(gg.hi k y hy).unit u _ lN;have OY:=gg.fresh k y hy u _ lN;have hrt:=(Uf.aA _ (ax lN)).1;rw[eH]at hPe hGe;have sK:(S.T.map (·.1)++Pl.map (·.id)).Nodup:=by
   rw[hPe,List.nodup_append,List.map_map];refine⟨acp,J9.pn,fun a ha b hb=>?_⟩;obtain⟨q,hq,rfl⟩:=ay.1 hb;rw[UB]at ha;exact fun e=>OY q hq (by rw[show q.1.id=a from e.symm];exact ha)
  have OX:Gl.Nodup:=by rw[hGe];exact J9.gn
  have acE:∀i∈Gl,i∈S.T.map (·.1):=fun i hi=>by rw[UB];exact QN i (by rw[<-hGe];exact hi)
  have Ur:∀m∈Pl,0<=m.pri/\m.pri<=9:=fun m hm=>by
   rw[hPe]at hm;obtain⟨q,hq,rfl⟩:=ay.1 hm;obtain⟨-,-,a,b,-⟩:=bN (hrt.aO q hq);exact⟨a,b⟩
  have hle:=Uf.left;rw[eH,eD];refine rR ?_;refine KO.cl (cp:=[]) rfl rfl rfl call16 rfl (KC.lW (φ:=fun v=>v=cI 70 (vA y.1 y.2 (u:Nat))) (y:=(oU y.1 y.2 (u:Nat),qn y.1 y.2 (u:Nat))) hp hy bn (fun L=>KC.hd (y:=(oU y.1 y.2 (u:Nat),qn y.1 y.2 (u:Nat))) (Bb w0 L p.1 p.2 75420 y.1 y.2 (u:Nat) hT hM hyO ae (fun z hz=>(Uf.aA z hz).1) Uf.len ⟨by omega,by omega⟩))) ?_;rintro v' L' ⟨rfl,rfl⟩;refine HJ ?_;refine K.conv (L':=oz bw ⟨hv,dv,wv,ps⟩ (S.W.cy k (oU y.1 y.2 (u:Nat),qn y.1 y.2 (u:Nat))) (DE bt bw ⟨us,vs,os,mT,mO⟩ S (bI b3 (.cells (nB ⟨xw,xk,xn,xm,xu⟩).toArray 38 (0,0))::L))) (fun w h=>h.all Y7) ?_
  have pa:ps.length=(S.W.cy k (oU y.1 y.2 (u:Nat),qn y.1 y.2 (u:Nat))).hs.length:=by rw[gF];exact QY
  generalize Bd:(oU y.1 y.2 (u:Nat),qn y.1 y.2 (u:Nat))=H1 at pa ⊢;refine K.br rfl (fun he=>?_) (fun he=>?_)
  ·rw[if_pos he];refine K.conv (fun w hw=>dm (hd:=hd) ⟨hv,dv,wv,ps⟩ pa hw e8 e9) ?_
   refine K.conv (fun w hw=>fG (bt:=bt) (bw:=bw) (S:={S with W:=S.W.cy k H1}) (L:=kZ bw hd (S.W.cy k H1)::bI b3 (.cells (nB ⟨xw,xk,xn,xm,xu⟩).toArray 38 (0,0))::L) ⟨us,vs,os,mT,mO⟩ ⟨h1,h2,h3⟩ (hw.all Y7)) ?_
   refine Z8 ?_;refine lK ?_;refine KO.cl (cp:=[]) rfl rfl rfl call68 rfl (Po w0 _ bt bw k u (1000*c) {S with W:=S.W.cy k H1} ae Qp UZ U1 hO ae Pl Gl YI YN ae ae Ur sK OX acE) ?_;rintro v' L' ⟨rfl,rfl⟩;refine Ad ?_;refine KQ.jr rfl (fun w' aT=>⟨_,_,rfl,⟨rfl,rfl⟩,?_⟩);exact aT.all Y5
  ·rw[if_neg he];refine Ou ?_;refine KQ.jr rfl (fun w' aT=>⟨_,_,rfl,⟨rfl,rfl⟩,?_⟩);exact l5 (V:=⟨hv,dv,wv,ps⟩) (TV:=⟨us,vs,os,mT,mO⟩) pa e8 e9 ⟨h1,h2,h3⟩ (aT.all Y5)
 refine Ag ?_;refine K.br rfl (fun Gy=>?_) (fun Gy=>?_)
 ·rw[if_neg oF,if_neg tg,if_neg tY,if_pos Gy];unfold LQ;dsimp only;rw[eH,eD];refine rR ?_;refine KO.cl (cp:=[]) rfl rfl rfl call17 rfl (KC.lW (φ:=fun v=>v=cI 70 (BF y.1 (u:Nat))) hp hy bn (fun L=>KC.Yr (fun L=>QV w0 L p.1 p.2 75420 y.1 (u:Nat) hyO ae (fun z hz=>by have :=XJ z hz;omega)))) ?_;rintro v' L' ⟨rfl,rfl⟩;refine HJ ?_;refine K.conv (L':=oz bw ⟨hv,dv,wv,ps⟩ (S.W.cy k (rH y.1 (u:Nat),y.2)) (DE bt bw ⟨us,vs,os,mT,mO⟩ S (bI b3 (.cells (nB ⟨xw,xk,xn,xm,xu⟩).toArray 38 (0,0))::L))) (fun w h=>h.all Y7) ?_
  have pa:ps.length=(S.W.cy k (rH y.1 (u:Nat),y.2)).hs.length:=by rw[gF];exact QY
  generalize Bd:rH y.1 (u:Nat)=H1 at pa ⊢;refine K.br rfl (fun he=>?_) (fun he=>?_)
  ·rw[if_pos he];have pD:=pX (bw:=bw) (n:=S.n) (V:=⟨us.set (ix k u) dn,vs,os,mT,mO⟩) K6 h2;refine VP ?_;refine VR ?_;refine ZN ?_;refine oZ ?_;refine lq ?_;refine W_ ?_;refine Oq ?_;refine kr ?_;refine Zu ?_;refine KO.fX (v:=dn) (b:=bt) (i:=3+ix k u) rfl rfl aP rfl Y43 rfl bn O9 (by rw[hlen];omega) ?_;rw[tF gV];refine Oo ?_;refine KO.fX (v:=dn) (b:=bt) (i:=23+ix k u) rfl rfl aP rfl Z_ rfl bQ O9 (by rw[pD];omega) ?_;rw[tE K6 gV];refine Ad ?_;refine KQ.jr rfl (fun w' aT=>⟨_,_,rfl,⟨rfl,rfl⟩,?_⟩);have oR:=ic (f:=Au) (ps:=us) (xs:=S.P) (i:=ix k u) (p:=dn) (x:=[]) ae ae (cD (aT.pick (A:=bZ Au (us.eraseIdx (ix k u)) (S.P.eraseIdx (ix k u))) bn));have Kb:=ic (f:=iw) (ps:=vs) (xs:=S.G) (i:=ix k u) (p:=dn) (x:=[]) ae ae (cD (oR.pick (A:=bZ iw (vs.eraseIdx (ix k u)) (S.G.eraseIdx (ix k u))) bn));exact l5 (V:=⟨hv,dv,wv,ps⟩) (TV:=⟨us.set (ix k u) dn,vs.set (ix k u) dn,os,mT,mO⟩) pa e8 e9 ⟨by simpa using h1,by simpa using h2,h3⟩ (Kb.all Y5)
  ·rw[if_neg he];refine Ou ?_;refine KQ.jr rfl (fun w' aT=>⟨_,_,rfl,⟨rfl,rfl⟩,?_⟩);exact l5 (V:=⟨hv,dv,wv,ps⟩) (TV:=⟨us,vs,os,mT,mO⟩) pa e8 e9 ⟨h1,h2,h3⟩ (aT.all Y5)
 refine Ag ?_;refine K.br rfl (fun Qm=>?_) (fun Qm=>?_)
 ·rw[if_neg oF,if_neg tg,if_neg tY,if_neg Gy,if_pos Qm];refine HY ?_;refine Z8 ?_;refine lK ?_;refine xc ?_;refine Hw ?_;refine VD ?_;refine KO.cl (cp:=[]) rfl rfl rfl call69 rfl (KC.oN bQ (Sf w0 _ bw c kb hd S.W (k:Nat) (((k:Nat)+1)%(S.n:Int)) hT hM hS.B ae ae)) ?_;rintro v' L' ⟨rfl,rfl⟩;refine Ad ?_;refine KQ.jr rfl (fun w' aT=>⟨_,_,rfl,⟨rfl,rfl⟩,?_⟩);exact fG ⟨us,vs,os,mT,mO⟩ ⟨h1,h2,h3⟩ (aT.all Y5)
 refine Ag ?_;refine K.br rfl (fun SF=>?_) (fun SF=>?_)
 ·rw[if_neg oF,if_neg tg,if_neg tY,if_neg Gy,if_neg Qm,if_pos SF];refine HY ?_;refine iX ?_;refine KO.cl (cp:=[]) rfl rfl rfl call70 rfl (KC.oN bQ (Si w0 _ bw c kb hd S.W i hT hM hS.B ae ae)) ?_;rintro v' L' ⟨rfl,rfl⟩;refine Ad ?_;refine KQ.jr rfl (fun w' aT=>⟨_,_,rfl,⟨rfl,rfl⟩,?_⟩);exact fG ⟨us,vs,os,mT,mO⟩ ⟨h1,h2,h3⟩ (aT.all Y5)
 refine Ag ?_;refine K.br rfl (fun Ui=>?_) (fun Ui=>?_)
 ·rw[if_neg oF,if_neg tg,if_neg tY,if_neg Gy,if_neg Qm,if_neg SF,if_pos Ui];refine HY ?_;refine iX ?_;refine KO.cl (cp:=[]) rfl rfl rfl call71 rfl (KC.oN bQ (Xn w0 _ bw c kb hd S.W i hS.B)) ?_;rintro v' L' ⟨rfl,rfl⟩;refine Ad ?_;refine KQ.jr rfl (fun w' aT=>⟨_,_,rfl,⟨rfl,rfl⟩,?_⟩);exact fG ⟨us,vs,os,mT,mO⟩ ⟨h1,h2,h3⟩ (aT.all Y5)
 refine Ag ?_;refine K.br rfl (fun Wz=>?_) (fun Wz=>?_)
 ·rw[if_neg oF,if_neg tg,if_neg tY,if_neg Gy,if_neg Qm,if_neg SF,if_neg Ui,if_pos Wz];refine HY ?_;refine iX ?_;refine KO.cl (cp:=[]) rfl rfl rfl call72 rfl (KC.oN bQ (Xm w0 _ bw c kb hd S.W i hS.B ae)) ?_;rintro v' L' ⟨rfl,rfl⟩;refine Ad ?_;refine KQ.jr rfl (fun w' aT=>⟨_,_,rfl,⟨rfl,rfl⟩,?_⟩);exact fG ⟨us,vs,os,mT,mO⟩ ⟨h1,h2,h3⟩ (aT.all Y5)
 refine Ag ?_;refine K.br rfl (fun XO=>?_) (fun XO=>?_)
 ·rw[if_neg oF,if_neg tg,if_neg tY,if_neg Gy,if_neg Qm,if_neg SF,if_neg Ui,if_neg Wz,if_pos XO];refine HY ?_;have aev:=jj xm (n:=150) ai;refine K.draw [.pure,.pure,.pure,.read,.c7,.pure,.read,.c7,.pure,.write] [0,1,2,3,5,6,4,7,8,9] bC bC ?_;refine lK ?_;refine RZ ?_;refine VT ?_;refine KO.ce (cp:=[]) rfl rfl rfl call13 rfl (mD w0 _ xn 4 ai ai) ?_;rintro v' L' ⟨rfl,rfl⟩;refine KO.ce (cp:=[]) rfl rfl rfl call13 rfl (mD w0 _ xm 150 ai ai) ?_;rintro v' L' ⟨rfl,rfl⟩;refine Fv ?_;refine KO.cl (cp:=[]) rfl rfl rfl call73 rfl (KC.oN bQ (Tq w0 _ bw c kb hd S.W (k:Nat) (pk xn 4) (pk xm 150-1) hS.B)) ?_;rintro v' L' ⟨rfl,rfl⟩;refine Ad ?_;refine KQ.jr rfl (fun w' aT=>⟨_,_,rfl,⟨rfl,rfl⟩,?_⟩);exact fG ⟨us,vs,os,mT,mO⟩ ⟨h1,h2,h3⟩ (aT.all Y5)
 refine Ag ?_;refine K.br rfl (fun hw9=>?_) (fun hw9=>?_)
 ·rw[if_neg oF,if_neg tg,if_neg tY,if_neg Gy,if_neg Qm,if_neg SF,if_neg Ui,if_neg Wz,if_neg XO,if_pos hw9];have QK:S.W.is (k:Nat)=true:=by unfold Wo.is;rw[decide_eq_true_eq];omega
  refine HY ?_;refine K.conv (fun w hw=>fG (bt:=bt) (bw:=bw) (S:=S) (L:=kZ bw hd S.W::bI b3 (.cells (nB ⟨xw,xk,xn,xm,xu⟩).toArray 38 (0,0))::L) ⟨us,vs,os,mT,mO⟩ ⟨h1,h2,h3⟩ (hw.all Y7)) ?_
  refine rR ?_;refine KO.cl (cp:=[]) rfl rfl rfl call74 rfl (KC.oN bn (Sg w0 _ bw c kb hd hN S.W (k:Nat) hT hM hS.B ae)) ?_;rintro v' L' ⟨rfl,rfl⟩;rw[show Aq S.W (k:Nat)=0 by unfold Aq;rw[if_pos QK]];refine KO.W3 rfl bC rfl ?_;refine Ac ?_;refine iX ?_;refine KO.cl (cp:=[]) rfl rfl rfl call75 rfl (KC.oN bn (Av w0 _ bt bw k S ae UZ U1)) ?_;rintro v' L' ⟨rfl,rfl⟩;refine Ad ?_;have ht:lP bt bw {gD S k with W:=OQ S.W (k:Nat)}=lP bt bw (gD S k):=rfl;rw[ht];refine KQ.jr rfl (fun w' aT=>⟨_,_,rfl,⟨rfl,rfl⟩,?_⟩);exact aT.all Y5
 refine Ag ?_;refine K.br rfl (fun Uj=>?_) (fun Uj=>?_)
 ·rw[if_neg oF,if_neg tg,if_neg tY,if_neg Gy,if_neg Qm,if_neg SF,if_neg Ui,if_neg Wz,if_neg XO,if_neg hw9,if_pos Uj];have ago:∀j∈List.range S.n,j<4:=fun j hj=>by have :=aZ.1 hj;omega
  refine K.conv (L':=oz bw ⟨hv,dv,wv,ps⟩ S.W (lP bt bw S::bI b3 (.cells (nB ⟨xw,xk,xn,xm,xu⟩).toArray 38 (0,0))::L)) (fun w hw=>(fG (bt:=bt) (bw:=bw) (S:=S) (L:=oz bw ⟨hv,dv,wv,ps⟩ S.W (bI b3 (.cells (nB ⟨xw,xk,xn,xm,xu⟩).toArray 38 (0,0))::L)) ⟨us,vs,os,mT,mO⟩ ⟨h1,h2,h3⟩ (hw.all Y7)).all Y7) ?_
  refine rN ?_;refine Lr ?_;refine K.loop (fun j:Nat=>[(0,bp bt),(4,bp bw),(19,.int .i64 (j:Nat))]) (fun j=>oz bw ⟨hv,dv,wv,ps⟩ S.W (lP bt bw ((List.range j).foldl fH S)::bI b3 (.cells (nB ⟨xw,xk,xn,xm,xu⟩).toArray 38 (0,0))::L)) (fun j=>j<=S.n) (fun j=>S.n-j) 0 (aV _) ⟨rfl,rfl,rfl,trivial⟩ (fun _ h=>h) ?_;intro j hj;obtain⟨Pj,Gj,ej,pj,gj,-⟩:=sc (List.range j) S UZ U1 (fun i hi=>by have :=aZ.1 hi;omega);have Lg:((List.range j).foldl fH S).n=S.n:=by rw[ej]
  have hjW:((List.range j).foldl fH S).W=S.W:=by rw[ej]
  have hjP:((List.range j).foldl fH S).P.length=20:=by rw[ej];exact pj
  have hjG:((List.range j).foldl fH S).G.length=20:=by rw[ej];exact gj
  have EJ:(List.range (j+1)).foldl fH S=fH ((List.range j).foldl fH S) j:=by rw[List.range_succ,List.foldl_append];rfl
  clear ej pj gj;by_cases SM:j<S.n
  ·obtain⟨z,hz,ezH,ezD,-⟩:=hS.at SM;obtain⟨q,hq⟩:∃e,ps[j]? =some e:=⟨_,ao (show j<ps.length by omega)⟩;generalize (List.range j).foldl fH S=Sj at Lg hjW hjP hjG EJ ⊢;refine K.conv (fun w hw=>hw.pick (A:=lP bt bw Sj) bn) ?_
   refine K.cq (fun _ h=>jF h) ?_;rintro⟨⟨us',vs',os',mT',mO'⟩,O0⟩;dsimp only;refine jB ?_;refine Hw ?_;refine s7 ?_;refine rQ ?_;refine K.br rfl (fun h5=>?_) (fun h5=>?_)
   ·refine ZX ?_;refine K5 ?_;refine iX ?_;refine KO.ce (cp:=[]) rfl rfl rfl call26 rfl (mP w0 _ bw ⟨hv,dv,wv,ps⟩ S.W j q QY hq) ?_;rintro v' L' ⟨rfl,rfl⟩;refine jR ?_;refine I_ ?_;refine zl ?_;refine KO.on rfl rfl rfl ?_;refine KO.ce (cp:=[]) rfl rfl rfl call76 rfl (KE.E3 (φ:=fun u=>u=.bool z.1.down) hq hz bn (fun L=>KE.perm (fun w hw=>hw.split) (KE.oK (IP w0 _ _ q.1 q.2 z.1 .head) Y13))) ?_;rintro v' L' ⟨rfl,rfl⟩;refine CM ?_;refine K.cond rfl (fun h6=>?_) (fun h6=>?_)
    ·have dw:fH Sj j=gD Sj j:=by unfold fH;rw[hjW,ezH,if_pos h6]
     refine iX ?_;refine KO.cl (cp:=[]) rfl rfl rfl call75 rfl (KC.oN bn (Av w0 _ bt bw j Sj ae hjP hjG)) ?_;rintro v' L' ⟨rfl,rfl⟩;refine Ti ?_;refine CV ?_;refine KQ.round (j+1) ae ae ⟨rfl,rfl,rfl,trivial⟩ (fun w' aT=>?_);rw[EJ,dw];exact aT.all Y7
    ·have dw:fH Sj j=Sj:=by unfold fH;rw[hjW,ezH,if_neg (by simp[h6])]
     refine RR ?_;refine CV ?_;refine KQ.round (j+1) ae ae ⟨rfl,rfl,rfl,trivial⟩ (fun w' aT=>?_);rw[EJ,dw];exact aT.all Y7
   ·exfalso;rw[Lg]at h5;omega
  ·obtain rfl:j=S.n:=by omega
   have Nh:lP bt bw (tD S)=lP bt bw ((List.range S.n).foldl fH S):=rfl;rw[Nh,show(tD S).W=calm 1 S.W from rfl];generalize (List.range S.n).foldl fH S=Sj at Lg ⊢;refine K.conv (fun w hw=>hw.pick (A:=lP bt bw Sj) bn) ?_
   refine K.cq (fun _ h=>jF h) ?_;rintro⟨⟨us',vs',os',mT',mO'⟩,O0⟩;dsimp only;refine jB ?_;refine Hw ?_;refine s7 ?_;refine rQ ?_;refine K.br rfl (fun h5=>?_) (fun h5=>?_)
   ·exfalso;rw[Lg]at h5;omega
   refine ZX ?_;refine HY ?_;refine R8 ?_;refine Z8 ?_;refine KO.cl (cp:=[]) rfl rfl rfl call25 rfl (KC.oN bQ (Ic w0 _ bw c kb 1 hd S.W (.inl hN) hT hM hS.B ae ai ae)) ?_;rintro v' L' ⟨rfl,rfl⟩;refine Ad ?_;refine KQ.jr rfl (fun w' aT=>⟨_,_,rfl,⟨rfl,rfl⟩,?_⟩);exact aT.all Y5
 ·rw[if_neg oF,if_neg tg,if_neg tY,if_neg Gy,if_neg Qm,if_neg SF,if_neg Ui,if_neg Wz,if_neg XO,if_neg hw9,if_neg Uj];refine Ou ?_;refine KQ.jr rfl (fun w' aT=>⟨_,_,rfl,⟨rfl,rfl⟩,?_⟩);exact l5 (V:=⟨hv,dv,wv,ps⟩) (TV:=⟨us,vs,os,mT,mO⟩) QY e8 e9 ⟨h1,h2,h3⟩ (aT.all Y5)
def H8 (w0:World):Prop:= ∀(L:List HP) (v:Value) (xs:List Ms),xs.length<1000000000->(∀m∈xs,0<=m.id/\m.id<=1099511627776)->
 KC prog 125 #[v,.func (.func 126) #[] #[]] w0 (SL 44 5 dh v xs::L) (fun u M=>u=.tuple #[]/\∃ys:List Ms,ys.Perm xs/\(ys.Pairwise fun a b=>a.id<=b.id)/\M=SL 44 5 dh v ys::L)
theorem Tp(w0:World)(L:List HP)(bw c kb:Nat)(hd:zB)(W:Wo)(hB:dC c kb W)(hc:c<=4000)(MW:H8 w0):
 KC prog 48 #[bp bw] w0 (kZ bw hd W::L) (fun u M=> ∃out:List Ms,out.Perm (JV W)/\(out.Pairwise fun a b=>a.id<=b.id)/\M=SL 44 5 dh u out::kZ bw hd W::L):=by
 have vX:=hB.n1;refine KC.mk (n:=97) func48 rfl ntmps48 aj ?_;refine oW ?_;refine K.cq (fun _ h=>dE h) ?_;rintro⟨V,hV,e8,e9⟩;dsimp only;obtain⟨hv,dv,wv,ps⟩:=V;dsimp only at hV e8 e9 ⊢;refine K.fact (fun w hw=>aU (hw.pick (A:=IG hv (ps.map (·.1))) bn)) ?_
 rintro⟨a1,c1,rfl,qP⟩;obtain⟨g1,rfl⟩:=qP lO;have pa:(ps.map (·.1)).length=W.hs.length:=by rw[aW,hV]
 rw[pa]at e8 ⊢;clear qP;refine dM ?_;refine lZ ?_;refine lL ?_;refine RY ?_;refine R4 ?_;refine mK ?_;have WN:∀k,k<W.hs.length->(jm (W.H k)).length<=302*79600:=fun k hk=>by
  obtain⟨x,hx,e1,e2⟩:=iY hk;have h1:=GK (IQ (hB.hs k x hx) hc);have h2:=(hB.hs k x hx).ql;have h3:=(hB.hs k x hx).B.used;rw[e1];exact Nat.le_trans h1 (Nat.mul_le_mul_right _ ae)
 have hlw:∀k,k<W.hs.length->∀j,((List.range j).flatMap (gL W k)).length<=j *80000:=fun k hk j=>by
  induction j with
  |zero=>simp
  |succ j ih=>
   have :=Gp hB hc hk j;rw[List.range_succ,List.flatMap_append,aX,Nat.succ_mul];simp only[aR,List.flatMap_nil,List.append_nil];omega
 have hlK:∀k,k<=W.hs.length->((List.range k).flatMap (tT W)).length<=k *30000000:=fun k=>by
  induction k with
  |zero=>simp
  |succ k ih=>
   intro hk;have h1:=ih ae;have h2:=WN k ae;have h3:=hlw k ae 4;rw[List.range_succ,List.flatMap_append,aX,Nat.succ_mul];simp only[aR,List.flatMap_nil,List.append_nil];have h4:(tT W k).length=(jm (W.H k)).length+((List.range 4).flatMap (gL W k)).length:=by unfold tT;rw[aX]
   omega
 refine K.loop (fun q:Nat×Value×List Ms=>[(0,bp bw),(3,q.2.1),(20,.slice (some ⟨g1,0,none⟩) W.hs.length c1),(21,.int .i64 (W.hs.length:Nat)),(22,.int .i64 (q.1:Nat))]) (fun q=>SL 44 5 dh q.2.1 q.2.2::oz bw ⟨.slice (some ⟨g1,0,none⟩) W.hs.length c1,dv,wv,ps⟩ W L) (fun q=>q.1<=W.hs.length/\q.2.2.Perm ((List.range q.1).flatMap (tT W))) (fun q=>W.hs.length-q.1) (0,.slice none 0 0,[]) ⟨aV _,by simp⟩ ⟨rfl,rfl,rfl,rfl,rfl,trivial⟩ (fun _ h=>cD (E:=44) (sz:=5) (cf:=dh) h) ?_;rintro⟨k,v3,o3⟩ ⟨hk,ho⟩;dsimp only at hk ho ⊢;refine hF ?_;refine K.br rfl (fun h3=>?_) (fun h3=>?_)
 ·have pb:k<W.hs.length:=by omega
  obtain⟨x,hx⟩:∃e,W.hs[k]? =some e:=⟨_,ao pb⟩;obtain⟨p,hp⟩:∃e,ps[k]? =some e:=⟨_,ao ae⟩;obtain⟨eH,eD⟩:=xl hx;have vU:=hB.hs k x hx;have gP:=IQ vU hc;have hu:=vU.B.used;have FM:x.1.aK.length<=1000:=by have :=vU.ql;omega
  have mH:(ps.map (·.1))[k]? =some p.1:=by rw[aG,hp];rfl
  have kj:W.hs.set k x=W.hs:=List.gE hx;have IK:=hlK k hk;have acn:=ho.length_eq;have Kh:=WN k pb;rw[eH]at Kh;refine sZ ?_;refine ZP ?_;refine Z7 ?_;refine lL ?_;refine Z1 ?_;refine KO.cl (cp:=[]) rfl rfl rfl call20 rfl (KC.Rj (γ:=Value×List ak) (φ:=fun c u=>u=c.1/\c.2.Perm (x.1.aK.map (·.1))) (A:=fun c=>SL 44 5 dh c.1 ((fc c.2).flatMap (iK x.1))) (y:=x) hp hx bn (fun L=>(KC.perm (fun w hw=>hw.split) (KC.oK (M_ w0 (fv p.2 x.2::L) p.1 p.2 79600 x.1 gP ae FM) (by rintro v M ⟨ns,h1,rfl⟩;exact⟨_,⟨(v,ns),⟨rfl,h1⟩,rfl⟩,fun w hw=>((hw.fA (A:=dy p.1 p.2 x.1) (B:=fv p.2 x.2) (.tail .head) (.tail .head)).join).f_⟩))))) ?_;rintro v' L' ⟨⟨vk,ns⟩,⟨rfl,Lf⟩,rfl⟩;rw[kj];dsimp only at Lf ⊢;have SK:=JY gP Lf;have ru:=SK.length_eq
  refine KO.RA (cf:=dh) (z:=Value.agg #[.int .i64 0,.int .i64 0,.string ⟨#[]⟩,.string ⟨#[]⟩,.int .i64 0]) (sz:=5) (dI:=56) (xs:=o3) (ys:=(fc ns).flatMap (iK x.1)) rfl rfl rfl bn (fun w hw=>Src.of (E:=44) (sz:=5) (cf:=dh) .head w hw) underlying49 bC rfl (fun _=>rfl) (fun _=>rfl) ae ai rfl ?_;intro v30;refine lL ?_;refine Lr ?_;refine K.loop (fun q:Nat×Value×List Ms=>[(0,bp bw),(3,q.2.1),(4,.int .i64 (k:Nat)),(5,bp p.1),(20,.slice (some ⟨g1,0,none⟩) W.hs.length c1),(21,.int .i64 (W.hs.length:Nat)),(22,.int .i64 (k:Nat)),(31,.int .i64 (q.1:Nat))]) (fun q=>SL 44 5 dh q.2.1 q.2.2::oz bw ⟨.slice (some ⟨g1,0,none⟩) W.hs.length c1,dv,wv,ps⟩ W L) (fun q=>q.1<=4/\q.2.2.Perm ((List.range k).flatMap (tT W)++jm x.1++(List.range q.1).flatMap (gL W k))) (fun q=>4-q.1) (0,v30,o3++(fc ns).flatMap (iK x.1)) ⟨aV _,by simpa using ho.append SK⟩ ⟨rfl,rfl,rfl,rfl,rfl,rfl,rfl,rfl,trivial⟩ (fun _ h=>h.all Y5) ?_;clear v30;rintro⟨j,v6,o6⟩ ⟨hj,WI⟩;dsimp only at hj WI ⊢;have hlj:=hlw k pb j;have hl6:=WI.length_eq;rw[aX,aX]at hl6;have dw:(List.range (j+1)).flatMap (gL W k)=(List.range j).flatMap (gL W k)++gL W k j:=by rw[List.range_succ,List.flatMap_append];simp
  refine hF ?_;refine K.br rfl (fun h7=>?_) (fun h7=>?_)
  ·have EK:j<4:=by omega
   refine sZ ?_;refine lL ?_;refine Z1 ?_;refine KO.cl (cp:=[]) rfl rfl rfl call27 rfl (KC.Rj (γ:=Value) (φ:=fun c u=>u=.tuple #[c,cI 70 (Ap x.1 (j:Int))]) (A:=fun c=>SL 44 5 dh c (fQ x.1 (j:Int))) (y:=x) hp hx bn (fun L=>(KC.perm (fun w hw=>hw.split) (KC.oK (Ev w0 (fv p.2 x.2::L) p.1 p.2 79600 x.1 (j:Int) gP ae) Y2)))) ?_;rintro v' L' ⟨vw,rfl,rfl⟩;rw[kj];refine KO.fact (fun _ hs=>aU hs) ?_;rintro⟨aw,cw,rfl,haw⟩;refine jR ?_;refine R6 ?_;cases hr:cb x.1 (j:Int)with
   |false=>
    have hlz:gL W k j=[]:=by unfold gL;rw[eH,hr];rfl
    refine K.cL rfl (by unfold Ap;rw[hr];rfl) ?_;refine R8 ?_;refine O6 ?_;refine KQ.round (j+1,v6,o6) ⟨by dsimp only;omega,?_⟩ gV ⟨rfl,rfl,rfl,rfl,rfl,rfl,rfl,rfl,trivial⟩ (fun _ h=>h.all Y5);dsimp only;rw[dw,hlz,List.append_nil];exact WI
   |true=>
    refine K.da rfl (by unfold Ap;rw[hr];rfl) ?_;refine Z6 ?_;refine iX ?_;refine KO.cl (cp:=[]) rfl rfl rfl call110 rfl (KC.Rj (γ:=Value) (φ:=fun c u=>u=.tuple #[.int .i64 (Vd x.1 (j:Int)),c,cI 70 (dbE x.1 (j:Int))]) (A:=fun c=>SL 3 1 jO c (y6 x.1 (j:Int))) (y:=x) hp hx bn (fun L=>(KC.perm (fun w hw=>hw.split) (KC.oK (Ng w0 (fv p.2 x.2::L) p.1 p.2 79600 x.1 (j:Int) gP) Y2)))) ?_;rintro v' L' ⟨vd,rfl,rfl⟩;rw[kj];refine KO.fact (fun _ hs=>aU hs) ?_;rintro⟨ad,cd,rfl,had⟩;refine Fh ?_;refine rS ?_;refine lY ?_;refine lZ ?_;refine kE ?_;have r0:y6 x.1 (j:Int)=cn x.1 j:=by unfold y6;rw[if_pos hr,aE]
    have J7:fQ x.1 (j:Int)=cT (x.1.iq j):=by unfold fQ;rw[if_pos hr,aE]
    have hwn:(fQ x.1 (j:Int)).length<=80000:=by rw[J7];exact Nat.le_trans (tJ _) (Nat.le_trans (gP.w (j:=j) EK).len ae)
    have rv:(y6 x.1 (j:Int)).length<1000000:=by
     rw[r0];unfold cn;rw[aq];cases hq:x.1.batch[j]? with
     |none=>decide
     |some l=>exact Nat.lt_of_le_of_lt (gP.ext.Ta l (ax hq)) ai
    refine K.cut (fun _:Unit=>[(0,bp bw),(3,v6),(4,.int .i64 (k:Nat)),(6,.int .i64 (j:Nat)),(5,bp p.1),(7,.slice aw (fQ x.1 (j:Int)).length cw),(9,.int .i64 (Vd x.1 (j:Int))),(10,.slice ad (y6 x.1 (j:Int)).length cd),(20,.slice (some ⟨g1,0,none⟩) W.hs.length c1),(21,.int .i64 (W.hs.length:Nat)),(22,.int .i64 (k:Nat)),(31,.int .i64 (j:Nat)),(12,.bool false),(56,.bool (decide (cn x.1 j≠[]/\W.is (j:Int)=true)))]) (fun _=>SL 3 1 jO (.slice ad (y6 x.1 (j:Int)).length cd) (y6 x.1 (j:Int))::SL 44 5 dh (.slice aw (fQ x.1 (j:Int)).length cw) (fQ x.1 (j:Int))::SL 44 5 dh v6 o6::oz bw ⟨.slice (some ⟨g1,0,none⟩) W.hs.length c1,dv,wv,ps⟩ W L) (fun _=>True) ?_ ?_
    ·by_cases Cq:cn x.1 j=[]
     ·have hz:(y6 x.1 (j:Int)).length=0:=by rw[r0,Cq];rfl
      rw[show decide (cn x.1 j≠[]/\W.is (j:Int)=true)=false by simp[Cq]];refine Z8 ?_;refine rV ?_;refine uP ?_;refine Hz ?_;refine KO.nil ?_;exact KQ.qL () trivial ⟨rfl,rfl,rfl,rfl,rfl,rfl,rfl,rfl,rfl,rfl,rfl,rfl,rfl,rfl,trivial⟩ (fun _ h=>h.all Y3)
     ·have hz:0<(y6 x.1 (j:Int)).length:=by rw[r0];exact List.length_pos_iff.2 Cq
      rw[show decide (cn x.1 j≠[]/\W.is (j:Int)=true)=W.is (j:Int)by simp[Cq]];refine Z8 ?_;refine rV ?_;refine uP ?_;refine s9 ?_;refine Z1 ?_;refine KO.on rfl rfl fx ?_;refine KO.ce (cp:=[]) rfl rfl rfl call78 rfl ((gA w0 _ L bw hd W (j:Int) .head).only (fun w h=>dm (W:=W) ⟨.slice (some ⟨g1,0,none⟩) W.hs.length c1,dv,wv,ps⟩ hV (h.all (M:=oz bw ⟨.slice (some ⟨g1,0,none⟩) W.hs.length c1,dv,wv,ps⟩ W L) Y5))) ?_;rintro v' L' ⟨rfl,rfl⟩;refine qY ?_;refine KO.nil ?_;exact KQ.qL () trivial ⟨rfl,rfl,rfl,rfl,rfl,rfl,rfl,rfl,rfl,rfl,rfl,rfl,rfl,rfl,trivial⟩ (fun _ h=>h.all Y3)
    rintro - -;refine K.cut (fun _:Unit=>[(0,bp bw),(3,v6),(4,.int .i64 (k:Nat)),(6,.int .i64 (j:Nat)),(5,bp p.1),(7,.slice aw (fQ x.1 (j:Int)).length cw),(9,.int .i64 (Vd x.1 (j:Int))),(10,.slice ad (y6 x.1 (j:Int)).length cd),(20,.slice (some ⟨g1,0,none⟩) W.hs.length c1),(21,.int .i64 (W.hs.length:Nat)),(22,.int .i64 (k:Nat)),(31,.int .i64 (j:Nat)),(12,.bool (pJ W k j))]) (fun _=>SL 3 1 jO (.slice ad (y6 x.1 (j:Int)).length cd) (y6 x.1 (j:Int))::SL 44 5 dh (.slice aw (fQ x.1 (j:Int)).length cw) (fQ x.1 (j:Int))::SL 44 5 dh v6 o6::oz bw ⟨.slice (some ⟨g1,0,none⟩) W.hs.length c1,dv,wv,ps⟩ W L) (fun _=>True) ?_ ?_
    ·by_cases hb:cn x.1 j≠[]/\W.is (j:Int)=true
     ·refine K.cL rfl (by exact decide_eq_true hb) ?_;obtain⟨Cq,hbw⟩:=hb;have Lg:j<W.hs.length:=by have :=qZ hbw;omega
      obtain⟨y,hy⟩:∃e,W.hs[j]? =some e:=⟨_,ao Lg⟩;obtain⟨p2,kB⟩:∃e,ps[j]? =some e:=⟨_,ao ae⟩;obtain⟨eY,-⟩:=xl hy;have X7:(ps.map (·.1))[j]? =some p2.1:=by rw[aG,kB];rfl
      have vq:pJ W k j=decide (Vd x.1 (j:Int)<=ig y.1 (k:Int)):=by
       have hz:¬(cn x.1 j).length=0:=by rw[List.length_eq_zero_iff];exact Cq
       unfold pJ Vd ig;rw[eH,eY,if_pos hr,aE,aE,if_neg hz];simp[Cq,hbw,hr]
      rw[vq];refine jB ?_;refine Xd ?_;refine Z1 ?_;refine KO.eF (i:=j) rfl rfl runUnderlying160 sizeOf29 rfl ae rfl ?_;refine KO.ia (i:=j) (sz:=1) (cf:=o8) (e:=p2.1) rfl rfl isAgg29 bn (fun _=>rfl) X7 aj aP rfl ?_;refine Z1 ?_;refine KO.ce (cp:=[]) rfl rfl rfl call111 rfl (KE.E3 (φ:=fun u=>u=.tuple #[.int .i64 (ig y.1 (k:Int)),cI 70 (Vu y.1 (k:Int))]) kB hy bn (fun L=>KE.perm (fun w hw=>hw.split) (KE.oK (GR w0 _ _ p2.1 p2.2 y.1 (k:Int) .head) Y13))) ?_;rintro v' L' ⟨rfl,rfl⟩;refine N6 ?_;refine qE ?_;refine iX ?_;refine vD ?_;refine uR ?_;exact KQ.qL () trivial ⟨rfl,rfl,rfl,rfl,rfl,rfl,rfl,rfl,rfl,rfl,rfl,rfl,rfl,trivial⟩ (fun _ h=>h.all Y3)
     ·have vq:pJ W k j=false:=by unfold pJ;rw[eH];simp only[decide_eq_false_iff_not];exact fun h=>hb ⟨h.1,h.2.1⟩
      rw[vq];refine K.da rfl (by exact decide_eq_false hb) ?_;refine CW ?_;exact KQ.qL () trivial ⟨rfl,rfl,rfl,rfl,rfl,rfl,rfl,rfl,rfl,rfl,rfl,rfl,rfl,trivial⟩ (fun _ h=>h)
    rintro - -;refine oW ?_;have hlW:gL W k j=(fQ x.1 (j:Int)).filter (fun m=> !pJ W k j|| !decide (m.id∈y6 x.1 (j:Int))):=by unfold gL;rw[eH,if_pos hr,J7,r0]
    generalize pJ W k j=cm at hlW ⊢;have agu:=hlw k pb j;refine Z8 ?_;refine CU ?_;refine K.loop (fun q:Nat×Value×List Ms=>[(0,bp bw),(3,q.2.1),(4,.int .i64 (k:Nat)),(5,bp p.1),(10,.slice ad (y6 x.1 (j:Int)).length cd),(12,.bool cm),(20,.slice (some ⟨g1,0,none⟩) W.hs.length c1),(21,.int .i64 (W.hs.length:Nat)),(22,.int .i64 (k:Nat)),(31,.int .i64 (j:Nat)),(72,.slice aw (fQ x.1 (j:Int)).length cw),(73,.int .i64 ((fQ x.1 (j:Int)).length:Nat)),(74,.int .i64 (q.1:Nat))]) (fun q=>SL 3 1 jO (.slice ad (y6 x.1 (j:Int)).length cd) (y6 x.1 (j:Int))::SL 44 5 dh (.slice aw (fQ x.1 (j:Int)).length cw) (fQ x.1 (j:Int))::SL 44 5 dh q.2.1 q.2.2::oz bw ⟨.slice (some ⟨g1,0,none⟩) W.hs.length c1,dv,wv,ps⟩ W L) (fun q=>q.1<=(fQ x.1 (j:Int)).length/\q.2.2.Perm (((List.range k).flatMap (tT W)++jm x.1++(List.range j).flatMap (gL W k))++((fQ x.1 (j:Int)).take q.1).filter (fun m=> !cm|| !decide (m.id∈y6 x.1 (j:Int))))) (fun q=>(fQ x.1 (j:Int)).length-q.1) (0,v6,o6) ⟨aV _,by simpa using WI⟩ ⟨rfl,rfl,rfl,rfl,rfl,rfl,rfl,rfl,rfl,rfl,rfl,rfl,rfl,trivial⟩ (fun _ h=>h.all nI) ?_;clear WI hl6;rintro⟨i,v9,o9⟩ ⟨hi,Uv⟩;dsimp only at hi Uv ⊢;have hl9:=Uv.length_eq;rw[aX,aX,aX]at hl9
    have hlf:=List.length_filter_le (fun m:Ms=> !cm|| !decide (m.id∈y6 x.1 (j:Int))) ((fQ x.1 (j:Int)).take i);rw[bA]at hlf;refine hF ?_;refine K.br rfl (fun h17=>?_) (fun h17=>?_)
    ·have sN:i<(fQ x.1 (j:Int)).length:=by omega
     obtain⟨m,hm⟩:∃e,(fQ x.1 (j:Int))[i]? =some e:=⟨_,ao sN⟩;obtain⟨gw,rfl⟩:=haw ae;have hts:=bG hm;obtain⟨mi,mp,mb,mq,mh⟩:=m;refine Zy ?_;refine KO.vS (i:=i) (sz:=5) (cf:=dh) (e:=⟨mi,mp,mb,mq,mh⟩) rfl rfl isAgg44 sizeOf44 bn (fun _=>rfl) hm rfl ?_;refine KO.alloc rfl zeroValue44 aP rfl ?_;intro b16;refine zn ?_;cases cm with
     |false=>
      refine Oh ?_;refine xa ?_;refine Tf ?_;refine uQ ?_;refine Z8 ?_;refine CZ ?_;refine KO.kL (z:=(Value.agg #[.int .i64 0,.int .i64 0,.string ⟨#[]⟩,.string ⟨#[]⟩,.int .i64 0])) (sz:=5) (dI:=56) rfl rfl underlying49 bC aP aP ai ai rfl ?_;intro b89;refine KO.app (cf:=dh) (z:=Value.agg #[.int .i64 0,.int .i64 0,.string ⟨#[]⟩,.string ⟨#[]⟩,.int .i64 0]) (sz:=5) (dI:=56) (xs:=o9) rfl rfl rfl bn .head underlying49 bC aP ⟨mi,mp,mb,mq,mh⟩ rfl rfl rfl ae ai rfl ?_;intro Xo;refine uM ?_;refine KQ.round (i+1,Xo,o9++[⟨mi,mp,mb,mq,mh⟩]) ⟨by dsimp only;omega,?_⟩ gV ⟨rfl,rfl,rfl,rfl,rfl,rfl,rfl,rfl,rfl,rfl,rfl,rfl,rfl,trivial⟩ (fun _ h=>h.all Y5);dsimp only;rw[hts,bU,bT,if_pos (by rfl),List.filter_nil,<-aL];exact Uv.append_right _
     |true=>
      refine zt ?_;refine O7 ?_;refine Hq ?_;refine KO.on rfl rfl rfl ?_;refine KO.ce (cp:=[]) rfl rfl rfl call92 rfl (NJ w0 _ (.slice ad (y6 x.1 (j:Int)).length cd) (y6 x.1 (j:Int)) mi (fun w hw=>vE.Ea (fun _=>rfl) bn hw) rv) ?_;rintro v' L' ⟨rfl,rfl⟩;refine uL ?_;refine Z2 ?_;by_cases Kf:mi∈y6 x.1 (j:Int)
      ·refine K.da rfl (by simp[Kf]) ?_;refine qF ?_;refine KQ.round (i+1,v9,o9) ⟨by dsimp only;omega,?_⟩ gV ⟨rfl,rfl,rfl,rfl,rfl,rfl,rfl,rfl,rfl,rfl,rfl,rfl,rfl,trivial⟩ (fun _ h=>h.all Y5);dsimp only;rw[hts,bU,bT,if_neg (by simp[Kf]),List.filter_nil,List.append_nil];exact Uv
      ·refine K.cL rfl (by simp[Kf]) ?_;refine Z8 ?_;refine CZ ?_;refine KO.kL (z:=(Value.agg #[.int .i64 0,.int .i64 0,.string ⟨#[]⟩,.string ⟨#[]⟩,.int .i64 0])) (sz:=5) (dI:=56) rfl rfl underlying49 bC aP aP ai ai rfl ?_;intro b89;refine KO.app (cf:=dh) (z:=Value.agg #[.int .i64 0,.int .i64 0,.string ⟨#[]⟩,.string ⟨#[]⟩,.int .i64 0]) (sz:=5) (dI:=56) (xs:=o9) rfl rfl rfl bn .head underlying49 bC aP ⟨mi,mp,mb,mq,mh⟩ rfl rfl rfl ae ai rfl ?_;intro Xo;refine uM ?_;refine KQ.round (i+1,Xo,o9++[⟨mi,mp,mb,mq,mh⟩]) ⟨by dsimp only;omega,?_⟩ gV ⟨rfl,rfl,rfl,rfl,rfl,rfl,rfl,rfl,rfl,rfl,rfl,rfl,rfl,trivial⟩ (fun _ h=>h.all Y5);dsimp only;rw[hts,bU,bT,if_pos (by simp[Kf]),List.filter_nil,<-aL];exact Uv.append_right _
    ·have sN:i=(fQ x.1 (j:Int)).length:=by omega
     subst sN;rw[List.take_length,<-hlW]at Uv;refine Z92 ?_;refine O6 ?_;refine KQ.round (j+1,v9,o9) ⟨by dsimp only;omega,?_⟩ gV ⟨rfl,rfl,rfl,rfl,rfl,rfl,rfl,rfl,trivial⟩ (fun _ h=>h.all Y5);dsimp only;rw[dw,<-aL];exact Uv
  ·have EK:j=4:=by omega
   subst EK;refine Z92 ?_;refine O6 ?_;refine KQ.round (k+1,v6,o6) ⟨by dsimp only;omega,?_⟩ gV ⟨rfl,rfl,rfl,rfl,rfl,trivial⟩ (fun _ h=>h.all nI);dsimp only;rw[List.range_succ,List.flatMap_append];simp only[aR,List.flatMap_nil,List.append_nil];rw[show tT W k=jm x.1++(List.range 4).flatMap (gL W k)by unfold tT;rw[eH],<-aL];exact WI
 ·have pb:k=W.hs.length:=by omega
  subst pb;have IK:=hlK _ (aF W.hs.length);have acn:=ho.length_eq;refine wo ?_;refine KO.cl (cp:=[]) rfl rfl rfl call125 rfl (KC.oN bQ (MW _ v3 o3 ae (fun m hm=>ME hB hc m (ho.mem_iff.1 hm)))) ?_;rintro v' L' ⟨rfl,ys,SD,zC,rfl⟩;refine Fi ?_;refine iW ?_;refine KQ.bB rfl rfl (fun w' aT=>⟨_,_,rfl,⟨ys,SD.trans ho,zC,rfl⟩,?_⟩);exact(dm (W:=W) ⟨.slice (some ⟨g1,0,none⟩) W.hs.length c1,dv,wv,ps⟩ hV (aT.all (M:=oz bw ⟨.slice (some ⟨g1,0,none⟩) W.hs.length c1,dv,wv,ps⟩ W (SL 44 5 dh v3 ys::L)) Y3)).f_
theorem Jp{l:List Ms}(h:l.Pairwise fun a b=>a.id<=b.id)(hn:(l.map (·.id)).Nodup):l.Pairwise fun a b=>a.id<b.id:=by
 rw[List.nodup_iff_pairwise_ne,List.pairwise_map]at hn;exact(h.and hn).imp fun⟨a,b⟩=>by omega
theorem Pp(w0:World)(L:List HP)(bt bw c kb:Nat)(hd:zB)(S:pc)(hS:mL c kb S)(hc:c<=120)(MW:H8 w0):
 KC prog 24 #[bp bt] w0 (lP bt bw S::kZ bw hd S.W::L) (fun v M=>v=.bool true/\M=lP bt bw S::kZ bw hd S.W::L):=by
 have M8:=hS.JW;obtain⟨pb,UB⟩:=hS.keys;refine KC.mk (n:=67) func24 rfl ntmps24 aj ?_;refine oW ?_;refine K.cq (fun _ h=>jF h) ?_;rintro⟨⟨us,vs,os,mT,mO⟩,hV⟩;dsimp only;refine dM ?_;refine uN ?_;refine VH ?_;refine KO.ld rfl rfl isAgg55 bQ aP rfl ?_;refine KO.cl (cp:=[]) rfl rfl rfl call48 rfl (KC.oN bn (Tp w0 _ bw c kb hd S.W hS.B ae MW)) ?_;rintro v' L' ⟨out,hp,abV,rfl⟩;refine kE ?_;have hT:out.Perm (S.T.map (·.2)):=hp.trans M8
 have sK:(out.map (·.id)).Nodup:=by rw[(hT.map _).nodup_iff,<-UB];exact pb
 have dt:=Jp abV sK;have hlen:out.length=S.T.length:=by rw[hT.length_eq,aW]
 have agj:maxLen<=9223372036854775807:=by decide
 refine K.fact (fun _ hs=>aU (hs.pick (A:=SL 44 5 dh v' out) bQ)) ?_;rintro⟨a1,c1,rfl,qP⟩;refine K.fact (p:=out.length<=9223372036854775807) (fun _ hs=>?_) ?_
 ·rcases Nat.eq_zero_or_pos out.length with h0|h0
  ·omega
  ·obtain⟨g,rfl⟩:=qP h0;obtain⟨-,h2,h3,-⟩:=gp (hs.pick (A:=SL 44 5 dh (.slice (some ⟨g,0,none⟩) out.length c1) out) bQ);omega
 intro hal;refine Z8 ?_;refine zy ?_;refine lq ?_;refine W7 ?_;refine KO.abE rfl rfl underlying56 bn rfl ?_;rw[show(BT S.T).length=out.length by rw[Pr,hlen]];refine zp ?_;refine HQ ?_;refine wx ?_;refine Z7 ?_;refine Lr ?_;refine K.loop (fun k:Nat=>[(0,bp bt),(3,.slice a1 out.length c1),(4,.int .i64 (k:Nat))]) (fun k=>SL 44 5 dh (.slice a1 out.length c1) out::DE bt bw ⟨us,vs,os,mT,mO⟩ S (kZ bw hd S.W::L)) (fun k=>k<=out.length) (fun k=>out.length-k) 0 (aV _) ⟨rfl,rfl,rfl,trivial⟩ (fun w' aT=>aT.all Y7) ?_;intro k hk;refine rR ?_;refine zy ?_;refine rQ ?_;refine K.br rfl (fun h5=>?_) (fun h5=>?_)
 ·obtain⟨m,hm⟩:∃e,out[k]? =some e:=⟨out[k],ao ae⟩;obtain⟨g1,rfl⟩:=qP ae;have hf:=hS.find (m:=m) (hT.mem_iff.1 (ax hm));have Co:en (BT S.T) m.id=some (.agg (dh m).toArray):=by rw[BS,hf];rfl
  have vY:out[k]? =some ⟨m.id,m.pri,m.body,m.queue,m.ck⟩:=hm;refine K5 ?_;refine K.draw [.pure,.pure,.pure,.read,.pure,.pure,.pure,.pure,.read,.read,.pure,.pure,.pure,.c7,.write,.pure] [0,1,2,3,4,5,6,7,8,9,10,11,12,13,14,15] bC bC ?_;refine lq ?_;refine W7 ?_;refine lK ?_;refine KO.eF (i:=k) rfl rfl runUnderlying49 sizeOf44 rfl ae rfl ?_;refine VG ?_;refine KO.ia (i:=k) (sz:=5) (cf:=dh) (e:=m) rfl rfl isAgg3 bQ (fun _=>rfl) hm aj aP rfl ?_;refine KO.AY jN m.id rfl rfl rfl underlying56 underlying3 zeroValue44 bn rfl ?_;rw[Co];refine Fh ?_;refine KO.alloc rfl zeroValue44 aP rfl ?_;intro b5;refine Jc ?_;refine kE ?_;have hbk:∀j:Nat,j<k->∃m':Ms,out[j]? =some m'/\m'.id<m.id:=fun j hj=>by
   refine⟨_,ao (show j<out.length by omega),?_⟩;have :=List.pairwise_iff_getElem.1 dt j k ae ae hj;rw[(au.1 hm).2]at this;exact this
  rcases Nat.eq_zero_or_pos k with h0|h0
  ·subst h0;refine ZW ?_;refine oV ?_;refine Z1 ?_;refine KO.on rfl rfl rfl ?_;refine KO.vT (cs:=dh m) rfl rfl isAgg44 sizeOf44 bQ aP rfl ?_;refine qu ?_;refine zl ?_;refine KO.on rfl rfl rfl ?_;refine KO.eF (i:=0) rfl rfl runUnderlying49 sizeOf44 rfl ae rfl ?_;refine KO.on rfl rfl rfl ?_;refine KO.vS (i:=0) (sz:=5) (cf:=dh) rfl rfl isAgg44 sizeOf44 bn (fun _=>rfl) vY rfl ?_;refine KO.on rfl rfl rfl ?_;refine KO.neA (b:=decide (m=m)) rfl rfl bC (Mw m m) rfl ?_;refine qv ?_;refine Z1 ?_;refine Fj ?_;refine Z1 ?_;refine Fj ?_;refine uP ?_;refine Fj ?_;refine CY ?_;refine Dh ?_;refine Dh ?_;refine Dh ?_;refine Dh ?_;refine Fj ?_;refine KO.mc rfl ?_ rfl rfl ?_
   (focus rfl)
   refine KO.mc rfl Y69 rfl rfl ?_;refine HQ ?_;refine RR ?_;refine CV ?_;refine KQ.round 1 ae ae ⟨rfl,rfl,rfl,trivial⟩ (fun w' aT=>aT.all Y5)
  ·obtain⟨m',zX,QH⟩:=hbk (k-1) ae;have Ba:((k:Nat):Int)-1=((k-1:Nat):Int):=by omega
   refine ZW ?_;refine oV ?_;refine Z1 ?_;refine KO.on rfl rfl rfl ?_;refine KO.vT (cs:=dh m) rfl rfl isAgg44 sizeOf44 bQ aP rfl ?_;refine qu ?_;refine zl ?_;refine KO.on rfl rfl rfl ?_;refine KO.eF (i:=k) rfl rfl runUnderlying49 sizeOf44 rfl ae rfl ?_;refine KO.on rfl rfl rfl ?_;refine KO.vS (i:=k) (sz:=5) (cf:=dh) rfl rfl isAgg44 sizeOf44 bn (fun _=>rfl) vY rfl ?_;refine KO.on rfl rfl rfl ?_;refine KO.neA (b:=decide (m=m)) rfl rfl bC (Mw m m) rfl ?_;refine qv ?_;refine Z1 ?_;refine Fj ?_;refine Z1 ?_;refine Fj ?_;refine uP ?_;refine Fj ?_;refine s9 ?_;refine CL ?_;refine Fv ?_;refine KO.on rfl rfl fx ?_;refine KO.eF (i:=k-1) rfl rfl runUnderlying49 sizeOf44 Ba ae rfl ?_;refine kF ?_;refine VG ?_;refine KO.on rfl rfl fx ?_;refine KO.ia (i:=k-1) (sz:=5) (cf:=dh) (e:=m') rfl rfl isAgg3 bn (fun _=>rfl) zX aj aP rfl ?_;refine kF ?_;refine CL ?_;refine Z1 ?_;refine KO.on rfl rfl fx ?_;refine KO.eF (i:=k) rfl rfl runUnderlying49 sizeOf44 rfl ae rfl ?_;refine kF ?_;refine VG ?_;refine KO.on rfl rfl fx ?_;refine KO.ia (i:=k) (sz:=5) (cf:=dh) (e:=m) rfl rfl isAgg3 bn (fun _=>rfl) hm aj aP rfl ?_;refine kF ?_;refine vD ?_;refine Fj ?_;refine KO.sq rfl ?_ rfl rfl ?_
   (focus(simp only[decide_eq_true_eq,decide_eq_false_iff_not,Bool.not_eq_true,Bool.not_true,Bool.not_false,ne_eq];omega))
   refine KO.mc rfl Y69 rfl rfl ?_;refine Z2 ?_;refine K.da rfl fx ?_;refine RR ?_;refine CV ?_;refine KQ.round (k+1) ae ae ⟨rfl,rfl,rfl,trivial⟩ (fun w' aT=>aT.all Y5)
 ·refine Hv ?_;refine KQ.bB rfl rfl (fun w' aT=>⟨_,_,rfl,⟨rfl,rfl⟩,fG ⟨us,vs,os,mT,mO⟩ hV (aT.all Y5)⟩)
end Go.Proofs.YtjhogocabcdjbabGreatDoor
namespace Go.Proofs
open Tryz
open Go.Shelf
def Tryz.F2:Go.Shelf.Ren:=⟨fun|6=>125|15=>163|14=>208|28=>262|29=>263|20=>299|21=>300|22=>301|23=>302|24=>303|25=>304|26=>305|27=>306|46=>366|47=>355|48=>356|49=>367|50=>368|57=>397|n=>n,fun|22=>49|24=>44|25=>216|3=>3|39=>73|0=>0|53=>227|55=>224|4=>4|46=>337|45=>336|50=>239|5=>5|9=>9|66=>404|70=>407|76=>429|77=>430|n=>n,fun|n=>n⟩
theorem Tryz.LU:Go.Proofs.SlLaysF0.n6 prog Tryz.F2:={
 mixed:=by kernel_rfl
 f6:=⟨Tryz.f125.name,by decide,func125.trans (congrArg some bC)⟩
 f14:=⟨Tryz.f208.name,by decide,func208.trans (congrArg some bC)⟩
 f15:=func163.trans (congrArg some bC)
 f20:=⟨Tryz.f299.name,by decide,func299.trans (congrArg some bC)⟩
 f21:=⟨Tryz.f300.name,by decide,func300.trans (congrArg some bC)⟩
 f22:=⟨Tryz.f301.name,by decide,func301.trans (congrArg some bC)⟩
 f23:=⟨Tryz.f302.name,by decide,func302.trans (congrArg some bC)⟩
 f24:=⟨Tryz.f303.name,by decide,func303.trans (congrArg some bC)⟩
 f25:=⟨Tryz.f304.name,by decide,func304.trans (congrArg some bC)⟩
 f26:=⟨Tryz.f305.name,by decide,func305.trans (congrArg some bC)⟩
 f27:=⟨Tryz.f306.name,by decide,func306.trans (congrArg some bC)⟩
 f28:=func262.trans (congrArg some bC)
 f29:=func263.trans (congrArg some bC)
 f46:=⟨Tryz.f366.name,by decide,func366.trans (congrArg some bC)⟩
 f47:=func355.trans (congrArg some bC)
 f48:=func356.trans (congrArg some bC)
 f49:=⟨Tryz.f367.name,by decide,func367.trans (congrArg some bC)⟩
 f50:=⟨Tryz.f368.name,by decide,func368.trans (congrArg some bC)⟩
 f57:=⟨Tryz.f397.name,by decide,func397.trans (congrArg some bC)⟩
 t0:=underlying0
 a0:=isAgg0
 z0:=sizeOf0
 v0:=zeroValue0
 t3:=underlying3
 a3:=isAgg3
 z3:=sizeOf3
 v3:=zeroValue3
 t4:=underlying4
 a4:=isAgg4
 z4:=sizeOf4
 v4:=zeroValue4
 t5:=underlying5
 a5:=isAgg5
 z5:=sizeOf5
 v5:=zeroValue5
 t9:=underlying9
 a9:=isAgg9
 z9:=sizeOf9
 v9:=zeroValue9
 t22:=underlying49
 a22:=isAgg49
 z22:=sizeOf49
 v22:=zeroValue49
 t25:=underlying216
 a25:=isAgg216
 z25:=sizeOf216
 v25:=zeroValue216
 t39:=underlying73
 a39:=isAgg73
 z39:=sizeOf73
 v39:=zeroValue73
 t45:=underlying336
 a45:=isAgg336
 z45:=sizeOf336
 v45:=zeroValue336
 t46:=underlying337
 a46:=isAgg337
 z46:=sizeOf337
 v46:=zeroValue337
 t50:=underlying239
 a50:=isAgg239
 z50:=sizeOf239
 v50:=zeroValue239
 t53:=underlying227
 a53:=isAgg227
 z53:=sizeOf227
 v53:=zeroValue227
 t55:=underlying224
 a55:=isAgg224
 z55:=sizeOf224
 v55:=zeroValue224
 t66:=underlying404
 a66:=isAgg404
 z66:=sizeOf404
 v66:=zeroValue404
 t70:=underlying407
 a70:=isAgg407
 z70:=sizeOf407
 v70:=zeroValue407
 t76:=underlying429
 a76:=isAgg429
 z76:=sizeOf429
 v76:=zeroValue429
 t77:=underlying430
 a77:=isAgg430
 z77:=sizeOf430
 v77:=zeroValue430}
end Go.Proofs
namespace Go.Proofs.YtjhogocabcdjbabGreatDoor
open Tryz
open Go Go.RowKit WB Go.Shelf Go.Lib Go.Sort
abbrev Wi:={m:Ms//0<=m.id/\m.id<=1099511627776}
instance:Inhabited Wi:=⟨⟨⟨0,0,⟨#[]⟩,⟨#[]⟩,0⟩,by decide⟩⟩
def Lb (m:Wi):List Value:=dh m.1
def Gi (x y:Wi):Int:=x.1.id-y.1.id
theorem Iy(x y:Wi):ltOf Gi x y=decide (x.1.id<y.1.id):=by
 unfold ltOf Gi;exact decide_eq_decide.2 ae
theorem TW:SWO (ltOf Gi):={
 irrefl:=fun x=>by rw[Iy];simp
 trans:=fun x y z h1 h2=>by rw[Iy]at *;simp at *;omega
 ntrans:=fun x y z h1 h2=>by rw[Iy]at *;simp at *;omega}
theorem abH(x y:Wi)(W:World):Calls prog 126 #[.agg (Lb x).toArray,.agg (Lb y).toArray] W fun e w'=>e=.returned (.int .i64 (Gi x y))/\∃q os',w'=grow (W.drewN q) os':=by
 obtain⟨⟨xi,xp,xb,xq,xh⟩,hx⟩:=x;obtain⟨⟨yi,yp,yb,yq,yh⟩,hy⟩:=y;dsimp only at hx hy;have hwr:IntKind.i64.wrap (xi-yi)=xi-yi:=by simp[IntKind.wrap,IntKind.bits,IntKind.signed];omega
 unfold Lb Gi dh;dsimp only
 go_enter func126,ntmps126
 go_wp2
 go_ret
 exact⟨rfl,0,_,by rw[alloc_eq_grow,alloc_eq_grow,grow_grow];rfl⟩
theorem TU(w0:World):H8 w0:=fun L v xs hl hid w hw=>by
 obtain⟨zs,rfl⟩:∃zs:List Wi,zs.map Subtype.val=xs:=⟨xs.attach.map fun m=>⟨m.1,hid m.1 m.2⟩,by simp⟩;have key:∀(u:Value) (ys:List Wi),SL 44 5 dh u (ys.map Subtype.val)=SL 44 5 Lb u ys:=fun u ys=>by
  unfold SL;rw[aW,List.flatMap_map];rfl
 rw[aW]at hl;rw[key]at hw;have h1:∀x,∀v∈Lb x,v.oneCell'=true:=fun x v hv=>by
  unfold Lb dh at hv;simp at hv;rcases hv with rfl|rfl|rfl|rfl|rfl<;>rfl
 rcases zA hw with⟨rfl,rfl⟩|⟨g,cap,rfl⟩
 ·refine(AnyF.slices_SortFunc_none Tryz.LU none 0 _ w).mono ?_;rintro e w' ⟨rfl,rfl⟩;exact⟨_,_,rfl,⟨rfl,[],.refl _,.nil,rfl⟩,hw⟩
 ·have hH:=A6 (cf:=Lb) (k:=5) (fun _=>rfl) hw;obtain⟨-,-,-,cur,-,-,h6⟩:=gp hw;have hc:=AnyQ.slices_SortFunc Tryz.LU 5 isAgg44 sizeOf44 Lb (fun _=>rfl) h1 Gi TW 126 #[] g 0 cap zs.toArray w call126 (fun _ _ _ _ x y=>abH x y _) hH h6.lt fx;have lg:Calls prog 125 #[.slice (some ⟨g,0,none⟩) zs.length cap,.func (.func 126) #[] #[]] w fun e w'=>e=.returned (.tuple #[])/\∃d' n os,PermIn 0 zs.toArray.size zs.toArray d'/\SortedIn (ltOf Gi) 0 zs.toArray.size d'/\w'=sortWorldK Lb 5 w g 0 n d' os:=by
   exact hc
  refine lg.mono ?_;rintro e w' ⟨rfl,d',q,os,⟨zJ,-,hp⟩,zC,rfl⟩;have r0:d'.toList.length=zs.length:=by simpa using zJ
  refine⟨_,_,rfl,⟨rfl,d'.toList.map Subtype.val,?_,?_,rfl⟩,?_⟩
  ·have e1:(d'.extract 0 zs.toArray.size).toList=d'.toList:=by rw[<-zJ];simp
   have e2:(zs.toArray.extract 0 zs.toArray.size).toList=zs:=by simp
   rw[e1,e2]at hp;exact hp.map _
  ·rw[List.pairwise_map,List.pairwise_iff_getElem];intro p q hp hq OV;have :=zC p q (aV _) OV (by rw[r0]at hq;simpa using hq);simp only[Array.length_toList]at hp hq;rw[getElem!_pos d' q hq,getElem!_pos d' p hp,Iy]at this;simp at this;simpa using this
  ·rw[key];have e:sortWorldK Lb 5 w g 0 q d' os=Sort.grow (putRowK Lb 5 (Sort.ahead w q) g 0 d') os:=by
    rfl
   rw[e];have :=St.sorted (cf:=Lb) (k:=5) (ys:=d'.toList) (fun _=>rfl) hw r0 q os;simpa using this
end Go.Proofs.YtjhogocabcdjbabGreatDoor
namespace WB
open Go
def QM:ak:=⟨#[104,105]⟩
def qD:Ms:=⟨0,5,QM,gU,1⟩
def q0:Qu:=⟨[],0⟩
def cnA:List Nm:=[⟨kS,gU,1⟩,⟨gU,⟨#[]⟩,-1⟩,⟨gK,⟨#[]⟩,-1⟩]
def cnB:List Nm:=[⟨kS,gU,0⟩,⟨gU,⟨#[]⟩,-1⟩,⟨gK,⟨#[]⟩,-1⟩]
def uE:ox:=⟨[],[]⟩
def cA (used:Nat) (next:Int) (dQ:Qu) (u0:ox) (bt:List Int) (sn:Int):Ho:=⟨0,used,false,-1,next,cnA,[(cz,q0),(gU,q0),(gK,q0)],[q0,dQ,q0,q0],[u0,uE,uE,uE,uE],[[],bt,[],[]],[0,sn,0,0],[0,0,0,0]⟩
def cB (used:Nat) (q:Qu) (av:Int):Ho:=⟨1,used,false,-1,0,cnB,[(cz,q0),(gU,q),(gK,q0)],[q0,q0,q0,q0],[uE,uE,uE,uE,uE],[[],[],[],[]],[0,0,0,0],[av,0,0,0]⟩
def I5:Ho:=cA 3 0 q0 uE [] 0
def De:Ho:=cA 3 1 ⟨[⟨qD,0,0,-1⟩],1⟩ ⟨[(qD,1)],[]⟩ [] 0
def oH:Ho:=cA 4 1 ⟨[⟨qD,1,-1,-1⟩],2⟩ uE [] 0
def BD:Ho:=cA 5 1 ⟨[⟨qD,1,-1,-1⟩],2⟩ uE [0] 1
def E_:Ho:=cA 6 1 ⟨[],2⟩ uE [] 1
def kW:Ho:=cB 3 q0 0
def w9:Ho:=cB 4 ⟨[⟨qD,0,-1,-1⟩],1⟩ 1
theorem Vo:dp 0 1=I5:=rfl
theorem Vn:dp 1 0=kW:=rfl
theorem w8:gY I5 0 kS 5 QM=0/\gv I5 0 kS 5 QM=De:=⟨by decide+kernel,by kernel_rfl⟩
theorem Mm{D:Dk}(h:D.cut=false):kK D=0:=by
 unfold kK ju;rw[h];rfl
theorem yl{H:Ho}{D:Dk}(h:D.cut=false)(hr:eT H=0):dV H D=0:=by
 unfold dV;rw[if_neg (by simp[hr])];exact Mm h
theorem IA{H:Ho}{D:Dk}(h:D.cut=false)(hr:eT H=0):dD H D={H with used:=H.used+1}:=by
 unfold dD;rw[if_neg (by simp[hr]),if_neg (by simp[Mm h])]
theorem yo(H:Ho)(D:Dk)(s:ak):(fY H D s).cut=D.cut:=by
 unfold fY;split
 ·rfl
 ·exact vy
theorem FW{H:Ho}{D:Dk}(h:D.cut=false)(hr:eT H=0)(s:ak):oJ H D s=(bY {H with used:=H.used+1} s).1:=by
 unfold oJ;rw[if_pos (yl h hr),IA h hr]
theorem I4{D:Dk}(h:D.cut=false):vA De D 0=0/\oU De D 0=oH:=by
 have h0:lI De 0=0:=by decide
 have hr:eT De=0:=by decide
 refine⟨?_,?_⟩
 ·unfold vA;rw[if_neg (by simp[h0])];exact yl h hr
 ·unfold oU;rw[if_neg (by simp[h0]),if_neg (by simp[yl h hr]),IA h hr]
  kernel_rfl
theorem Vk{D:Dk}(h:D.cut=false):uD oH D 1=0/\mJ oH D 1=BD/\(tk oH D 1).cut=false/\I6 oH D 1=1/\Ab oH D 1=[qD]:=by
 have hr:eT oH=0:=by decide
 have hp:mI oH 1=0:=by decide+kernel
 have hn:fu oH 1=true:=by decide+kernel
 have e1:uD oH D 1=0:=by unfold uD;rw[if_neg (by simp[hp]),if_pos hn];exact yl h hr
 have e2:mJ oH D 1=BD:=by unfold mJ;rw[if_pos hn,FW h hr];kernel_rfl
 refine⟨e1,e2,by unfold tk;rw[if_pos hn,yo];exact h,?_,?_⟩
 ·unfold I6;rw[if_pos e1,e2];decide+kernel
 ·unfold Ab;rw[if_pos e1,e2];kernel_rfl
theorem Vl{D:Dk}(h:D.cut=false):FT kW D 0 1 [qD]=0/\rL kW D 0 1 [qD]=w9/\(sY kW D 0 1 [qD]).cut=false/\sX kW D 0 1 [qD]=1:=by
 have hr:eT kW=0:=by decide
 have hp:rK kW 0 1 [qD]=0:=by decide+kernel
 have hn:Dg kW 0 1 [qD]=true:=by decide+kernel
 have e1:FT kW D 0 1 [qD]=0:=by unfold FT;rw[if_neg (by simp[hp]),if_pos hn];exact yl h hr
 have e2:rL kW D 0 1 [qD]=w9:=by unfold rL;rw[if_pos hn,FW h hr];kernel_rfl
 refine⟨e1,e2,by unfold sY;rw[if_pos hn,yo];exact h,?_⟩;unfold sX;rw[if_pos e1,e2];decide+kernel
theorem Vj{D:Dk}(h:D.cut=false):Dd BD D 1 1=E_/\(FQ BD D 1 1).cut=false:=by
 have hr:eT BD=0:=by decide
 have hp:lX BD 1 1=0:=by decide+kernel
 refine⟨by unfold Dd;rw[if_neg (by simp[hp]),FW h hr];kernel_rfl,by unfold FQ;rw[if_neg (by simp[hp]),yo];exact h⟩
theorem za{W:Wo}{k d:Nat}(hk:k<W.hs.length)(hd:d<W.hs.length)(h:mI (W.H k) (d:Int)≠0):qo W k d=W:=by
 have h1:W.is (k:Int)=true:=by unfold Wo.is;rw[decide_eq_true_eq];omega
 have h2:W.is (d:Int)=true:=by unfold Wo.is;rw[decide_eq_true_eq];omega
 have hs:F6 W k d≠0:=by unfold F6;rw[if_pos ⟨h1,h2⟩,aE];unfold uD;rw[if_pos h];exact h
 have hn:fu (W.H k) (d:Int)=false:=by unfold fu;rw[decide_eq_false_iff_not];exact fun x=>h x.1
 unfold qo;rw[if_neg hs];unfold DK;rw[if_pos ⟨h1,h2⟩,if_neg hs];unfold q_ mJ tk;rw[aE,if_neg (by simp[hn]),if_neg (by simp[hn])];exact p4 hk
def cW (x:Ho×Dk) (y:Ho×Dk) (dQ:List Gm):Wo:=⟨[x,y],dQ,0⟩
theorem NN{D E:Dk}(h:D.cut=false):∃D1,D1.cut=false/\F6 (cW (oH,D) (kW,E) []) 0 1=0/\DK (cW (oH,D) (kW,E) []) 0 1=cW (BD,D1) (kW,E) [⟨1,⟨0,1,false⟩,[qD]⟩]:=by
 obtain⟨a1,a2,a3,a4,a5⟩:=Vk h;have hs:F6 (cW (oH,D) (kW,E) []) 0 1=0:=a1;have ho:okF ⟨0,1,false⟩ [qD]:=by decide+kernel
 refine⟨tk oH D 1,a3,hs,?_⟩;unfold DK;rw[if_pos ⟨rfl,rfl⟩,if_pos hs]
 show j0 (cW (mJ oH D 1,tk oH D 1) (kW,E) []) 1 ⟨0,I6 oH D 1,false⟩ (Ab oH D 1)=_
 rw[a2,a4,a5];unfold j0;rw[if_pos ho];rfl
theorem Vi{D E:Dk}(h:D.cut=false)(hE:E.cut=false):∃D1 E1,oT (cW (BD,D) (kW,E) [⟨1,⟨0,1,false⟩,[qD]⟩])=cW (E_,D1) (w9,E1) []:=by
 obtain⟨b1,b2,b3,b4⟩:=Vl hE;obtain⟨c1,c2⟩:=Vj h;have ho:okF ⟨1,1,true⟩ ([]:List Ms):=by decide+kernel
 refine⟨FQ BD D 1 1,sY kW E 0 1 [qD],?_⟩;rw[uq (by simp[cW])];have e1:v7 (cW (BD,D) (kW,E) [⟨1,⟨0,1,false⟩,[qD]⟩]) 0=cW (BD,D) (w9,sY kW E 0 1 [qD]) [⟨0,⟨1,1,true⟩,[]⟩]:=by
  unfold v7;rw[if_pos (by unfold FY;exact if_pos ⟨by omega,by simp[cW]⟩)]
  show E9 (cW (BD,D) (kW,E) []) ⟨1,⟨0,1,false⟩,[qD]⟩=_
  unfold E9;rw[if_neg ai];rw[if_pos (show FT ((cW (BD,D) (kW,E) []).H (1:Int).toNat) ((cW (BD,D) (kW,E) []).D (1:Int).toNat) 0 1 [qD]=0 from b1)]
  show j0 (cW (BD,D) (rL kW E 0 1 [qD],sY kW E 0 1 [qD]) []) 0 ⟨1,sX kW E 0 1 [qD],true⟩ []=_
  rw[b2,b4];unfold j0;rw[if_pos ho];rfl
 rw[e1,uq (by simp[cW])];have e2:v7 (cW (BD,D) (w9,sY kW E 0 1 [qD]) [⟨0,⟨1,1,true⟩,[]⟩]) 0=cW (E_,FQ BD D 1 1) (w9,sY kW E 0 1 [qD]) []:=by
  unfold v7;rw[if_pos (by unfold FY;exact if_pos ⟨by omega,by simp[cW]⟩)]
  show E9 (cW (BD,D) (w9,sY kW E 0 1 [qD]) []) ⟨0,⟨1,1,true⟩,[]⟩=_
  unfold E9;rw[if_pos rfl]
  show cW (Dd BD D 1 1,FQ BD D 1 1) (w9,sY kW E 0 1 [qD]) []=_
  rw[c1]
 rw[e2];exact yN rfl
theorem pW{α:Type}(f:α->Nat->α)(a:α):(List.range 2).foldl f a=f (f a 0) 1:=rfl
theorem Rv{W:Wo}(h:W.hs.length=2):y9 W=qo (qo (qo (qo (zK W) 0 0) 0 1) 1 0) 1 1:=by
 unfold y9;rw[h,pW];unfold y_;rw[pW,pW]
theorem Ru{W:Wo}(h:W.hs.length=2):zK W=oT (oo (oo W 0) 1):=by
 unfold zK;rw[h,pW]
theorem NO(D E:Dk):∃D1 E1,calm 1 (cW (oH,D) (kW,E) [])=cW (E_,D1) (w9,E1) []:=by
 have hd:∀D:Dk,(cu D (-1)).cut=false:=fun D=>rfl
 obtain⟨D1,g1,g2,g3⟩:=NN (D:=cu D (-1)) (E:=cu E (-1)) (hd D);obtain⟨D2,E2,g4⟩:=Vi g1 (hd E);refine⟨D2,E2,?_⟩;rw[zd];have e0:zK (cW (oH,D) (kW,E) [])=cW (oH,cu D (-1)) (kW,cu E (-1)) []:=by
  rw[Ru rfl];have a1:oo (cW (oH,D) (kW,E) []) 0=cW (oH,cu D (-1)) (kW,E) []:=by
   unfold oo;rw[if_neg (show ¬((cW (oH,D) (kW,E) []).H 0).down=true from Bool.false_ne_true)];rfl
  have a2:oo (cW (oH,cu D (-1)) (kW,E) []) 1=cW (oH,cu D (-1)) (kW,cu E (-1)) []:=by
   unfold oo;rw[if_neg (show ¬((cW (oH,cu D (-1)) (kW,E) []).H 1).down=true from Bool.false_ne_true)];rfl
  rw[a1,a2];exact yN rfl
 rw[Rv rfl,e0];rw[za (W:=cW (oH,cu D (-1)) (kW,cu E (-1)) []) (k:=0) (d:=0) (show 0<2 by decide) (show 0<2 by decide) (by show mI oH 0≠0;decide)];have e1:qo (cW (oH,cu D (-1)) (kW,cu E (-1)) []) 0 1=cW (E_,D2) (w9,E2) []:=by
  unfold qo;rw[if_pos (show F6 (cW (oH,cu D (-1)) (kW,cu E (-1)) []) ((0:Nat):Int) ((1:Nat):Int)=0 from g2)];rw[show DK (cW (oH,cu D (-1)) (kW,cu E (-1)) []) ((0:Nat):Int) ((1:Nat):Int)=_ from g3];exact g4
 rw[e1];rw[za (W:=cW (E_,D2) (w9,E2) []) (k:=1) (d:=0) (show 1<2 by decide) (show 0<2 by decide) (by show mI w9 0≠0;decide+kernel)];rw[za (W:=cW (E_,D2) (w9,E2) []) (k:=1) (d:=1) (show 1<2 by decide) (show 1<2 by decide) (by show mI w9 1≠0;decide+kernel)]
theorem BA:lu w9 gU=0/\tB w9 gU=[qD]:=⟨by decide+kernel,by kernel_rfl⟩
def pg (n i:Nat):Wo:=⟨(List.range n).map fun k:Nat=>if k<i then ff (((k:Int)+1)%n) (bO (k:Int),bD) 3 else(bO (k:Int),bD),[],0⟩
theorem Dt(n:Nat):pg n 0=xy n:=by
 unfold pg xy;congr 1
theorem iZ(n i:Nat):(pg n i).hs.length=n:=by unfold pg;simp
theorem xv{n i k:Nat}(hk:k<n):(pg n i).hs[k]? =some (if k<i then ff (((k:Int)+1)%n) (bO (k:Int),bD) 3 else(bO (k:Int),bD)):=by
 unfold pg;rw[aG,List.getElem?_range hk];rfl
theorem Du{n i:Nat}(hi:i<n):(pg n i).cy i (ff (((i:Int)+1)%n) (bO (i:Int),bD) 3)=pg n (i+1):=by
 have :(pg n i).hs.set i (ff (((i:Int)+1)%n) (bO (i:Int),bD) 3)=(pg n (i+1)).hs:=by
  apply List.ext_getElem?;intro k;rw[List.getElem?_set,iZ];by_cases hk:k<n
  ·rw[xv hk,xv hk];by_cases e:i=k
   ·subst e;rw[if_pos rfl,if_pos hi,if_pos (Nat.lt_succ_self i)]
   ·rw[if_neg e];by_cases h1:k<i
    ·rw[if_pos h1,if_pos ae]
    ·rw[if_neg h1,if_neg ae]
  ·rw[if_neg ae,bH (by rw[iZ];omega),bH (by rw[iZ];omega)]
 unfold Wo.cy;rw[this];rfl
def Pw (n:Nat):pc:=⟨n,pg n n,[],List.replicate 20 [],List.replicate 20 [],[],[],true⟩
theorem Ew(id j:Int):hv (dp id j)=[]:=by kernel_rfl
theorem Fb(id j:Int)(d:Nat):cn (dp id j) d=[]:=by
 unfold cn dp dO;dsimp only;rw[aq,List.getElem?_replicate];split<;>rfl
theorem HI.start{k:Nat}{j:Int}(hk:k<4)(hj:0<=j/\j<4):HI k (dp k j) (ff j (bO k,bD) 3).2 (dp k j):=by
 obtain⟨-,hH,hD,hl,-⟩:=iR (k:Int) j hj;have FL:=Ew (k:Int) j;have qB:WB.hk (dp k j)=[]:=by unfold WB.hk;rw[FL];rfl
 refine⟨rfl,⟨yf j,hD,sy k j hj,rfl⟩,rfl,rfl,rfl,rfl,rfl,⟨0,rfl⟩,fun e he=>?_,by rw[qB,FL];exact .refl _,by rw[FL];exact .nil,fun e he=>?_,fun e he=>?_,fun e he=>?_,Int.le_refl _,fun u x hx=>?_,fun d i hi=>?_⟩
 ·rw[FL]at he;cases he
 ·rw[FL]at he;cases he
 ·rw[FL]at he;cases he
 ·rw[FL]at he;cases he
 ·have :x=⟨[],[]⟩:=List.eq_of_mem_replicate (ax hx);subst this;exact UJ.nil _ _
 ·rw[Fb]at hi;cases hi
theorem mL.start{n:Nat}(hn:2<=n/\n<=4):mL 0 3 (Pw n):=by
 have hj:∀k:Nat,0<=((k:Int)+1)%n/\((k:Int)+1)%n<4:=fun k=>⟨Int.emod_nonneg _ ae,by have :=Int.emod_lt_of_pos ((k:Int)+1) (show(0:Int)<n by omega);omega⟩
 have US:∀(k:Nat) x,(pg n n).hs[k]? =some x->k<n/\x=(dp k (((k:Int)+1)%n),(ff (((k:Int)+1)%n) (bO (k:Int),bD) 3).2):=fun k x hx=>by
  have hk:k<n:=by have :=(au.1 hx).1;rw[iZ]at this;exact this
  rw[xv hk,if_pos hk]at hx;simp only[az]at hx;obtain⟨-,hH,-,-,-⟩:=iR (k:Int) _ (hj k);refine⟨hk,?_⟩;rw[<-hx,<-hH]
 have iy:∀k,((pg n n).H k).aA=List.replicate 5 ⟨[],[]⟩:=fun k=>by
  by_cases hk:k<n
  ·obtain⟨x,hx,e1,-⟩:=iY (W:=pg n n) (j:=k) (by rw[iZ];exact hk);rw[e1,(US k x hx).2];rfl
  ·have :(pg n n).H k=bO 0:=by unfold Wo.H Wo.at';rw[aq,bH (by rw[iZ];omega)];rfl
   rw[this];rfl
 refine⟨hn,⟨by show 1<=(pg n n).hs.length/\(pg n n).hs.length<=4;rw[iZ];omega,fun k x hx=>?_,(fun g hg=>by cases hg),aV _,by show(0:Int)<=0/\(0:Int)<=3;omega⟩,⟨fun k=>dp k (((k:Int)+1)%n),⟨iZ n n,fun k x hx=>?_,?_,fun k x hx u y hy p hp=>?_,fun k x hx=>?_⟩⟩,(fun x hx=>by cases hx),fun k y hy=>?_,⟨rfl,fun k u hk hu=>?_⟩,⟨rfl,fun k u hk hu=>?_⟩,rfl⟩
 ·obtain⟨hk,rfl⟩:=US k x hx;obtain⟨-,hH,hD,hl,-⟩:=iR (k:Int) _ (hj k);have hB:cF 13 (dp k (((k:Int)+1)%n)):=by rw[<-hH];exact wU (id:=(k:Int)) ⟨by omega,by omega⟩ _ 3
  have jY:=hD.ok (by rw[hl];decide);refine⟨rfl,hB.le ae,jY.len,by dsimp only;rw[hl];omega,jY.size,jY.lQ,fun u hu=>?_,fun q hq=>?_,by show 3<=2+3;omega⟩
  ·have :u=⟨[],[]⟩:=List.eq_of_mem_replicate hu;subst this;exact⟨⟨(fun p hp=>by cases hp),(fun p hp=>by cases hp),by decide⟩,aV _⟩
  ·have :q=⟨[],0⟩:=List.eq_of_mem_replicate hq;rw[this];exact fun e he=>by cases he
 ·obtain⟨hk,rfl⟩:=US k x hx;exact HI.start ae (hj k)
 ·have vt:∀k:Nat,(CC (fun k:Nat=>dp k (((k:Int)+1)%n)) k).bg=[]:=fun k=>by
   show(hv (dp k (((k:Int)+1)%n))).map jX=[]
   rw[Ew];rfl
  have qR:∀k d:Nat,(CC (fun k:Nat=>dp k (((k:Int)+1)%n)) k).bt d=[]:=fun k d=>Fb _ _ d
  have C_:∀k d:Nat,(CC (fun k:Nat=>dp k (((k:Int)+1)%n)) k).sn d=0:=fun k d=>by
   show dz (dp k (((k:Int)+1)%n)) d=0
   unfold dz dp dO;dsimp only;rw[aq,List.getElem?_replicate];split<;>rfl
  have IS:∀k d:Nat,(CC (fun k:Nat=>dp k (((k:Int)+1)%n)) k).av d=0:=fun k d=>by
   show dc (dp k (((k:Int)+1)%n)) d=0
   unfold dc dp dO;dsimp only;rw[aq,List.getElem?_replicate];split<;>rfl
  refine⟨?_,.nil,(fun m hm=>by cases hm),fun k _=>by rw[vt];exact .nil,(fun k _ d i hi=>by rw[qR]at hi;cases hi),fun k d _ _ _=>by rw[IS,C_];exact⟨Int.le_refl _,by omega,fun _=>rfl⟩,(fun g hg=>by cases hg)⟩;have :vR n (CC fun k:Nat=>dp k (((k:Int)+1)%n))=[]:=by
   unfold vR view;rw[List.flatMap_eq_nil_iff];intro k _;rw[vt];rfl
  show(vR n (CC fun k:Nat=>dp k (((k:Int)+1)%n))).Perm []
  rw[this]
 ·have h1:=iy k;have hk:=(US k x hx).1;obtain⟨x',Qk,e1,-⟩:=iY (W:=pg n n) (j:=k) (by rw[iZ];exact hk);have :x=x':=by
   have hx:(pg n n).hs[k]? =some x:=hx;rw[Qk]at hx;exact(Option.some.inj hx).symm
  rw[this,<-e1,h1]at hy;have :=List.eq_of_mem_replicate (ax hy);subst this;cases hp
 ·obtain⟨hk,rfl⟩:=US k x hx;rfl
 ·have hy:y∈((pg n n).H k).aA:=hy;rw[iy k]at hy;have :=List.eq_of_mem_replicate hy;subst this;exact aV _
 ·show(List.replicate 20 [])[ix k u]? =_
  rw[List.getElem?_replicate,if_pos (by unfold ix;omega)]
  show _=some ((((pg n n).H k).fa u).aO.map (·.1))
  rw[pV (iy k)];rfl
 ·show(List.replicate 20 [])[ix k u]? =_
  rw[List.getElem?_replicate,if_pos (by unfold ix;omega)]
  show _=some ((((pg n n).H k).fa u).bf.map (·.1))
  rw[pV (iy k)];rfl
theorem BP:pg 2 2=cW (I5,(ff 1 (bO 0,bD) 3).2) (kW,(ff 0 (bO 1,bD) 3).2) []:=by
 obtain⟨-,hA,-⟩:=iR 0 1 ai;obtain⟨-,hB,-⟩:=iR 1 0 ai;have e1:ff 1 (bO 0,bD) 3=(I5,(ff 1 (bO 0,bD) 3).2):=by rw[<-Vo,<-hA]
 have e2:ff 0 (bO 1,bD) 3=(kW,(ff 0 (bO 1,bD) 3).2):=by rw[<-Vn,<-hB]
 rw[<-e1,<-e2];rfl
theorem AT(id j:Int)(hj:0<=j/\j<4):(ff j (bO id,bD) 3).2.cut=false:=(iR id j hj).2.2.2.2
theorem NP:dC 0 3 (pg 2 2):=(mL.start (n:=2) ai).B
theorem Vm:dC 1 4 (cW (oH,qn De (ff 1 (bO 0,bD) 3).2 0) (kW,(ff 0 (bO 1,bD) 3).2) []):=by
 have h0:=NP;rw[BP]at h0;have hx:=h0.hs 0 (I5,(ff 1 (bO 0,bD) 3).2) rfl;have iy:∀y∈I5.aA,y.aO.length+y.bf.length<=600:=fun y hy=>by
  have :y=uE:=List.eq_of_mem_replicate (n:=5) hy;subst this;decide
 have h1:=hx.put 0 kS 5 QM iy;rw[w8.2]at h1;have h2:=h1.cm ai (u:=0) ai;dsimp only at h2;rw[show((0:Nat):Int)=0 from rfl,(I4 (AT 0 1 ai)).2]at h2;exact(h0.mono (aV 1) (by decide:3<=4)).set (k:=0) h2
end WB
namespace Go.Proofs.YtjhogocabcdjbabGreatDoor
open Tryz
open Go Go.RowKit WB
theorem Pt(w0:World)(L:List HP)(a:Int)(hT:o0 w0)(hM:o2 w0):
 KC prog 22 #[.int .i64 a] w0 L (fun u M=> ∃c:Nat×Nat×zB,c.2.2.2.2=none/\u=bp c.1/\M=lP c.1 c.2.1 (Pw (2+(pk a 3).toNat))::kZ c.2.1 c.2.2 (Pw (2+(pk a 3).toNat)).W::L):=by
 have X7:=jj a (n:=3) ai;obtain⟨m,hm,hm3⟩:∃m:Nat,pk a 3=(m:Nat)/\m<3:=⟨(pk a 3).toNat,by omega,by omega⟩;rw[show(pk a 3).toNat=m by omega];obtain⟨n,pA,hn⟩:∃n:Nat,n=2+m/\2<=n/\n<=4:=⟨2+m,rfl,by omega,by omega⟩;rw[<-pA];refine KC.mk (n:=65) func22 rfl ntmps22 aj ?_;refine oX ?_;refine KO.ce (cp:=[]) rfl rfl rfl call13 rfl (mD w0 _ a 3 ai ai) ?_;rintro v' L' ⟨rfl,hLL⟩;rw[hm,hLL];clear hLL;refine KO.add rfl rfl rfl ae rfl ?_;rw[show(2:Int)+(m:Nat)=(n:Nat)by rw[pA];push_cast;rfl];refine KO.mkm (Value.int .i64) rfl rfl (fun O5=>?_);refine KO.mkm (Value.int .i64) rfl rfl (fun I8=>?_);refine KO.wh (pl:=[(0,1),(1,1),(2,1),(3,20),(23,20),(43,1),(44,1)]) rfl zeroValue62 runUnderlying62 (by intro w;simp[sizeOf3,sizeOf4,sizeOf55,sizeOf56,sizeOf58,sizeOf59,sizeOf60]) aP rfl ?_;refine KO.box rfl rfl aP rfl ?_;intro NZ;refine kE ?_;refine K.conv (L':=bI NZ (.cells (Value.pointer none::(qJ 0 ⟨List.replicate 20 dn,List.replicate 20 dn,[],O5,I8⟩ n).tail).toArray 62 (0,0))::bV (Value.int .i64) O5 []::bV (Value.int .i64) I8 []::L) (fun w h=>h.all Y7) ?_
 refine kX ?_;refine Wc ?_;refine s7 ?_;refine KO.cl (cp:=[]) rfl rfl rfl call42 rfl (Ly w0 _ n hT hM ae) ?_;rintro v' L' ⟨⟨bw,hd⟩,hN,rfl,rfl⟩;dsimp only at hN ⊢;refine Fs ?_;refine KO.yX rfl underlying55 rfl ?_;refine qv ?_;refine rT ?_;refine nD ?_;refine VH ?_;refine KO.fX (b:=NZ) (i:=0) rfl rfl rfl aP (by exact sizeOf55) rfl bn rfl aj ?_;refine Z0 ?_;refine K.conv (L':=kZ bw hd (pg n 0)::bI NZ (.cells (qJ bw ⟨List.replicate 20 dn,List.replicate 20 dn,[],O5,I8⟩ n).toArray 62 (0,0))::bV (Value.int .i64) O5 []::bV (Value.int .i64) I8 []::L) (fun w h=>by rw[Dt];exact h.all Y7) ?_
 refine dM ?_;refine Z7 ?_;refine Lr ?_;refine K.loop (fun k:Nat=>[(3,bp NZ),(4,bp bw),(6,.int .i64 (k:Nat))]) (fun k=>kZ bw hd (pg n k)::bI NZ (.cells (qJ bw ⟨List.replicate 20 dn,List.replicate 20 dn,[],O5,I8⟩ n).toArray 62 (0,0))::bV (Value.int .i64) O5 []::bV (Value.int .i64) I8 []::L) (fun k=>k<=n) (fun k=>n-k) 0 (aV _) ⟨rfl,rfl,rfl,trivial⟩ (fun _ h=>h) ?_;intro k hk;refine jB ?_;refine Hw ?_;refine zL ?_;refine rQ ?_;refine K.br rfl (fun h7=>?_) (fun h7=>?_)
 ·have pb:k<n:=by omega
  have hln:=iZ n k;refine K.cq (fun _ h=>dE h) ?_;rintro⟨⟨hv,dv,wv,ps⟩,hV,e8,e9⟩;dsimp only at hV e8 e9 ⊢;obtain⟨p,hp⟩:∃e,ps[k]? =some e:=⟨_,ao (show k<ps.length by omega)⟩;have hx:(pg n k).hs[k]? =some (bO (k:Int),bD):=by rw[xv pb,if_neg (Nat.lt_irrefl k)]
  refine K5 ?_;refine iX ?_;refine KO.ce (cp:=[]) rfl rfl rfl call26 rfl (mP w0 _ bw ⟨hv,dv,wv,ps⟩ (pg n k) k p hV hp) ?_;rintro v' L' ⟨rfl,rfl⟩;refine Fs ?_;refine KO.yX rfl underlying29 rfl ?_;refine Ak ?_;refine KU ?_;refine kr ?_;refine qu ?_;refine Wc ?_;refine qu ?_;refine zL ?_;refine KO.on rfl rfl (by rfl) ?_;refine KO.cl (cp:=[]) rfl rfl rfl call12 rfl (KC.lW (φ:=fun u=>u=.bool true) (y:=(ff (((k:Int)+1)%(n:Nat)) (bO (k:Int),bD) 3)) hp hx bn (fun L=>KC.hd (y:=(ff (((k:Int)+1)%(n:Nat)) (bO (k:Int),bD) 3)) (Iw w0 L p.1 p.2 (k:Int) (k:Int) (n:Nat) hT hM ae ae ae))) ?_;rintro v' L' ⟨rfl,rfl⟩;refine uL ?_;refine Hj ?_;refine RR ?_;refine K.conv (fun w hw=>dm (hd:=hd) (W:=(pg n k).cy k (ff (((k:Int)+1)%(n:Nat)) (bO (k:Int),bD) 3)) ⟨hv,dv,wv,ps⟩ (by rw[gF];exact hV) (hw.all (M:=oz bw ⟨hv,dv,wv,ps⟩ ((pg n k).cy k (ff (((k:Int)+1)%(n:Nat)) (bO (k:Int),bD) 3)) (bI NZ (.cells (qJ bw ⟨List.replicate 20 dn,List.replicate 20 dn,[],O5,I8⟩ n).toArray 62 (0,0))::bV (Value.int .i64) O5 []::bV (Value.int .i64) I8 []::L)) Y7) e8 e9) ?_
  rw[Du pb];refine CV ?_;refine KQ.round (k+1) ae ae ⟨rfl,rfl,rfl,trivial⟩ (fun w' aT=>aT)
 ·obtain rfl:k=n:=by omega
  refine wo ?_;refine iW ?_;refine KQ.bB rfl rfl (fun w' aT=>⟨_,_,rfl,⟨(NZ,bw,hd),hN,rfl,rfl⟩,?_⟩);dsimp only;have h1:=pG (f:=Au) (p:=dn) (x:=[]) (fun L h=>cD h) 20 (pG (f:=iw) (p:=dn) (x:=[]) (fun L h=>cD h) 20 aT);have h2:St w0 (bZ iw ([]:List Value) []::_) w':=uu (f:=iw) (ps:=[]) (xs:=[]) h1;exact fG ⟨List.replicate 20 dn,List.replicate 20 dn,[],O5,I8⟩ ⟨rfl,rfl,rfl⟩ (h2.all Y7)
theorem KD(w0:World)(L:List HP)(hT:o0 w0)(hM:o2 w0):KC prog 21 #[] w0 L (fun u M=>u=.bool true/\M=L):=by
 refine KC.mk (n:=104) func21 rfl ntmps21 aj ?_;refine Z3 ?_;refine lZ ?_;refine KO.cl (cp:=[]) rfl rfl rfl call42 rfl (Ly w0 L 2 hT hM ai) ?_;rintro v' L' ⟨⟨bw,hd⟩,hN,rfl,rfl⟩;dsimp only at hN ⊢;rw[<-Dt];refine Fs ?_;refine KO.yX rfl underlying55 rfl ?_;refine qv ?_;refine rT ?_;refine dM ?_;refine Z7 ?_;refine Lr ?_;refine K.loop (fun k:Nat=>[(1,bp bw),(3,.int .i64 (k:Nat))]) (fun k=>kZ bw hd (pg 2 k)::L) (fun k=>k<=2) (fun k=>2-k) 0 (aV _) ⟨rfl,rfl,trivial⟩ (fun _ h=>h) ?_;intro k hk;refine jB ?_;refine rQ ?_;refine K.br rfl (fun h7=>?_) (fun h7=>?_)
 ·have pb:k<2:=by omega
  have hln:=iZ 2 k;refine K.cq (fun _ h=>dE h) ?_;rintro⟨⟨hv,dv,wv,ps⟩,hV,e8,e9⟩;dsimp only at hV e8 e9 ⊢;obtain⟨p,hp⟩:∃e,ps[k]? =some e:=⟨_,ao (show k<ps.length by omega)⟩;have hx:(pg 2 k).hs[k]? =some (bO (k:Int),bD):=by rw[xv pb,if_neg (Nat.lt_irrefl k)]
  refine K5 ?_;refine iX ?_;refine KO.ce (cp:=[]) rfl rfl rfl call26 rfl (mP w0 _ bw ⟨hv,dv,wv,ps⟩ (pg 2 k) k p hV hp) ?_;rintro v' L' ⟨rfl,rfl⟩;refine Fs ?_;refine KO.yX rfl underlying29 rfl ?_;refine Ak ?_;refine Z1 ?_;refine KO.on rfl rfl (by rfl) ?_;refine KO.cl (cp:=[]) rfl rfl rfl call12 rfl (KC.lW (φ:=fun u=>u=.bool true) (y:=(ff (((k:Int)+1)%(2:Nat)) (bO (k:Int),bD) 3)) hp hx bn (fun L=>KC.hd (y:=(ff (((k:Int)+1)%(2:Nat)) (bO (k:Int),bD) 3)) (Iw w0 L p.1 p.2 (k:Int) (k:Int) (2:Nat) hT hM ae ae ai))) ?_;rintro v' L' ⟨rfl,rfl⟩;refine uL ?_;refine Hj ?_;refine RR ?_;refine K.conv (fun w hw=>dm (hd:=hd) (W:=(pg 2 k).cy k (ff (((k:Int)+1)%(2:Nat)) (bO (k:Int),bD) 3)) ⟨hv,dv,wv,ps⟩ (by rw[gF];exact hV) (hw.all (M:=oz bw ⟨hv,dv,wv,ps⟩ ((pg 2 k).cy k (ff (((k:Int)+1)%(2:Nat)) (bO (k:Int),bD) 3)) L) Y7) e8 e9) ?_
  rw[Du pb];refine CV ?_;refine KQ.round (k+1) ae ae ⟨rfl,rfl,trivial⟩ (fun w' aT=>aT)
 obtain rfl:k=2:=by omega
 rw[BP];refine K.cq (fun _ h=>dE h) ?_;rintro⟨⟨hv,dv,wv,ps⟩,hV,e8,e9⟩;dsimp only at hV e8 e9 ⊢
 match ps,hV,e9 with
 |[p0,p1],hV,e9=>
 have hcut:=AT 0 1 ai;have Ys:=I4 hcut;have w5:=Vm;obtain⟨D2,E2,SU⟩:=NO (qn De (ff 1 (bO 0,bD) 3).2 0) (ff 0 (bO 1,bD) 3).2;have Q6:dC 1 10004 (calm 1 (cW (oH,qn De (ff 1 (bO 0,bD) 3).2 0) (kW,(ff 0 (bO 1,bD) 3).2) [])):=by rw[zd];exact w5.y9 ai
 rw[SU]at Q6;have hBA:=(Q6.hs 0 (E_,D2) rfl).B;have hBB:=(Q6.hs 1 (w9,E2) rfl).B;have Db:=NP;rw[BP]at Db;have hx0:=Db.hs 0 (I5,(ff 1 (bO 0,bD) 3).2) rfl;have iy:∀y∈I5.aA,y.aO.length<=600:=fun y hy=>by
  have :y=uE:=List.eq_of_mem_replicate (n:=5) hy;subst this;decide
 have wY:=hx0.put 0 kS 5 QM (fun y hy=>by
  have :y=uE:=List.eq_of_mem_replicate (n:=5) hy
  subst this;decide)
 rw[w8.2]at wY;have hle: -((3:Nat):Int)<=(ff 1 (bO 0,bD) 3).2.left/\(ff 1 (bO 0,bD) 3).2.left<=9223372036854775807:=wY.left;refine wo ?_;refine KO.ce (cp:=[]) rfl rfl rfl call26 rfl (mP w0 _ bw ⟨hv,dv,wv,[p0,p1]⟩ _ 0 p0 hV rfl) ?_;rintro v' L' ⟨rfl,rfl⟩;refine jR ?_;refine KO.ce (cp:=[]) rfl rfl rfl call26 rfl (mP w0 _ bw ⟨hv,dv,wv,[p0,p1]⟩ _ 1 p1 hV rfl) ?_;rintro v' L' ⟨rfl,rfl⟩;refine jR ?_;refine KO.cl (cp:=[]) rfl rfl rfl call14 rfl (KC.lW (f:=vn) (ps:=[p0,p1]) (p:=p0) (x:=(I5,(ff 1 (bO 0,bD) 3).2)) (i:=0) (y:=(gv I5 0 kS 5 QM,(ff 1 (bO 0,bD) 3).2)) (φ:=fun v=>v=.tuple #[.int .i64 (sl I5 0 kS 5 QM),cI 70 (gY I5 0 kS 5 QM)]) rfl rfl bn (fun L=>KC.Yr (fun L=>MY w0 L p0.1 p0.2 75420 I5 0 kS 5 QM (hx0.B.le ai) ae ai ai (fun z hz=>by have :=iy z hz;omega)))) ?_;rintro v' L' ⟨rfl,rfl⟩;rw[w8.1,w8.2];refine jR ?_;refine CP ?_;refine zl ?_
 refine KO.on rfl rfl (by rfl) ?_;refine KO.cl (cp:=[]) rfl rfl rfl call16 rfl (KC.lW (f:=vn) (ps:=[p0,p1]) (p:=p0) (x:=(De,(ff 1 (bO 0,bD) 3).2)) (i:=0) (y:=(oU De (ff 1 (bO 0,bD) 3).2 0,qn De (ff 1 (bO 0,bD) 3).2 0)) (φ:=fun v=>v=cI 70 (vA De (ff 1 (bO 0,bD) 3).2 0)) rfl rfl bQ (fun L=>KC.hd (y:=(oU De (ff 1 (bO 0,bD) 3).2 0,qn De (ff 1 (bO 0,bD) 3).2 0)) (Bb w0 L p0.1 p0.2 75420 De (ff 1 (bO 0,bD) 3).2 0 hT hM (wY.B.le ai) ae (fun z hz=>(wY.aA z hz).1) wY.len ⟨by omega,by omega⟩))) ?_;rintro v' L' ⟨rfl,rfl⟩;rw[Ys.1,Ys.2];refine qu ?_;refine CP ?_;refine qv ?_;refine Hj ?_;refine K.conv (fun w hw=>dm (hd:=(hv,dv,some [p0,p1])) (W:=cW (oH,qn De (ff 1 (bO 0,bD) 3).2 0) (kW,(ff 0 (bO 1,bD) 3).2) []) ⟨hv,dv,wv,[p0,p1]⟩ rfl (hw.all (M:=oz bw ⟨hv,dv,wv,[p0,p1]⟩ (cW (oH,qn De (ff 1 (bO 0,bD) 3).2 0) (kW,(ff 0 (bO 1,bD) 3).2) []) L) Y7) rfl ⟨rfl,fun l hl=>by cases hl;rfl⟩) ?_
 have sK:∀k,((cW (oH,qn De (ff 1 (bO 0,bD) 3).2 0) (kW,(ff 0 (bO 1,bD) 3).2) []).H k).down=false:=fun k=>by
  match k with
  |0=>rfl
  |1=>rfl
  |k+2=>rfl
 refine wq ?_;refine KO.cl (cp:=[]) rfl rfl rfl call25 rfl (KC.oN bQ (Ic w0 _ bw 1 4 1 _ _ (.inr ⟨rfl,sK⟩) hT hM w5 ai ai ai)) ?_;rintro v' L' ⟨rfl,rfl⟩;rw[SU];refine Z0 ?_;refine K.cq (fun _ h=>dE h) ?_;rintro⟨⟨lM,W4,Se,C9⟩,O0,e8',e9'⟩;dsimp only at O0 e8' e9' ⊢;obtain rfl:C9=[p0,p1]:=e9'.2 _ rfl;refine K.conv (fun w hw=>dj (f:=vn) (ps:=[p0,p1]) (xs:=(cW (E_,D2) (w9,E2) []).hs) (i:=1) (p:=p1) (x:=(w9,E2)) rfl rfl (hw.pick (A:=bZ vn [p0,p1] (cW (E_,D2) (w9,E2) []).hs) bn)) ?_
 refine K.conv (fun w hw=>hw.split) ?_
 refine Z8 ?_;refine KO.cl (cp:=[]) rfl rfl rfl call28 rfl (KC.oN (A:=dy p1.1 p1.2 w9) bQ (MU w0 _ p1.1 p1.2 79000 w9 gU (hBB.le (show 300+1+250*4<=79000 by decide)) ae)) ?_;rintro v' L' ⟨vl,rfl,rfl⟩;rw[BA.1,BA.2];refine pQ ?_;refine K.conv (fun w hw=>dj (f:=vn) (ps:=[p0,p1].eraseIdx 1) (xs:=(cW (E_,D2) (w9,E2) []).hs.eraseIdx 1) (i:=0) (p:=p0) (x:=(E_,D2)) rfl rfl (hw.pick (A:=bZ vn ([p0,p1].eraseIdx 1) ((cW (E_,D2) (w9,E2) []).hs.eraseIdx 1)) bn)) ?_
 refine K.conv (fun w hw=>hw.split) ?_
 have oF:Ap E_ 1=0:=by decide+kernel
 have tg:fQ E_ 1=[]:=by kernel_rfl
 refine Z8 ?_;refine KO.cl (cp:=[]) rfl rfl rfl call27 rfl (KC.oN (A:=dy p0.1 p0.2 E_) bQ (Ev w0 _ p0.1 p0.2 79000 E_ 1 (hBA.le (show 300+1+250*6<=79000 by decide)) ae)) ?_;rintro v' L' ⟨vw,rfl,rfl⟩;rw[oF,tg];refine pQ ?_;refine K.fact (fun _ hs=>aU (hs.pick (A:=SL 44 5 dh vl [qD]) bn)) ?_;rintro⟨a1,c1,rfl,qP⟩;obtain⟨g1,rfl⟩:=qP ai;refine K.fact (fun _ hs=>aU (hs.pick (A:=SL 44 5 dh vw []) bQ)) ?_;rintro⟨a2,c2,rfl,-⟩;refine Z8 ?_;refine KO.W3 rfl bC rfl ?_;refine KU ?_;refine KO.W3 rfl bC rfl ?_;refine wj ?_;refine zl ?_;refine KO.on rfl rfl (by rfl) ?_;refine KO.len rfl underlying49 rfl ?_;refine Ah ?_;refine wj ?_;refine zl ?_;refine KO.on rfl rfl (by rfl) ?_;refine KO.eF (i:=0) rfl rfl runUnderlying49 sizeOf44 rfl ai rfl ?_;refine qu ?_;refine K0 ?_;refine KO.on rfl rfl (by rfl) ?_;refine KO.ldE (i:=0) (j:=2) (sz:=5) (cf:=dh) (xs:=[qD]) (e:=qD) rfl rfl isAgg9 bn (fun _=>rfl) rfl aP aP rfl ?_;refine qu ?_;refine zo ?_;refine wj ?_;refine zl ?_;refine KO.on rfl rfl (by rfl) ?_;refine KO.len rfl underlying49 rfl ?_;refine Ah ?_;refine wj ?_;refine iW ?_;refine KQ.bB rfl rfl (fun w' aT=>⟨_,_,rfl,⟨rfl,rfl⟩,?_⟩);exact aT.all (by repeat(first|exact iB.refl|apply iB.drop))
end Go.Proofs.YtjhogocabcdjbabGreatDoor
namespace WB
open Go
theorem Ax(S:pc)(k u:Nat)(q:ak):(xD S k u q).ks=S.ks/\(xD S k u q).Ls=S.Ls:=by
 unfold xD;dsimp only;split<;>exact⟨rfl,rfl⟩
theorem JK{c kb:Nat}{S:pc}(h:mL c kb S)(hc:c<=200)(hO:nG (1000*c) S.ks S.Ls)(x:Ia):nG (1000*(c+1)) (kt S x).ks (kt S x).Ls:=by
 have hm:∀{ks Ls},nG (1000*c) ks Ls->nG (1000*(c+1)) ks Ls:=fun h=>h.mono ae
 have hk:o5 S x<S.n:=by
  unfold o5;have :=jj x.k (n:=(S.n:Int)) (by have :=h.n2;omega);omega
 have hu:Ik x<5:=by
  unfold Ik;have :=jj x.unit (n:=5) ae;omega
 unfold kt;split
 ·unfold DF;dsimp only;split<;>exact hm hO
 split
 ·rw[(Ax S _ _ _).1,(Ax S _ _ _).2];exact hm hO
 split
 ·unfold DG;dsimp only;split
  ·unfold tC;dsimp only;have hl:(S.P.getD (ix (o5 S x) (Ik x)) []).length<=200:=by
    have h1:=h.P.2 (o5 S x) (Ik x) (by have :=h.n2;omega) hu;rw[aq,h1,Option.getD_some,aW];obtain⟨y,hy,e1,-,hb,-,-⟩:=h.at hk;have h2:=h.um (o5 S x) ((S.W.H (o5 S x)).fa (Ik x)) (by rw[e1];exact ax (fW hb.B hu));omega
   exact(nG.ovs (k:=o5 S x) _ (s:=⟨S.T,S.ks,S.Ls⟩) hO).mono ae
  ·exact hm hO
 split
 ·unfold LQ;dsimp only;split<;>exact hm hO
 split
 ·exact hm hO
 split
 ·exact hm hO
 split
 ·exact hm hO
 split
 ·exact hm hO
 split
 ·exact hm hO
 split
 ·exact hm hO
 split
 ·unfold tD;obtain⟨P,G,e,-⟩:=sc (List.range S.n) S h.P.1 h.G.1 fun k hk=>by have :=aZ.1 hk;have :=h.n2;omega
  rw[e];exact hm hO
 ·exact hm hO
def tS (n:Nat) (xs:List Ia) (k:Nat):pc:=(xs.take k).foldl kt (Pw n)
theorem wK{n:Nat}{xs:List Ia}{k:Nat}{x:Ia}(hx:xs[k]? =some x):tS n xs (k+1)=kt (tS n xs k) x:=by
 unfold tS;rw[bG hx,List.foldl_append];rfl
theorem LR{n:Nat}(hn:2<=n/\n<=4)(xs:List Ia):∀k,k<=xs.length->k<=110->mL k (3+10000*k) (tS n xs k)/\nG (1000*k) (tS n xs k).ks (tS n xs k).Ls
 |0,_,_=>⟨mL.start hn,⟨rfl,fun l hl=>by cases hl⟩⟩
 |k+1,h1,h2=>by
  obtain⟨a,b⟩:=LR hn xs k ae ae;have hx:xs[k]? =some xs[k]:=ao ae;rw[wK hx];exact⟨(a.adB ae ae _).mono (aF _) ae,JK a ae b _⟩
end WB
namespace Go.Proofs.YtjhogocabcdjbabGreatDoor
open Tryz
open Go Go.RowKit WB
theorem Pd(w0:World)(L:List HP)(vl:Value)(a:Int)(xs:List Ia)(sN:∀w,St w0 L w->vE w 5 nB vl xs)(hT:o0 w0)(hM:o2 w0)(hQ:Wh w0):
 KE prog 4 #[.int .i64 a,vl] w0 L (fun u M=>u=.bool true/\M=L):=by
 refine KE.mk (n:=38) func4 rfl ntmps4 aj ?_;intro w hw;have UW:o0 w:=hT.ext (Ext.bW hw.below);have U0:o2 w:=hM.ext (Ext.bW hw.below);have hQw:Wh w:=hQ.ext (Ext.bW hw.below);obtain⟨sa,cap,rfl,hc⟩:=sN w hw;have fin:∀(w':World) (M:List HP),St w M w'->∃v L',Ending.returned (.bool true)=Ending.returned v/\(v=.bool true/\L'=L)/\St w0 L' w'/\Below w.heap.size w w':=fun w' M hs=>⟨_,_,rfl,⟨rfl,rfl⟩,hw.aC hs.below,hs.below⟩
 have X7:=jj a (n:=3) ai;refine zm ?_;by_cases wY:(xs.length:Int)>110
 ·refine Z8 ?_;refine KO.len rfl underlying22 rfl ?_;refine uP ?_;refine Z2 ?_;refine K.cL rfl (by simpa using wY) ?_;refine zu ?_;refine KQ.bB rfl rfl (fun w' hs=>fin w' _ hs)
 refine Z8 ?_;refine KO.len rfl underlying22 rfl ?_;refine uP ?_;refine Z2 ?_;refine K.da rfl (by simpa using wY) ?_;refine wx ?_;refine KO.cl (cp:=[]) rfl rfl rfl call21 rfl (KD w _ UW U0) ?_;rintro v' L' ⟨rfl,rfl⟩;refine Fm ?_;refine Z8 ?_;refine KO.cl (cp:=[]) rfl rfl rfl call22 rfl (Pt w _ a UW U0) ?_;rintro v' L' ⟨⟨bt,bw,hd⟩,hN,rfl,rfl⟩;dsimp only at hN ⊢;refine kE ?_;obtain⟨n,hn,vX⟩:∃n:Nat,2+(pk a 3).toNat=n/\2<=n/\n<=4:=⟨_,rfl,by omega,by omega⟩;rw[hn];refine Z8 ?_;refine KO.yX rfl underlying52 rfl ?_;refine rT ?_;refine dM ?_;refine Z7 ?_;refine Lr ?_;refine K.loop (fun k:Nat=>[(0,.int .i64 a),(1,.slice sa xs.length cap),(5,bp bt),(6,.int .i64 (k:Nat))]) (fun k=>[lP bt bw (tS n xs k),kZ bw hd (tS n xs k).W]) (fun k=>k<=xs.length) (fun k=>xs.length-k) 0 (aV _) ⟨rfl,rfl,rfl,rfl,trivial⟩ (fun w' aT=>aT.all nI) ?_;intro k hk;obtain⟨hTa,hO⟩:=LR vX xs k hk ae;refine rR ?_;refine KO.len rfl underlying22 rfl ?_;refine rQ ?_;refine K.br rfl (fun h1=>?_) (fun h1=>?_)
 ·have oG:k<xs.length:=by omega
  obtain⟨x,hx⟩:∃e,xs[k]? =some e:=⟨xs[k],ao oG⟩;obtain⟨ad,rfl,h_⟩:=hc k x hx;obtain⟨UY,-⟩:=LR vX xs (k+1) ae ae;rw[wK hx]at UY;refine sZ ?_;refine lK ?_;refine KO.Gu rfl rfl runUnderlying22 sizeOf38 aP ae rfl ?_;refine KO.JX (cs:=(nB x).toArray) rfl rfl isAgg38 sizeOf38 rfl h_ rfl ?_;refine KO.cl (cp:=[]) rfl rfl rfl call23 rfl (Pu w _ bt bw k (3+10000*k) hd hN (tS n xs k) x UW U0 hQw hTa hO ae ae) ?_;rintro v' L' ⟨rfl,rfl⟩;rw[<-wK hx];refine Z0 ?_;rw[<-wK hx]at UY;refine K.cq (fun _ h=>jF h) ?_;rintro⟨⟨us,vs,os,mT,mO⟩,hV⟩;dsimp only;have acS:=Tx (bw:=bw) (n:=(tS n xs (k+1)).n) (V:=⟨us,vs,os,mT,mO⟩) hV.us hV.vs;refine kX ?_;refine KO.fw (off:=44) rfl runUnderlying62 rfl rfl sizeOf4 rfl ?_;refine KO.db (i:=44) rfl rfl isAgg4 bQ rfl acS rfl ?_;refine oV ?_;refine zl ?_;refine KO.on rfl rfl (by rfl) ?_;refine KO.conv (fun w hw=>fG ⟨us,vs,os,mT,mO⟩ hV hw) ?_;refine KO.cl (cp:=[]) rfl rfl rfl call24 rfl (Pp w _ bt bw (k+1) (3+10000*(k+1)) hd (tS n xs (k+1)) UY ae (TU w)) ?_;rintro v' L' ⟨rfl,rfl⟩
  refine uL ?_;refine Hj ?_;refine RR ?_;refine CV ?_;refine KQ.round (k+1) ae ae ⟨rfl,rfl,rfl,rfl,trivial⟩ (fun _ aT=>aT.all nI)
 ·refine Hv ?_;refine KQ.bB rfl rfl (fun w' hs=>fin w' _ hs)
end Go.Proofs.YtjhogocabcdjbabGreatDoor
namespace WB
open Go Go.RowKit Go.Lib Go.ChangeShapes
theorem Aa{H:Type}{enc:TypeId×Value->H}{P:Program}{w:World}{base:Nat}{sp:Nat->Bool}{held:Bool}{fuel:Nat}{t e:TypeId}{n:Nat}{cs:List Value}{zs:List ak}{p:List MemPlace}(ht:P.underlying t=some (.array n e))(he:P.underlying e=some .string)(hce:P.cellsOf e=1)(Nh:P.cellsOf t=n)(h:DataW.trod enc P w base sp held fuel t cs=some (.agg (zs.map fun z=>.lit (.string z.data.toList)),p)):cs=zs.map Value.string:=by
 cases fuel with
 |zero=>simp[DataW.trod]at h
 |succ fuel=>
  simp only[DataW.trod,ht,hce,Nh,Nat.mul_one]at h;split at h
  ·rename_i hl;obtain⟨xs,hm,hx⟩:=Option.map_eq_some_iff.1 h;have rY:xs.map (·.1)=zs.map fun z=>(DataW.lit (.string z.data.toList):DataW H):=by
    have :=congrArg Prod.fst hx;simpa using this
   have rZ:xs.length=n:=by simpa using mapM_length hm
   have J6:zs.length=n:=by
    have :=congrArg List.length rY;simp at this;omega
   apply List.ext_getElem?;intro i;by_cases hi:i<n
   ·obtain⟨b,hb,hf⟩:=mapM_at hm i i (by simp[hi]);obtain⟨z,hc,rfl,_⟩:=DataW.trod_string he hf;have h1:cs[i]? =some (.string z):=by
     have :=congrArg (·[0]?) hc
     simpa[List.getElem?_take,List.getElem?_drop]using this
    have h2:(xs.map (·.1))[i]? =some (DataW.lit (.string z.data.toList):DataW H):=by simp[hb]
    rw[rY]at h2;simp only[aG,Option.map_eq_some_iff,DataW.lit.injEq,Lit.string.injEq]at h2;obtain⟨z',hz',h3⟩:=h2;have h4:z'=z:=by
     obtain⟨⟨a⟩⟩:=z';obtain⟨⟨b⟩⟩:=z;dsimp only at h3;rw[h3]
    rw[h1,aG,hz',h4];rfl
   ·rw[bH ae,bH fx]
  ·cases h
theorem BU{P:Program}{W:World}{name:String}{zs:List ak}{l:List (String×DataW Unit)}{g:Nat}{t e:TypeId}{n:Nat}(h:laidMet P l W)(hm:(name,(.agg (zs.map fun z=>.lit (.string z.data.toList)):DataW Unit))∈l)(hg:P.globalNamed name=some g)(XU:(P.globals[g]?).map (·.type)=some t)(ht:P.underlying t=some (.array n e))(he:P.underlying e=some .string)(hce:P.cellsOf e=1)(Nh:P.cellsOf t=n):
 ∀k z,zs[k]? =some z->W.cell? ⟨g,k,none⟩=some (.string z):=by
 obtain⟨ps,hv,_⟩:=h;obtain⟨g',t',cs,fuel,p,h1,h2,h3,h4⟩:=oa hv _ hm;obtain rfl:=Option.some.inj (hg.symm.trans h1);obtain rfl:=Option.some.inj (XU.symm.trans h2);have h5:=Aa ht he hce Nh h4;intro k z hz;have h6:=World.var?_cell hg h3 k;rw[h6];have :cs.toList[k]? =some (.string z):=by rw[h5,aG,hz];rfl
 simpa using this
open Go
theorem sF{a:Assume}{C:Checked}{os:Os}{f:FuncId}{r:Reach}{Pre:World->Array Value->Prop}{aah:World->Array Value->Value->World->Prop}(h:ReturnsInHanded a C os f r Pre aah):ReturnsInLeavingWide a C os f r Pre aah:=fun enter=>by
 obtain⟨h1,h2,h3,h4,h5⟩:=h enter;refine⟨h1,h2,h3,h4,fun w tape i hf=>?_⟩;obtain⟨n,v,w',k1,k2,k3,k4,⟨j,last,k5,k6,k7⟩,k8⟩:=h5 w tape i hf;exact⟨n,v,w',k1,k2,k3,k4,⟨j,last,k5,k6,k7.2.1,onlyLeaving_of_quiet k7.1,k7.2.2⟩,k8⟩
theorem vW(Lk:Looks){p:Pinned}{s:OpenSpec}{c:OpenClaim}(kinds:List LaidKind)(tests:Bool)(GU:Bool×String)(lk:Bool)(hc:c.holds p s)(hw:c.wfByText s=true)(abU:c.laidByTextAt Lk p kinds tests)(kj:c.start=.entering)(hnb:c.noBlocks=false/\c.again=false)(hm:p.checked.prog.mainIs=some (GU.1,GU.2.toList))(hn:(!GU.1&&GU.2.isEmpty&& !lk)=false)(hl:∀f fn,p.checked.prog.funcNamed c.func=some f->p.checked.prog.funcs[f]? =some fn->lk=p.checked.prog.looks []/\∀(j:Nat) t,fn.params[j]? =some t->p.checked.prog.wantsStandIn t=false)(hg:true=c.goesBy p.checked.prog):
 Claim7.holds p (.plain s) {stood:={row:=c,standIns:=[],harness:=GU,looks:=lk},kinds:=[],alts:=[],goes:=true,laidByText:=true,laidKinds:=kinds,laidTests:=tests,laidLooks:=Lk}:=by
 have h6:Claim7.isSixth {stood:={row:=c,standIns:=[],harness:=GU,looks:=lk},kinds:=[]}=false:=by simpa[Claim7.isSixth]using hn
 exact⟨Claim7.tied_new_at Lk kinds tests (Claim7.new_of_sixth hc GU lk kj hnb hm h6 hl) hw,(fun D hD=>by cases hD),abU,(fun h=>by cases h),hg⟩
theorem Q9{P:Program}{c:OpenClaim}{f:FuncId}(hf:P.funcNamed c.func=some f)(hu:P.unfollowed f=true)(hg:P.funcs.any Func.goes=true):true=c.goesBy P:=by
 unfold OpenClaim.goesBy Program.goesAt Program.goesFrom;rw[hf];simp[Program.goes,hu,hg]
theorem JZ{P:Program}{f:FuncId}{fn:Func}{s:ChangeSpec}{c:OpenClaim}(a1:(c.wf (OpenSpec.ofChange s)&&laidOutB P&&mapsRowed P)=true)(a2:(fn.params.all (P.readableRec ·)&&namedTie P c.named s.vars&&(c.stops==[])&&(P.stops==[])&&(c.knobs==[])&&(P.stopKnobs==[]))=true)(a3:(c.inPlace==P.inPlace f)=true)(a4:(c.unfollowed==P.unfollowed f)=true)(a5:(c.recurses==P.recurses f)=true)(a6:(c.named==P.varsNamed f)=true)(a7:((c.maps==(fn.params.toList++s.plain.varTypes P).any (P.mapsRec ·))&&(c.ifaces==(fn.params.toList++s.plain.varTypes P).any (P.ifacesRec ·))&&(c.mapsOut==P.mapsAmong fn.resultTypes.toList)&&
  (c.loops==(fn.params.toList++s.plain.varTypes P).any (P.loopsFrom ·))&&(c.wideKeys==(fn.params.toList++s.plain.varTypes P++fn.resultTypes.toList).any (P.wideKeysFrom ·))&&
  s.vars.all (P.varReadable ·)&&fn.resultTypes.all (fun t=>P.readableRec t&&decide (t<P.types.size))&&(c.ifacesOut==fn.resultTypes.toList.any (P.ifacesRec ·))&&(c.loopsOut==fn.resultTypes.toList.any (P.loopsFrom ·))&&(c.plainKeys==P.plainKeys)&&c.shortTexts.isNone)=true)(a8:(P.stopsHeard&&P.mayEnter&&(c.lifted==P.liftsFinal)&&(P.make==some c.make))=true)(a9:((c.kinds==(if c.domain.isEmpty then[]else fn.params.toList.map fun t=>match P.underlying t with|some (.int k)=>some k|_=>none))&&(c.pinned==c.pinnedBy)&&
  (c.veiled==(fn.params.toList++s.plain.varTypes P++fn.resultTypes.toList).any (P.veiledRec ·))&&c.veiledFits P fn.params.toList (fn.params.toList++s.plain.varTypes P++fn.resultTypes.toList))=true):
 joinedFacts P f fn s c=true:=by
 unfold joinedFacts;simp only[a_]at a1 a2 a7 a8 a9 ⊢
 grind
end WB
