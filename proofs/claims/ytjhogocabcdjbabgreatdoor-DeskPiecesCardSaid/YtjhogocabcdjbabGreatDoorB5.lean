import Derived.Lib.TrimU
import Derived.Test.YtjhogocabcdjbabGreatDoorB4
set_option linter.unusedSimpArgs false
set_option linter.unusedVariables false
set_option maxRecDepth 100000
set_option maxHeartbeats 8000000
namespace Go.Proofs.YtjhogocabcdjbabGreatDoor
open Tryz
open Go Go.RowKit WB
theorem Uw(w0:World)(L:List HP)(v:Value)(xs:List Int)(x:Int)(hr:∀w,St w0 L w->oS w 1 cR v xs)(hlen:xs.length<1000000):
 KE prog 176 #[v,.int .i64 x] w0 L (fun v L'=>v=.int .i64 (ot (fun y=>decide (x=y)) xs)/\L'=L):=by
 refine KE.mk (n:=19) func176 rfl ntmps176 aj ?_;intro w hw;obtain⟨a,cap,rfl,hc⟩:=hr w hw;refine iG ?_;refine BR ?_;refine lf ?_;refine K.loop (fun k:Nat=>[(0,.slice a xs.length cap),(1,.int .i64 x),(7,.int .i64 (xs.length:Nat)),(8,.int .i64 (k:Nat))]) (fun _=>[]) (fun k=>k<=xs.length/\∀(j:Nat) (u:Int),j<k->xs[j]? =some u->(fun y=>decide (x=y)) u=false) (fun k=>xs.length-k) 0 ⟨by omega,fun j u h=>by omega⟩ ⟨rfl,rfl,rfl,rfl,trivial⟩ (fun _ h=>h) ?_;rintro k ⟨hk,og⟩;refine gZ ?_;refine K.bI rfl (fun h=>?_) (fun h=>?_)
 ·have dI:k<xs.length:=by omega
  obtain⟨e,he⟩:∃e,xs[k]? =some e:=⟨xs[k],ao dI⟩;obtain⟨ad,rfl,hh⟩:=hc k e he;have Zm:w.cell? (ad.add (k *1))=some (.int .i64 e):=by
   have :=hh 0 _ rfl
   rwa [Addr.add_add,Nat.add_zero]at this
  refine G5 ?_;refine jh ?_;refine KO.tA rfl rfl runUnderlying23 sizeOf3 aL ae rfl ?_;refine KO.pb rfl rfl isAgg3 Zm rfl ?_;refine sI ?_;refine K.bI rfl (fun h1=>?_) (fun h1=>?_)
  ·refine gU ?_;refine nD ?_;refine KQ.a_ rfl rfl (fun w' hs=>⟨_,_,rfl,⟨?_,rfl⟩,hw.aA hs.below,hs.below⟩);rw[sw he (p:=fun y=>decide (x=y)) WK og]
  ·refine rA ?_;refine KQ.round (k+1) ⟨by omega,fun j u hj hu=>?_⟩ ae ⟨rfl,rfl,rfl,rfl,trivial⟩ (fun _ h=>h);by_cases E5:j=k
   ·subst E5;rw[he]at hu;simp only[ay]at hu;rw[<-hu];simpa using h1
   ·exact og j u ae hu
 ·refine wx ?_;refine Ex ?_;refine KQ.a_ rfl rfl (fun w' hs=>⟨_,_,rfl,⟨?_,rfl⟩,hw.aA hs.below,hs.below⟩);rw[pY fun j u hu=>og j u Y17 hu]
theorem NN(w0:World)(L:List HP)(v:Value)(xs:List Int)(x:Int)(hr:∀w,St w0 L w->oS w 1 cR v xs)(hlen:xs.length<1000000):
 KE prog 92 #[v,.int .i64 x] w0 L (fun v L'=>v=.bool (decide (x∈xs))/\L'=L):=by
 refine KE.mk (n:=9) func92 rfl ntmps92 aj ?_;intro w hw;refine BI ?_;refine KO.ce (cp:=[]) rfl rfl rfl call176 rfl ((Uw w0 L v xs x hr hlen).jQ hw) ?_;rintro v L' ⟨rfl,rfl⟩;refine uh ?_;refine fK ?_;refine KQ.a_ rfl rfl (fun w' hs=>⟨_,_,rfl,⟨?_,rfl⟩,hw.aA hs.below,hs.below⟩);rw[sx];congr 1;rw[List.any_eq];simp
theorem Ni(w0:World)(L:List HP)(bh bd n:Nat)(H:Ho)(D:Dk)(k:Int)(hT:nI w0)(hM:oB w0)(hB:cE n H)(hn:n+1<=80000)(h3:D.places.length=300)(hd: -4000000000000000000<=D.left/\D.left<=9223372036854775807):
 KC prog 35 #[aZ bh,.int .i64 k] w0 (cW bh bd H::fa bd D::L) (fun u M=> ∃v,u=.tuple #[.int .i64 (K0 H D k),v,cz 70 (vt H D k)]/\M=SL 44 5 dN v (Bu H D k)::cW bh bd (ov H D k)::fa bd (wm H D k)::L):=by
 have hid:∀j,j<4->∀m∈eK (H.hF j),jG m.id:=fun j hj m hm=>by
  unfold eK at hm;obtain⟨e,he,rfl⟩:=aD.1 hm;have :=(hB.w hj).ids e (aI.1 he).1;exact⟨by omega,by omega⟩
 have hBb:cE (n+1) (ov H D k):=by
  unfold ov;split
  ·rename_i qe;have qB:bQ H k=true:=by
    unfold gA py at qe;cases hk:bQ H k with
    |true=>rfl
    |false=>rw[hk]at qe;simp at qe
   obtain⟨vf,tG,-⟩:=bT.1 qB;unfold oU;split
   ·exact(hB.log (D:=D)).HZ (mU ⟨vf,tG⟩ (by unfold dW;simp;omega) (fun x hx=>by
     obtain⟨m,hm,rfl⟩:=aD.1 hx
     exact hid _ ae m (List.mem_of_mem_take hm))) ae
   ·exact(hB.log (D:=D)).le ae
  ·exact hB.le ae
 have early:∀e:Int,e≠0->vt H D k=e->gA H k=false->∀w',St w0 (cW bh bd H::fa bd D::L) w'->∃v L',Ending.returned (.tuple #[.int .i64 0,.slice none 0 0,cz 70 e])=Ending.returned v/\(∃u,v=.tuple #[.int .i64 (K0 H D k),u,cz 70 (vt H D k)]/\L'=SL 44 5 dN u (Bu H D k)::cW bh bd (ov H D k)::fa bd (wm H D k)::L)/\St w0 L' w':=fun e he hb qe w' aY=>by
  refine⟨_,_,rfl,⟨.slice none 0 0,?_,rfl⟩,?_⟩
  ·unfold K0;rw[hb,if_neg he]
  ·unfold Bu ov wm;rw[hb,if_neg he,qe];exact cL aY
 refine KC.mk (n:=105) func35 rfl ntmps35 aj ?_;refine jX ?_;refine Z8 ?_;refine jH ?_;cases hk:bQ H k with
 |false=>
  have he:py H k=2:=by unfold py;rw[if_pos hk]
  have iM:vt H D k=2:=by unfold vt;rw[he];rfl
  have qe:gA H k=false:=by unfold gA;rw[he];rfl
  refine iw ?_;refine KO.ce (cp:=[]) rfl rfl rfl call79 rfl (dV w0 _ _ bh bd H k bE) ?_;rintro v' L' ⟨rfl,rfl⟩;rw[hk];refine GV ?_;refine K4 ?_;refine Em ?_;refine KQ.CG rfl rfl rfl rfl (fun w' aY=>early 2 ai iM qe w' aY)
 |true=>
 obtain⟨vf,tG,-⟩:=bT.1 hk;obtain⟨j,rfl⟩:∃j:Nat,k=(j:Int):=⟨k.toNat,by omega⟩;have hj:j<4:=by omega
 refine iw ?_;refine KO.ce (cp:=[]) rfl rfl rfl call79 rfl (dV w0 _ _ bh bd H (j:Int) bE) ?_;rintro v' L' ⟨rfl,rfl⟩;rw[hk];refine oY ?_;refine yr ?_;refine K.cg (fun _ h=>cb h) ?_;rintro⟨V,hV⟩;dsimp only;cases ph:H.down with
 |true=>
  have he:py H (j:Int)=6:=by unfold py;rw[if_neg WJ,if_pos ph]
  have iM:vt H D (j:Int)=6:=by unfold vt;rw[he];rfl
  have qe:gA H (j:Int)=false:=by unfold gA;rw[he];rfl
  refine Er ?_;refine Z5 ?_;refine K.cA rfl ph ?_;refine K4 ?_;refine Em ?_;refine KQ.CG rfl rfl rfl rfl (fun w' aY=>early 6 ai iM qe w' (bK V hV aY))
 |false=>
 refine Er ?_;refine Z5 ?_;refine K.cP rfl ph ?_;refine Z6 ?_;have Vc:=hV.bs;have rI:=hV.batch;have oO:=hV.ps;obtain⟨bv,z_⟩:∃e,V.bs[j]? =some e:=⟨_,ao ae⟩;obtain⟨bl,tN⟩:∃e,H.batch[j]? =some e:=⟨_,ao ae⟩;have Qy:bR H j=bl:=by unfold bR;rw[aq,tN];rfl
 obtain⟨c1,c2⟩:=pX (bd:=bd) hV z_;obtain⟨p,hp⟩:∃p,V.ps[j]? =some p:=⟨_,ao ae⟩;have hw:=oe (bd:=bd) hV hj hp;have fZ:=qH hV.ways hj;have tB:=(hB.w hj).len;have oW:py H (j:Int)=if bl=[]/\eK (H.hF j)=[]then 8 else 0:=by unfold py;rw[if_neg WJ,if_neg (by simp[ph]),aM,Qy]
 refine RM ?_;refine K.fact (fun w hw=>o2 (hw.pick (A:=dB bv bl) .head)) ?_;rintro⟨ba,bc,rfl⟩;have back:∀{w':World} {M:List HP},St w0 (dB (.slice ba bl.length bc) bl::ck dB (V.bs.eraseIdx j) (H.batch.eraseIdx j)::bD bh (.cells (eG bd V H).toArray 133 (0,0))::jg V.nv H.names::cD Value.string V.mb (c7 V H)::ck iU V.ps H.all::ck cN (V.us.map (·.1)) (H.az.map (·.aU))::ck cK (V.us.map (·.2)) (H.az.map (·.bj))::M) w'->St w0 (cW bh bd H::M) w':=fun h=>bK V hV ((kz z_ tN h).all Y7)
 refine vC ?_;refine Ru ?_;refine Om ?_;refine sI ?_;refine K.cut (fun _:Unit=>[(0,aZ bh),(1,.int .i64 (j:Nat))]) (fun _=>cW bh bd (ov H D (j:Int))::fa bd (wm H D (j:Int))::L) (fun _=>vt H D (j:Int)=0) ?_ ?_
 ·refine K.bI rfl (fun h0=>?_) (fun h0=>?_)
  ·have Qk:bl=[]:=List.length_eq_zero_iff.1 ae;refine y8 ?_;refine RN ?_;refine KO.di (i:=8+j) rfl rfl isAgg119 aX wz hw rfl ?_;refine KO.ce (cp:=[]) rfl rfl rfl call80 rfl (KE.D1 (A:=fun v=>Jh v (eK (H.hF j))) (φ:=fun _=>True) hp fZ aX (fun L=>KE.mono (Hw w0 _ _ p (H.hF j) .head ae) (fun v M h=>⟨trivial,h⟩))) ?_;rintro va L' ⟨-,rfl⟩;refine jH ?_;have ni:=hid j hj;have Ie:(eK (H.hF j)).length<=n:=by unfold eK;rw[aV];exact Nat.le_trans (List.length_filter_le _ _) tB
   have SY:dW H j=((eK (H.hF j)).take 3).map (·.id):=rfl
   generalize htq:eK (H.hF j)=tl at ni Ie SY oW ⊢;refine K.fact (fun w hw=>aN (hw.pick (A:=Jh va tl) .head)) ?_;rintro⟨ta,tc,rfl,htg⟩;refine Z7 ?_;refine BY ?_;refine sI ?_;refine K.bI rfl (fun h7=>?_) (fun h7=>?_)
   ·have YM:tl=[]:=List.length_eq_zero_iff.1 ae;rw[if_pos ⟨Qk,YM⟩]at oW;have iM:vt H D (j:Int)=8:=by unfold vt;rw[oW];rfl
    have qe:gA H (j:Int)=false:=by unfold gA;rw[oW];rfl
    refine K4 ?_;refine Em ?_;refine KQ.CG rfl rfl rfl rfl (fun w' aY=>early 8 ai iM qe w' ?_);have h1:=back (M:=fa bd D::L) (aY.all Y5);exact h1
   ·have YM:tl≠[]:=fun e=>h7 (by rw[e];rfl)
    rw[if_neg (fun e=>YM e.2)]at oW;have qe:gA H (j:Int)=true:=by unfold gA;rw[oW,aM,Qy,Qk];rfl
    obtain⟨g,rfl⟩:=htg (by have :tl.length≠0:=fun e=>h7 ae
                           omega)
    have hjt:(j:Int).toNat=j:=aM j
    have kZ:=mU (k:=(j:Int)) (l:=dW H j) ⟨by omega,by omega⟩ (by rw[SY];simp;omega) (fun x hx=>by
     rw[SY]at hx;obtain⟨m,hm,rfl⟩:=aD.1 hx
     exact ni m (List.mem_of_mem_take hm))
    have Qf:=w_ (k:=(j:Int)) (l:=dW H j) ⟨by omega,by omega⟩ (by rw[SY];simp;omega) (fun x hx=>by
     rw[SY]at hx;obtain⟨m,hm,rfl⟩:=aD.1 hx
     exact ni m (List.mem_of_mem_take hm))
    refine K.fact (fun w hw=>(B1 (hw.pick (A:=Jh (.slice (some ⟨g,0,none⟩) tl.length tc) tl) bE)).2) ?_;intro htc;generalize uK:dW H j=il at kZ Qf SY;have ad7:il.length=min tl.length 3:=by rw[SY,aV,bp];omega
    have adY:(min (tl.length:Int) 3)=((min tl.length 3:Nat):Int):=by omega
    refine mG ?_;refine KO.ce (cp:=[]) rfl rfl rfl call59 rfl (fF w0 _ (j:Int) hT ⟨by omega,by omega⟩) ?_;rintro v' L' ⟨rfl,rfl⟩;refine KO.iN (z:=(Value.string ⟨#[]⟩)) (sz:=1) (cV:=16) rfl rfl underlying115 bm aL aL ai ai rfl ?_;intro b46;refine jH ?_;refine K.conv (fun w' hw'=>zn (b:=b46) (vs:=[.string (bH (j:Int))]) (xs:=[bH (j:Int)]) (k:=1) (hw'.pick bE) rfl rfl ae) ?_
    refine iw ?_;refine BY ?_;refine KO.min2 rfl rfl adY rfl ?_;refine KO.Ap (hi:=min tl.length 3) rfl rfl underlying49 sizeOf44 rfl ae rfl ?_;refine EA ?_;refine K.loop (fun q:Nat×Value=>[(0,aZ bh),(1,.int .i64 (j:Nat)),(8,q.2),(51,.slice (some ⟨g,0,none⟩) (min tl.length 3) tc),(52,.int .i64 ((min tl.length 3:Nat):Int)),(53,.int .i64 (q.1:Nat))])
     (fun q=>iR q.2 (((j:Int)::il.take q.1).map bH)::Jh (.slice (some ⟨g,0,none⟩) tl.length tc) tl::dB (.slice ba bl.length bc) bl::ck dB (V.bs.eraseIdx j) (H.batch.eraseIdx j)::bD bh (.cells (eG bd V H).toArray 133 (0,0))::jg V.nv H.names::cD Value.string V.mb (c7 V H)::ck iU V.ps H.all::ck cN (V.us.map (·.1)) (H.az.map (·.aU))::ck cK (V.us.map (·.2)) (H.az.map (·.bj))::fa bd D::L)
     (fun q=>q.1<=min tl.length 3) (fun q=>min tl.length 3-q.1) (0,.slice (some ⟨b46,0,none⟩) 1 1) (aR _) ⟨rfl,rfl,rfl,rfl,rfl,rfl,trivial⟩ (fun w' aY=>aY.all Y7) ?_
    rintro⟨i,v8⟩ hi;dsimp only at hi ⊢;refine gZ ?_;refine K.bI rfl (fun Gt=>?_) (fun Gt=>?_)
    ·obtain⟨m,hm⟩:∃e,tl[i]? =some e:=⟨tl[i],ao ae⟩;have JC:=ni m (ax hm);have hit:il[i]? =some m.id:=by rw[SY,aH,List.getElem?_take,if_pos ae,hm];rfl
     obtain⟨mi,mp,mb,mq,mh⟩:=m;dsimp only at JC hit;refine aaN ?_;refine KO.yU rfl rfl isAgg44 sizeOf44 aX (fun _=>rfl) uT rfl ?_;refine KO.alloc rfl zeroValue44 aL rfl ?_;intro Az;refine K2 ?_;refine Z5 ?_;refine Z7 ?_;refine OT ?_;refine KO.ld (v:=.int .i64 mi) rfl rfl isAgg3 bE aL rfl ?_;refine KO.ce (cp:=[]) rfl rfl rfl call59 rfl (fF w0 _ mi hT JC) ?_;rintro v' L' ⟨rfl,rfl⟩;refine KO.iN (z:=(Value.string ⟨#[]⟩)) (sz:=1) (cV:=16) rfl rfl underlying115 bm aL aL ai ai rfl ?_;intro b61;refine KO.app (cf:=fI) (z:=Value.string ⟨#[]⟩) (sz:=1) (cV:=16) (xs:=((j:Int)::il.take i).map bH) rfl rfl rfl (.tail (.tail .head)) .head underlying115 kg rfl (bH mi) rfl rfl rfl fV ai rfl ?_;intro v62;refine rz ?_;refine KQ.round (i+1,v62) ji ji ⟨rfl,rfl,rfl,rfl,rfl,rfl,trivial⟩ (fun w' aY=>?_);dsimp only;rw[bA hit,<-bn,bu];exact aY.all Y5
    obtain rfl:i=min tl.length 3:=by omega
    rw[<-ad7,List.take_length];have SZ:vt H D (j:Int)=ep H D:=by unfold vt;rw[oW,qe];rfl
    have hbH:ov H D (j:Int)=oU H D (kN (j:Int) il):=by unfold ov;rw[qe,hjt,uK];rfl
    have hbD:wm H D (j:Int)=ig H D (kN (j:Int) il):=by unfold wm;rw[qe,hjt,uK];rfl
    refine wx ?_;refine K.conv (L':=cW bh bd H::fa bd D::iR v8 (((j:Int)::il).map bH)::L) (fun w' aY=>?_) ?_
    ·have h1:=back (M:=iR v8 (((j:Int)::il).map bH)::fa bd D::L) (aY.all Y5);exact h1.all Y3
    refine iw ?_;refine KO.ce (cp:=[]) rfl rfl rfl call62 rfl (ra w0 _ _ v8 (((j:Int)::il).map bH) sp aX fV ae) ?_;rintro v' L' ⟨rfl,rfl⟩;refine KO.cat rfl rfl (by have :(⟨#[98,58]⟩:ak).size=2:=rfl;omega) rfl ?_;rw[show(⟨#[98,58]⟩++cJ (((j:Int)::il).map bH) sp:ak)=kN (j:Int) il from by unfold kN;rw[show(⟨#[98,58]⟩:ak)=bV 98++bV 58 by decide]];refine KO.cl (cp:=[]) rfl rfl rfl call84 rfl (KC.OI bE bE (nb w0 _ bh bd n 1 H D (kN (j:Int) il) hT hM hB kZ ae h3 hd)) ?_;rintro v' L' ⟨rfl,rfl⟩;refine vE ?_;refine K.bI rfl (fun S2=>?_) (fun S2=>?_)
    ·refine gU ?_;refine ry ?_;refine vx ?_;refine KQ.CG rfl rfl rfl rfl (fun w' aY=>⟨_,_,rfl,⟨.slice none 0 0,?_,rfl⟩,?_⟩)
     ·unfold K0;rw[SZ,if_neg S2]
     ·unfold Bu;rw[SZ,if_neg S2,hbH,hbD];exact cL (aY.all Y1)
    ·refine vI ?_;have aeN:ep H D=0:=by simpa using S2
     exact KQ.qc () (by rw[SZ];exact aeN) ⟨rfl,rfl,trivial⟩ (fun w' aY=>by rw[hbH,hbD];exact aY.all Y1)
  ·have xH:bl≠[]:=fun e=>h0 (by rw[e];rfl)
   rw[if_neg (fun e=>xH e.1)]at oW;have qe:gA H (j:Int)=false:=by unfold gA;rw[oW,aM,Qy];simp[xH]
   have iM:vt H D (j:Int)=0:=by unfold vt;rw[oW,qe];rfl
   have hbH:ov H D (j:Int)=H:=by unfold ov;rw[qe];rfl
   have hbD:wm H D (j:Int)=D:=by unfold wm;rw[qe];rfl
   rw[hbH,hbD];refine vI ?_;exact KQ.qc () iM ⟨rfl,rfl,trivial⟩ (fun w' aY=>back (aY.all mH))
 ·rintro⟨⟩ JJ;have hbN:K0 H D (j:Int)=da (ov H D (j:Int)) j:=by unfold K0;rw[if_pos JJ,aM]
  have hbL:Bu H D (j:Int)=(cM ((ov H D (j:Int)).hF j)).filter (MM (bR (ov H D (j:Int)) j)):=by unfold Bu;rw[if_pos JJ,aM]
  rw[hbN,hbL,JJ];generalize ov H D (j:Int)=H2 at hBb ⊢;generalize wm H D (j:Int)=D2;clear back early;refine K.cg (fun _ h=>cb h) ?_;rintro⟨V2,sr⟩;dsimp only;have aiZ:=sr.bs;have aiY:=sr.batch;have aid:=sr.ps;obtain⟨bv2,Vb⟩:∃e,V2.bs[j]? =some e:=⟨_,ao ae⟩;obtain⟨Ca,Qx⟩:∃e,H2.batch[j]? =some e:=⟨_,ao ae⟩;have aen:bR H2 j=Ca:=by unfold bR;rw[aq,Qx];rfl
  have Zv:=hBb.ext.Te Ca (ax Qx);rw[aen];obtain⟨c3,-⟩:=pX (bd:=bd) sr Vb;obtain⟨d3,-⟩:=vZ (bd:=bd) sr hj;obtain⟨p2,kJ⟩:∃p,V2.ps[j]? =some p:=⟨_,ao ae⟩;have MQ:=oe (bd:=bd) sr hj kJ;have ZA:=qH sr.ways hj;have adK:=(hBb.w hj).len;have aes:(cM (H2.hF j)).length<=n+1:=by unfold cM;rw[aV];exact Nat.le_trans (List.length_filter_le _ _) adK
  refine K.conv (fun w hw=>ew Vb Qx (hw.pick (A:=ck dB V2.bs H2.batch) aX)) ?_
  refine K.fact (fun w hw=>o2 (hw.pick (A:=dB bv2 Ca) .head)) ?_;rintro⟨ba2,bc2,rfl⟩;have aaA:∀{w':World} {M:List HP},St w0 (dB (.slice ba2 Ca.length bc2) Ca::ck dB (V2.bs.eraseIdx j) (H2.batch.eraseIdx j)::bD bh (.cells (eG bd V2 H2).toArray 133 (0,0))::jg V2.nv H2.names::cD Value.string V2.mb (c7 V2 H2)::ck iU V2.ps H2.all::ck cN (V2.us.map (·.1)) (H2.az.map (·.aU))::ck cK (V2.us.map (·.2)) (H2.az.map (·.bj))::M) w'->St w0 (cW bh bd H2::M) w':=fun h=>bK V2 sr ((kz Vb Qx h).all Y7)
  refine BI ?_;refine RN ?_;refine KO.di (i:=8+j) rfl rfl isAgg119 aX wz MQ rfl ?_;refine KO.ce (cp:=[]) rfl rfl rfl call67 rfl (KE.D1 (A:=fun v=>Jh v (cM (H2.hF j))) (φ:=fun _=>True) kJ ZA aX (fun L=>KE.mono (FT w0 _ _ p2 (H2.hF j) .head ae) (fun v M h=>⟨trivial,h⟩))) ?_;rintro va L' ⟨-,rfl⟩;refine KO.fact (fun w hw=>aN (hw.pick (A:=Jh va (cM (H2.hF j))) .head)) ?_;rintro⟨aa,ac,rfl,hag⟩;refine EA ?_;generalize cM (H2.hF j)=al at aes hag ⊢;refine K.loop (fun q:Nat×Value=>[(0,aZ bh),(1,.int .i64 (j:Nat)),(12,q.2),(78,.slice aa al.length ac),(79,.int .i64 (al.length:Nat)),(80,.int .i64 (q.1:Nat))])
   (fun q=>SL 44 5 dN q.2 ((al.take q.1).filter (MM Ca))::Jh (.slice aa al.length ac) al::dB (.slice ba2 Ca.length bc2) Ca::ck dB (V2.bs.eraseIdx j) (H2.batch.eraseIdx j)::bD bh (.cells (eG bd V2 H2).toArray 133 (0,0))::jg V2.nv H2.names::cD Value.string V2.mb (c7 V2 H2)::ck iU V2.ps H2.all::ck cN (V2.us.map (·.1)) (H2.az.map (·.aU))::ck cK (V2.us.map (·.2)) (H2.az.map (·.bj))::fa bd D2::L)
   (fun q=>q.1<=al.length) (fun q=>al.length-q.1) (0,.slice none 0 0) (aR _) ⟨rfl,rfl,rfl,rfl,rfl,rfl,trivial⟩ (fun w' aY=>?_) ?_
  ·have h1:=cL (E:=44) (sz:=5) (cf:=dN) aY;exact h1.all Y7
  rintro⟨i,v12⟩ hi;dsimp only at hi ⊢;refine gZ ?_;refine K.bI rfl (fun Vj=>?_) (fun Vj=>?_)
  ·obtain⟨m,hm⟩:∃e,al[i]? =some e:=⟨al[i],ao ae⟩;obtain⟨g2,rfl⟩:=hag ae;have KB:(al.take (i+1)).filter (MM Ca)=(al.take i).filter (MM Ca)++if m.id∈Ca then[m]else[]:=by
    rw[bA hm,dG];congr 1;rw[fh];unfold MM;by_cases hb:m.id∈Ca<;>simp[hb]
   have KK:((al.take i).filter (MM Ca)).length<=al.length:=Nat.le_trans (List.length_filter_le _ _) fV;obtain⟨mi,mp,mb,mq,mh⟩:=m;dsimp only at KB;refine pE ?_;refine Wx ?_;refine KO.alloc rfl zeroValue44 aL rfl ?_;intro b14;refine BH ?_;refine K.draw [.pure,.pure,.pure,.pure,.pure,.read,.pure,.read,.cx] [0,1,2,3,4,5,6,7,8] bm bm ?_;refine yw ?_;refine Ru ?_;refine KO.di (i:=22+j) rfl rfl isAgg23 aX wz c3 rfl ?_;refine OT ?_;refine KO.ld (v:=.int .i64 mi) rfl rfl isAgg3 bE aL rfl ?_;refine KO.ce (cp:=[]) rfl rfl rfl call92 rfl (NN w0 _ _ Ca mi (fun w' hw'=>TW (hw'.pick (A:=dB (.slice ba2 Ca.length bc2) Ca) aX)) ae) ?_;rintro v' L' ⟨rfl,rfl⟩;refine Z5 ?_;refine K.bI rfl (fun hb=>?_) (fun hb=>?_)
   ·rw[if_pos hb]at KB;refine Z7 ?_;refine EK ?_;refine KO.iN (z:=(Value.agg #[.int .i64 0,.int .i64 0,.string ⟨#[]⟩,.string ⟨#[]⟩,.int .i64 0])) (sz:=5) (cV:=56) rfl rfl underlying49 bm aL aL ai ai rfl ?_;intro b95;refine KO.app (cf:=dN) (z:=Value.agg #[.int .i64 0,.int .i64 0,.string ⟨#[]⟩,.string ⟨#[]⟩,.int .i64 0]) (sz:=5) (cV:=56) (xs:=(al.take i).filter (MM Ca)) rfl rfl rfl aX .head underlying49 bm aL ⟨mi,mp,mb,mq,mh⟩ rfl rfl rfl ae ai rfl ?_;intro XI;refine rz ?_;refine KQ.round (i+1,XI) ji ji ⟨rfl,rfl,rfl,rfl,rfl,rfl,trivial⟩ (fun w' aY=>?_);dsimp only;rw[KB];exact aY.all Y5
   ·rw[if_neg hb,List.append_nil]at KB;refine rA ?_;refine KQ.round (i+1,v12) ji ji ⟨rfl,rfl,rfl,rfl,rfl,rfl,trivial⟩ (fun w' aY=>?_);dsimp only;rw[KB];exact aY.all Y5
  ·obtain rfl:i=al.length:=by omega
   rw[List.take_length];refine wx ?_;refine vC ?_;refine RT ?_;refine KO.di (i:=26+j) rfl rfl isAgg3 aX wz d3 rfl ?_;refine Z1 ?_;refine Z8 ?_;refine nE ?_;refine KQ.CG rfl rfl rfl rfl (fun w' aY=>⟨_,_,rfl,⟨v12,rfl,rfl⟩,?_⟩);have h1:=aaA (M:=SL 44 5 dN v12 (al.filter (MM Ca))::fa bd D2::L) (aY.all Y5);exact h1.all Y3
theorem NM(w0:World)(L:List HP)(v:Value)(xs:List Ms)(f:FuncId)(cp:List Value)(pf:Ms->Bool)(hr:∀w,St w0 L w->oS w 5 dN v xs)(hlen:xs.length<1000000)(dx:∀args w,(callFunc f args).run prog w=.ok (.enter f args) w)(oG:∀e,e∈xs->KE prog f ([]++([Value.agg (dN e).toArray]++cp)).toArray w0 L (fun v L'=>v=.bool (pf e)/\L'=L)):
 KE prog 189 #[v,.func (.func f) [].toArray cp.toArray] w0 L (fun v L'=>v=.bool (xs.any pf)/\L'=L):=by
 refine KE.mk (n:=9) func189 rfl ntmps189 aj ?_;intro w hw;refine BI ?_;refine KO.ce rfl rfl rfl call153 rfl ((MN w0 L v xs f cp pf hr hlen dx oG).jQ hw) ?_;rintro v L' ⟨rfl,rfl⟩;refine uh ?_;refine fK ?_;refine KQ.a_ rfl rfl (fun w' hs=>⟨_,_,rfl,⟨?_,rfl⟩,hw.aA hs.below,hs.below⟩);rw[sx]
theorem aaF(w0:World)(L R R2:List HP)(m:Ms)(b bh bd:Nat)(H:Ho)(E:TypeId)(hp:bC L (bD b (.cells [aZ bh].toArray E (0,0))) R)(hq:bC L (cW bh bd H) R2)(hm:0<=m.id):
 KE prog 190 #[.agg (dN m).toArray,.pointer (some ⟨b,0,none⟩)] w0 L (fun v L'=>v=.bool (kH H m)/\L'=L):=by
 obtain⟨mi,mp,mb,mq,mh⟩:=m;dsimp only at hm;refine KE.mk (n:=21) func190 rfl ntmps190 aj ?_;intro w hw;obtain⟨V,hV,hc⟩:=nf hw hq;have JK:w.cell? ⟨bh,0,none⟩=some (.int .i64 H.id):=hc 0 _ rfl;have Bg:w.cell? ⟨b,0,none⟩=some (aZ bh):=by rw[World.cell?,(hw.pick hp).look.2];rfl
 refine Z2 ?_;refine KO.box rfl rfl aL rfl ?_;intro b2;refine jH ?_;by_cases h1:mh=H.id
 ·refine abj ?_;refine vG ?_;refine KO.pb rfl rfl isAgg29 Bg rfl ?_;refine lb ?_;refine EM ?_;refine KO.pb rfl rfl isAgg3 JK rfl ?_;refine y9 ?_;refine aaT ?_;refine KO.on rfl rfl ET ?_;refine KO.ld (v:=.int .i64 mi) rfl rfl isAgg3 bE aL rfl ?_;refine KO.on rfl rfl ET ?_;refine KO.rem rfl rfl ae hm rfl ?_;refine KO.on rfl rfl ET ?_;refine KO.pb rfl rfl isAgg29 Bg rfl ?_;refine lV ?_;refine GY ?_;refine EM ?_;refine KO.on rfl rfl ET ?_;refine KO.pb rfl rfl isAgg3 JK rfl ?_;refine lV ?_;refine IC ?_;refine vy ?_;refine fK ?_;refine KQ.a_ rfl rfl (fun w' hs=>⟨_,_,rfl,⟨?_,rfl⟩,hw.aA hs.below,hs.below⟩);unfold kH;simp[h1]
 ·refine abj ?_;refine vG ?_;refine KO.pb rfl rfl isAgg29 Bg rfl ?_;refine lb ?_;refine EM ?_;refine KO.pb rfl rfl isAgg3 JK rfl ?_;refine y9 ?_;refine Ev ?_;refine Tm ?_;refine qJ ?_;refine fK ?_;refine KQ.a_ rfl rfl (fun w' hs=>⟨_,_,rfl,⟨?_,rfl⟩,hw.aA hs.below,hs.below⟩);unfold kH;simp[h1]
theorem aaE(w0:World)(L R:List HP)(x m:Ms)(b:Nat)(E:TypeId)(hp:bC L (bD b (.cells (dN m).toArray E (0,0))) R):
 KE prog 191 #[.agg (dN x).toArray,.pointer (some ⟨b,0,none⟩)] w0 L (fun v L'=>v=.bool (wY m x)/\L'=L):=by
 obtain⟨mi,mp,mb,mq,mh⟩:=m;obtain⟨xi,xp,xb,xq,xh⟩:=x;refine KE.mk (n:=9) func191 rfl ntmps191 aj ?_;intro w hw;have hw:=hw.pick hp;refine Z2 ?_;refine KO.box rfl rfl aL rfl ?_;intro b2;refine qm ?_;refine Kl ?_;refine OT ?_;refine V7 ?_;refine fK ?_;refine KQ.a_ rfl rfl (fun w' hs=>⟨_,_,rfl,⟨rfl,rfl⟩,(hw.sY hp).aA hs.below,hs.below⟩)
theorem OX{α:Type}(f:Nat->α->Bool)(l:List α):l.zipIdx.any (fun x=>f x.2 x.1)=false↔ ∀i x,l[i]? =some x->f i x=false:=by
 rw[List.any_eq_false];constructor
 ·intro h i x hx;have :=h (x,i) (List.mem_zipIdx_iff_getElem?.2 hx);simpa using this
 ·rintro h ⟨x,i⟩ hx;have :=h i x (List.mem_zipIdx_iff_getElem?.1 hx);simpa using this
theorem Gs(w0:World)(L:List HP)(A:HP)(bh bd n:Nat)(H:Ho)(D:Dk)(k m:Int)(a:Option Addr)(cap:Nat)(l:List Ms)(hT:nI w0)(hM:oB w0)(hB:cE n H)(hn:n+250<=80000)(h3:D.places.length=300)(hd: -4000000000000000000<=D.left/\D.left<=9223372036854775807)(hA:∀w R,St w0 (A::R) w->oS w 5 dN (.slice a l.length cap) l)(Qv:l.length<=cap)(hl:l.length<=250)(cj:∀m∈l,m.body.size<=maxLen/\m.queue.size<=maxLen):
 KC prog 103 #[aZ bh,.int .i64 k,.int .i64 m,.slice a l.length cap] w0 (cW bh bd H::fa bd D::A::L) (fun u M=>u=.tuple #[.int .i64 (vu H D k m l),cz 70 (Kh H D k m l)]/\M=cW bh bd (sQ H D k m l)::fa bd (y0 H D k m l)::A::L):=by
 have early:∀e:Int,e≠0->sF H k m l=e->∀w',St w0 (cW bh bd H::fa bd D::A::L) w'->∃v L',Ending.returned (.tuple #[.int .i64 0,cz 70 e])=Ending.returned v/\(v=.tuple #[.int .i64 (vu H D k m l),cz 70 (Kh H D k m l)]/\L'=cW bh bd (sQ H D k m l)::fa bd (y0 H D k m l)::A::L)/\St w0 L' w':=fun e he hb w' aY=>by
  have qe:Eh H k m l=false:=by unfold Eh;rw[hb];simp[he]
  have Xr:Kh H D k m l=e:=by unfold Kh;rw[hb,if_pos he]
  refine⟨_,_,rfl,⟨?_,rfl⟩,?_⟩
  ·unfold vu;rw[Xr,if_neg he]
  ·unfold sQ y0;rw[qe];exact aY
 refine KC.mk (n:=175) func103 rfl ntmps103 aj ?_;refine Z2 ?_;refine KO.box rfl rfl aL rfl ?_;intro b4;refine ry ?_;refine OS ?_;cases hk:bQ H k with
 |false=>
  have he:sF H k m l=2:=by unfold sF;rw[if_pos hk]
  refine dC ?_;refine KO.ld rfl rfl isAgg29 bE aL rfl ?_;refine Z1 ?_;refine KO.ce (cp:=[]) rfl rfl rfl call79 rfl (dV w0 _ _ bh bd H k aX) ?_;rintro v' L' ⟨rfl,rfl⟩;rw[hk];refine oY ?_;refine Z8 ?_;refine BD ?_;refine K4 ?_;refine nD ?_;refine KQ.ef rfl rfl rfl (fun w' aY=>early 2 ai he w' (aY.all Y1))
 |true=>
 obtain⟨vf,tG,-⟩:=bT.1 hk;obtain⟨j,rfl⟩:∃j:Nat,k=(j:Int):=⟨k.toNat,by omega⟩;have hj:j<4:=by omega
 refine dC ?_;refine KO.ld rfl rfl isAgg29 bE aL rfl ?_;refine Z1 ?_;refine KO.ce (cp:=[]) rfl rfl rfl call79 rfl (dV w0 _ _ bh bd H (j:Int) aX) ?_;rintro v' L' ⟨rfl,rfl⟩;rw[hk];refine oY ?_;refine Z8 ?_;refine BB ?_;refine oQ ?_;refine K.cg (fun _ h=>cb (h.pick aX)) ?_;rintro⟨V,hV⟩;dsimp only;have oO:=hV.ps;have xH:=hB.kr;have yJ:=hB.sorted;cases ph:H.down with
 |true=>
  have he:sF H (j:Int) m l=6:=by unfold sF;rw[if_neg WJ,if_pos ph]
  refine dC ?_;refine N8 ?_;refine WI ?_;refine iH ?_;refine K.cA rfl ph ?_;refine K4 ?_;refine nD ?_;refine KQ.ef rfl rfl rfl (fun w' aY=>early 6 ai he w' (bK V hV (aY.all Y5)))
 |false=>
 refine dC ?_;refine N8 ?_;refine WI ?_;refine iH ?_;refine K.cP rfl ph ?_;refine oQ ?_;obtain⟨d1,-⟩:=v7 (bd:=bd) hV hj;obtain⟨Vi,ha9⟩:0<=cT H j/\cT H j<=(n:Int):=np hB.ext.arr;have oW:sF H (j:Int) m l=if m<=cT H j then 0 else if cT H j+1<m then 10 else if iX l≠none\/l.any (kH H)=true then 1 else if By H l=true then 9 else 0:=by unfold sF;rw[if_neg WJ,if_neg (by simp[ph]),aM]
 refine Z7 ?_;refine N8 ?_;refine uk ?_;refine RL ?_;refine KO.leq rfl rfl rfl ?_;refine iH ?_;refine K.bI rfl (fun h5=>?_) (fun h5=>?_)
 ·rw[if_pos h5]at oW;have qe:Eh H (j:Int) m l=false:=by unfold Eh;rw[aM];simp;omega
  have Xr:Kh H D (j:Int) m l=0:=by unfold Kh;rw[oW,qe];rfl
  refine Z2 ?_;refine N8 ?_;refine uk ?_;refine RL ?_;refine Z8 ?_;refine nD ?_;refine KQ.ef rfl rfl rfl (fun w' aY=>⟨_,_,rfl,⟨?_,rfl⟩,?_⟩)
  ·unfold vu sQ;rw[Xr,qe,if_pos rfl,aM];rfl
  ·unfold sQ y0;rw[qe];exact bK V hV (aY.all Y5)
 rw[if_neg h5]at oW;refine gU ?_;refine N8 ?_;refine uk ?_;refine RL ?_;refine uS ?_;refine yB ?_;refine iH ?_;refine K.bI rfl (fun h7=>?_) (fun h7=>?_)
 ·rw[if_pos ae]at oW;refine K4 ?_;refine nD ?_;refine KQ.ef rfl rfl rfl (fun w' aY=>early 10 ai oW w' (bK V hV (aY.all Y5)))
 rw[if_neg ae]at oW;refine VY ?_;refine K.conv (L':=cW bh bd H::fa bd D::A::bD b4 (.cells [aZ bh].toArray 29 (0,0))::L) (fun w' aY=>bK V hV (aY.all Y7)) ?_
 clear d1 oO hV V;cases fg:iX l with
 |some bi=>
  rw[fg,if_pos (.inl aj)]at oW;refine Z7 ?_;refine KO.ce (cp:=[]) rfl rfl rfl call60 rfl (jv w0 _ _ l (fun w' hw'=>hA w' _ (hw'.pick (A:=A) (.tail (.tail .head)))) hT cj ae) ?_;rintro v' L' hR;unfold K8 at hR;rw[fg]at hR;obtain⟨bx,rfl,rfl⟩:=hR;refine Ha ?_;refine rD ?_;refine sL ?_;refine l3 ?_;refine KQ.ef rfl rfl rfl (fun w' aY=>early 1 ai oW w' (aY.all Y5))
 |none=>
 have jU:∀m∈l,bG m=true:=dm fg;rw[fg]at oW;refine Z7 ?_;refine KO.ce (cp:=[]) rfl rfl rfl call60 rfl (jv w0 _ _ l (fun w' hw'=>hA w' _ (hw'.pick (A:=A) (.tail (.tail .head)))) hT cj ae) ?_;rintro v' L' hR;unfold K8 at hR;rw[fg]at hR;obtain⟨rfl,rfl⟩:=hR;refine jY ?_;refine Oa ?_;refine Ep ?_;refine KO.on rfl rfl rfl ?_;refine KO.ce rfl rfl rfl call189 rfl (NM w0 _ _ l 190 [.pointer (some ⟨b4,0,none⟩)] (kH H) (fun w' hw'=>hA w' _ (hw'.pick (A:=A) (.tail (.tail .head)))) ae call190 (fun e he=>aaF _ _ _ _ e b4 bh bd H _ aX bE (bP (jU e he)).1)) ?_;rintro v' L' ⟨rfl,rfl⟩;refine BQ ?_;cases hnf:l.any (kH H)with
 |true=>
  rw[if_pos (.inr hnf)]at oW;refine sH ?_;refine l3 ?_;refine KQ.ef rfl rfl rfl (fun w' aY=>early 1 ai oW w' (aY.all Y5))
 |false=>
 rw[if_neg (by rw[hnf];simp)]at oW;refine uj ?_;refine mG ?_;refine BY ?_;refine Z69 ?_;refine KQ.next ?_
 have ZM:∀(i:Nat) x,l[i]? =some x->∀w R,St w0 (A::R) w->∃ad,a=some ad/\cU w (ad.add (i *5)) (dN x):=fun i x hx w R hw=>by
  obtain⟨a',c',e,hc⟩:=hA w R hw;simp only[Value.slice.injEq]at e;obtain⟨rfl,-,-⟩:=e;exact hc i x hx
 refine K.cut (fun _:Unit=>[(1,.int .i64 (j:Nat)),(3,.slice a l.length cap),(4,.pointer (some ⟨b4,0,none⟩)),(10,.string (bL l))]) (fun _=>cW bh bd H::fa bd D::A::bD b4 (.cells [aZ bh].toArray 29 (0,0))::L) (fun _=>By H l=false) ?_ ?_
 ·refine K.block ?_;refine K.loop (fun i:Nat=>(74,.slice a l.length cap)::(75,.int .i64 (l.length:Nat))::(76,.int .i64 (i:Nat))::[(1,.int .i64 (j:Nat)),(3,.slice a l.length cap),(4,.pointer (some ⟨b4,0,none⟩)),(10,.string (bL l))]) (fun _=>cW bh bd H::fa bd D::A::bD b4 (.cells [aZ bh].toArray 29 (0,0))::L) (fun i=>i<=l.length/\∀i' x,i'<i->l[i']? =some x->Cs H l i' x=false) (fun i=>l.length-i) 0
   ⟨aR _,fun i' x h=>by omega⟩ ⟨rfl,rfl,rfl,rfl,rfl,rfl,rfl,trivial⟩ (fun w' aY=>aY.all Ov) ?_
  rintro i ⟨hi,og⟩;refine gZ ?_;refine K.bI rfl (fun h13=>?_) (fun h13=>?_)
  ·obtain⟨x,hx⟩:∃e,l[i]? =some e:=⟨l[i],ao ae⟩;refine K.fact (fun w hw=>by obtain⟨ad,h,-⟩:=ZM i x hx w _ (hw.pick (A:=A) (.tail (.tail .head)));exact(⟨ad,h⟩:∃ad,a=some ad)) ?_;rintro⟨ad,rfl⟩;refine EE ?_;refine KO.tA (i:=i) rfl rfl runUnderlying49 sizeOf44 rfl ae rfl ?_;refine KO.Uq (cs:=(dN x).toArray) rfl rfl isAgg44 sizeOf44 rfl (fun w hw=>by obtain⟨ad2,h,hc⟩:=ZM i x hx w _ (hw.pick (A:=A) (.tail (.tail .head)));cases h;exact hc) rfl ?_;refine KO.alloc rfl zeroValue44 aL rfl ?_;intro VS;refine Z8 ?_;refine BH ?_;refine iw ?_;refine KO.Ap (hi:=i) rfl rfl underlying49 sizeOf44 rfl ae rfl ?_;refine Ep ?_;refine KO.ce rfl rfl rfl call189 rfl (NM w0 _ _ (l.take i) 191 [.pointer (some ⟨VS,0,none⟩)] (wY x) (fun w' hw'=>⟨_,_,by rw[bp,Nat.min_eq_left ae],fun i' y hy=>ZM i' y (by rw[List.getElem?_take]at hy;split at hy;exact hy;cases hy) w' _ (hw'.pick (A:=A) (.tail (.tail (.tail .head))))⟩) Y31 call191 (fun e he=>aaE _ _ _ e x VS _ bE)) ?_;rintro v' L' ⟨rfl,rfl⟩;refine jH ?_;obtain⟨tw0,YL⟩:∃t,t=(l.take i).any (wY x):=⟨_,rfl⟩;rw[<-YL];refine K.cg (fun _ h=>cb (h.pick aX)) ?_;rintro⟨V,hV⟩;dsimp only;have oO:=hV.ps;refine dC ?_;refine RA ?_;refine lb ?_;refine V5 ?_
   refine KO.rng rfl rfl underlying123 aX rfl ?_;intro r90;refine Tn ?_;refine K.loop (fun p:List Nat×List Nat×Bool×Option (ak×Value)=>(90,.pointer (some ⟨r90,0,none⟩))::(14,.bool p.2.2.1)::(13,.pointer (some ⟨VS,0,none⟩))::(74,.slice (some ad) l.length cap)::(75,.int .i64 (l.length:Nat))::(76,.int .i64 (i:Nat))::[(1,.int .i64 (j:Nat)),(3,.slice (some ad) l.length cap),(4,.pointer (some ⟨b4,0,none⟩)),(10,.string (bL l))])
    (fun p=>EX Value.string V.mb r90 (c7 V H) (p.1.map fun r=>(c7 V H).getD r default) p.2.2.2::bD bh (.cells (eG bd V H).toArray 133 (0,0))::jg V.nv H.names::ck iU V.ps H.all::ck cN (V.us.map (·.1)) (H.az.map (·.aU))::ck cK (V.us.map (·.2)) (H.az.map (·.bj))::ck dB V.bs H.batch::bD VS (.cells (dN x).toArray 44 (0,0))::fa bd D::A::bD b4 (.cells [aZ bh].toArray 29 (0,0))::L)
    (fun p=>(p.2.1++p.1).Perm (List.range H.aE.length)/\p.2.2.1=(tw0||p.2.1.any fun r=>CL (H.dX r) x.id)) (fun p=>p.1.length) (List.range H.aE.length,[],tw0,none)
    ⟨by simp,by simp⟩ ⟨rfl,rfl,rfl,rfl,rfl,rfl,rfl,rfl,rfl,rfl,trivial⟩ (fun _ h=>?_) ?_
   ·have e1:(List.range H.aE.length).map (fun r=>(c7 V H).getD r default)=c7 V H:=by
     have Xi:(c7 V H).length=H.aE.length:=by unfold c7 q9;rw[List.length_zipWith,bo];omega
     rw[<-Xi];apply List.ext_getElem
     ·simp
     ·intro i h1 h2;simp[aq,ao h2]
    dsimp only;rw[e1];exact h.all mH
   rintro⟨rest,done,tw,cur⟩ ⟨iB,KA⟩;dsimp only at iB KA ⊢;refine Z2 ?_;refine KO.PJ rfl rfl bE rfl (fun h0=>?_) (fun i2 e he=>?_);refine rB ?_;refine Z0 ?_;have kP:rest=[]:=by simpa using h0
   subst kP;rw[List.append_nil]at iB;have YK:tw=Cs H l i x:=by
    rw[KA,YL];unfold Cs;congr 1;rw[Bool.eq_iff_iff,List.any_eq_true,List.any_eq_true];constructor
    ·rintro⟨r,hr,h⟩;have JA:r<H.aE.length:=by have :=iB.mem_iff.1 hr;simpa using this
     refine⟨H.aE[r],List.getElem_mem JA,?_⟩;unfold Ho.dX at h;rw[aq,ao JA]at h;exact h
    ·rintro⟨q,hq,h⟩;obtain⟨r,JA,rfl⟩:=List.getElem_of_mem hq;refine⟨r,iB.mem_iff.2 (by simpa using JA),?_⟩;unfold Ho.dX;rw[aq,ao JA];exact h
   refine uj ?_;refine yu ?_;refine Z5 ?_;refine K.cond rfl (fun Vj=>?_) (fun Vj=>?_)
   ·have hat:By H l=true:=by
     unfold By;rw[List.any_eq_true];exact⟨(x,i),List.mem_zipIdx_iff_getElem?.2 hx,by dsimp only;rw[<-YK];exact Vj⟩
    rw[if_pos hat]at oW;refine K4 ?_;refine nD ?_;refine KQ.ef rfl rfl rfl (fun w' aY=>early 9 ai oW w' ?_);exact bK V hV (aY.all Y5)
   ·refine rA ?_;refine KQ.round (i+1) ⟨by omega,fun i' y hi' hy=>?_⟩ ae ⟨rfl,rfl,rfl,rfl,rfl,rfl,rfl,trivial⟩ (fun w' aY=>?_)
    ·by_cases e:i'=i
     ·subst e;rw[hx]at hy;cases hy;rw[<-YK];exact Vj
     ·exact og i' y ae hy
    ·exact bK V hV (aY.all Y5)
   obtain⟨r,hr,rfl⟩:∃r,rest[i2]? =some r/\(c7 V H).getD r default=e:=by
    rw[aH]at he;cases hr:rest[i2]? with
    |none=>rw[hr]at he;cases he
    |some r=>rw[hr]at he;exact⟨r,rfl,by simpa using he⟩
   have JA:r<H.aE.length:=by
    have :r∈List.range H.aE.length:=iB.mem_iff.1 (List.mem_append_right _ (ax hr));simpa using this
   obtain⟨s,mJ⟩:=H8 hV JA;rw[mJ];refine rB ?_;refine Z0 ?_;refine sH ?_;refine RY ?_;have kJ:V.ps[4+r]? =some (V.ps.getD (4+r) 0):=by rw[aq,ao ae];rfl
   have adJ:=(hB.qa JA).len;have SN:((done++[r])++rest.eraseIdx i2).Perm (List.range H.aE.length):=by
    refine List.Perm.trans ?_ iB;rw[aK];refine(List.Perm.refl done).append ?_;obtain⟨hi3,rfl⟩:=au.1 hr;exact n9 hi3
   have hml:(rest.eraseIdx i2).length<rest.length:=by
    have hi3:=(au.1 hr).1;rw[List.length_eraseIdx,if_pos hi3];omega
   refine dC ?_;refine KO.JW rfl rfl bE rfl ?_;refine rB ?_;refine iH ?_;cases tw with
   |true=>
    refine iw ?_;refine IE ?_;refine IE ?_;refine y4 ?_;refine Z8 ?_;refine yD ?_;refine KQ.round (rest.eraseIdx i2,done++[r],true,some (s,aZ (V.ps.getD (4+r) 0))) ⟨SN,?_⟩ hml ⟨rfl,rfl,rfl,rfl,rfl,rfl,rfl,rfl,rfl,rfl,trivial⟩ (fun _ h=>?_)
    ·dsimp only;rw[List.any_append,<-Bool.or_assoc,<-KA];rfl
    ·dsimp only;rw[<-mZ];exact h.all mH
   |false=>
    refine Z7 ?_;refine K3 ?_;refine OT ?_;refine KO.on rfl rfl rfl ?_;refine KO.ld (v:=.int .i64 x.id) rfl rfl isAgg3 aX aL rfl ?_;refine KO.on rfl rfl rfl ?_;refine KO.ce (cp:=[]) rfl rfl rfl call146 rfl (KE.Iu (φ:=fun v=>v=.bool (CL (H.dX r) x.id)) kJ (oH hV.ways JA) aX (fun L=>S0 w0 _ _ (V.ps.getD (4+r) 0) (H.dX r) x.id .head ae)) ?_;rintro v' L' ⟨rfl,rfl⟩;refine qj ?_;refine Z8 ?_;refine yD ?_;refine KQ.round (rest.eraseIdx i2,done++[r],CL (H.dX r) x.id,some (s,aZ (V.ps.getD (4+r) 0))) ⟨SN,?_⟩ hml ⟨rfl,rfl,rfl,rfl,rfl,rfl,rfl,rfl,rfl,rfl,trivial⟩ (fun _ h=>?_)
    ·dsimp only;rw[List.any_append,<-Bool.or_assoc,<-KA];simp
    ·dsimp only;rw[<-mZ];exact h.all Y7
  ·have uK:i=l.length:=by omega
   refine RR ?_
   exact KQ.qc () (by
    unfold By;rw[OX (f:=fun i x=>Cs H l i x)];intro i' y hy
    exact og i' y (by have :=(au.1 hy).1;omega) hy) ⟨rfl,rfl,rfl,rfl,trivial⟩ (fun w' aY=>aY.all Ov)
 ·rintro⟨⟩ adz;rw[adz]at oW;have YV:sF H (j:Int) m l=0:=oW;have qe:Eh H (j:Int) m l=true:=by unfold Eh;rw[YV,aM];simp;omega
  have Xr:Kh H D (j:Int) m l=ep H D:=by unfold Kh;rw[YV,qe];rfl
  have haH:sQ H D (j:Int) m l=oU H D (qE H (j:Int) l):=by unfold sQ;rw[qe];rfl
  have haD:y0 H D (j:Int) m l=ig H D (qE H (j:Int) l):=by unfold y0;rw[qe];rfl
  obtain⟨kZ,Qf⟩:=vU (k:=(j:Int)) ⟨by omega,by omega⟩ fg hl (lT jU []) (lA H l []);have me:=lA H l [];refine K.cg (fun _ h=>cb (h.pick bE)) ?_;rintro⟨V,hV⟩;dsimp only;have oO:=hV.ps;refine Z2 ?_;refine KO.mkm (Value.string) rfl rfl ?_;intro Rm;refine BM ?_;refine EA ?_;refine K.loop (fun q:Nat×Value×List (ak×Int)×List ak=>[(1,.int .i64 (j:Nat)),(4,.pointer (some ⟨b4,0,none⟩)),(10,.string (bL l)),(17,.map (some Rm)),(18,q.2.1),(106,.slice a l.length cap),(107,.int .i64 (l.length:Nat)),(108,.int .i64 (q.1:Nat))])
   (fun q=>iR q.2.1 q.2.2.2::cD Value.string Rm (TX q.2.2.1)::bD bh (.cells (eG bd V H).toArray 133 (0,0))::jg V.nv H.names::cD Value.string V.mb (c7 V H)::ck iU V.ps H.all::ck cN (V.us.map (·.1)) (H.az.map (·.aU))::ck cK (V.us.map (·.2)) (H.az.map (·.bj))::ck dB V.bs H.batch::fa bd D::A::bD b4 (.cells [aZ bh].toArray 29 (0,0))::L)
   (fun q=>q.1<=l.length/\eb H l []=q.2.2.2++eb H (l.drop q.1) q.2.2.1/\q.2.2.2.length=q.1/\∀s,0<=Hz q.2.2.1 s/\Hz q.2.2.1 s<=(q.1:Int)) (fun q=>l.length-q.1) (0,.slice none 0 0,[],[])
   ⟨aR _,rfl,rfl,fun s=>⟨Int.le_refl _,Int.le_refl _⟩⟩ ⟨rfl,rfl,rfl,rfl,rfl,rfl,rfl,rfl,trivial⟩ (fun w' aY=>?_) ?_
  ·have h1:=cL (E:=9) (sz:=1) (cf:=fI) aY;exact h1.all mH
  rintro⟨i,W0,room,ds⟩ ⟨hi,B8,aef,jM⟩;dsimp only at hi B8 aef jM ⊢;refine gZ ?_;refine K.bI rfl (fun h26=>?_) (fun h26=>?_)
  ·obtain⟨x,hx⟩:∃e,l[i]? =some e:=⟨l[i],ao ae⟩;have nn:l.drop i=x::l.drop (i+1):=by
    obtain⟨h1,rfl⟩:=au.1 hx;exact List.drop_eq_getElem_cons h1
   rw[nn,eb]at B8;refine K.fact (fun w hw=>by obtain⟨ad,h,-⟩:=ZM i x hx w _ (hw.pick (A:=A) aX);exact(⟨ad,h⟩:∃ad,a=some ad)) ?_;rintro⟨ad,rfl⟩;refine pE ?_;refine KO.tA (i:=i) rfl rfl runUnderlying49 sizeOf44 rfl ae rfl ?_;refine KO.Uq (cs:=(dN x).toArray) rfl rfl isAgg44 sizeOf44 rfl (fun w hw=>by obtain⟨ad2,h,hc⟩:=ZM i x hx w _ (hw.pick (A:=A) aX);cases h;exact hc) rfl ?_;refine KO.alloc rfl zeroValue44 aL rfl ?_;intro b20;refine BH ?_;have hg:=kt hV x.queue;obtain⟨zv,FY⟩:∃zv,zv=(gC (c7 V H) x.queue).getD (.pointer none):=⟨_,rfl⟩;refine K.draw [.read,.pure,.pure,.read,.pure,.read,.read,.pure] [0,1,2,3,4,5,6,7] bm bm ?_;refine RA ?_;refine lb ?_;refine RJ ?_;refine KO.di (i:=7) rfl rfl isAgg123 aX rfl rfl rfl ?_;refine Wg ?_;refine KO.Jl fj x.queue rfl rfl rfl underlying123 underlying9 zeroValue119 aX rfl ?_;rw[<-FY];refine jH ?_;have Zr:toDead H x room=true->eb H l []=(ds++[c_])++eb H (l.drop (i+1)) room:=fun h=>by rw[B8,if_pos h,aK];rfl
   have Zb:toDead H x room=false->eb H l []=(ds++[x.queue])++eb H (l.drop (i+1)) (kj room x.queue (Hz room x.queue+1)):=fun h=>by rw[B8,if_neg (by rw[h];simp),aK];rfl
   refine K.cut (fun b:Bool=>[(1,.int .i64 (j:Nat)),(4,.pointer (some ⟨b4,0,none⟩)),(10,.string (bL l)),(17,.map (some Rm)),(18,W0),(20,.pointer (some ⟨b20,0,none⟩)),(139,.bool b),(106,.slice (some ad) l.length cap),(107,.int .i64 (l.length:Nat)),(108,.int .i64 (i:Nat))])
    (fun _=>iR W0 ds::cD Value.string Rm (TX room)::bD bh (.cells (eG bd V H).toArray 133 (0,0))::jg V.nv H.names::cD Value.string V.mb (c7 V H)::ck iU V.ps H.all::ck cN (V.us.map (·.1)) (H.az.map (·.aU))::ck cK (V.us.map (·.2)) (H.az.map (·.bj))::ck dB V.bs H.batch::fa bd D::A::bD b4 (.cells [aZ bh].toArray 29 (0,0))::bD b20 (.cells (dN x).toArray 44 (0,0))::L) (fun b=>b=toDead H x room) ?_ ?_
   ·cases Ze:dO H.names x.queue with
    |false=>
     have ht:toDead H x room=true:=by
      unfold toDead;split
      ·rfl
      ·rw[Ze];rfl
     refine abo ?_;refine Es ?_;refine Wg ?_;refine KO.ce (cp:=[]) rfl rfl rfl call57 rfl (sg w0 _ _ _ bh 6 (eG bd V H) 133 V.nv H.names x.queue aX aX rfl ae yJ) ?_;rintro v' L' ⟨rfl,rfl⟩;rw[Ze];refine oY ?_;refine lg ?_;refine za ?_;refine IE ?_;refine IE ?_;refine y4 ?_;refine KO.nil ?_;exact KQ.qc true ht.symm ⟨rfl,rfl,rfl,rfl,rfl,rfl,rfl,rfl,rfl,rfl,trivial⟩ (fun w' aY=>aY.all Y7)
    |true=>
     obtain⟨q,hq⟩:=H9 hB Ze;have Xd:=(i_ hq).1;have adJ:=(hB.qa Xd).len;obtain⟨p,hp⟩:∃p,V.ps[4+q]? =some p:=⟨_,ao ae⟩;rw[hq]at hg;simp only[Option.bind_some,hp,Option.map_some]at hg;rw[hg]at FY;subst FY;have hrm:=jM x.queue;have ht:toDead H x room=decide (20<=((H.dX q).l.length:Int)+Hz room x.queue):=by unfold toDead;rw[hq];dsimp only;rw[Ze];rfl
     refine abo ?_;refine Es ?_;refine Wg ?_;refine KO.ce (cp:=[]) rfl rfl rfl call57 rfl (sg w0 _ _ _ bh 6 (eG bd V H) 133 V.nv H.names x.queue aX aX rfl ae yJ) ?_;rintro v' L' ⟨rfl,rfl⟩;rw[Ze];refine oY ?_;refine Hf ?_;refine Z1 ?_;refine KO.on rfl rfl rfl ?_;refine KO.JV rfl underlying119 rfl ?_;refine EF ?_;refine Hf ?_;refine Rq ?_;refine KO.on rfl rfl rfl ?_;refine KO.ld (v:=.string x.queue) rfl rfl isAgg9 bE aL rfl ?_;refine KO.on rfl rfl rfl ?_;refine KO.Jl fj x.queue rfl rfl rfl underlying282 underlying9 zeroValue3 aX rfl ?_;rw[Hy];refine KO.on rfl rfl rfl ?_;refine KO.ce (cp:=[]) rfl rfl rfl call192 rfl (KE.Iu (φ:=fun v=>v=.int .i64 ((H.dX q).l.length:Nat)) hp (oH hV.ways Xd) aX (fun L=>Uk w0 _ _ p (H.dX q) .head)) ?_;rintro v' L' ⟨rfl,rfl⟩;refine KO.on rfl rfl rfl ?_;refine KO.add rfl rfl rfl ae rfl ?_;refine KO.on rfl rfl rfl ?_;refine KO.geq rfl rfl rfl ?_;refine qj ?_;refine KO.nil ?_;exact KQ.qc (decide (((H.dX q).l.length:Int)+Hz room x.queue>=20)) (by rw[ht]) ⟨rfl,rfl,rfl,rfl,rfl,rfl,rfl,rfl,rfl,rfl,trivial⟩ (fun w' aY=>aY.all Y7)
   ·rintro b hb;refine K.cond rfl (fun rI=>?_) (fun hbf=>?_)
    ·have h1:=Zr (by rw[<-hb];exact rI);refine gU ?_;refine KO.iN (z:=Value.string ⟨#[]⟩) (sz:=1) (cV:=16) rfl rfl underlying115 kg aL aL ai ai rfl ?_;intro ajP;refine KO.app (cf:=fI) (z:=Value.string ⟨#[]⟩) (sz:=1) (cV:=16) (xs:=ds) rfl rfl rfl (.tail .head) .head underlying115 kg rfl c_ rfl rfl rfl ae ai rfl ?_;intro acD;refine oz ?_;refine aa7 ?_;refine KQ.round (i+1,acD,room,ds++[c_]) ⟨by dsimp only;omega,h1,by dsimp only;simp;omega,fun s=>?_⟩ ji ⟨rfl,rfl,rfl,rfl,rfl,rfl,rfl,rfl,trivial⟩ (fun w' aY=>aY.all Y5);have :=jM s;dsimp only;push_cast;omega
    ·have h1:=Zb (by rw[<-hb];exact hbf);have hrm:=jM x.queue;refine ES ?_;refine gU ?_;refine Rq ?_;refine KO.ld (v:=.string x.queue) rfl rfl isAgg9 aX aL rfl ?_;refine KO.Jl fj x.queue rfl rfl rfl underlying282 underlying9 zeroValue3 aX rfl ?_;rw[Hy];refine uS ?_;refine KO.upm fj x.queue rfl rfl rfl rfl underlying282 underlying9 aX ?_;rw[Pm];refine Z5 ?_;refine Z7 ?_;refine Rq ?_;refine KO.ld (v:=.string x.queue) rfl rfl isAgg9 aX aL rfl ?_;refine KO.iN (z:=(Value.string ⟨#[]⟩)) (sz:=1) (cV:=16) rfl rfl underlying115 bm aL aL ai ai rfl ?_;intro ajO;refine KO.app (cf:=fI) (z:=Value.string ⟨#[]⟩) (sz:=1) (cV:=16) (xs:=ds) rfl rfl rfl (.tail (.tail .head)) .head underlying115 kg rfl x.queue rfl rfl rfl ae ai rfl ?_;intro v152;refine rz ?_;refine KQ.round (i+1,v152,kj room x.queue (Hz room x.queue+1),ds++[x.queue]) ⟨by dsimp only;omega,h1,by dsimp only;simp;omega,fun s=>?_⟩ ji ⟨rfl,rfl,rfl,rfl,rfl,rfl,rfl,rfl,trivial⟩ (fun w' aY=>aY.all Y5);dsimp only;rw[Pn];have :=jM s;split<;>push_cast<;>omega
  ·obtain rfl:i=l.length:=by omega
   rw[List.drop_length,eb,List.append_nil]at B8;subst B8;have his:=bJ (n:=(j:Int)) ⟨by omega,by omega⟩;have YR:(qO (j:Int) l (eb H l [])).size=(⟨#[114,58]⟩++bH (j:Int)++⟨#[47]⟩++bL l++⟨#[47]⟩++cJ (eb H l []) plus:ak).size/\(⟨#[114,58]⟩++bH (j:Int)++⟨#[47]⟩++bL l++⟨#[47]⟩++cJ (eb H l []) plus:ak)=qE H (j:Int) l:=by
    have e:(⟨#[114,58]⟩++bH (j:Int)++⟨#[47]⟩++bL l++⟨#[47]⟩++cJ (eb H l []) plus:ak)=qO (j:Int) l (eb H l []):=by
     unfold qO;rw[show(⟨#[114,58]⟩:ak)=bV 114++bV 58 by decide,show(⟨#[47]⟩:ak)=bV 47 from rfl];simp only[ByteArray.append_assoc]
    exact⟨by rw[e],e⟩
   have hz:=YR.1;rw[hz]at Qf;simp only[aB]at Qf;refine wx ?_;refine K.conv (L':=cW bh bd H::fa bd D::iR W0 (eb H l [])::A::bD b4 (.cells [aZ bh].toArray 29 (0,0))::L) (fun w' aY=>bK V hV (aY.all Y5)) ?_
   refine K.draw [.read,.pure,.cx,.pure,.pure,.pure,.pure,.pure,.pure,.cx,.pure,.write,.pure] [0,1,5,8,2,3,4,6,7,9,10,11,12] bm bm ?_;refine RA ?_;refine zf ?_;refine KO.ce (cp:=[]) rfl rfl rfl call59 rfl (fF w0 _ (j:Int) hT ⟨by omega,by omega⟩) ?_;rintro v' L' ⟨rfl,rfl⟩;refine nG ?_;refine KO.cat rfl rfl Y23 rfl ?_;refine KO.cat rfl rfl Y23 rfl ?_;refine KO.cat rfl rfl Y23 rfl ?_;refine KO.ce (cp:=[]) rfl rfl rfl call62 rfl (ra w0 _ _ W0 (eb H l []) plus aX ae ae) ?_;rintro v' L' ⟨rfl,rfl⟩;refine KO.cat rfl rfl Y23 rfl ?_;rw[YR.2];refine KO.cl (cp:=[]) rfl rfl rfl call84 rfl (KC.OI bE bE (nb w0 _ bh bd n 250 H D (qE H (j:Int) l) hT hM hB kZ ae h3 hd)) ?_;rintro v' L' ⟨rfl,rfl⟩;refine vE ?_;refine K.bI rfl (fun h35=>?_) (fun h35=>?_)
   ·refine gU ?_;refine Em ?_;refine KQ.ef rfl rfl rfl (fun w' aY=>⟨_,_,rfl,⟨?_,rfl⟩,?_⟩)
    ·unfold vu;rw[Xr,if_neg h35]
    ·rw[haH,haD];exact aY.all Y1
   ·have ZO:ep H D=0:=by simpa using h35
    refine Z6 ?_;generalize hH2:oU H D (qE H (j:Int) l)=H2 at haH ⊢;refine K.cg (fun _ h=>cb (h.pick bE)) ?_;rintro⟨V2,sr⟩;dsimp only;obtain⟨d2,-⟩:=v7 (bd:=bd) sr hj;refine dC ?_;refine RA ?_;refine uk ?_;refine Z67 ?_;refine KO.di (i:=30+j) rfl rfl isAgg3 bE wz d2 rfl ?_;refine nE ?_;refine KQ.ef rfl rfl rfl (fun w' aY=>⟨_,_,rfl,⟨?_,rfl⟩,?_⟩)
    ·unfold vu;rw[Xr,if_pos ZO,haH,ZO,aM];rfl
    ·rw[haH,haD];exact bK V2 sr (aY.all Y5)
theorem LB{w0 w:World}{L:List HP}{b k:Nat}{xs:List ak}{vs:List Value}(h:St w0 (bD b (.cells vs.toArray 9 (0,0))::L) w)(MR:vs=xs.map Value.string)(hk:xs.length=k)(hle:k<=1000):St w0 (iR (.slice (some ⟨b,0,none⟩) k k) xs::L) w:=by
 subst hk;have hf:xs.flatMap fI=vs:=by rw[MR];clear MR h hle;induction xs with
  |nil=>rfl
  |cons a l ih=>rw[aO,ih];rfl
 refine h.ju (aC _) Ou ?_ ?_
 ·rw[MR];simp
 ·rw[hf,MR,Nat.mul_one];exact List.take_of_length_le aj
theorem ZU(w0:World)(L:List HP)(f:Fr)(v:Value)(xs:List Ms)(hr0:∀w,St w0 L w->oS w 5 dN v xs)(DT:nI w0)(cj:∀m∈xs,m.body.size<=maxLen/\m.queue.size<=maxLen):
 KE prog 264 #[.agg (ZX f v).toArray] w0 L (fun u M=>u=.tuple #[.string (ZV f xs),cz 70 (ZW f xs)]/\M=L):=by
 refine KE.mk (n:=62) func264 rfl ntmps264 aj ?_;intro w hw;have hT:=DT.ext (Ext.bB hw.below);have hr:=hr0 w hw;have Xc:=hr;obtain⟨sa,cap,rfl,hc⟩:=Xc;have fin:∀(e:Int) (t:ak) (w':World) (M:List HP),e=ZW f xs->t=ZV f xs->St w M w'->∃v L',Ending.returned (.tuple #[.string t,cz 70 e])=Ending.returned v/\(v=.tuple #[.string (ZV f xs),cz 70 (ZW f xs)]/\L'=L)/\St w0 L' w'/\Below w.heap.size w w':=fun e t w' M h1 h2 hs=>⟨_,_,rfl,⟨by rw[h1,h2],rfl⟩,hw.aA hs.below,hs.below⟩
 refine Z2 ?_;refine KO.box rfl rfl aL rfl ?_;intro b1;refine Z8 ?_;refine jH ?_;by_cases a1:f.gD<0
 ·have fg:=oo (f:=f) (xs:=xs) (fun h=>by unfold okF at h;omega);refine G4 ?_;refine Ob ?_;refine N_ ?_;refine qJ ?_;refine rD ?_;refine y4 ?_;refine rD ?_;refine za ?_;refine Tl ?_;refine za ?_;refine sL ?_;refine l3 ?_;refine KQ.ef rfl rfl rfl (fun w' hs=>fin 1 ⟨#[]⟩ w' _ fg.1.symm fg.2.symm hs)
 by_cases a2:4<=f.gD
 ·have fg:=oo (f:=f) (xs:=xs) (fun h=>by unfold okF at h;omega);refine G4 ?_;refine Ey ?_;refine N3 ?_;refine pF ?_;refine zd ?_;refine N_ ?_;refine qJ ?_;refine rD ?_;refine za ?_;refine Tl ?_;refine za ?_;refine y4 ?_;refine Z5 ?_;refine K.cA rfl (by simp[a2]) ?_;refine l3 ?_;refine KQ.ef rfl rfl rfl (fun w' hs=>fin 1 ⟨#[]⟩ w' _ fg.1.symm fg.2.symm hs)
 by_cases a3:f.num<0
 ·have fg:=oo (f:=f) (xs:=xs) (fun h=>by unfold okF at h;omega);refine G4 ?_;refine Ey ?_;refine N3 ?_;refine pF ?_;refine zd ?_;refine BK ?_;refine vz ?_;refine vy ?_;refine N_ ?_;refine qJ ?_;refine BU ?_;refine Tl ?_;refine za ?_;refine y4 ?_;refine Z5 ?_;refine K.cA rfl (by simp[a3]) ?_;refine l3 ?_;refine KQ.ef rfl rfl rfl (fun w' hs=>fin 1 ⟨#[]⟩ w' _ fg.1.symm fg.2.symm hs)
 by_cases a4:1099511627776<f.num
 ·have fg:=oo (f:=f) (xs:=xs) (fun h=>by unfold okF at h;omega);refine G4 ?_;refine Ey ?_;refine N3 ?_;refine pF ?_;refine zd ?_;refine BK ?_;refine vz ?_;refine vy ?_;refine BK ?_;refine BL ?_;refine He ?_;refine Hk ?_;refine qJ ?_;refine BU ?_;refine y4 ?_;refine Z5 ?_;refine K.cA rfl (by simp[a4]) ?_;refine l3 ?_;refine KQ.ef rfl rfl rfl (fun w' hs=>fin 1 ⟨#[]⟩ w' _ fg.1.symm fg.2.symm hs)
 have hz:decide ((xs.length:Int)=0)=decide (xs.length=0):=decide_eq_decide.2 ae;by_cases a5:f.wu=decide ((xs.length:Int)=0)
 case neg=>
  have fg:=oo (f:=f) (xs:=xs) (fun h=>by unfold okF at h;rw[hz]at a5;exact a5 h.2.2.2.2.1);have a6:(f.wu !=decide ((xs.length:Int)=0))=true:=by simpa using a5
  refine G4 ?_;refine Ey ?_;refine N3 ?_;refine pF ?_;refine zd ?_;refine BK ?_;refine vz ?_;refine vy ?_;refine BK ?_;refine BL ?_;refine Ek ?_;refine Oh ?_;refine lV ?_;refine N7 ?_;refine lV ?_;refine EP ?_;refine lV ?_;refine EG ?_;refine lV ?_;refine BY ?_;refine lV ?_;refine IC ?_;refine V4 ?_;refine vy ?_;refine Z1 ?_;refine EL ?_;refine EL ?_;refine Ki ?_;refine Z5 ?_;refine K.cA rfl (by simp[a6]) ?_;refine l3 ?_;refine KQ.ef rfl rfl rfl (fun w' hs=>fin 1 ⟨#[]⟩ w' _ fg.1.symm fg.2.symm hs)
 have a6:(f.wu !=decide ((xs.length:Int)=0))=false:=by simpa using a5
 by_cases a7:3<(xs.length:Int)
 ·have fg:=oo (f:=f) (xs:=xs) (fun h=>by unfold okF at h;omega);refine G4 ?_;refine Ey ?_;refine N3 ?_;refine pF ?_;refine zd ?_;refine BK ?_;refine vz ?_;refine vy ?_;refine BK ?_;refine BL ?_;refine Ek ?_;refine Oh ?_;refine lV ?_;refine N7 ?_;refine lV ?_;refine EP ?_;refine lV ?_;refine EG ?_;refine lV ?_;refine BY ?_;refine lV ?_;refine IC ?_;refine V4 ?_;refine vy ?_;refine GZ ?_;refine EP ?_;refine sK ?_;refine EG ?_;refine sK ?_;refine BY ?_;refine sK ?_;refine yB ?_;refine KO.o7 rfl uT rfl rfl ?_;refine Z5 ?_;refine K.cA rfl (by simp[a7]) ?_;refine l3 ?_;refine KQ.ef rfl rfl rfl (fun w' hs=>fin 1 ⟨#[]⟩ w' _ fg.1.symm fg.2.symm hs)
 refine G4 ?_;refine Ey ?_;refine N3 ?_;refine pF ?_;refine zd ?_;refine BK ?_;refine vz ?_;refine vy ?_;refine BK ?_;refine BL ?_;refine Ek ?_;refine Oh ?_;refine lV ?_;refine N7 ?_;refine lV ?_;refine EP ?_;refine lV ?_;refine EG ?_;refine lV ?_;refine BY ?_;refine lV ?_;refine IC ?_;refine V4 ?_;refine vy ?_;refine GZ ?_;refine EP ?_;refine sK ?_;refine EG ?_;refine sK ?_;refine BY ?_;refine sK ?_;refine yB ?_;refine KO.o7 rfl uT rfl rfl ?_;refine Z5 ?_;refine K.cP rfl (by simp[a7]) ?_;refine Z6 ?_;cases hb:iX xs with
 |some k=>
  have fg:=oo (f:=f) (xs:=xs) (fun h=>by unfold okF at h;rw[hb]at h;exact absurd h.2.2.2.2.2.2 aj);refine dC ?_;refine EP ?_;refine EG ?_;refine KO.ce (cp:=[]) rfl rfl rfl call60 rfl (jv w _ _ xs (fun w' hw'=>xa hr (Ext.bB hw'.below)) hT cj ae) ?_;rintro v' L' hR;unfold K8 at hR;rw[hb]at hR;obtain⟨be,rfl,rfl⟩:=hR;unfold atV;refine Ha ?_;refine BD ?_;refine l3 ?_;refine KQ.ef rfl rfl rfl (fun w' hs=>fin 1 ⟨#[]⟩ w' _ fg.1.symm fg.2.symm hs)
 |none=>
  have ku:okF f xs:=by unfold okF;exact⟨by omega,by omega,by omega,by omega,by rw[a5,hz],by omega,hb⟩
  obtain⟨e1,e2⟩:=Iq ku;have i1:jG f.gD:=⟨by omega,by omega⟩;have i2:jG f.num:=⟨by omega,by omega⟩;have s1:=bJ i1;have s2:=bJ i2;have s3:=gE (dm hb);refine dC ?_;refine EP ?_;refine EG ?_;refine KO.ce (cp:=[]) rfl rfl rfl call60 rfl (jv w _ _ xs (fun w' hw'=>xa hr (Ext.bB hw'.below)) hT cj ae) ?_;rintro v' L' hR;unfold K8 at hR;rw[hb]at hR;obtain⟨rfl,rfl⟩:=hR;refine jY ?_;refine qo ?_;refine BB ?_;refine oR ?_;refine qm ?_;refine Oh ?_;refine N7 ?_;refine Z5 ?_;have oh:(lM f.wu).size<=1:=by unfold lM;split<;>decide
  have hjz:(cJ [lM f.wu,bH f.gD,bH f.num,bL xs] colon).size<=1000000:=by
   have :=eM colon 1000 [lM f.wu,bH f.gD,bH f.num,bL xs] Y11;have h2:colon.size=1:=rfl;simp at this;omega
  refine K.cut (fun _:Unit=>[(1,.pointer (some ⟨b1,0,none⟩)),(4,.string (bL xs)),(6,.string (lM f.wu))]) (fun _=>[bD b1 (.cells (ZX f (.slice sa xs.length cap)).toArray 256 (0,0))]) (fun _=>True) ?_ ?_
  ·refine K.cond rfl (fun h=>?_) (fun h=>?_)
   ·refine dC ?_;refine oz ?_;exact KQ.qc () trivial ⟨rfl,rfl,by rw[h];rfl,trivial⟩ (fun _ h=>h.all Ov)
   ·refine K.skip ?_;exact KQ.qc () trivial ⟨rfl,rfl,by rw[h];rfl,trivial⟩ (fun _ h=>h.all Ov)
  rintro _ _;refine oQ ?_;refine K.draw [.pure,.pure,.read,.cx,.pure,.read,.cx,.pure,.cx,.cx,.pure,.pure] [0,1,2,4,5,7,3,6,8,9,10,11] bm bm ?_;refine Z1 ?_;refine N3 ?_;refine vG ?_;refine Z83 ?_;refine vG ?_;refine Z1 ?_;refine KO.ce (cp:=[]) rfl rfl rfl call59 rfl (fF w _ f.gD hT i1) ?_;rintro v' L' ⟨rfl,rfl⟩;refine KO.ce (cp:=[]) rfl rfl rfl call59 rfl (fF w _ f.num hT i2) ?_;rintro v' L' ⟨rfl,rfl⟩;refine KO.VN (z:=(Value.string ⟨#[]⟩)) (cV:=16) rfl [.tmp 52,.tmp 55,.tmp 58,.tmp 59] rfl rfl underlying115 bm aL aL ai ai aL rfl ?_;intro b60;refine KO.conv (fun w' hw'=>LB (b:=b60) (vs:=[.string (lM f.wu),.string (bH f.gD),.string (bH f.num),.string (bL xs)]) (xs:=[lM f.wu,bH f.gD,bH f.num,bL xs]) (k:=4) (hw'.pick bE) rfl rfl ae) ?_;refine KO.ce (cp:=[]) rfl rfl rfl call62 rfl (ra w _ _ (.slice (some ⟨b60,0,none⟩) 4 4) [lM f.wu,bH f.gD,bH f.num,bL xs] colon .head aj ae) ?_;rintro v' L' ⟨rfl,rfl⟩
  refine nE ?_;refine KQ.ef rfl rfl rfl (fun w' hs=>fin 0 (KV f xs) w' _ e1.symm e2.symm hs)
def oV (p:Nat):List Value:=[aZ p]
def Vl (g:Gm):List Value:=[.int .i64 g.dto,.string (ZS g)]
def yM (p:Nat×Nat) (x:Ho×Dk):HP:=sep (cW p.1 p.2 x.1) (fa p.2 x.2)
structure Kr where
 hv:Value
 dv:Value
 wv:Value
 ps:List (Nat×Nat)
def O1 (V:Kr) (W:Wo):List Value:=[V.hv,V.dv,V.wv,.int .i64 W.lost]
abbrev Ig (v:Value) (l:List Nat):HP:=SL 29 1 oV v l
abbrev OR (v:Value) (l:List Nat):HP:=SL 25 1 oV v l
abbrev Im (v:Value) (l:List Gm):HP:=SL 258 2 Vl v l
abbrev uu (bw:Nat) (V:Kr) (W:Wo) (L:List HP):List HP:=
 bD bw (.cells (O1 V W).toArray 164 (0,0))::Ig V.hv (V.ps.map (·.1))::OR V.dv (V.ps.map (·.2))::Im V.wv W.dy::ck yM V.ps W.hs::L
abbrev rN:=Value×Value×Option (List (Nat×Nat))
def yG (hd:rN) (dv:Value) (ps:List (Nat×Nat)):Prop:=dv=hd.2.1/\∀l,hd.2.2=some l->ps=l
theorem yG.none{hd:rN}{dv:Value}{ps qs:List (Nat×Nat)}(h:yG hd dv ps)(hN:hd.2.2=none):yG hd dv qs:=⟨h.1,fun l hl=>by rw[hN]at hl;cases hl⟩
def jI (bw:Nat) (hd:rN) (W:Wo):HP:=ex fun V:Kr=>sep (CP (V.ps.length=W.hs.length/\V.hv=hd.1/\yG hd V.dv V.ps)) (gj (uu bw V W []))
theorem dR{w0 w:World}{bw:Nat}{hd:rN}{W:Wo}{L:List HP}(h:St w0 (jI bw hd W::L) w):∃V:{V:Kr//V.ps.length=W.hs.length/\V.hv=hd.1/\yG hd V.dv V.ps},St w0 (uu bw V.1 W L) w:=by
 obtain⟨V,h⟩:=h.B9;obtain⟨hV,h⟩:=h.split.qQ;exact⟨⟨V,hV⟩,by have :=h.splits;exact this⟩
theorem dJ{w0 w:World}{bw:Nat}{hd:rN}{W:Wo}{L:List HP}(V:Kr)(hV:V.ps.length=W.hs.length)(h:St w0 (uu bw V W L) w)(e8:V.hv=hd.1:=by assumption)(e9:yG hd V.dv V.ps:=by assumption):St w0 (jI bw hd W::L) w:=
 St.Bk (F:=fun V:Kr=>sep (CP (V.ps.length=W.hs.length/\V.hv=hd.1/\yG hd V.dv V.ps)) (gj (uu bw V W []))) V (St.join (St.u5 ⟨hV,e8,e9⟩ (St.zO (L:=uu bw V W []) h)))
theorem IL{w0 w:World}{bw:Nat}{hd:rN}{W:Wo}{L R:List HP}(h:St w0 L w)(hp:bC L (jI bw hd W) R):
 ∃V:Kr,V.ps.length=W.hs.length/\(∃a cap,V.hv=.slice a W.hs.length cap)/\∀i v,(O1 V W)[i]? =some v->w.cell? ⟨bw,i,none⟩=some v:=by
 obtain⟨V,h1⟩:=dR (h.pick hp);obtain⟨a,cap,h2,-⟩:=aN h1.drop;refine⟨V.1,V.2.1,⟨a,cap,by rw[h2,aV,V.2.1]⟩,fun i v hv=>?_⟩;rw[World.cell?,h1.look.2];simpa using hv
theorem fW(w0:World)(L R:List HP)(bw:Nat)(hd:rN)(W:Wo)(k:Int)(hp:bC L (jI bw hd W) R):KE prog 78 #[aZ bw,.int .i64 k] w0 L (fun u M=>u=.bool (W.is k)/\M=L):=by
 refine KE.mk (n:=16) func78 rfl ntmps78 aj ?_;intro w hw;obtain⟨V,hV,⟨ha,hc,hhv⟩,oG⟩:=IL hw hp;have JK:w.cell? ⟨bw,0,none⟩=some (.slice ha W.hs.length hc):=by rw[<-hhv];exact oG 0 _ rfl
 refine y6 ?_;by_cases h1:0<=k
 ·refine Z7 ?_;refine uh ?_;refine uo ?_;refine Ek ?_;refine GY ?_;refine KO.ij (off:=0) rfl runUnderlying164 rfl rfl sizeOf160 rfl ?_;refine KO.on rfl rfl ET ?_;refine KO.pb rfl rfl isAgg160 JK rfl ?_;refine lV ?_;refine KO.len rfl underlying160 rfl ?_;refine lV ?_;refine vz ?_;refine qJ ?_;refine fK ?_;refine KQ.a_ rfl rfl (fun w' hs=>⟨_,_,rfl,⟨?_,rfl⟩,hw.aA hs.below,hs.below⟩);unfold Wo.is;simp[h1]
 ·refine Z7 ?_;refine uh ?_;refine He ?_;refine Hk ?_;refine vy ?_;refine fK ?_;refine KQ.a_ rfl rfl (fun w' hs=>⟨_,_,rfl,⟨?_,rfl⟩,hw.aA hs.below,hs.below⟩);unfold Wo.is;simp[h1]
theorem KC.hd{P:Program}{f:FuncId}{args:Array Value}{w0:World}{L:List HP}{p:Nat×Nat}{x y:Ho×Dk}{φ:Value->Prop}(h:KC P f args w0 (cW p.1 p.2 x.1::fa p.2 x.2::L) (fun u M=>φ u/\M=cW p.1 p.2 y.1::fa p.2 y.2::L)):KC P f args w0 (yM p x::L) (fun u M=>φ u/\M=yM p y::L):=
 KC.perm (fun w hw=>hw.split) (KC.oI h (by
  rintro v M ⟨h1,rfl⟩
  exact⟨_,⟨h1,rfl⟩,fun w hw=>hw.join⟩))
theorem KC.hdD{P:Program}{f:FuncId}{args:Array Value}{w0:World}{L:List HP}{p:Nat×Nat}{x:Ho×Dk}{d:Dk}{φ:Value->Prop}(h:∀L,KC P f args w0 (fa p.2 x.2::L) (fun u M=>φ u/\M=fa p.2 d::L)):KC P f args w0 (yM p x::L) (fun u M=>φ u/\M=yM p (x.1,d)::L):=
 KC.perm (fun w hw=>hw.split.fL) (KC.oI (h (cW p.1 p.2 x.1::L)) (by
  rintro v M ⟨h1,rfl⟩
  exact⟨_,⟨h1,rfl⟩,fun w hw=>hw.fL.join⟩))
theorem KC.hdH{P:Program}{f:FuncId}{args:Array Value}{w0:World}{L:List HP}{p:Nat×Nat}{x:Ho×Dk}{y:Ho}{φ:Value->Prop}(h:∀L,KC P f args w0 (cW p.1 p.2 x.1::L) (fun u M=>φ u/\M=cW p.1 p.2 y::L)):KC P f args w0 (yM p x::L) (fun u M=>φ u/\M=yM p (y,x.2)::L):=
 KC.perm (fun w hw=>hw.split) (KC.oI (h (fa p.2 x.2::L)) (by
  rintro v M ⟨h1,rfl⟩
  exact⟨_,⟨h1,rfl⟩,fun w hw=>hw.join⟩))
theorem wF{W:Wo}{k:Nat}{x:Ho×Dk}(h:W.hs[k]? =some x):W.H k=x.1/\W.D k=x.2:=by
 unfold Wo.H Wo.D Wo.at';rw[aq,h];exact⟨rfl,rfl⟩
theorem mM{W:Wo}{k:Int}(h:W.is k=true):∃j:Nat,k=(j:Int)/\j<W.hs.length:=by
 unfold Wo.is at h;simp only[decide_eq_true_eq]at h;exact⟨k.toNat,by omega,by omega⟩
theorem Lh(w0:World)(L:List HP)(bw c kb:Nat)(hd:rN)(W:Wo)(k n t:Int)(hB:dr c kb W):
 KC prog 73 #[aZ bw,.int .i64 k,.int .i64 n,.int .i64 t] w0 (jI bw hd W::L) (fun u M=>u=cz 70 (oC W k)/\M=jI bw hd (sX W k n t)::L):=by
 unfold oC sX;refine KC.mk (n:=32) func73 rfl ntmps73 aj ?_;refine y6 ?_;cases hk:W.is k with
 |false=>
  refine iw ?_;refine KO.ce (cp:=[]) rfl rfl rfl call78 rfl (fW w0 _ _ bw hd W k bE) ?_;rintro v' L' ⟨rfl,rfl⟩;rw[hk];refine GV ?_;refine qk ?_;refine KQ.a_ rfl rfl (fun w' aY=>⟨_,_,rfl,⟨rfl,rfl⟩,aY⟩)
 |true=>
  obtain⟨j,rfl,hj⟩:=mM hk;refine iw ?_;refine KO.ce (cp:=[]) rfl rfl rfl call78 rfl (fW w0 _ _ bw hd W (j:Int) bE) ?_;rintro v' L' ⟨rfl,rfl⟩;rw[hk];refine oY ?_;refine yr ?_;refine K.cg (fun _ h=>dR h) ?_;rintro⟨V,hV,e8,e9⟩;dsimp only;obtain⟨x,hx⟩:∃e,W.hs[j]? =some e:=⟨_,ao hj⟩;obtain⟨p,hp⟩:∃e,V.ps[j]? =some e:=⟨_,ao ae⟩;obtain⟨eH,eD⟩:=wF hx;have u_:=hB.hs j x hx;have mD:(V.ps.map (·.1))[j]? =some p.1:=by rw[aH,hp];rfl
  have kJ:(V.ps.map (·.2))[j]? =some p.2:=by rw[aH,hp];rfl
  obtain⟨hv,dv,wv,ps⟩:=V;dsimp only at hp mD kJ hV ⊢;refine K.fact (fun w hw=>aN (hw.pick (A:=Ig hv (ps.map (·.1))) aX)) ?_
  rintro⟨a1,c1,rfl,xL⟩;refine K.fact (fun w hw=>aN (hw.pick (A:=OR dv (ps.map (·.2))) aX)) ?_
  rintro⟨a2,c2,rfl,JI⟩;obtain⟨g1,rfl⟩:=xL lY;obtain⟨g2,rfl⟩:=JI lY;refine Z7 ?_;refine Wc ?_;refine Z1 ?_;refine RZ ?_;refine Z1 ?_;refine KO.cl (cp:=[]) rfl rfl rfl call18 rfl (KC.ri (φ:=fun u=>u=.tuple #[]) hp hx aX (fun L=>KC.hdD (fun L=>NK w0 L p.2 x.2 n u_.len))) ?_;rintro v' L' ⟨rfl,rfl⟩;refine Z0 ?_;have Dj:(W.hs.set j (x.1,cO x.2 n))[j]? =some (x.1,cO x.2 n):=List.getElem?_set_self hj;refine Z7 ?_;refine XC ?_;refine Z1 ?_;refine abd ?_;refine Z1 ?_;refine KO.cl (cp:=[]) rfl rfl rfl call19 rfl (KC.ri (φ:=fun u=>u=.tuple #[]) hp Dj bE (fun L=>KC.hdH (fun L=>Qc w0 L p.1 p.2 x.1 t))) ?_;rintro v' L' ⟨rfl,rfl⟩;rw[List.set_set];refine jf ?_;refine KQ.a_ rfl rfl (fun w' aY=>⟨_,_,rfl,⟨rfl,rfl⟩,?_⟩);rw[if_pos rfl,aM,eH,eD];exact dJ ⟨_,_,wv,ps⟩ Y16 (aY.all Y7)
theorem Lb(w0:World)(L:List HP)(bw c kb:Nat)(hd:rN)(hN:hd.2.2=none)(W:Wo)(k:Int)(hT:nI w0)(hM:oB w0)(hB:dr c kb W)(hK:kb<=1000000000000):
 KC prog 74 #[aZ bw,.int .i64 k] w0 (jI bw hd W::L) (fun u M=>u=cz 70 (oC W k)/\M=jI bw hd (Ff W k)::L):=by
 unfold oC Ff;have KG:=hB.n1;refine KC.mk (n:=36) func74 rfl ntmps74 aj ?_;refine y6 ?_;cases hk:W.is k with
 |false=>
  refine iw ?_;refine KO.ce (cp:=[]) rfl rfl rfl call78 rfl (fW w0 _ _ bw hd W k bE) ?_;rintro v' L' ⟨rfl,rfl⟩;rw[hk];refine GV ?_;refine qk ?_;refine KQ.a_ rfl rfl (fun w' aY=>⟨_,_,rfl,⟨rfl,rfl⟩,aY⟩)
 |true=>
  obtain⟨j,rfl,hj⟩:=mM hk;refine iw ?_;refine KO.ce (cp:=[]) rfl rfl rfl call78 rfl (fW w0 _ _ bw hd W (j:Int) bE) ?_;rintro v' L' ⟨rfl,rfl⟩;rw[hk];refine oY ?_;refine yr ?_;refine K.cg (fun _ h=>dR h) ?_;rintro⟨V,hV,e8,e9⟩;dsimp only;obtain⟨x,hx⟩:∃e,W.hs[j]? =some e:=⟨_,ao hj⟩;obtain⟨p,hp⟩:∃e,V.ps[j]? =some e:=⟨_,ao ae⟩;obtain⟨eH,eD⟩:=wF hx;have u_:=hB.hs j x hx;have hcB:=u_.cut (n:= -1) ae;have mD:(V.ps.map (·.1))[j]? =some p.1:=by rw[aH,hp];rfl
  have kJ:(V.ps.map (·.2))[j]? =some p.2:=by rw[aH,hp];rfl
  obtain⟨hv,dv,wv,ps⟩:=V;dsimp only at hp mD kJ hV ⊢;refine K.fact (fun w hw=>aN (hw.pick (A:=Ig hv (ps.map (·.1))) aX)) ?_
  rintro⟨a1,c1,rfl,xL⟩;refine K.fact (fun w hw=>aN (hw.pick (A:=OR dv (ps.map (·.2))) aX)) ?_
  rintro⟨a2,c2,rfl,JI⟩;obtain⟨g1,rfl⟩:=xL lY;obtain⟨g2,rfl⟩:=JI lY;have Dj:(W.hs.set j (x.1,cO x.2 (-1)))[j]? =some (x.1,cO x.2 (-1)):=List.getElem?_set_self hj;refine Z7 ?_;refine Wc ?_;refine Z1 ?_;refine RZ ?_;refine KO.cl (cp:=[]) rfl rfl rfl call18 rfl (KC.ri (φ:=fun u=>u=.tuple #[]) hp hx aX (fun L=>KC.hdD (fun L=>NK w0 L p.2 x.2 (-1) u_.len))) ?_;rintro v' L' ⟨rfl,rfl⟩;refine Z0 ?_;refine K.conv (fun w hw=>ew hp Dj (hw.pick (A:=ck yM ps (W.hs.set j (x.1,cO x.2 (-1)))) bE)) ?_
  refine K.conv (fun w hw=>(hw.pick (A:=yM p (x.1,cO x.2 (-1))) .head).split) ?_
  refine K.NF [.pure,.pure,.pure,.read,.pure,.pure,.pure,.pure,.pure,.read,.pure,.pure,.read,.write,.pure,.pure,.pure,.pure,.write] [(3,13)] [[0,1,2,3,4,5,6,7,8,9,10,11,12,13,14,15,16,17,18],[0,1,2,4,5,6,7,8,9,10,11,12,13,3,14,15,16,17,18]] bm bm bm ⟨?_,?_,trivial⟩
  focus
   show KO _ _ _ _ _ _ _ _ _ _
   refine Z1 ?_;refine XC ?_;refine zf ?_;refine Z25 ?_;refine ID ?_;refine Z1 ?_;refine RZ ?_;refine KO.cl (cp:=[]) rfl rfl rfl call11 rfl (KC.qR aX (A_ w0 _ p.2 (j:Int) (cO x.2 (-1)) hT hM ⟨by omega,by omega⟩ (hcB.ok hK))) ?_;rintro v' L' ⟨bh,rfl,rfl⟩;refine Cb ?_;refine abl ?_;refine Z0 ?_
  rotate_left
  focus
   show KO _ _ _ _ _ _ _ _ _ _
   refine Z1 ?_;refine RH ?_;refine zf ?_;refine Z25 ?_;refine ID ?_;refine Z1 ?_;refine RZ ?_;refine KO.cl (cp:=[]) rfl rfl rfl call11 rfl (KC.qR aX (A_ w0 _ p.2 (j:Int) (cO x.2 (-1)) hT hM ⟨by omega,by omega⟩ (hcB.ok hK))) ?_;rintro v' L' ⟨bh,rfl,rfl⟩;refine KO.di (i:=0) rfl rfl isAgg160 aX rfl rfl rfl ?_;refine Cb ?_;refine abl ?_;refine Z0 ?_
  rotate_left
  all_goals (
   refine Ex ?_;refine KQ.a_ rfl rfl (fun w' aY=>⟨_,_,rfl,⟨rfl,rfl⟩,?_⟩);rw[if_pos rfl,aM];unfold EV;rw[eD];have e1:(ps.set j (bh,p.2)).map (·.1)=(ps.map (·.1)).set j bh:=List.map_set
   have e2:(ps.set j (bh,p.2)).map (·.2)=ps.map (·.2):=by rw[List.map_set];exact List.gH kJ
   have h1:St w0 (yM (bh,p.2) (gy (j:Int) (cO x.2 (-1)),cO x.2 (-1))::ck yM (ps.eraseIdx j) ((W.hs.set j (x.1,cO x.2 (-1))).eraseIdx j)::Ig (.slice (some ⟨g1,0,none⟩) (ps.map (·.1)).length c1) ((ps.map (·.1)).set j bh)::OR (.slice (some ⟨g2,0,none⟩) (ps.map (·.2)).length c2) (ps.map (·.2))::Im wv W.dy::bD bw (.cells (O1 ⟨.slice (some ⟨g1,0,none⟩) (ps.map (·.1)).length c1,.slice (some ⟨g2,0,none⟩) (ps.map (·.2)).length c2,wv,ps⟩ W).toArray 164 (0,0))::L) w':=by
    have h2:St w0 (cW bh p.2 (gy (j:Int) (cO x.2 (-1)))::fa p.2 (cO x.2 (-1))::_) w':=aY.all (M:=cW bh p.2 (gy (j:Int) (cO x.2 (-1)))::fa p.2 (cO x.2 (-1))::ck yM (ps.eraseIdx j) ((W.hs.set j (x.1,cO x.2 (-1))).eraseIdx j)::Ig (.slice (some ⟨g1,0,none⟩) (ps.map (·.1)).length c1) ((ps.map (·.1)).set j bh)::OR (.slice (some ⟨g2,0,none⟩) (ps.map (·.2)).length c2) (ps.map (·.2))::Im wv W.dy::bD bw (.cells (O1 ⟨.slice (some ⟨g1,0,none⟩) (ps.map (·.1)).length c1,.slice (some ⟨g2,0,none⟩) (ps.map (·.2)).length c2,wv,ps⟩ W).toArray 164 (0,0))::L) Y5
    exact h2.join
   have h3:=po (f:=yM) (ps:=ps) (xs:=W.hs.set j (x.1,cO x.2 (-1))) (i:=j) (p:=(bh,p.2)) (x:=(gy (j:Int) (cO x.2 (-1)),cO x.2 (-1))) ae (by rw[List.length_set];exact hj) h1;rw[List.set_set]at h3;refine dJ ⟨.slice (some ⟨g1,0,none⟩) (ps.map (·.1)).length c1,.slice (some ⟨g2,0,none⟩) (ps.map (·.2)).length c2,wv,ps.set j (bh,p.2)⟩ (by dsimp only[Wo.bX];rw[List.length_set,List.length_set];exact hV) ?_ (e9:=e9.none hN)
   unfold uu;dsimp only;rw[e1,e2]
   exact h3.all Y7)
theorem O2(w0:World)(L R:List HP)(bw:Nat)(hd:rN)(W:Wo)(hp:bC L (jI bw hd W) R):KE prog 46 #[aZ bw] w0 L (fun u M=>u=.int .i64 (W.dy.length:Nat)/\M=L):=by
 refine KE.mk (n:=8) func46 rfl ntmps46 aj ?_;intro w hw;obtain⟨V,h1⟩:=dR (hw.pick hp);obtain⟨a,cap,hv,-⟩:=aN h1.drop.drop.drop;have kG:w.cell? ⟨bw,2,none⟩=some (.slice a W.dy.length cap):=by rw[World.cell?,h1.look.2,<-hv];rfl
 refine iG ?_;refine Tk ?_;refine KO.pb rfl rfl isAgg162 kG rfl ?_;refine BS ?_;refine fK ?_;refine KQ.a_ rfl rfl (fun w' hs=>⟨_,_,rfl,⟨rfl,rfl⟩,hw.aA hs.below,hs.below⟩)
theorem O3(w0:World)(L R:List HP)(bw:Nat)(hd:rN)(W:Wo)(hp:bC L (jI bw hd W) R):KE prog 47 #[aZ bw] w0 L (fun u M=>u=.int .i64 W.lost/\M=L):=by
 refine KE.mk (n:=7) func47 rfl ntmps47 aj ?_;intro w hw;obtain⟨V,h1⟩:=dR (hw.pick hp);have kG:w.cell? ⟨bw,3,none⟩=some (.int .i64 W.lost):=by rw[World.cell?,h1.look.2];rfl
 refine iG ?_;refine Wj ?_;refine KO.pb rfl rfl isAgg3 kG rfl ?_;refine fK ?_;refine KQ.a_ rfl rfl (fun w' hs=>⟨_,_,rfl,⟨rfl,rfl⟩,hw.aA hs.below,hs.below⟩)
theorem Lc(w0:World)(L:List HP)(bw:Nat)(hd:rN)(W:Wo)(g:Gm)(Jx:W.dy.length<=100)(F_:0<=W.lost/\W.lost<=1000000000000):
 KC prog 167 #[aZ bw,.agg (Vl g).toArray] w0 (jI bw hd W::L) (fun u M=>u=.tuple #[]/\M=jI bw hd (sW W g)::L):=by
 unfold sW;refine KC.mk (n:=27) func167 rfl ntmps167 aj ?_;refine oQ ?_;refine K.cg (fun _ h=>dR h) ?_;rintro⟨V,hV,e8,e9⟩;dsimp only;obtain⟨hv,dv,wv,ps⟩:=V;dsimp only at hV ⊢;refine K.fact (fun w hw=>aN (hw.pick (A:=Im wv W.dy) aX)) ?_;rintro⟨a3,c3,YE,Xn⟩;refine dC ?_;refine KO.box rfl rfl aL rfl ?_;intro b3;refine oy ?_;refine Tk ?_;refine KO.di (i:=2) rfl rfl isAgg162 aX rfl rfl rfl ?_;rw[YE];refine BS ?_;refine uh ?_;refine Z5 ?_;refine K.bI rfl (fun h1=>?_) (fun h1=>?_)
 ·rw[if_pos ae];refine gU ?_;refine Wj ?_;refine KO.di (i:=3) rfl rfl isAgg3 aX rfl rfl rfl ?_;refine uS ?_;refine Wj ?_;refine KO.iA (i:=3) rfl rfl rfl rfl AB rfl aX rfl XE ?_;refine Z3 ?_;refine KQ.T7 rfl (fun w' aY=>⟨_,_,rfl,⟨rfl,rfl⟩,dJ ⟨_,dv,_,ps⟩ hV (aY.all Y5)⟩)
 ·rw[if_neg ae];refine ES ?_;rw[<-YE];refine K.draw [.pure,.pure,.pure,.pure,.read,.read,.cx,.write,.pure,.pure,.write] [0,1,2,3,4,5,6,7,8,9,10] bm bm ?_;refine jh ?_;refine Tk ?_;refine KO.di (i:=2) rfl rfl isAgg162 aX rfl rfl rfl ?_;refine KO.xA rfl rfl isAgg258 sizeOf258 bE aL rfl ?_;refine KO.iN (z:=(Value.agg #[.int .i64 0,.string ⟨#[]⟩])) (sz:=2) (cV:=24) rfl rfl underlying162 bm aL aL ai ai rfl ?_;intro pB;refine KO.app (cf:=Vl) (z:=Value.agg #[.int .i64 0,.string ⟨#[]⟩]) (sz:=2) (cV:=24) (xs:=W.dy) rfl rfl rfl aX .head underlying162 bm aL g rfl rfl rfl ae ai rfl ?_;intro v24;refine KO.fact (fun _ hs=>aN hs) ?_;rintro⟨a24,k24,YJ,-⟩;refine Tk ?_;refine KO.iA (i:=2) rfl rfl rfl (by rw[YJ];rfl) (by exact sizeOf162) (by rw[YJ];rfl) aX rfl XE ?_;refine KO.nil ?_;refine KQ.tU rfl (fun w' aY=>⟨_,_,rfl,⟨rfl,rfl⟩,dJ ⟨hv,dv,v24,ps⟩ hV (aY.all Y5)⟩)
theorem Hq(w0:World)(L:List HP)(A:HP)(bw:Nat)(hd:rN)(W:Wo)(dst:Int)(f:Fr)(v:Value)(l:List Ms)(hT:nI w0)(hA:∀w R,St w0 (A::R) w->oS w 5 dN v l)(cj:∀m∈l,m.body.size<=maxLen/\m.queue.size<=maxLen)(Jx:W.dy.length<=100)(F_:0<=W.lost/\W.lost<=1000000000000):
 KC prog 164 #[aZ bw,.int .i64 dst,.agg (ZX f v).toArray] w0 (jI bw hd W::A::L) (fun u M=>u=.tuple #[]/\M=jI bw hd (mO W dst f l)::A::L):=by
 unfold mO;refine KC.mk (n:=20) func164 rfl ntmps164 aj ?_;refine Z2 ?_;refine KO.box rfl rfl aL rfl ?_;intro b5;refine E9 ?_;refine V6 ?_;refine KO.ce (cp:=[]) rfl rfl rfl call264 rfl (ZU w0 _ f v l (fun w' hw'=>hA w' _ (hw'.pick (A:=A) aX)) hT cj) ?_;rintro v' L' ⟨rfl,rfl⟩;refine jY ?_;refine KO.eqN rfl bm rfl ?_;refine Z5 ?_;by_cases ku:okF f l
 ·obtain⟨e1,e2⟩:=Iq ku;rw[e1,e2,if_pos ku];refine sH ?_;refine Z7 ?_;refine jh ?_;refine KO.sE (pl:=[(0,1),(1,1)]) rfl zeroValue258 runUnderlying258 Y21 aL rfl ?_;refine KO.cl (cp:=[]) rfl rfl rfl call167 rfl (KC.qR aX (Lc w0 _ bw hd W ⟨dst,f,l⟩ Jx F_)) ?_;rintro v' L' ⟨rfl,rfl⟩;refine KO.nil ?_;refine KQ.tU rfl (fun w' aY=>⟨_,_,rfl,⟨rfl,rfl⟩,aY.all Y5⟩)
 ·obtain⟨e1,e2⟩:=oo ku;rw[e1,if_neg ku];refine uj ?_;refine vI ?_;refine KQ.tU rfl (fun w' aY=>⟨_,_,rfl,⟨rfl,rfl⟩,aY.all Y5⟩)
theorem Io:(prog.info? 258).map (fun i=>(i.zero,i.size,i.bytes))=some (some (Value.agg #[.int .i64 0,.string ⟨#[]⟩]),2,24):=by kernel_rfl
theorem QE(x:Gm):(Vl x).all Value.oneCell'=true:=rfl
theorem Nn(w0:World)(L:List HP)(v:Value)(xs:List Gm)(k:Nat)(hk:k<xs.length)(hn:xs.length<1000000):
 KC prog 165 #[v,.int .i64 (k:Nat),.int .i64 ((k:Int)+1)] w0 (Im v xs::L) (fun v' L'=>L'=Im v' (xs.eraseIdx k)::L):=by
 refine KC.pre (fun w hw=>p_ hw hk) ?_;rintro⟨g,cap,rfl⟩;refine KC.pre (fun w hw=>(g_ hw).2.1) fun tF=>?_
 refine KC.mk (n:=33) func165 rfl ntmps165 aj ?_;refine iG ?_;refine zf ?_;refine BS ?_;refine KO.GF (lo:=k) (hi:=k+1) (mx:=xs.length) rfl rfl rfl rfl underlying162 sizeOf258 rfl ae rfl ae ae ae rfl (fun q13=>?_);refine Z0 ?_;refine iw ?_;refine sI ?_;refine BE ?_;refine mG ?_;refine BS ?_;refine Wt ?_;refine jh ?_;refine KO.Ap rfl rfl underlying162 sizeOf258 aL ae rfl ?_;refine jh ?_;refine KO.cutFrom (lo:=k+1) rfl rfl underlying162 sizeOf258 ae ae ae rfl ?_;refine KO.move (j:=k+1) rfl rfl rfl bC.head rfl tF underlying162 Io (fun _=>rfl) QE ae ae rfl ?_;refine kQ ?_;refine Z1 ?_;refine BS ?_;refine Z1 ?_;refine KO.GD (lo:=k+(xs.length-(k+1))) (hi:=xs.length) rfl rfl rfl underlying162 sizeOf258 rfl rfl ae ae rfl ?_;refine KO.clear rfl rfl bC.head tF fV fV underlying162 Io (fun _=>rfl) rfl rfl ?_;refine oy ?_;refine fK ?_;refine KQ.a_ rfl rfl (fun w' hs=>⟨_,_,rfl,rfl,?_⟩);have e:(List.take (k+(xs.length-(k+1))) (List.take k xs++List.drop (k+1) xs++List.drop (k+(xs.length-(k+1))) xs))=xs.eraseIdx k:=by
  rw[List.take_append_of_le_length fV,List.take_of_length_le fV,List.eraseIdx_eq_take_drop_succ]
 rw[e]at hs;exact hs
theorem R9(w0:World)(L:List HP)(bw c kb:Nat)(hd:rN)(W:Wo)(i:Int)(hB:dr c kb W):
 KC prog 71 #[aZ bw,.int .i64 i] w0 (jI bw hd W::L) (fun u M=>u=cz 70 (vL W i)/\M=jI bw hd (FO W i)::L):=by
 have Jx:=hB.wl;unfold FO vL;refine KC.mk (n:=28) func71 rfl ntmps71 aj ?_;refine oQ ?_;refine K.cg (fun _ h=>dR h) ?_;rintro⟨V,hV,e8,e9⟩;dsimp only;obtain⟨hv,dv,wv,ps⟩:=V;dsimp only at hV ⊢;refine K.fact (fun w hw=>aN (hw.pick (A:=Im wv W.dy) aX)) ?_;rintro⟨a3,c3,rfl,Xn⟩;refine dC ?_;refine jH ?_;by_cases h1:0<=i
 ·refine BT ?_;refine Ek ?_;refine lb ?_;refine KO.on rfl rfl ET ?_;refine KO.ij (off:=2) rfl runUnderlying164 rfl rfl sizeOf162 rfl ?_;refine KO.on rfl rfl ET ?_;refine KO.di (i:=2) rfl rfl isAgg162 bE rfl rfl rfl ?_;refine lV ?_;refine BS ?_;refine lV ?_;refine zd ?_;refine Z5 ?_;refine K.bI rfl (fun h2=>?_) (fun h2=>?_)
  ·rw[if_neg ae,if_neg ai];refine qk ?_;refine KQ.a_ rfl rfl (fun w' aY=>⟨_,_,rfl,⟨rfl,rfl⟩,dJ ⟨hv,dv,_,ps⟩ hV (aY.all mH)⟩)
  ·have h3:i<(W.dy.length:Int):=by omega
   rw[if_pos ⟨h1,h3⟩,if_pos rfl];obtain⟨j,rfl⟩:∃j:Nat,i=(j:Int):=⟨i.toNat,by omega⟩;refine Z6 ?_;refine iw ?_;refine RI ?_;refine jh ?_;refine uS ?_;refine KO.cl (cp:=[]) rfl rfl rfl call165 rfl (KC.qR aX (Nn w0 _ _ W.dy j ae ae)) ?_;rintro v25 L' rfl;refine KO.fact (fun _ hs=>aN hs) ?_;rintro⟨a25,P1,rfl,-⟩;refine Tk ?_;refine KO.iA (i:=2) rfl rfl rfl rfl (by exact sizeOf162) rfl aX rfl XE ?_;refine jf ?_;refine KQ.a_ rfl rfl (fun w' aY=>⟨_,_,rfl,⟨rfl,rfl⟩,?_⟩);rw[aM];exact dJ ⟨hv,dv,.slice a25 (W.dy.eraseIdx j).length P1,ps⟩ hV (aY.all Y7)
 ·refine BX ?_;refine He ?_;refine Hk ?_;refine BP ?_;rw[if_neg ae,if_neg ai];refine K.cA rfl (by simp <;>omega) ?_;refine qk ?_;refine KQ.a_ rfl rfl (fun w' aY=>⟨_,_,rfl,⟨rfl,rfl⟩,dJ ⟨hv,dv,_,ps⟩ hV (aY.all mH)⟩)
theorem R7(w0:World)(L:List HP)(bw c kb:Nat)(hd:rN)(W:Wo)(i:Int)(hB:dr c kb W)(hK:kb<=1000000000000):
 KC prog 72 #[aZ bw,.int .i64 i] w0 (jI bw hd W::L) (fun u M=>u=cz 70 (vL W i)/\M=jI bw hd (Fl W i)::L):=by
 have Jx:=hB.wl;have F_:=hB.lost;unfold Fl vL;refine KC.mk (n:=26) func72 rfl ntmps72 aj ?_;refine oQ ?_;refine K.cg (fun _ h=>dR h) ?_;rintro⟨V,hV,e8,e9⟩;dsimp only;obtain⟨hv,dv,wv,ps⟩:=V;dsimp only at hV ⊢;refine K.fact (fun w hw=>aN (hw.pick (A:=Im wv W.dy) aX)) ?_;rintro⟨a3,c3,rfl,Xn⟩;refine dC ?_;refine jH ?_;by_cases h1:0<=i
 ·refine BT ?_;refine Ek ?_;refine lb ?_;refine KO.on rfl rfl ET ?_;refine KO.ij (off:=2) rfl runUnderlying164 rfl rfl sizeOf162 rfl ?_;refine KO.on rfl rfl ET ?_;refine KO.di (i:=2) rfl rfl isAgg162 bE rfl rfl rfl ?_;refine lV ?_;refine BS ?_;refine lV ?_;refine zd ?_;refine Z5 ?_;refine K.bI rfl (fun h2=>?_) (fun h2=>?_)
  ·rw[if_neg ae,if_neg ai];refine qk ?_;refine KQ.a_ rfl rfl (fun w' aY=>⟨_,_,rfl,⟨rfl,rfl⟩,dJ ⟨hv,dv,_,ps⟩ hV (aY.all mH)⟩)
  ·have h3:i<(W.dy.length:Int):=by omega
   rw[if_pos ⟨h1,h3⟩,if_pos rfl];obtain⟨j,rfl⟩:∃j:Nat,i=(j:Int):=⟨i.toNat,by omega⟩;obtain⟨g3,rfl⟩:=Xn ae;have hg:W.dy[j]? =some (xO W j):=om ae;rw[aM];refine Z6 ?_;refine iw ?_;refine RI ?_;refine aaM ?_;refine KO.yU (i:=j) (sz:=2) (cf:=Vl) (e:=xO W j) rfl rfl isAgg258 sizeOf258 aX (fun _=>rfl) hg rfl ?_;refine KO.conv (fun w hw=>dJ ⟨hv,dv,.slice (some ⟨g3,0,none⟩) W.dy.length c3,ps⟩ hV (hw.all (M:=uu bw ⟨hv,dv,.slice (some ⟨g3,0,none⟩) W.dy.length c3,ps⟩ W L) mH)) ?_
   refine KO.cl (cp:=[]) rfl rfl rfl call167 rfl (KC.qR bE (Lc w0 _ bw hd W (xO W j) Jx ⟨F_.1,by omega⟩)) ?_;rintro v' L' ⟨rfl,rfl⟩;refine jf ?_;refine KQ.a_ rfl rfl (fun w' aY=>⟨_,_,rfl,⟨rfl,rfl⟩,aY⟩)
 ·refine BX ?_;refine He ?_;refine Hk ?_;refine BP ?_;rw[if_neg ae,if_neg ai];refine K.cA rfl (by simp <;>omega) ?_;refine qk ?_;refine KQ.a_ rfl rfl (fun w' aY=>⟨_,_,rfl,⟨rfl,rfl⟩,dJ ⟨hv,dv,_,ps⟩ hV (aY.all mH)⟩)
theorem KC.Nw{α β γ:Type}{f:α->β->HP}{P:Program}{g:FuncId}{args:Array Value}{w0:World}{L R:List HP}{ps:List α}{xs:List β}{p:α}{x y:β}{i:Nat}{φ:γ->Value->Prop}{A:γ->HP}(hp:ps[i]? =some p)(hx:xs[i]? =some x)(pk:bC L (ck f ps xs) R)(h:∀L,KC P g args w0 (f p x::L) (fun u M=> ∃c,φ c u/\M=A c::f p y::L)):
 KC P g args w0 L (fun u M=> ∃c,φ c u/\M=A c::ck f ps (xs.set i y)::R):=
 KC.perm (L':=f p x::ck f (ps.eraseIdx i) (xs.eraseIdx i)::R) (fun w hw=>ew hp hx (hw.pick pk)) (KC.oI (h _) (by
  rintro v M ⟨c,h1,rfl⟩
  exact⟨_,⟨c,h1,rfl⟩,fun w hw=>(wj hp (au.1 hx).1 ((hw.pick (A:=f p y) (.tail .head)).gu .head (.tail .head))).fL⟩))
theorem KC.aeV{α β:Type}{f:α->β->HP}{P:Program}{g:FuncId}{args:Array Value}{w0:World}{L R R1:List HP}{A:HP}{ps:List α}{xs:List β}{p:α}{x y:β}{i:Nat}{φ:Value->Prop}(hp:ps[i]? =some p)(hx:xs[i]? =some x)(pk:bC L A R1)(OI:bC R1 (ck f ps xs) R)(h:∀L,KC P g args w0 (f p x::A::L) (fun u M=>φ u/\M=f p y::A::L)):
 KC P g args w0 L (fun u M=>φ u/\M=ck f ps (xs.set i y)::A::R):=
 KC.perm (L':=f p x::A::ck f (ps.eraseIdx i) (xs.eraseIdx i)::R) (fun w hw=>((ew hp hx ((hw.gu pk OI).fL)).gu .head (.tail .head))) (KC.oI (h _) (by
  rintro v M ⟨h1,rfl⟩
  exact⟨_,⟨h1,rfl⟩,fun w hw=>wj hp (au.1 hx).1 (hw.gu .head (.tail .head))⟩))
theorem DO{c kb k:Nat}{x:Ho×Dk}(h:jj c kb k x)(hc:c<=4000):cE 79600 x.1:=h.B.le (by have :=h.B.used;omega)
theorem J9{c kb k:Nat}{x:Ho×Dk}(h:jj c kb k x)(dst:Int):∀m∈Bu x.1 x.2 dst,bG m=true:=fun m hm=>by
 unfold Bu at hm;split at hm
 ·exact uv (h.bt dst).ways _ m (aI.1 hm).1
 ·cases hm
theorem La(w0:World)(L:List HP)(bw c kb:Nat)(hd:rN)(W:Wo)(k dst:Int)(hT:nI w0)(hM:oB w0)(hB:dr c kb W)(hK:kb<=1000000000)(hc:c<=4000):
 KC prog 69 #[aZ bw,.int .i64 k,.int .i64 dst] w0 (jI bw hd W::L) (fun u M=>u=cz 70 (Fv W k dst)/\M=jI bw hd (AP W k dst)::L):=by
 have Jx:=hB.wl;have F_:=hB.lost;unfold AP;refine KC.mk (n:=44) func69 rfl ntmps69 aj ?_;refine y6 ?_;have early:¬(W.is k=true/\W.is dst=true)->Fv W k dst=2:=fun h=>by unfold Fv;rw[if_neg h]
 cases hk:W.is k with
 |false=>
  rw[early WJ,if_neg aj];refine iw ?_;refine KO.ce (cp:=[]) rfl rfl rfl call78 rfl (fW w0 _ _ bw hd W k bE) ?_;rintro v' L' ⟨rfl,rfl⟩;rw[hk];refine oY ?_;refine BU ?_;refine sL ?_;refine qk ?_;refine KQ.a_ rfl rfl (fun w' aY=>⟨_,_,rfl,⟨rfl,rfl⟩,aY⟩)
 |true=>
  cases B8:W.is dst with
  |false=>
   rw[early (by rw[B8];simp),if_neg aj];refine iw ?_;refine KO.ce (cp:=[]) rfl rfl rfl call78 rfl (fW w0 _ _ bw hd W k bE) ?_;rintro v' L' ⟨rfl,rfl⟩;rw[hk];refine oY ?_;refine K3 ?_;refine Z1 ?_;refine KO.on rfl rfl rfl ?_;refine KO.ce (cp:=[]) rfl rfl rfl call78 rfl (fW w0 _ _ bw hd W dst bE) ?_;rintro v' L' ⟨rfl,rfl⟩;rw[B8];refine y_ ?_;refine qj ?_;refine BD ?_;refine qk ?_;refine KQ.a_ rfl rfl (fun w' aY=>⟨_,_,rfl,⟨rfl,rfl⟩,aY⟩)
  |true=>
   rw[if_pos ⟨rfl,rfl⟩];have eS:Fv W k dst=vt (W.H k.toNat) (W.D k.toNat) dst:=by unfold Fv;rw[if_pos ⟨hk,B8⟩]
   refine iw ?_;refine KO.ce (cp:=[]) rfl rfl rfl call78 rfl (fW w0 _ _ bw hd W k bE) ?_;rintro v' L' ⟨rfl,rfl⟩;rw[hk];refine oY ?_;refine K3 ?_;refine Z1 ?_;refine KO.on rfl rfl rfl ?_;refine KO.ce (cp:=[]) rfl rfl rfl call78 rfl (fW w0 _ _ bw hd W dst bE) ?_;rintro v' L' ⟨rfl,rfl⟩;rw[B8];refine y_ ?_;refine qj ?_;refine yr ?_;obtain⟨j,rfl,hj⟩:=mM hk;refine K.cg (fun _ h=>dR h) ?_;rintro⟨V,hV,e8,e9⟩;dsimp only;obtain⟨x,hx⟩:∃e,W.hs[j]? =some e:=⟨_,ao hj⟩;obtain⟨p,hp⟩:∃e,V.ps[j]? =some e:=⟨_,ao ae⟩;obtain⟨eH,eD⟩:=wF hx;have u_:=hB.hs j x hx;have kK:=DO u_ hc;have mD:(V.ps.map (·.1))[j]? =some p.1:=by rw[aH,hp];rfl
   obtain⟨hv,dv,wv,ps⟩:=V;dsimp only at hp mD hV ⊢;refine K.fact (fun w hw=>aN (hw.pick (A:=Ig hv (ps.map (·.1))) aX)) ?_
   rintro⟨a1,c1,rfl,xL⟩;obtain⟨g1,rfl⟩:=xL lY;refine Z7 ?_;refine RH ?_;refine KO.di (i:=0) rfl rfl isAgg160 bE rfl rfl rfl ?_;refine Z1 ?_;refine abd ?_;refine Z1 ?_;refine KO.cl (cp:=[]) rfl rfl rfl call35 rfl (KC.Nw (φ:=fun v u=>u=.tuple #[.int .i64 (K0 x.1 x.2 dst),v,cz 70 (vt x.1 x.2 dst)]) (A:=fun v=>SL 44 5 dN v (Bu x.1 x.2 dst)) (y:=(ov x.1 x.2 dst,wm x.1 x.2 dst)) hp hx aX (fun L=>(KC.perm (fun w hw=>hw.split) (KC.oI (Ni w0 L p.1 p.2 79600 x.1 x.2 dst hT hM kK ae u_.len ⟨by have :=u_.left;omega,by have :=u_.left;omega⟩) (by rintro v M ⟨c,h1,rfl⟩;exact⟨_,⟨c,h1,rfl⟩,fun w hw=>((hw.gu (A:=cW p.1 p.2 (ov x.1 x.2 dst)) (B:=fa p.2 (wm x.1 x.2 dst)) (.tail .head) (.tail .head)).join).fL⟩))))) ?_;rintro v' L' ⟨vl,rfl,rfl⟩;refine KO.fact (fun _ hs=>aN hs) ?_;rintro⟨av,kv,rfl,-⟩;refine Cb ?_;refine rB ?_;refine ry ?_;refine jH ?_;have e1:rY W (j:Int) dst=W.bX j (ov x.1 x.2 dst,wm x.1 x.2 dst):=by unfold rY;rw[aM,eH,eD]
   rw[eS,e1,aM,eH,eD];refine K.conv (fun w hw=>dJ (W:=W.bX j (ov x.1 x.2 dst,wm x.1 x.2 dst)) ⟨.slice (some ⟨g1,0,none⟩) (ps.map (·.1)).length c1,dv,wv,ps⟩ Y16 (hw.all (M:=bD bw (.cells (O1 ⟨.slice (some ⟨g1,0,none⟩) (ps.map (·.1)).length c1,dv,wv,ps⟩ W).toArray 164 (0,0))::Ig (.slice (some ⟨g1,0,none⟩) (ps.map (·.1)).length c1) (ps.map (·.1))::OR dv (ps.map (·.2))::Im wv W.dy::ck yM ps (W.hs.set j (ov x.1 x.2 dst,wm x.1 x.2 dst))::SL 44 5 dN (.slice av (Bu x.1 x.2 dst).length kv) (Bu x.1 x.2 dst)::L) Y7)) ?_
   refine Z7 ?_;refine RS ?_;by_cases he:vt x.1 x.2 dst=0
   ·rw[if_pos he,he];refine uj ?_;refine mG ?_;refine jh ?_;refine jh ?_;refine Rs ?_;refine KO.cl (cp:=[]) rfl rfl rfl call164 rfl (KC.OI bE bE (Hq w0 _ (SL 44 5 dN (.slice av (Bu x.1 x.2 dst).length kv) (Bu x.1 x.2 dst)) bw hd (W.bX j (ov x.1 x.2 dst,wm x.1 x.2 dst)) dst ⟨j,K0 x.1 x.2 dst,false⟩ (.slice av (Bu x.1 x.2 dst).length kv) (Bu x.1 x.2 dst) hT (fun w R h=>oS.tf (fun _=>rfl) .head h) (fun m hm=>lE (J9 u_ dst m hm)) Jx ⟨F_.1,by have :=F_.2;unfold Wo.bX;dsimp only;omega⟩)) ?_;rintro v' L' ⟨rfl,rfl⟩;refine jf ?_;refine KQ.a_ rfl rfl (fun w' aY=>⟨_,_,rfl,⟨rfl,rfl⟩,aY.all Y5⟩)
   ·rw[if_neg he];refine K.cA rfl (by simp[he]) ?_;refine Ew ?_;refine KQ.a_ rfl rfl (fun w' aY=>⟨_,_,rfl,⟨rfl,rfl⟩,aY.all Y5⟩)
theorem ym{s:ak}{u:Value}(h:ia s u):∃x e,u=.tuple #[.int .i64 x,e]/\((dM s=some x/\e=.nilIface)\/(dM s=none/\∃T y,e=.iface T y)):=by
 unfold ia at h;cases hn:dM s with
 |some v=>rw[hn]at h;exact⟨v,_,h,.inl ⟨rfl,rfl⟩⟩
 |none=>rw[hn]at h;obtain⟨x,T,y,rfl⟩:=h;exact⟨x,_,rfl,.inr ⟨rfl,_,_,rfl⟩⟩
theorem Mu(w0:World)(L:List HP)(s:ak)(hs:s.size<=10000)(DT:nI w0)(Gl:oB w0):
 KE prog 160 #[.string s] w0 L (fun u M=> ∃sa cp,∃xs:List Ms,∃e,u=.tuple #[.slice sa xs.length cp,e]/\M=SL 44 5 dN (.slice sa xs.length cp) xs::L/\((qZ s=some xs/\e=.nilIface)\/(qZ s=none/\xs=[]/\∃T y,e=.iface T y))):=by
 intro w hw;refine(oa w0 L s ae DT Gl w hw).mono ?_;rintro e w' ⟨u,M,rfl,hR,kO,hb⟩;unfold R6 at hR;cases hm:qZ s with
 |some xs=>
  rw[hm]at hR;obtain⟨v,rfl,rfl⟩:=hR;obtain⟨sa,cp,rfl,_⟩:=aN kO;exact⟨_,_,rfl,⟨sa,cp,xs,_,rfl,rfl,.inl ⟨rfl,rfl⟩⟩,kO,hb⟩
 |none=>
  rw[hm]at hR;obtain⟨rfl,rfl⟩:=hR;exact⟨_,_,rfl,⟨none,0,[],_,rfl,rfl,.inr ⟨rfl,rfl,_,_,rfl⟩⟩,cL kO,hb⟩
def FrR (L:List HP) (s:ak) (u:Value) (M:List HP):Prop:=
 match QK s with
 |some (f,xs)=> ∃v,u=.tuple #[.agg (ZX f v).toArray,.nilIface]/\M=SL 44 5 dN v xs::L
 |none=>u=.tuple #[.agg (ZX ⟨0,0,false⟩ (.slice none 0 0)).toArray,cz 70 3]/\M=L
theorem QJ(w0:World)(L:List HP)(s:ak)(hs:s.size<=10000)(DT:nI w0)(Gl:oB w0):KE prog 166 #[.string s] w0 L (FrR L s):=by
 refine KE.mk (n:=77) func166 rfl ntmps166 aj ?_;intro w hw;have hT:=DT.ext (Ext.bB hw.below);have hM:=Gl.ext (Ext.bB hw.below);unfold FrR;refine Z2 ?_;refine KO.alloc rfl zeroValue256 aL rfl ?_;intro b2;refine jH ?_;by_cases h4:(cH 58 s).length=4
 case neg=>
  have e0:QK s=none:=by
   unfold QK;split
   ·rename_i h;rw[h]at h4;exact absurd rfl h4
   ·rfl
  rw[e0];refine Z7 ?_;refine KO.ce (cp:=[]) rfl rfl rfl call133 rfl (kS w _ s 58 ae hM) ?_;rintro v' L' ⟨bq,rfl,rfl⟩;refine kQ ?_;refine N1 ?_;refine N4 ?_;refine Z2 ?_;refine Rs ?_;refine Km ?_;refine vx ?_;refine KQ.jn rfl rfl isAgg256 bE Ot rfl (fun w' hs=>⟨_,_,rfl,⟨aL,rfl⟩,hw.aA hs.below,hs.below⟩)
 obtain⟨wa,wb,wc,wd,rG⟩:∃wa wb wc wd,cH 58 s=[wa,wb,wc,wd]:=by
  generalize cH 58 s=l at h4
  match l,h4 with
  |[a,b,c,d],_=>exact⟨a,b,c,d,rfl⟩
 have OJ:∀x∈[wa,wb,wc,wd],x.size<=10000:=fun x hx=>by have :=gK (c:=58) (s:=s) (p:=x) (by rw[rG];exact hx);omega
 refine Z7 ?_;refine KO.ce (cp:=[]) rfl rfl rfl call133 rfl (kS w _ s 58 ae hM) ?_;rintro v' L' ⟨bq,rfl,rfl⟩;rw[rG];refine kQ ?_;refine N1 ?_;refine Z5 ?_;refine K.cP rfl aj ?_;refine mG ?_;refine Xz ?_;refine KO.ce (cp:=[]) rfl rfl rfl call136 rfl (fH w _ wb (by have :=OJ wb aj;omega) hM) ?_;rintro v' L' ⟨hR,rfl⟩;obtain⟨x,e1,rfl,hx⟩:=ym hR;refine jY ?_;refine WC ?_;refine KO.ce (cp:=[]) rfl rfl rfl call136 rfl (fH w _ wc (by have :=OJ wc aj;omega) hM) ?_;rintro v' L' ⟨hR,rfl⟩;obtain⟨y,e2,rfl,hy⟩:=ym hR;refine jY ?_;refine KO.eN (i:=3) rfl rfl runUnderlying115 sizeOf9 rfl aj rfl ?_;refine KO.fJ (i:=3) (sz:=1) (cf:=fI) (e:=wd) rfl rfl isAgg9 bE (fun _=>rfl) rfl aL aL rfl ?_;refine KO.ce (cp:=[]) rfl rfl rfl call160 rfl (Mu w _ wd (by have :=OJ wd aj;omega) hT hM) ?_;rintro v' L' ⟨sa,cp,xs,e3,rfl,rfl,hz⟩;refine jY ?_;refine jh ?_;refine KO.eN (i:=0) rfl rfl runUnderlying115 sizeOf9 rfl aj rfl ?_;refine Wq ?_;refine yv ?_;refine Z1 ?_;refine Rs ?_;refine KO.alloc rfl zeroValue256 aL rfl ?_;intro Rl;refine KO.lC rfl rfl rfl aL Ot aL bE aL ?_;refine Z0 ?_;have cj:∀m∈xs,m.body.size<=maxLen/\m.queue.size<=maxLen:=by
  rcases hz with⟨h,_⟩|⟨_,rfl,_⟩
  ·exact fun m hm=>lE (dm (mY h).1 m hm)
  ·intro m hm;cases hm
 refine dC ?_;refine V6 ?_;refine KO.ce (cp:=[]) rfl rfl rfl call264 rfl (ZU w _ ⟨x,y,decide (wa=⟨#[97]⟩)⟩ _ xs (fun w' hw'=>oS.tf (fun _=>rfl) aX hw') hT cj) ?_;rintro v' L' ⟨rfl,rfl⟩;refine pD ?_;have bad:¬(dM wb=some x/\dM wc=some y/\qZ wd=some xs/\okF ⟨x,y,decide (wa=⟨#[97]⟩)⟩ xs/\KV ⟨x,y,decide (wa=⟨#[97]⟩)⟩ xs=s)->QK s=none:=by
  intro hb;unfold QK;rw[rG];simp only[];split
  ·rename_i x' y' xs' h1 h2 h3;split
   ·rename_i hh;exfalso;have ex:x=x':=by
     rcases hx with⟨h,_⟩|⟨h,_⟩
     ·rw[h]at h1;exact Option.some.inj h1
     ·rw[h]at h1;cases h1
    have ey:y=y':=by
     rcases hy with⟨h,_⟩|⟨h,_⟩
     ·rw[h]at h2;exact Option.some.inj h2
     ·rw[h]at h2;cases h2
    have ez:xs=xs':=by
     rcases hz with⟨h,_⟩|⟨h,_⟩
     ·rw[h]at h3;exact Option.some.inj h3
     ·rw[h]at h3;cases h3
    subst ex;subst ey;subst ez;exact hb ⟨h1,h2,h3,hh.1,hh.2⟩
   ·rfl
  ·rfl
 rcases hx with⟨hx,rfl⟩|⟨hx,T1,y1,rfl⟩
 case inr=>
  rw[bad (fun h=>by rw[hx]at h;cases h.1)];refine Z7 ?_;refine zc ?_;refine lg ?_;refine y4 ?_;refine lg ?_;refine y4 ?_;refine lg ?_;refine y4 ?_;refine rD ?_;refine sL ?_;refine Z2 ?_;refine Rs ?_;refine Km ?_;refine vx ?_;refine KQ.jn rfl rfl isAgg256 bE Ot rfl (fun w' hs=>⟨_,_,rfl,⟨aL,rfl⟩,hw.aA hs.below,hs.below⟩)
 rcases hy with⟨hy,rfl⟩|⟨hy,T1,y1,rfl⟩
 case inr=>
  rw[bad (fun h=>by rw[hy]at h;cases h.2.1)];refine GX ?_;refine zc ?_;refine qj ?_;refine lg ?_;refine y4 ?_;refine lg ?_;refine y4 ?_;refine rD ?_;refine sL ?_;refine Z2 ?_;refine Rs ?_;refine Km ?_;refine vx ?_;refine KQ.jn rfl rfl isAgg256 bE Ot rfl (fun w' hs=>⟨_,_,rfl,⟨aL,rfl⟩,hw.aA hs.below,hs.below⟩)
 rcases hz with⟨hz,rfl⟩|⟨hz,_,T1,y1,rfl⟩
 case inr=>
  rw[bad (fun h=>by rw[hz]at h;cases h.2.2.1)];refine GX ?_;refine BO ?_;refine zc ?_;refine qj ?_;refine lg ?_;refine y4 ?_;refine rD ?_;refine sL ?_;refine Z2 ?_;refine Rs ?_;refine Km ?_;refine vx ?_;refine KQ.jn rfl rfl isAgg256 bE Ot rfl (fun w' hs=>⟨_,_,rfl,⟨aL,rfl⟩,hw.aA hs.below,hs.below⟩)
 by_cases ku:okF ⟨x,y,decide (wa=⟨#[97]⟩)⟩ xs
 case neg=>
  rw[bad (fun h=>ku h.2.2.2.1),(oo ku).1];refine GX ?_;refine BO ?_;refine BO ?_;refine KO.Uf rfl bm rfl ?_;refine qj ?_;refine rD ?_;refine sL ?_;refine Z2 ?_;refine Rs ?_;refine Km ?_;refine vx ?_;refine KQ.jn rfl rfl isAgg256 bE Ot rfl (fun w' hs=>⟨_,_,rfl,⟨aL,rfl⟩,hw.aA hs.below,hs.below⟩)
 rw[(Iq ku).1,(Iq ku).2];by_cases hfs:KV ⟨x,y,decide (wa=⟨#[97]⟩)⟩ xs=s
 case neg=>
  rw[bad (fun h=>hfs h.2.2.2.2)];refine GX ?_;refine BO ?_;refine BO ?_;refine KO.Uf rfl bm rfl ?_;refine EF ?_;refine Ez ?_;refine K.cA rfl (by simp[hfs]) ?_;refine Z2 ?_;refine Rs ?_;refine Km ?_;refine vx ?_;refine KQ.jn rfl rfl isAgg256 bE Ot rfl (fun w' hs=>⟨_,_,rfl,⟨aL,rfl⟩,hw.aA hs.below,hs.below⟩)
 have e0:QK s=some (⟨x,y,decide (wa=⟨#[97]⟩)⟩,xs):=by
  rw[<-hfs];exact Ab ku
 rw[e0];refine GX ?_;refine BO ?_;refine BO ?_;refine KO.Uf rfl bm rfl ?_;refine EF ?_;refine Ez ?_;refine K.cP rfl (by simp[hfs]) ?_;refine oR ?_;refine V6 ?_;refine KO.lC rfl rfl rfl aL Ot aL aX aL ?_;refine fK ?_;refine KQ.jn rfl rfl isAgg256 bE Ot rfl (fun w' hs=>⟨_,_,rfl,⟨_,aL,rfl⟩,hw.stack (M:=[SL 44 5 dN (.slice sa xs.length cp) xs]) (hs.all Y4),hs.below⟩)
theorem abv{w0 w:World}{L:List HP}{α:Type}{E:TypeId}{sz:Nat}{cf:α->List Value}{v:Value}{xs:List α}(h:St w0 (SL E sz cf v xs::L) w):∃a cap,v=.slice a xs.length cap/\xs.length<=cap:=by
 obtain⟨a,cap,rfl,ha⟩:=aN h;by_cases h0:0<xs.length
 ·obtain⟨g,rfl⟩:=ha h0;exact⟨_,_,rfl,(B1 h).2⟩
 ·exact⟨_,_,rfl,by omega⟩
theorem Pw{w:World}:oS w 5 dN (.slice none 0 0) []:=⟨none,0,rfl,fun i x hx=>by simp at hx⟩
theorem Lg(w0:World)(L:List HP)(bw c kb:Nat)(hd:rN)(W:Wo)(i:Int)(hT:nI w0)(hM:oB w0)(hB:dr c kb W)(hK:kb<=1000000000)(hc:c<=4000):
 KC prog 70 #[aZ bw,.int .i64 i] w0 (jI bw hd W::L) (fun u M=>u=cz 70 (vL W i)/\M=jI bw hd (tX W i)::L):=by
 have Jx:=hB.wl;have F_:=hB.lost;unfold tX vL;refine KC.mk (n:=91) func70 rfl ntmps70 aj ?_;refine oQ ?_;refine K.cg (fun _ h=>dR h) ?_;rintro⟨V,hV,e8,e9⟩;dsimp only;obtain⟨hv,dv,wv,ps⟩:=V;dsimp only at hV ⊢;refine K.fact (fun w hw=>aN (hw.pick (A:=Im wv W.dy) aX)) ?_;rintro⟨a3,c3,rfl,Xn⟩;refine dC ?_;refine jH ?_;by_cases h1:0<=i
 ·refine BT ?_;refine Ek ?_;refine lb ?_;refine KO.on rfl rfl ET ?_;refine KO.ij (off:=2) rfl runUnderlying164 rfl rfl sizeOf162 rfl ?_;refine KO.on rfl rfl ET ?_;refine KO.di (i:=2) rfl rfl isAgg162 bE rfl rfl rfl ?_;refine lV ?_;refine BS ?_;refine lV ?_;refine zd ?_;refine Z5 ?_;refine K.bI rfl (fun h2=>?_) (fun h2=>?_)
  ·rw[if_neg ae,if_neg ai];refine qk ?_;refine KQ.a_ rfl rfl (fun w' aY=>⟨_,_,rfl,⟨rfl,rfl⟩,dJ ⟨hv,dv,_,ps⟩ hV (aY.all mH)⟩)
  ·have h3:i<(W.dy.length:Int):=by omega
   rw[if_pos ⟨h1,h3⟩,if_pos rfl];obtain⟨j,rfl⟩:∃j:Nat,i=(j:Int):=⟨i.toNat,by omega⟩;obtain⟨g3,rfl⟩:=Xn ae;rw[aM];obtain⟨g,hg⟩:∃g,W.dy[j]? =some g:=⟨_,om ae⟩;have JH:=hB.dy g (ax hg);have eg:xO W j=g:=by have :=om (W:=W) (i:=j) ae;rw[hg]at this;exact(Option.some.inj this).symm
   rw[eg];refine mG ?_;refine RI ?_;refine aaM ?_;refine KO.yU (i:=j) (sz:=2) (cf:=Vl) (e:=g) rfl rfl isAgg258 sizeOf258 aX (fun _=>rfl) hg rfl ?_;refine KO.alloc rfl zeroValue258 aL rfl ?_;intro b5;refine KO.lC rfl rfl rfl aL (by exact sizeOf258) aL bE aL ?_;refine Z0 ?_;refine iw ?_;refine Tk ?_;refine KO.di (i:=2) rfl rfl isAgg162 aX rfl rfl rfl ?_;refine jh ?_;refine uS ?_;refine KO.cl (cp:=[]) rfl rfl rfl call165 rfl (KC.qR aX (Nn w0 _ _ W.dy j ae ae)) ?_;rintro v25 L' rfl;refine KO.fact (fun _ hs=>aN hs) ?_;rintro⟨a25,P1,rfl,-⟩;refine Tk ?_;refine KO.iA (i:=2) rfl rfl rfl rfl (by exact sizeOf162) rfl aX rfl XE ?_;refine Z0 ?_;have hwB:dr c kb (qb W j):=hB.out j;have Zo:QK (ZS g)=some (g.f,g.l):=Ab JH.ok;have aeb:(ZS g).size<=10000:=by have :=Np JH.ok;unfold ZS;omega
   have jU:=dm (show iX g.l=none from by have :=JH.ok;unfold okF at this;exact this.2.2.2.2.2.2);have Zd:g.l.length<=3:=by have :=JH.ok;unfold okF at this;omega
   obtain⟨t1,t2⟩:=JH.dto;obtain⟨gt,f,l⟩:=g;dsimp only at t1 t2 jU Zd Zo ⊢;obtain⟨m,rfl⟩:∃m:Nat,gt=(m:Int):=⟨gt.toNat,by omega⟩;obtain⟨x,hx⟩:∃e,W.hs[m]? =some e:=⟨_,ao ae⟩;obtain⟨p,hp⟩:∃e,ps[m]? =some e:=⟨_,ao ae⟩;obtain⟨eH,eD⟩:=wF (W:=qb W j) hx;have u_:=hB.hs m x hx;have kK:=DO u_ hc;have mD:(ps.map (·.1))[m]? =some p.1:=by rw[aH,hp];rfl
   refine K.fact (fun w hw=>aN (hw.pick (A:=Ig hv (ps.map (·.1))) aX)) ?_
   rintro⟨a1,c1,rfl,xL⟩;obtain⟨g1,rfl⟩:=xL lY;refine dC ?_;refine KO.ij (off:=1) rfl runUnderlying258 rfl rfl sizeOf9 rfl ?_;refine rE ?_;refine KO.ce (cp:=[]) rfl rfl rfl call166 rfl (QJ w0 _ (ZS ⟨m,f,l⟩) aeb hT hM) ?_;intro v' L' Zp;unfold FrR at Zp;rw[Zo]at Zp;obtain⟨vl,rfl,rfl⟩:=Zp;refine KO.fact (fun _ hs=>abv hs) ?_;rintro⟨al,cl,rfl,oG⟩;refine Cb ?_;refine KO.alloc rfl zeroValue256 aL rfl ?_;intro b6;refine KO.lC rfl rfl rfl aL Ot aL bE aL ?_;refine kQ ?_;refine qo ?_;refine BB ?_;refine oR ?_;refine Oh ?_;refine N7 ?_;refine Z5 ?_;unfold J5;dsimp only;rw[aM,eH,eD];have hlx:(qb W j).hs.length=ps.length:=hV.symm;cases hak:f.wu with
   |true=>
    refine sH ?_;rw[if_pos rfl];refine oQ ?_;refine K.draw [.pure,.pure,.pure,.read,.pure,.read,.pure,.read,.pure,.read,.pure,.read,.write] [0,1,2,3,4,5,6,7,8,9,10,11,12] bm bm ?_;refine Z1 ?_;refine XC ?_;refine Wi ?_;refine abb ?_;refine N3 ?_;refine vG ?_;refine Z83 ?_;refine vG ?_;refine KO.cl (cp:=[]) rfl rfl rfl call100 rfl (KC.ri (φ:=fun u=>u=cz 70 (caE x.1 x.2 f.gD f.num)) (y:=(E7 x.1 x.2 f.gD f.num,KW x.1 x.2 f.gD f.num)) hp hx aX (fun L=>KC.hd (QD w0 L p.1 p.2 79600 x.1 x.2 f.gD f.num hT hM kK ae u_.len ⟨by have :=u_.left;omega,by have :=u_.left;omega⟩))) ?_;rintro v' L' ⟨rfl,rfl⟩;refine E9 ?_;refine vx ?_;refine KQ.a_ rfl rfl (fun w' aY=>⟨_,_,rfl,⟨rfl,rfl⟩,?_⟩);refine dJ (W:=(qb W j).bX m _) ⟨.slice (some ⟨g1,0,none⟩) (ps.map (·.1)).length c1,dv,.slice a25 (W.dy.eraseIdx j).length P1,ps⟩ Y16 (aY.all (M:=bD bw (.cells (O1 ⟨.slice (some ⟨g1,0,none⟩) (ps.map (·.1)).length c1,dv,.slice a25 (W.dy.eraseIdx j).length P1,ps⟩ W).toArray 164 (0,0))::Ig (.slice (some ⟨g1,0,none⟩) (ps.map (·.1)).length c1) (ps.map (·.1))::OR dv (ps.map (·.2))::Im (.slice a25 (W.dy.eraseIdx j).length P1) (W.dy.eraseIdx j)::ck yM ps (W.hs.set m (E7 x.1 x.2 f.gD f.num,KW x.1 x.2 f.gD f.num))::L) Y5)
   |false=>
    refine uj ?_;rw[if_neg ai];refine Z6 ?_;refine K.draw [.pure,.pure,.pure,.read,.pure,.read,.pure,.read,.pure,.read,.pure,.read,.pure,.read,.write,.pure,.pure,.pure,.pure,.pure] [0,1,2,3,4,5,6,7,8,9,10,11,12,13,14,15,16,17,18,19] bm bm ?_;refine Z1 ?_;refine XC ?_;refine Wi ?_;refine abb ?_;refine N3 ?_;refine vG ?_;refine Z83 ?_;refine vG ?_;refine EP ?_;refine EG ?_;refine KO.cl (cp:=[]) rfl rfl rfl call103 rfl (KC.aeV (A:=SL 44 5 dN (.slice al l.length cl) l) (φ:=fun u=>u=.tuple #[.int .i64 (vu x.1 x.2 f.gD f.num l),cz 70 (Kh x.1 x.2 f.gD f.num l)]) (y:=(sQ x.1 x.2 f.gD f.num l,y0 x.1 x.2 f.gD f.num l)) hp hx aX aX (fun L=>KC.hd (Gs w0 L _ p.1 p.2 79600 x.1 x.2 f.gD f.num al cl l hT hM kK ae u_.len ⟨by have :=u_.left;omega,by have :=u_.left;omega⟩ (fun w R h=>oS.tf (fun _=>rfl) .head h) oG ae (fun m hm=>lE (jU m hm))))) ?_;rintro v' L' ⟨rfl,rfl⟩;refine pD ?_
    refine K.conv (fun w hw=>dJ (W:=(qb W j).bX m (sQ x.1 x.2 f.gD f.num l,y0 x.1 x.2 f.gD f.num l)) ⟨.slice (some ⟨g1,0,none⟩) (ps.map (·.1)).length c1,dv,.slice a25 (W.dy.eraseIdx j).length P1,ps⟩ Y16 (hw.all (M:=bD bw (.cells (O1 ⟨.slice (some ⟨g1,0,none⟩) (ps.map (·.1)).length c1,dv,.slice a25 (W.dy.eraseIdx j).length P1,ps⟩ W).toArray 164 (0,0))::Ig (.slice (some ⟨g1,0,none⟩) (ps.map (·.1)).length c1) (ps.map (·.1))::OR dv (ps.map (·.2))::Im (.slice a25 (W.dy.eraseIdx j).length P1) (W.dy.eraseIdx j)::ck yM ps (W.hs.set m (sQ x.1 x.2 f.gD f.num l,y0 x.1 x.2 f.gD f.num l))::SL 44 5 dN (.slice al l.length cl) l::_::_::L) Y7)) ?_
    refine Z7 ?_;refine KO.eqN rfl bm rfl ?_;refine Z5 ?_;by_cases he:Kh x.1 x.2 f.gD f.num l=0
    ·rw[if_pos he,he];refine sH ?_;refine Z7 ?_;refine N3 ?_;refine E8 ?_;refine Wi ?_;refine Z1 ?_;refine Rs ?_;refine KO.cl (cp:=[]) rfl rfl rfl call164 rfl (KC.OI bE bE (Hq w0 _ (SL 44 5 dN (.slice al l.length cl) l) bw hd ((qb W j).bX m (sQ x.1 x.2 f.gD f.num l,y0 x.1 x.2 f.gD f.num l)) f.gD ⟨m,vu x.1 x.2 f.gD f.num l,true⟩ (.slice none 0 0) [] hT (fun w R h=>Pw) (fun m hm=>by cases hm) hwB.wl ⟨F_.1,by have :=F_.2;unfold Wo.bX qb;dsimp only;omega⟩)) ?_;rintro v' L' ⟨rfl,rfl⟩;refine jf ?_;refine KQ.a_ rfl rfl (fun w' aY=>⟨_,_,rfl,⟨rfl,rfl⟩,aY.all Y5⟩)
    ·rw[if_neg he];refine K.cP rfl (by simp[he]) ?_;refine oR ?_;refine fK ?_;refine KQ.a_ rfl rfl (fun w' aY=>⟨_,_,rfl,⟨rfl,rfl⟩,aY.all Y5⟩)
 ·refine BX ?_;refine He ?_;refine Hk ?_;refine BP ?_;rw[if_neg ae,if_neg ai];refine K.cA rfl (by simp <;>omega) ?_;refine qk ?_;refine KQ.a_ rfl rfl (fun w' aY=>⟨_,_,rfl,⟨rfl,rfl⟩,dJ ⟨hv,dv,_,ps⟩ hV (aY.all mH)⟩)
theorem Le(w0:World)(M:List HP)(bw:Nat)(V:Kr)(W:Wo)(k:Nat)(p:Nat×Nat)(hV:V.ps.length=W.hs.length)(hp:V.ps[k]? =some p):
 KE prog 26 #[aZ bw,.int .i64 (k:Nat)] w0 (uu bw V W M) (fun u N=>u=.tuple #[aZ p.1,.nilIface]/\N=uu bw V W M):=by
 have hk:=(au.1 hp).1;have his:W.is (k:Int)=true:=by unfold Wo.is;simp;omega
 obtain⟨hv,dv,wv,ps⟩:=V;dsimp only at hV hp hk;have mD:(ps.map (·.1))[k]? =some p.1:=by rw[aH,hp];rfl
 refine KE.mk (n:=18) func26 rfl ntmps26 aj ?_;intro w hw;obtain⟨a,cap,e1,ha⟩:=aN (hw.pick (A:=Ig hv (ps.map (·.1))) (.tail .head))
 obtain⟨g,rfl⟩:=ha lY;subst e1;have JK:w.cell? ⟨bw,0,none⟩=some (.slice (some ⟨g,0,none⟩) (ps.map (·.1)).length cap):=by rw[World.cell?,hw.look.2];rfl
 refine jX ?_;refine kQ ?_;refine Z1 ?_;refine KO.ce (cp:=[]) rfl rfl rfl call78 rfl (((fW w0 _ M bw _ W (k:Int) .head).only (fun w h=>dJ (hd:=(.slice (some ⟨g,0,none⟩) (ps.map (·.1)).length cap,dv,none)) ⟨_,dv,wv,ps⟩ hV h rfl ⟨rfl,fun l hl=>by cases hl⟩)).jQ hw) ?_;rintro v' L' ⟨rfl,rfl⟩;rw[his]
 refine oY ?_;refine BB ?_;refine mG ?_;refine RH ?_;refine KO.pb rfl rfl isAgg160 JK rfl ?_;refine Z1 ?_;refine KO.eN (i:=k) rfl rfl runUnderlying160 sizeOf29 rfl lY rfl ?_;refine KO.Yy hw (i:=k) (sz:=1) (cf:=oV) (e:=p.1) rfl rfl isAgg29 (.tail .head) (fun _=>rfl) mD aj aL rfl ?_;refine nE ?_;refine KQ.ef rfl rfl rfl (fun w' hs=>⟨_,_,rfl,⟨rfl,rfl⟩,hw.aA hs.below,hs.below⟩)
theorem Cj(w0:World)(L:List HP)(bw c kb:Nat)(hd:rN)(W:Wo)(hT:nI w0)(hM:oB w0)(hB:dr c kb W)(hK:kb<=900000000)(hc:c<=4000):
 KC prog 77 #[aZ bw] w0 (jI bw hd W::L) (fun u M=>u=.tuple #[]/\M=jI bw hd (qh W)::L):=by
 have Jx:=AG hB;refine KC.mk (n:=10) func77 rfl ntmps77 aj ?_
 repeat((with_reducible refine K.block ?_))
 refine K.loop (fun q:Wo×Nat=>[(0,aZ bw)]) (fun q=>jI bw hd q.1::L) (fun q=>dr c (kb+2*q.2) q.1/\iP q.1+q.2<=iP W/\qh q.1=qh W) (fun q=>iP q.1) (W,0) ⟨hB,by dsimp only;omega,rfl⟩ ⟨rfl,trivial⟩ (fun _ h=>h) ?_;rintro⟨W1,m⟩ ⟨kK,hm,hf⟩;dsimp only at kK hm hf ⊢;have ahR:=kK.wl;refine oQ ?_;refine K.cg (fun _ h=>dR h) ?_;rintro⟨V,hV,e8,e9⟩;dsimp only;obtain⟨hv,dv,wv,ps⟩:=V;dsimp only at hV ⊢;refine K.fact (fun w hw=>aN (hw.pick (A:=Im wv W1.dy) aX)) ?_;rintro⟨a3,c3,rfl,Xn⟩;refine Z7 ?_;refine RI ?_;refine BS ?_;refine yB ?_;refine Z5 ?_;refine K.bI rfl (fun h1=>?_) (fun h1=>?_)
 ·have kF:W1.dy≠[]:=by rintro e;rw[e]at h1;simp at h1
  have hs:=wk kF
  repeat(first|(with_reducible refine KQ.next ?_)|(with_reducible refine K.skip ?_)|(with_reducible refine K.block ?_))
  refine K.conv (fun w hw=>dJ (W:=W1) ⟨hv,dv,.slice a3 W1.dy.length c3,ps⟩ hV hw) ?_
  refine Z7 ?_;refine KO.cl (cp:=[]) rfl rfl rfl call70 rfl (KC.qR bE (Lg w0 _ bw c (kb+2*m) hd W1 0 hT hM kK ae hc)) ?_;rintro v' L' ⟨rfl,rfl⟩;refine yD ?_;refine KQ.round (tX W1 0,m+1) ⟨(kK.de 0).mono (aC _) ji,by dsimp only;omega,by rw[<-hf];exact(JR kF).symm⟩ ji ⟨rfl,trivial⟩ (fun _ h=>h)
 ·have hn:W1.dy=[]:=by
   cases hh:W1.dy with
   |nil=>rfl
   |cons a l=>rw[hh]at h1;simp at h1
  refine RR ?_;refine KQ.tU rfl (fun w' aY=>⟨_,_,rfl,⟨rfl,rfl⟩,?_⟩);rw[<-hf,Nq hn];exact dJ ⟨hv,dv,_,ps⟩ hV aY
theorem J6{W:Wo}{k:Nat}(i:Nat)(hi:i≠k):((p6 W k).H i).down=(W.H i).down:=by
 have key:∀(W:Wo) x,((W.bX k x).H i)=W.H i:=fun W x=>by
  unfold Wo.H Wo.at' Wo.bX;dsimp only;rw[aq,aq,List.getElem?_set,if_neg (fun e=>hi e.symm)]
 unfold p6;split
 ·unfold EV;rw[key,key]
 ·rw[key]
theorem yg:∀(l:List Nat) (W:Wo) (i:Nat),i∉l->((l.foldl p6 W).H i).down=(W.H i).down
 |[],_,_,_=>rfl
 |k::l,W,i,h=>by
  rw[aJ,not_or]at h;rw[List.foldl_cons,yg l _ i h.2,J6 i h.1]
theorem O4(w0:World)(L:List HP)(bw c kb r:Nat)(hd:rN)(W:Wo)(hN:hd.2.2=none\/(r=1/\∀k,(W.H k).down=false))(hT:nI w0)(hM:oB w0)(hB:dr c kb W)(hK:kb+10000*r<=800000000)(hr:r<=1000)(hc:c<=4000):
 KC prog 25 #[aZ bw,.int .i64 (r:Nat)] w0 (jI bw hd W::L) (fun u M=>u=.tuple #[]/\M=jI bw hd (calm r W)::L):=by
 refine KC.mk (n:=63) func25 rfl ntmps25 aj ?_
 repeat((with_reducible refine K.block ?_))
 refine K.loop (fun q:Wo×Nat=>[(0,aZ bw),(1,.int .i64 ((r-q.2:Nat):Int))]) (fun q=>jI bw hd q.1::L) (fun q=>dr c (kb+10000*q.2) q.1/\q.2<=r/\calm (r-q.2) q.1=calm r W/\(q.2=0->q.1=W)) (fun q=>r-q.2) (W,0) ⟨hB,by dsimp only;omega,rfl,fun _=>rfl⟩ ⟨rfl,rfl,trivial⟩ (fun _ h=>h) ?_;rintro⟨W1,m⟩ ⟨kK,hm,hf,Qz⟩;dsimp only at kK hm hf Qz ⊢;have KG:=kK.n1;refine gU ?_;refine yB ?_;refine Z5 ?_;refine K.bI rfl (fun h1=>?_) (fun h1=>?_)
 ·have Dz:m<r:=by omega
  refine RY ?_;refine K.cg (fun _ h=>dR h) ?_;rintro⟨V,hV,e8,e9⟩;dsimp only;obtain⟨hv,dv,wv,ps⟩:=V;dsimp only at hV e8 e9 ⊢;refine K.fact (fun w hw=>aN (hw.pick (A:=Ig hv (ps.map (·.1))) aX)) ?_
  rintro⟨a1,c1,rfl,xL⟩;obtain⟨g1,rfl⟩:=xL lY;have xH:(ps.map (·.1)).length=W1.hs.length:=by rw[aV,hV]
  rw[xH]at e8 ⊢;refine Z7 ?_;refine RH ?_;refine RO ?_;refine lf ?_;refine K.conv (fun w hw=>dJ (hd:=hd) (W:=W1) ⟨.slice (some ⟨g1,0,none⟩) W1.hs.length c1,dv,wv,ps⟩ hV hw) ?_
  clear hV xH xL;refine K.loop (fun k:Nat=>[(0,aZ bw),(1,.int .i64 ((r-m:Nat):Int)),(15,.slice (some ⟨g1,0,none⟩) W1.hs.length c1),(16,.int .i64 (W1.hs.length:Nat)),(17,.int .i64 (k:Nat))]) (fun k=>jI bw hd ((List.range k).foldl p6 W1)::L) (fun k=>k<=W1.hs.length) (fun k=>W1.hs.length-k) 0 (aR _) ⟨rfl,rfl,rfl,rfl,rfl,trivial⟩ (fun _ h=>h) ?_;intro k hk
  try dsimp only at hk ⊢
  have ZK:dr c (kb+10000*m) ((List.range k).foldl p6 W1):=dr.yZ ae _ W1 kK (fun j hj=>by have :=bz.1 hj;omega);have hnk:((List.range k).foldl p6 W1).hs.length=W1.hs.length:=xP NO _ _;have fN:(List.range (k+1)).foldl p6 W1=p6 ((List.range k).foldl p6 W1) k:=by rw[List.range_succ,List.foldl_append];rfl
  generalize hWk:(List.range k).foldl p6 W1=Wk at ZK hnk fN ⊢;refine gZ ?_;refine K.bI rfl (fun h2=>?_) (fun h2=>?_)
  ·have sO:k<Wk.hs.length:=by omega
   have hnn:=hnk;refine RY ?_;refine K.cg (fun _ h=>dR h) ?_;rintro⟨V,hV,f8,f9⟩;dsimp only;obtain⟨pU,dv',Ts,EW⟩:=V;dsimp only at hV f8 f9 ⊢;rw[<-e8]at f8;subst f8;obtain⟨x,hx⟩:∃e,Wk.hs[k]? =some e:=⟨_,ao sO⟩;obtain⟨p,hp⟩:∃e,EW[k]? =some e:=⟨_,ao ae⟩;obtain⟨eH,eD⟩:=wF hx;have u_:=ZK.hs k x hx;have mD:(EW.map (·.1))[k]? =some p.1:=by rw[aH,hp];rfl
   have kJ:(EW.map (·.2))[k]? =some p.2:=by rw[aH,hp];rfl
   refine K.fact (fun w hw=>aN (hw.pick (A:=OR dv' (EW.map (·.2))) aX)) ?_
   rintro⟨a2,c2,rfl,JI⟩;obtain⟨g2,rfl⟩:=JI lY;refine Z7 ?_;refine abh ?_;refine Z8 ?_;refine kQ ?_;refine Wc ?_;refine Z1 ?_;refine KO.eN (i:=k) rfl rfl runUnderlying161 sizeOf25 rfl lY rfl ?_;refine KO.fJ (i:=k) (sz:=1) (cf:=oV) (e:=p.2) rfl rfl isAgg25 aX (fun _=>rfl) kJ aj aL rfl ?_;refine KO.cl (cp:=[]) rfl rfl rfl call18 rfl (KC.ri (φ:=fun u=>u=.tuple #[]) hp hx aX (fun L=>KC.hdD (fun L=>NK w0 L p.2 x.2 (-1) u_.len))) ?_;rintro v' L' ⟨rfl,rfl⟩;refine Z0 ?_;have Dj:(Wk.hs.set k (x.1,cO x.2 (-1)))[k]? =some (x.1,cO x.2 (-1)):=List.getElem?_set_self sO;refine Z7 ?_;refine KO.ce (cp:=[]) rfl rfl rfl call76 rfl (KE.Iu (φ:=fun u=>u=.bool x.1.down) hp Dj bE (fun L=>KE.perm (fun w hw=>hw.split) (KE.oI (Qr w0 _ _ p.1 p.2 x.1 .head) Y14))) ?_;rintro v' L' ⟨rfl,rfl⟩;refine Z5 ?_;have e1:Wk.bX k (Wk.H k,cO (Wk.D k) (-1))=Wk.bX k (x.1,cO x.2 (-1)):=by rw[eH,eD]
   have aeH:dr c (kb+10000*m) (Wk.bX k (x.1,cO x.2 (-1))):=ZK.set (u_.cut ae);refine K.conv (fun w hw=>dJ (hd:=hd) (W:=Wk.bX k (x.1,cO x.2 (-1))) ⟨.slice (some ⟨g1,0,none⟩) W1.hs.length c1,.slice (some ⟨g2,0,none⟩) (EW.map (·.2)).length c2,Ts,EW⟩ Y16 (hw.all (M:=bD bw (.cells (O1 ⟨.slice (some ⟨g1,0,none⟩) W1.hs.length c1,.slice (some ⟨g2,0,none⟩) (EW.map (·.2)).length c2,Ts,EW⟩ Wk).toArray 164 (0,0))::Ig (.slice (some ⟨g1,0,none⟩) W1.hs.length c1) (EW.map (·.1))::OR (.slice (some ⟨g2,0,none⟩) (EW.map (·.2)).length c2) (EW.map (·.2))::Im Ts Wk.dy::ck yM EW (Wk.hs.set k (x.1,cO x.2 (-1)))::L) Y7)) ?_
   cases ph:x.1.down with
   |true=>
    have eC:p6 Wk k=Ff (Wk.bX k (x.1,cO x.2 (-1))) (k:Int):=by
     unfold p6 Ff;rw[if_pos (by rw[eH];exact ph),e1,if_pos (by unfold Wo.is;rw[lD];simp;omega),aM]
    have ZG:hd.2.2=none:=by
     rcases hN with h|⟨h1,h2⟩
     ·exact h
     ·exfalso;have h3:=yg (List.range k) W1 k aj;rw[hWk,eH,ph,Qz ae,h2 k]at h3;cases h3
    refine sH ?_;refine iw ?_;refine KO.cl (cp:=[]) rfl rfl rfl call74 rfl (KC.qR bE (Lb w0 _ bw c (kb+10000*m) hd ZG _ (k:Int) hT hM aeH ae)) ?_;rintro v' L' ⟨rfl,rfl⟩;refine um ?_;refine KQ.round (k+1) ae ae ⟨rfl,rfl,rfl,rfl,rfl,trivial⟩ (fun _ h=>?_);rw[fN,eC];exact h
   |false=>
    have eC:p6 Wk k=Wk.bX k (x.1,cO x.2 (-1)):=by
     unfold p6;rw[if_neg (by rw[eH,ph];decide),e1]
    refine uj ?_;refine rA ?_;refine KQ.round (k+1) ae ae ⟨rfl,rfl,rfl,rfl,rfl,trivial⟩ (fun _ h=>?_);rw[fN,eC];exact h
  ·have sO:k=W1.hs.length:=by omega
   subst sO;refine wx ?_;have hBf:dr c (kb+10000*m+400) (qh Wk):=ZK.Vq;refine Z7 ?_;refine KO.cl (cp:=[]) rfl rfl rfl call77 rfl (KC.qR bE (Cj w0 _ bw c (kb+10000*m) hd Wk hT hM ZK ae hc)) ?_;rintro v' L' ⟨rfl,rfl⟩;refine Z0 ?_;have eU:qh Wk=B_ W1:=by unfold B_;rw[hWk]
   rw[eU];have hBu:dr c (kb+10000*m+400) (B_ W1):=kK.B_ ae;have hnu:=aav W1;have eR:Eb W1=(List.range W1.hs.length).foldl (yN W1.hs.length) (B_ W1):=rfl;generalize B_ W1=U at hBu hnu eR ⊢;refine K.cg (fun _ h=>dR h) ?_;rintro⟨V,hV,f8,f9⟩;dsimp only;obtain⟨pU,dv',Ts,EW⟩:=V;dsimp only at hV f8 f9 ⊢;rw[<-e8]at f8;subst f8;refine Z7 ?_;refine RH ?_;refine RO ?_;refine lf ?_;refine K.conv (fun w hw=>dJ (hd:=hd) (W:=U) ⟨.slice (some ⟨g1,0,none⟩) W1.hs.length c1,dv',Ts,EW⟩ hV hw) ?_
   clear hV f9;refine K.loop (fun k:Nat=>[(0,aZ bw),(1,.int .i64 ((r-m:Nat):Int)),(42,.int .i64 (W1.hs.length:Nat)),(43,.int .i64 (k:Nat))]) (fun k=>jI bw hd ((List.range k).foldl (yN W1.hs.length) U)::L) (fun k=>k<=W1.hs.length) (fun k=>W1.hs.length-k) 0 (aR _) ⟨rfl,rfl,rfl,rfl,trivial⟩ (fun _ h=>h) ?_;intro k hk
   try dsimp only at hk ⊢
   have ZJ:dr c (kb+10000*m+400+1608*k) ((List.range k).foldl (yN W1.hs.length) U):=(DX (fun W' a P0 hw=>hw.yN a KG.2) (List.range k) _ _ hBu).mono (aC _) Y30;have adU:((List.range k).foldl (yN W1.hs.length) U).hs.length=W1.hs.length:=by rw[xP (fun W a=>aaw _ W a),hnu]
   have MW:(List.range (k+1)).foldl (yN W1.hs.length) U=yN W1.hs.length ((List.range k).foldl (yN W1.hs.length) U) k:=by rw[List.range_succ,List.foldl_append];rfl
   generalize hY:(List.range k).foldl (yN W1.hs.length) U=Y at ZJ adU MW ⊢;refine gZ ?_;refine K.bI rfl (fun h3=>?_) (fun h3=>?_)
   ·have sO:k<W1.hs.length:=by omega
    refine EE ?_;refine jH ?_;refine K.cg (fun _ h=>dR h) ?_;rintro⟨V,hV,f8,f9⟩;dsimp only;obtain⟨pU,dv',Ts,EW⟩:=V;dsimp only at hV f8 f9 ⊢;rw[<-e8]at f8;subst f8;refine Z7 ?_;refine RH ?_;refine RO ?_;refine lf ?_;refine K.conv (fun w hw=>dJ (hd:=hd) (W:=Y) ⟨.slice (some ⟨g1,0,none⟩) W1.hs.length c1,dv',Ts,EW⟩ hV hw) ?_
    clear hV f9;refine K.loop (fun j:Nat=>[(0,aZ bw),(1,.int .i64 ((r-m:Nat):Int)),(6,.int .i64 (k:Nat)),(42,.int .i64 (W1.hs.length:Nat)),(43,.int .i64 (k:Nat)),(50,.int .i64 (W1.hs.length:Nat)),(51,.int .i64 (j:Nat))]) (fun j=>jI bw hd ((List.range j).foldl (fun W dst=>uO W k dst) Y)::L) (fun j=>j<=W1.hs.length) (fun j=>W1.hs.length-j) 0 (aR _) ⟨rfl,rfl,rfl,rfl,rfl,rfl,rfl,trivial⟩ (fun _ h=>h) ?_;intro j hj
    try dsimp only at hj ⊢
    have hBj:dr c (kb+10000*m+400+1608*k+402*j) ((List.range j).foldl (fun W dst=>uO W k dst) Y):=(DX (fun W' a P0 hw=>hw.uO k a) (List.range j) _ _ ZJ).mono (aC _) Y30;have F1:(List.range (j+1)).foldl (fun W dst=>uO W k dst) Y=uO ((List.range j).foldl (fun W dst=>uO W k dst) Y) k j:=by rw[List.range_succ,List.foldl_append];rfl
    generalize hZ:(List.range j).foldl (fun W dst=>uO W k dst) Y=Z at hBj F1 ⊢;refine gZ ?_;refine K.bI rfl (fun h4=>?_) (fun h4=>?_)
    ·have U2:j<W1.hs.length:=by omega
     refine G5 ?_;refine jh ?_;refine KO.cl (cp:=[]) rfl rfl rfl call69 rfl (KC.qR bE (La w0 _ bw c (kb+10000*m+400+1608*k+402*j) hd Z (k:Int) (j:Int) hT hM hBj ae hc)) ?_;rintro v' L' ⟨rfl,rfl⟩;refine KO.eqN rfl bm rfl ?_;refine Z5 ?_;have hBs:=hBj.se (k:Int) (j:Int);by_cases he:Fv Z (k:Int) (j:Int)=0
     ·rw[he];refine sH ?_;refine Z7 ?_;refine KO.cl (cp:=[]) rfl rfl rfl call77 rfl (KC.qR bE (Cj w0 _ bw c _ hd _ hT hM hBs ae hc)) ?_;rintro v' L' ⟨rfl,rfl⟩;refine um ?_;refine KQ.round (j+1) ae ae ⟨rfl,rfl,rfl,rfl,rfl,rfl,rfl,trivial⟩ (fun _ h=>?_);rw[F1];unfold uO;rw[if_pos he];exact h
     ·refine K.cP rfl (by simp[he]) ?_;refine rA ?_;refine KQ.round (j+1) ae ae ⟨rfl,rfl,rfl,rfl,rfl,rfl,rfl,trivial⟩ (fun _ h=>?_);rw[F1];unfold uO;rw[if_neg he];exact h
    ·have U2:j=W1.hs.length:=by omega
     subst U2;refine Z97 ?_;refine Kq ?_;refine KQ.round (k+1) ae ae ⟨rfl,rfl,rfl,rfl,trivial⟩ (fun _ h=>?_);rw[MW];unfold yN;rw[hZ];exact h
   ·have sO:k=W1.hs.length:=by omega
    subst sO;refine Z97 ?_;refine Z7 ?_;refine Kk ?_;refine oz ?_;refine KQ.round (Eb W1,m+1) ⟨(kK.Eb ae).mono (aC _) ji,by dsimp only;omega,?_,fun h=>absurd h (Nat.succ_ne_zero m)⟩ ji ⟨rfl,?_,trivial⟩ (fun _ h=>?_)
    ·dsimp only;rw[<-hf,show r-m=(r-(m+1))+1 by omega];rfl
    ·dsimp only;rw[show((r-(m+1):Nat):Int)=((r-m:Nat):Int)-1 by omega];rfl
    ·dsimp only;rw[eR,hY];exact h
 ·have Dz:m=r:=by omega
  subst Dz;refine RR ?_;refine KQ.tU rfl (fun w' aY=>⟨_,_,rfl,⟨rfl,rfl⟩,?_⟩);rw[<-hf,Nat.sub_self];exact aY
def yF (w0:World):Prop:= ∀(L:List HP) (v:Value) (xs:List Ms),xs.length<1000000000->(∀m∈xs,0<=m.id/\m.id<=1099511627776)->
 KC prog 125 #[v,.func (.func 126) #[] #[]] w0 (SL 44 5 dN v xs::L) (fun u M=>u=.tuple #[]/\∃ys:List Ms,ys.Perm xs/\(ys.Pairwise fun a b=>a.id<=b.id)/\M=SL 44 5 dN v ys::L)
theorem Tz(w0:World)(L:List HP)(bw c kb:Nat)(hd:rN)(W:Wo)(hB:dr c kb W)(hc:c<=4000)(YO:yF w0):
 KC prog 48 #[aZ bw] w0 (jI bw hd W::L) (fun u M=> ∃out:List Ms,out.Perm (tv W)/\(out.Pairwise fun a b=>a.id<=b.id)/\M=SL 44 5 dN u out::jI bw hd W::L):=by
 have KG:=hB.n1;refine KC.mk (n:=97) func48 rfl ntmps48 aj ?_;refine oQ ?_;refine K.cg (fun _ h=>dR h) ?_;rintro⟨V,hV,e8,e9⟩;dsimp only;obtain⟨hv,dv,wv,ps⟩:=V;dsimp only at hV e8 e9 ⊢;refine K.fact (fun w hw=>aN (hw.pick (A:=Ig hv (ps.map (·.1))) aX)) ?_
 rintro⟨a1,c1,rfl,xL⟩;obtain⟨g1,rfl⟩:=xL lY;have xH:(ps.map (·.1)).length=W.hs.length:=by rw[aV,hV]
 rw[xH]at e8 ⊢;clear xL;refine dC ?_;refine BM ?_;refine RH ?_;refine RO ?_;refine lf ?_;have SO:∀k,k<W.hs.length->(fT (W.H k)).length<=302*79600:=fun k hk=>by
  obtain⟨x,hx,e1,e2⟩:=eZ hk;have h1:=Ga (DO (hB.hs k x hx) hc);have h2:=(hB.hs k x hx).ql;have h3:=(hB.hs k x hx).B.used;rw[e1];exact Nat.le_trans h1 (Nat.mul_le_mul_right _ ae)
 have hlw:∀k,k<W.hs.length->∀j,((List.range j).flatMap (gM W k)).length<=j *80000:=fun k hk j=>by
  induction j with
  |zero=>simp
  |succ j ih=>
   have :=FQ hB hc hk j;rw[List.range_succ,List.flatMap_append,aQ,Nat.succ_mul];simp only[aO,List.flatMap_nil,List.append_nil];omega
 have hlK:∀k,k<=W.hs.length->((List.range k).flatMap (si W)).length<=k *30000000:=fun k=>by
  induction k with
  |zero=>simp
  |succ k ih=>
   intro hk;have h1:=ih ae;have h2:=SO k ae;have h3:=hlw k ae 4;rw[List.range_succ,List.flatMap_append,aQ,Nat.succ_mul];simp only[aO,List.flatMap_nil,List.append_nil];have h4:(si W k).length=(fT (W.H k)).length+((List.range 4).flatMap (gM W k)).length:=by unfold si;rw[aQ]
   omega
 refine K.loop (fun q:Nat×Value×List Ms=>[(0,aZ bw),(3,q.2.1),(20,.slice (some ⟨g1,0,none⟩) W.hs.length c1),(21,.int .i64 (W.hs.length:Nat)),(22,.int .i64 (q.1:Nat))]) (fun q=>SL 44 5 dN q.2.1 q.2.2::uu bw ⟨.slice (some ⟨g1,0,none⟩) W.hs.length c1,dv,wv,ps⟩ W L) (fun q=>q.1<=W.hs.length/\q.2.2.Perm ((List.range q.1).flatMap (si W))) (fun q=>W.hs.length-q.1) (0,.slice none 0 0,[]) ⟨aR _,by simp⟩ ⟨rfl,rfl,rfl,rfl,rfl,trivial⟩ (fun _ h=>cL (E:=44) (sz:=5) (cf:=dN) h) ?_;rintro⟨k,v3,o3⟩ ⟨hk,ho⟩;dsimp only at hk ho ⊢;refine gZ ?_;refine K.bI rfl (fun h3=>?_) (fun h3=>?_)
 ·have sO:k<W.hs.length:=by omega
  obtain⟨x,hx⟩:∃e,W.hs[k]? =some e:=⟨_,ao sO⟩;obtain⟨p,hp⟩:∃e,ps[k]? =some e:=⟨_,ao ae⟩;obtain⟨eH,eD⟩:=wF hx;have u_:=hB.hs k x hx;have kK:=DO u_ hc;have hu:=u_.B.used;have tB:x.1.aE.length<=1000:=by have :=u_.ql;omega
  have mD:(ps.map (·.1))[k]? =some p.1:=by rw[aH,hp];rfl
  have kO:W.hs.set k x=W.hs:=List.gH hx;have F_:=hlK k hk;have adZ:=ho.length_eq;have Qn:=SO k sO;rw[eH]at Qn;refine EE ?_;refine abh ?_;refine Z8 ?_;refine kQ ?_;refine Z1 ?_;refine KO.cl (cp:=[]) rfl rfl rfl call20 rfl (KC.Nw (γ:=Value×List ak) (φ:=fun c u=>u=c.1/\c.2.Perm (x.1.aE.map (·.1))) (A:=fun c=>SL 44 5 dN c.1 ((dZ c.2).flatMap (gN x.1))) (y:=x) hp hx aX (fun L=>(KC.perm (fun w hw=>hw.split) (KC.oI (DG w0 (fa p.2 x.2::L) p.1 p.2 79600 x.1 kK ae tB) (by rintro v M ⟨ns,h1,rfl⟩;exact⟨_,⟨(v,ns),⟨rfl,h1⟩,rfl⟩,fun w hw=>((hw.gu (A:=cW p.1 p.2 x.1) (B:=fa p.2 x.2) (.tail .head) (.tail .head)).join).fL⟩))))) ?_;rintro v' L' ⟨⟨vk,ns⟩,⟨rfl,E3⟩,rfl⟩;rw[kO];dsimp only at E3 ⊢;have SP:=zN kK E3;have oX:=SP.length_eq
  refine KO.Ro (cf:=dN) (z:=Value.agg #[.int .i64 0,.int .i64 0,.string ⟨#[]⟩,.string ⟨#[]⟩,.int .i64 0]) (sz:=5) (cV:=56) (xs:=o3) (ys:=(dZ ns).flatMap (gN x.1)) rfl rfl rfl aX (fun w hw=>Src.of (E:=44) (sz:=5) (cf:=dN) .head w hw) underlying49 bm rfl (fun _=>rfl) (fun _=>rfl) ae ai rfl ?_;intro v30;refine kQ ?_;refine Tn ?_;refine K.loop (fun q:Nat×Value×List Ms=>[(0,aZ bw),(3,q.2.1),(4,.int .i64 (k:Nat)),(5,aZ p.1),(20,.slice (some ⟨g1,0,none⟩) W.hs.length c1),(21,.int .i64 (W.hs.length:Nat)),(22,.int .i64 (k:Nat)),(31,.int .i64 (q.1:Nat))]) (fun q=>SL 44 5 dN q.2.1 q.2.2::uu bw ⟨.slice (some ⟨g1,0,none⟩) W.hs.length c1,dv,wv,ps⟩ W L) (fun q=>q.1<=4/\q.2.2.Perm ((List.range k).flatMap (si W)++fT x.1++(List.range q.1).flatMap (gM W k))) (fun q=>4-q.1) (0,v30,o3++(dZ ns).flatMap (gN x.1)) ⟨aR _,by simpa using ho.append SP⟩ ⟨rfl,rfl,rfl,rfl,rfl,rfl,rfl,rfl,trivial⟩ (fun _ h=>h.all Y5) ?_;clear v30;rintro⟨j,v6,o6⟩ ⟨hj,Xf⟩;dsimp only at hj Xf ⊢;have hlj:=hlw k sO j;have hl6:=Xf.length_eq;rw[aQ,aQ]at hl6;have fN:(List.range (j+1)).flatMap (gM W k)=(List.range j).flatMap (gM W k)++gM W k j:=by rw[List.range_succ,List.flatMap_append];simp
  refine gZ ?_;refine K.bI rfl (fun h7=>?_) (fun h7=>?_)
  ·have SR:j<4:=by omega
   refine G5 ?_;refine Z1 ?_;refine KO.cl (cp:=[]) rfl rfl rfl call27 rfl (KC.Nw (γ:=Value) (φ:=fun c u=>u=.tuple #[c,cz 70 (Ck x.1 (j:Int))]) (A:=fun c=>SL 44 5 dN c (gp x.1 (j:Int))) (y:=x) hp hx aX (fun L=>(KC.perm (fun w hw=>hw.split) (KC.oI (Dl w0 (fa p.2 x.2::L) p.1 p.2 79600 x.1 (j:Int) kK ae) Y2)))) ?_;rintro v' L' ⟨vw,rfl,rfl⟩;rw[kO];refine KO.fact (fun _ hs=>aN hs) ?_;rintro⟨aw,cw,rfl,haw⟩;refine jY ?_;refine RS ?_;cases hr:bQ x.1 (j:Int)with
   |false=>
    have hlz:gM W k j=[]:=by unfold gM;rw[eH,hr];rfl
    refine K.cA rfl (by unfold Ck;rw[hr];rfl) ?_;refine aa7 ?_;refine KQ.round (j+1,v6,o6) ⟨by dsimp only;omega,?_⟩ ji ⟨rfl,rfl,rfl,rfl,rfl,rfl,rfl,rfl,trivial⟩ (fun _ h=>h.all Y5);dsimp only;rw[fN,hlz,List.append_nil];exact Xf
   |true=>
    refine K.cP rfl (by unfold Ck;rw[hr];rfl) ?_;refine Z6 ?_;refine iw ?_;refine KO.cl (cp:=[]) rfl rfl rfl call110 rfl (KC.Nw (γ:=Value) (φ:=fun c u=>u=.tuple #[.int .i64 (VE x.1 (j:Int)),c,cz 70 (dbE x.1 (j:Int))]) (A:=fun c=>SL 3 1 cR c (yc x.1 (j:Int))) (y:=x) hp hx aX (fun L=>(KC.perm (fun w hw=>hw.split) (KC.oI (Nd w0 (fa p.2 x.2::L) p.1 p.2 79600 x.1 (j:Int) kK) Y2)))) ?_;rintro v' L' ⟨vd,rfl,rfl⟩;rw[kO];refine KO.fact (fun _ hs=>aN hs) ?_;rintro⟨ad,cd,rfl,had⟩;refine Cb ?_;refine rB ?_;refine ry ?_;refine qm ?_;refine jH ?_;have me:yc x.1 (j:Int)=bR x.1 j:=by unfold yc;rw[if_pos hr,aM]
    have Jx:gp x.1 (j:Int)=cM (x.1.hF j):=by unfold gp;rw[if_pos hr,aM]
    have hwn:(gp x.1 (j:Int)).length<=80000:=by rw[Jx];exact Nat.le_trans (pK _) (Nat.le_trans (kK.w (j:=j) SR).len ae)
    have ph:(yc x.1 (j:Int)).length<1000000:=by
     rw[me];unfold bR;rw[aq];cases hq:x.1.batch[j]? with
     |none=>decide
     |some l=>exact Nat.lt_of_le_of_lt (kK.ext.Te l (ax hq)) ai
    refine K.cut (fun _:Unit=>[(0,aZ bw),(3,v6),(4,.int .i64 (k:Nat)),(6,.int .i64 (j:Nat)),(5,aZ p.1),(7,.slice aw (gp x.1 (j:Int)).length cw),(9,.int .i64 (VE x.1 (j:Int))),(10,.slice ad (yc x.1 (j:Int)).length cd),(20,.slice (some ⟨g1,0,none⟩) W.hs.length c1),(21,.int .i64 (W.hs.length:Nat)),(22,.int .i64 (k:Nat)),(31,.int .i64 (j:Nat)),(12,.bool false),(56,.bool (decide (bR x.1 j≠[]/\W.is (j:Int)=true)))]) (fun _=>SL 3 1 cR (.slice ad (yc x.1 (j:Int)).length cd) (yc x.1 (j:Int))::SL 44 5 dN (.slice aw (gp x.1 (j:Int)).length cw) (gp x.1 (j:Int))::SL 44 5 dN v6 o6::uu bw ⟨.slice (some ⟨g1,0,none⟩) W.hs.length c1,dv,wv,ps⟩ W L) (fun _=>True) ?_ ?_
    ·by_cases Bg:bR x.1 j=[]
     ·have hz:(yc x.1 (j:Int)).length=0:=by rw[me,Bg];rfl
      rw[show decide (bR x.1 j≠[]/\W.is (j:Int)=true)=false by simp[Bg]];refine Z7 ?_;refine BR ?_;refine yB ?_;refine G6 ?_;refine KO.nil ?_;exact KQ.qc () trivial ⟨rfl,rfl,rfl,rfl,rfl,rfl,rfl,rfl,rfl,rfl,rfl,rfl,rfl,rfl,trivial⟩ (fun _ h=>h.all Y3)
     ·have hz:0<(yc x.1 (j:Int)).length:=by rw[me];exact List.length_pos_iff.2 Bg
      rw[show decide (bR x.1 j≠[]/\W.is (j:Int)=true)=W.is (j:Int)by simp[Bg]];refine Z7 ?_;refine BR ?_;refine yB ?_;refine uo ?_;refine Z1 ?_;refine KO.on rfl rfl fV ?_;refine KO.ce (cp:=[]) rfl rfl rfl call78 rfl ((fW w0 _ L bw hd W (j:Int) .head).only (fun w h=>dJ (W:=W) ⟨.slice (some ⟨g1,0,none⟩) W.hs.length c1,dv,wv,ps⟩ hV (h.all (M:=uu bw ⟨.slice (some ⟨g1,0,none⟩) W.hs.length c1,dv,wv,ps⟩ W L) Y5))) ?_;rintro v' L' ⟨rfl,rfl⟩;refine qJ ?_;refine KO.nil ?_;exact KQ.qc () trivial ⟨rfl,rfl,rfl,rfl,rfl,rfl,rfl,rfl,rfl,rfl,rfl,rfl,rfl,rfl,trivial⟩ (fun _ h=>h.all Y3)
    rintro - -;refine K.cut (fun _:Unit=>[(0,aZ bw),(3,v6),(4,.int .i64 (k:Nat)),(6,.int .i64 (j:Nat)),(5,aZ p.1),(7,.slice aw (gp x.1 (j:Int)).length cw),(9,.int .i64 (VE x.1 (j:Int))),(10,.slice ad (yc x.1 (j:Int)).length cd),(20,.slice (some ⟨g1,0,none⟩) W.hs.length c1),(21,.int .i64 (W.hs.length:Nat)),(22,.int .i64 (k:Nat)),(31,.int .i64 (j:Nat)),(12,.bool (px W k j))]) (fun _=>SL 3 1 cR (.slice ad (yc x.1 (j:Int)).length cd) (yc x.1 (j:Int))::SL 44 5 dN (.slice aw (gp x.1 (j:Int)).length cw) (gp x.1 (j:Int))::SL 44 5 dN v6 o6::uu bw ⟨.slice (some ⟨g1,0,none⟩) W.hs.length c1,dv,wv,ps⟩ W L) (fun _=>True) ?_ ?_
    ·by_cases hb:bR x.1 j≠[]/\W.is (j:Int)=true
     ·refine K.cA rfl (by exact decide_eq_true hb) ?_;obtain⟨Bg,hbw⟩:=hb;have U2:j<W.hs.length:=by have :=gG hbw;omega
      obtain⟨y,hy⟩:∃e,W.hs[j]? =some e:=⟨_,ao U2⟩;obtain⟨p2,kJ⟩:∃e,ps[j]? =some e:=⟨_,ao ae⟩;obtain⟨eY,-⟩:=wF hy;have hp3:(ps.map (·.1))[j]? =some p2.1:=by rw[aH,kJ];rfl
      have sP:px W k j=decide (VE x.1 (j:Int)<=Eg y.1 (k:Int)):=by
       have hz:¬(bR x.1 j).length=0:=by rw[List.length_eq_zero_iff];exact Bg
       unfold px VE Eg;rw[eH,eY,if_pos hr,aM,aM,if_neg hz];simp[Bg,hbw,hr]
      rw[sP];refine gU ?_;refine XC ?_;refine Z1 ?_;refine KO.eN (i:=j) rfl rfl runUnderlying160 sizeOf29 rfl ae rfl ?_;refine KO.fJ (i:=j) (sz:=1) (cf:=oV) (e:=p2.1) rfl rfl isAgg29 aX (fun _=>rfl) hp3 aj aL rfl ?_;refine Z1 ?_;refine KO.ce (cp:=[]) rfl rfl rfl call111 rfl (KE.Iu (φ:=fun u=>u=.tuple #[.int .i64 (Eg y.1 (k:Int)),cz 70 (VV y.1 (k:Int))]) kJ hy aX (fun L=>KE.perm (fun w hw=>hw.split) (KE.oI (Gh w0 _ _ p2.1 p2.2 y.1 (k:Int) .head) Y14))) ?_;rintro v' L' ⟨rfl,rfl⟩;refine N2 ?_;refine iH ?_;refine iw ?_;refine uh ?_;refine oz ?_;exact KQ.qc () trivial ⟨rfl,rfl,rfl,rfl,rfl,rfl,rfl,rfl,rfl,rfl,rfl,rfl,rfl,trivial⟩ (fun _ h=>h.all Y3)
     ·have sP:px W k j=false:=by unfold px;rw[eH];simp only[decide_eq_false_iff_not];exact fun h=>hb ⟨h.1,h.2.1⟩
      rw[sP];refine K.cP rfl (by exact decide_eq_false hb) ?_;refine vI ?_;exact KQ.qc () trivial ⟨rfl,rfl,rfl,rfl,rfl,rfl,rfl,rfl,rfl,rfl,rfl,rfl,rfl,trivial⟩ (fun _ h=>h)
    rintro - -;refine oQ ?_;have hlW:gM W k j=(gp x.1 (j:Int)).filter (fun m=> !px W k j|| !decide (m.id∈yc x.1 (j:Int))):=by unfold gM;rw[eH,if_pos hr,Jx,me]
    generalize px W k j=cm at hlW ⊢;have aiz:=hlw k sO j;refine Z7 ?_;refine EA ?_;refine K.loop (fun q:Nat×Value×List Ms=>[(0,aZ bw),(3,q.2.1),(4,.int .i64 (k:Nat)),(5,aZ p.1),(10,.slice ad (yc x.1 (j:Int)).length cd),(12,.bool cm),(20,.slice (some ⟨g1,0,none⟩) W.hs.length c1),(21,.int .i64 (W.hs.length:Nat)),(22,.int .i64 (k:Nat)),(31,.int .i64 (j:Nat)),(72,.slice aw (gp x.1 (j:Int)).length cw),(73,.int .i64 ((gp x.1 (j:Int)).length:Nat)),(74,.int .i64 (q.1:Nat))]) (fun q=>SL 3 1 cR (.slice ad (yc x.1 (j:Int)).length cd) (yc x.1 (j:Int))::SL 44 5 dN (.slice aw (gp x.1 (j:Int)).length cw) (gp x.1 (j:Int))::SL 44 5 dN q.2.1 q.2.2::uu bw ⟨.slice (some ⟨g1,0,none⟩) W.hs.length c1,dv,wv,ps⟩ W L) (fun q=>q.1<=(gp x.1 (j:Int)).length/\q.2.2.Perm (((List.range k).flatMap (si W)++fT x.1++(List.range j).flatMap (gM W k))++((gp x.1 (j:Int)).take q.1).filter (fun m=> !cm|| !decide (m.id∈yc x.1 (j:Int))))) (fun q=>(gp x.1 (j:Int)).length-q.1) (0,v6,o6) ⟨aR _,by simpa using Xf⟩ ⟨rfl,rfl,rfl,rfl,rfl,rfl,rfl,rfl,rfl,rfl,rfl,rfl,rfl,trivial⟩ (fun _ h=>h.all mH) ?_;clear Xf hl6;rintro⟨i,v9,o9⟩ ⟨hi,UQ⟩;dsimp only at hi UQ ⊢;have hl9:=UQ.length_eq;rw[aQ,aQ,aQ]at hl9
    have hlf:=List.length_filter_le (fun m:Ms=> !cm|| !decide (m.id∈yc x.1 (j:Int))) ((gp x.1 (j:Int)).take i);rw[bp]at hlf;refine gZ ?_;refine K.bI rfl (fun h17=>?_) (fun h17=>?_)
    ·have vg:i<(gp x.1 (j:Int)).length:=by omega
     obtain⟨m,hm⟩:∃e,(gp x.1 (j:Int))[i]? =some e:=⟨_,ao vg⟩;obtain⟨gw,rfl⟩:=haw ae;have hts:=bA hm;obtain⟨mi,mp,mb,mq,mh⟩:=m;refine aaN ?_;refine KO.yU (i:=i) (sz:=5) (cf:=dN) (e:=⟨mi,mp,mb,mq,mh⟩) rfl rfl isAgg44 sizeOf44 aX (fun _=>rfl) hm rfl ?_;refine KO.alloc rfl zeroValue44 aL rfl ?_;intro b16;refine BH ?_;cases cm with
     |false=>
      refine Od ?_;refine lg ?_;refine Tl ?_;refine sL ?_;refine Z7 ?_;refine EK ?_;refine KO.iN (z:=(Value.agg #[.int .i64 0,.int .i64 0,.string ⟨#[]⟩,.string ⟨#[]⟩,.int .i64 0])) (sz:=5) (cV:=56) rfl rfl underlying49 bm aL aL ai ai rfl ?_;intro b89;refine KO.app (cf:=dN) (z:=Value.agg #[.int .i64 0,.int .i64 0,.string ⟨#[]⟩,.string ⟨#[]⟩,.int .i64 0]) (sz:=5) (cV:=56) (xs:=o9) rfl rfl rfl aX .head underlying49 bm aL ⟨mi,mp,mb,mq,mh⟩ rfl rfl rfl ae ai rfl ?_;intro XI;refine rz ?_;refine KQ.round (i+1,XI,o9++[⟨mi,mp,mb,mq,mh⟩]) ⟨by dsimp only;omega,?_⟩ ji ⟨rfl,rfl,rfl,rfl,rfl,rfl,rfl,rfl,rfl,rfl,rfl,rfl,rfl,trivial⟩ (fun _ h=>h.all Y5);dsimp only;rw[hts,dG,fh,if_pos (by rfl),List.filter_nil,<-aK];exact UQ.append_right _
     |true=>
      refine yA ?_;refine OT ?_;refine G3 ?_;refine KO.on rfl rfl rfl ?_;refine KO.ce (cp:=[]) rfl rfl rfl call92 rfl (NN w0 _ (.slice ad (yc x.1 (j:Int)).length cd) (yc x.1 (j:Int)) mi (fun w hw=>oS.tf (fun _=>rfl) aX hw) ph) ?_;rintro v' L' ⟨rfl,rfl⟩;refine y_ ?_;refine BQ ?_;by_cases JC:mi∈yc x.1 (j:Int)
      ·refine K.cP rfl (by simp[JC]) ?_;refine rA ?_;refine KQ.round (i+1,v9,o9) ⟨by dsimp only;omega,?_⟩ ji ⟨rfl,rfl,rfl,rfl,rfl,rfl,rfl,rfl,rfl,rfl,rfl,rfl,rfl,trivial⟩ (fun _ h=>h.all Y5);dsimp only;rw[hts,dG,fh,if_neg (by simp[JC]),List.filter_nil,List.append_nil];exact UQ
      ·refine K.cA rfl (by simp[JC]) ?_;refine Z7 ?_;refine EK ?_;refine KO.iN (z:=(Value.agg #[.int .i64 0,.int .i64 0,.string ⟨#[]⟩,.string ⟨#[]⟩,.int .i64 0])) (sz:=5) (cV:=56) rfl rfl underlying49 bm aL aL ai ai rfl ?_;intro b89;refine KO.app (cf:=dN) (z:=Value.agg #[.int .i64 0,.int .i64 0,.string ⟨#[]⟩,.string ⟨#[]⟩,.int .i64 0]) (sz:=5) (cV:=56) (xs:=o9) rfl rfl rfl aX .head underlying49 bm aL ⟨mi,mp,mb,mq,mh⟩ rfl rfl rfl ae ai rfl ?_;intro XI;refine rz ?_;refine KQ.round (i+1,XI,o9++[⟨mi,mp,mb,mq,mh⟩]) ⟨by dsimp only;omega,?_⟩ ji ⟨rfl,rfl,rfl,rfl,rfl,rfl,rfl,rfl,rfl,rfl,rfl,rfl,rfl,trivial⟩ (fun _ h=>h.all Y5);dsimp only;rw[hts,dG,fh,if_pos (by simp[JC]),List.filter_nil,<-aK];exact UQ.append_right _
    ·have vg:i=(gp x.1 (j:Int)).length:=by omega
     subst vg;rw[List.take_length,<-hlW]at UQ;refine Z97 ?_;refine Kq ?_;refine KQ.round (j+1,v9,o9) ⟨by dsimp only;omega,?_⟩ ji ⟨rfl,rfl,rfl,rfl,rfl,rfl,rfl,rfl,trivial⟩ (fun _ h=>h.all Y5);dsimp only;rw[fN,<-aK];exact UQ
  ·have SR:j=4:=by omega
   subst SR;refine Z97 ?_;refine Kq ?_;refine KQ.round (k+1,v6,o6) ⟨by dsimp only;omega,?_⟩ ji ⟨rfl,rfl,rfl,rfl,rfl,trivial⟩ (fun _ h=>h.all mH);dsimp only;rw[List.range_succ,List.flatMap_append];simp only[aO,List.flatMap_nil,List.append_nil];rw[show si W k=fT x.1++(List.range 4).flatMap (gM W k)by unfold si;rw[eH],<-aK];exact Xf
 ·have sO:k=W.hs.length:=by omega
  subst sO;have F_:=hlK _ (aC W.hs.length);have adZ:=ho.length_eq;refine yu ?_;refine KO.cl (cp:=[]) rfl rfl rfl call125 rfl (KC.qR bE (YO _ v3 o3 ae (fun m hm=>MC hB hc m (ho.mem_iff.1 hm)))) ?_;rintro v' L' ⟨rfl,ys,SG,yJ,rfl⟩;refine oy ?_;refine fK ?_;refine KQ.a_ rfl rfl (fun w' aY=>⟨_,_,rfl,⟨ys,SG.trans ho,yJ,rfl⟩,?_⟩);exact(dJ (W:=W) ⟨.slice (some ⟨g1,0,none⟩) W.hs.length c1,dv,wv,ps⟩ hV (aY.all (M:=uu bw ⟨.slice (some ⟨g1,0,none⟩) W.hs.length c1,dv,wv,ps⟩ W (SL 44 5 dN v3 ys::L)) Y3)).fL
end Go.Proofs.YtjhogocabcdjbabGreatDoor
namespace WB
open Go
def B5 (l:List (Nat×Nat)):Nat:=(l.map fun x=>x.2-x.1+1).sum
theorem Cw(l:List (Nat×Nat))(x:Nat×Nat):B5 (l++[x])=B5 l+(x.2-x.1+1):=by unfold B5;simp
theorem aao(s:ak)(pos:Nat)(h:pos<s.size):1<=(Utf8.decode s pos).2/\pos+(Utf8.decode s pos).2<=s.size:=by
 refine⟨Lib.width_pos s pos,?_⟩;rw[Lib.decode_at];have :=Lib.decodeN_le_n' (s.size-pos) (s.get! pos).toNat (s.get! (pos+1)).toNat (s.get! (pos+2)).toNat (s.get! (pos+3)).toNat ae;omega
def spI (pos:Nat) (st:Option Nat) (acc:List (Nat×Nat)):Prop:=(∀x∈acc,x.1<x.2/\x.2<=pos)/\match st with
 |none=>B5 acc<=pos
 |some a=>B5 acc<=a/\a<pos
theorem wO(p:Nat->Bool)(s:ak):∀(f pos:Nat) (st:Option Nat) (acc:List (Nat×Nat)),pos<=s.size->spI pos st acc->∃q,q<=s.size/\spI q (Lib.spansFromP p s f pos st acc).2 (Lib.spansFromP p s f pos st acc).1
 |0,pos,st,acc,hp,h=>⟨pos,hp,h⟩
 |f+1,pos,st,acc,hp,h=>by
  unfold Lib.spansFromP;split
  ·rename_i dI;obtain⟨h1,h2⟩:=aao s pos dI;have up:∀x∈acc,x.1<x.2/\x.2<=pos+(Utf8.decode s pos).2:=fun x hx=>by have :=h.1 x hx;omega
   split
   ·cases st with
    |none=>exact wO p s f _ _ _ h2 ⟨up,by have :=h.2;show B5 acc<=_;have :B5 acc<=pos:=this;omega⟩
    |some a=>
     obtain⟨g1,g2⟩:B5 acc<=a/\a<pos:=h.2;refine wO p s f _ _ _ h2 ⟨fun x hx=>?_,?_⟩
     ·rcases aP.1 hx with hx|hx
      ·exact up x hx
      ·simp at hx;subst hx;dsimp only;omega
     ·show B5 (acc++[(a,pos)])<=_
      rw[Cw];dsimp only;omega
   ·cases st with
    |none=>exact wO p s f _ _ _ h2 ⟨up,by have :B5 acc<=pos:=h.2;show B5 acc<=pos/\pos<_;omega⟩
    |some a=>exact wO p s f _ _ _ h2 ⟨up,by have :B5 acc<=a/\a<pos:=h.2;show B5 acc<=a/\a<_;omega⟩
  ·exact⟨pos,hp,h⟩
theorem Pe(p:Nat->Bool)(s:ak):B5 (Lib.spansOfP p s)<=s.size+1/\∀x∈Lib.spansOfP p s,x.1<x.2/\x.2<=s.size:=by
 obtain⟨q,hq,h⟩:=wO p s s.size 0 none [] (aR _) ⟨(fun _ h=>by cases h),aC 0⟩;unfold Lib.spansOfP Lib.closeSpans;generalize Lib.spansFromP p s s.size 0 none []=r at h ⊢;obtain⟨acc,st⟩:=r;dsimp only at h ⊢;cases st with
 |none=>exact⟨by have :B5 acc<=q:=h.2;dsimp only;omega,fun x hx=>by have :=h.1 x hx;omega⟩
 |some a=>
  obtain⟨g1,g2⟩:B5 acc<=a/\a<q:=h.2;refine⟨by rw[Cw];dsimp only;omega,fun x hx=>?_⟩;rcases aP.1 hx with hx|hx
  ·have :=h.1 x hx;omega
  ·simp at hx;subst hx;dsimp only;omega
def ke (l:List ak):Nat:=(l.map fun x=>x.size+1).sum
theorem mN(x:ak)(l:List ak):ke (x::l)=x.size+1+ke l:=by unfold ke;simp
theorem Nt(s:ak):ke (qi s)<=s.size+1/\∀x∈qi s,1<=x.size/\x.size<=s.size:=by
 obtain⟨h1,h2⟩:=Pe (fun r=>r==32) s;refine⟨?_,fun x hx=>?_⟩
 ·have :ke (qi s)=B5 (Lib.spansOfP (fun r=>r==32) s):=by
   unfold ke B5 qi Lib.goFieldsP;rw[List.map_map];congr 1;refine List.map_congr_left fun x hx=>?_
   have :=h2 x hx;simp only[Function.comp,ByteArray.size_extract];omega
  omega
 ·obtain⟨y,hy,rfl⟩:=aD.1 hx;have :=h2 y hy;simp only[ByteArray.size_extract];omega
section
variable {c kb n p q:Nat} {W:Wo} {C0:Nat->Ho} {T:List Ms}
theorem aaG{k:Nat}{H:Ho}{D:Dk}(hb:jj c kb k (H,D))(hm:∀y∈H.az,y.aU.length+y.bj.length<=c)(hc:c<=200)(x:Ac)(h6:x.cq<6):
 ∃c',c<=c'/\(c'<=c\/(x.cq=2\/x.cq=3)/\c'<=c+1)/\jj c' (kb+1) k (Xv H D x,dsD H D x)/\∀y∈(Xv H D x).az,y.aU.length+y.bj.length<=c':=by
 have hB:=hb.B;dsimp only at hB;have hm6:∀y∈(H,D).1.az,y.aU.length+y.bj.length<=600:=fun y hy=>by have :=hm y hy;omega
 have zI:∀{x:Ho×Dk} {c:Nat},jj c kb k x->jj c (kb+1) k x:=fun hh=>hh.mono (aC _) (Nat.le_succ _)
 have up:∀{us:List rL},(∀y∈us,y.aU.length+y.bj.length<=c)->∀y∈us,y.aU.length+y.bj.length<=c+1:=fun hh y hy=>by have :=hh y hy;omega
 have XU:∀(w:Nat),∀y∈H.az.set w dt,y.aU.length+y.bj.length<=c:=fun w y hy=>by
  rcases br hy with hy|rfl
  ·exact hm y hy
  ·exact aR _
 unfold Xv dsD;by_cases w0:x.cq=0
 ·simp only[if_pos w0];exact⟨c,aC _,.inl (aC _),hb.name x.nm,Mm hm x.nm⟩
 simp only[if_neg w0];by_cases w1:x.cq=1
 ·simp only[if_pos w1];exact⟨c,aC _,.inl (aC _),hb.Fi _,TD hm _⟩
 simp only[if_neg w1];have i7:¬x.cq=7:=by omega
 have i8:¬x.cq=8:=by omega
 by_cases w2:x.cq=2
 ·simp only[if_pos w2,if_neg (show ¬x.cq=4 by omega),if_neg i7,if_neg i8];refine⟨c+1,Nat.le_succ _,.inr ⟨.inl w2,aC _⟩,zI (hb.put x.n x.nm.name x.m x.body hm6),?_⟩;unfold jt;split
  ·unfold dc;refine wI (H:={H.eI (lI H x.nm.name) (nY (H.uR (lI H x.nm.name)) (fk H x.nm.name x.m x.body) x.n)with next:=H.next+1}) (fun y hy=>hm y (by rw[<-iT (H:=H)];exact hy)) ?_;have :=Fj hm x.n.toNat;simp;omega
  ·exact up hm
 simp only[if_neg w2];by_cases w3:x.cq=3
 ·simp only[if_pos w3,if_neg (show ¬x.cq=4 by omega),if_neg i7,if_neg i8];by_cases he:gm H x.n x.nm.name=0
  ·refine⟨c+1,Nat.le_succ _,.inr ⟨.inr w3,aC _⟩,zI (hb.get x.n (Nk hB he) hm6),?_⟩;unfold iE;rw[if_pos he];unfold dc;refine wI (H:=H.ft _ _) (fun y hy=>hm y hy) ?_;have :=Fj hm x.n.toNat;simp;omega
  ·have :iE H x.n x.nm.name=H:=by unfold iE;rw[if_neg he]
   rw[this];exact⟨c,aC _,.inl (aC _),zI hb,hm⟩
 simp only[if_neg w3];by_cases w4:x.cq=4
 ·simp only[if_pos w4];refine⟨c,aC _,.inl (aC _),?_,?_⟩
  ·by_cases hu:0<=x.n/\x.n<5
   ·obtain⟨w,hw⟩:∃w:Nat,x.n=(w:Int):=⟨x.n.toNat,by omega⟩;rw[hw];exact hb.cm ae ae
   ·have hp:kC H x.n≠0:=by unfold kC;rw[if_pos (show x.n<0\/5<=x.n by omega)];decide
    have e1:p5 H D x.n=H:=by unfold p5;rw[if_pos hp]
    have e2:t_ H D x.n=D:=by unfold t_;rw[if_pos hp]
    rw[e1,e2];exact zI hb
  ·rw[p4];split
   ·exact XU _
   ·exact hm
 simp only[if_neg w4,if_neg i7,if_neg i8];by_cases w5:x.cq=5
 ·simp only[if_pos w5];refine⟨c,aC _,.inl (aC _),zI (hb.bk x.n),?_⟩;unfold uQ;split
  ·exact XU _
  ·exact hm
 simp only[if_neg w5];exact⟨c,aC _,.inl (aC _),zI hb,hm⟩
structure DI (p:Nat) (W:Wo):Prop where
 ex:∃(n c kb:Nat) (C0:Nat->Ho) (T:List Ms),GJ n W C0 T/\dr c kb W/\UB c W/\(∀m∈T,bG m=true)/\10*c<=p/\T.length<=25*p/\kb<=150000*p
theorem DI.new{n:Nat}(hn:1<=n/\n<=4):DI 0 (eE n):=by
 obtain⟨a,b,d⟩:=Vm hn;exact⟨⟨n,0,0,_,[],a,b,d,(fun _ h=>by cases h),aC _,aC _,aC _⟩⟩
theorem DI.mono(h:DI p W)(hq:p<=q):DI q W:=by
 obtain⟨n,c,kb,C0,T,a,b,d,e,f,g,i⟩:=h.ex;exact⟨⟨n,c,kb,C0,T,a,b,d,e,by omega,by omega,by omega⟩⟩
theorem DI.act(h:DI p W)(hp:p<=2005){k:Nat}(hk:W.is (k:Int)=true)(x:Ac)(h6:x.cq<6)(h1:1<=q)(hq:x.cq=2\/x.cq=3->10<=q)(h4:x.cq=4->11<=q):DI (p+q) (WZ W k x):=by
 obtain⟨n,c,kb,C0,T,g,hw,hm,hr,b1,b2,b3⟩:=h.ex;have qB:=gG hk;have sO:k<n:=by rw[<-g.hn];omega
 obtain⟨y,hy,e1,e2⟩:=eZ (W:=W) (j:=k) ae;obtain⟨C1,T1,g1,g2,g3⟩:=g.act hw ae ae sO x h6;have hb:=hw.hs k y hy;have hmk:∀z∈y.1.az,z.aU.length+z.bj.length<=c:=by rw[<-e1];exact hm k
 obtain⟨c',d1,d2,d3,d4⟩:=aaG (H:=y.1) (D:=y.2) hb hmk ae x h6;have F4:∀u,((W.H k).iJ u).aU.length<=c:=fun u=>by
  have :=Fj (hm k) u;omega
 refine⟨⟨n,c',kb+1,C1,T1,g1,?_,?_,fun m F9=>?_,?_,?_,by omega⟩⟩
 ·unfold WZ;rw[e1,e2];exact(hw.mono d1 (Nat.le_succ _)).set d3
 ·unfold WZ;rw[e1,e2];exact(hm.mono d1).set d4
 ·rcases g2 m F9 with h|⟨u,z,hz,rfl⟩
  ·exact hr m h
  ·by_cases hu:u<5
   ·have l9:=hb.B.az
    have :=(hb.az ((W.H k).iJ u) (by
     rw[e1];unfold Ho.iJ;rw[aq,ao ae];exact List.getElem_mem _)).1
    exact this.aU z hz
   ·have l9:=hb.B.az;have :(W.H k).iJ u=dt:=by
     rw[e1];unfold Ho.iJ;rw[aq,cG ae];rfl
    rw[this]at hz;cases hz
 ·rcases d2 with d2|⟨d2,d5⟩
  ·omega
  ·have :=hq d2;omega
 ·rcases g3 with g3|⟨g3,u,hu,g4⟩
  ·omega
  ·have :=F4 u;have :=h4 g3;omega
theorem DI.cx{W':Wo}(h:DI p W)(hp:p<=2005)(h1:1<=q)(f:∀{n c kb:Nat} {C0:Nat->Ho} {T:List Ms},GJ n W C0 T->dr c kb W->UB c W->kb<=150000*p->(∃C1,GJ n W' C1 T)/\dr c (kb+150000*q) W'/\UB c W'):DI (p+q) W':=by
 obtain⟨n,c,kb,C0,T,g,hw,hm,hr,b1,b2,b3⟩:=h.ex;obtain⟨⟨C1,g1⟩,h2,h3⟩:=f g hw hm b3;exact⟨⟨n,c,_,C1,T,g1,h2,h3,hr,by omega,by omega,by omega⟩⟩
theorem DI.se(h:DI p W)(hp:p<=2005)(h1:1<=q)(k d:Int):DI (p+q) (AP W k d):=h.cx hp h1 fun g hw hm hk=>
 ⟨g.se hw ae k d,(hw.se k d).mono (aC _) ae,hm.same (gd.se W k d)⟩
theorem DI.de(h:DI p W)(hp:p<=2005)(h1:1<=q)(i:Int):DI (p+q) (tX W i):=h.cx hp h1 fun g hw hm hk=>
 ⟨g.de hw ae i,(hw.de i).mono (aC _) ae,hm.same (gd.de W i)⟩
theorem DI.lo(h:DI p W)(hp:p<=2005)(h1:1<=q)(i:Int):DI (p+q) (FO W i):=h.cx hp h1 fun g hw hm hk=>
 ⟨⟨_,g.lo i⟩,(hw.lo i).mono (aC _) ae,hm.same (gd.lo W i)⟩
theorem DI.tw(h:DI p W)(hp:p<=2005)(h1:1<=q)(i:Int):DI (p+q) (Fl W i):=h.cx hp h1 fun g hw hm hk=>
 ⟨⟨_,g.tw i⟩,(hw.tw i).mono (aC _) ae,hm.same (gd.tw W i)⟩
theorem DI.cut(h:DI p W)(hp:p<=2005)(h1:1<=q)(k t:Int){m:Int}(hm:m<=9223372036854775807):DI (p+q) (sX W k m t):=h.cx hp h1 fun {n c kb C0 T} g hw wh hk=>by
 refine⟨?_,(hw.ae_ k t hm).mono (aC _) ae,?_⟩
 ·unfold sX;split
  ·rename_i hi;have qB:=gG hi;exact⟨_,g.cut (by rw[<-g.hn];omega) t m⟩
  ·exact⟨_,g⟩
 ·unfold sX;split
  ·exact wh.set fun y hy=>wh k.toNat y hy
  ·exact wh
theorem DI.re(h:DI p W)(hp:p<=2005)(h1:1<=q)(k:Int):DI (p+q) (Ff W k):=h.cx hp h1 fun {n c kb C0 T} g hw wh hk=>by
 refine⟨?_,(hw.re ae k).mono (aC _) ae,?_⟩
 ·unfold Ff;split
  ·rename_i hi;have qB:=gG hi;exact⟨_,(g.EV (by rw[<-g.hn];omega)).1⟩
  ·exact⟨_,g⟩
 ·unfold Ff;split
  ·intro j y hy;unfold EV at hy;rw[wS]at hy;split at hy
   ·have h2:=(qY (cO (W.D k.toNat) (-1)) 300 (eo (k.toNat:Int))).2.2.2;have h3:y∈(eo (k.toNat:Int)).az:=by rw[<-h2];exact hy
    rw[List.eq_of_mem_replicate h3];exact aR _
   ·exact wh j y hy
  ·exact wh
theorem DI.calm(h:DI p W)(hp:p<=2005)(hq:7<=q){r:Nat}(hr:r<=100):DI (p+q) (calm r W):=h.cx hp ae fun {n c kb C0 T} g hw wh hk=>by
 obtain⟨C1,g1,g2⟩:=GJ.calm r g hw ae;exact⟨⟨C1,g1⟩,g2.mono (aC _) ae,UB.calm r wh g hw ae⟩
theorem DI.b(h:DI p W):∃c kb,dr c kb W/\10*c<=p/\kb<=150000*p/\UB c W:=by
 obtain⟨n,c,kb,C0,T,g,hw,hm,hr,b1,b2,b3⟩:=h.ex;exact⟨c,kb,hw,b1,b3,hm⟩
theorem DI.Ia(h:DI p W):((tv W).map (·.id)).Nodup/\(tv W).length<=25*p/\∀m∈tv W,bG m=true:=by
 obtain⟨n,c,kb,C0,T,g,hw,hm,hr,b1,b2,b3⟩:=h.ex;have hp:=g.Ia hw;exact⟨by rw[(hp.map (·.id)).nodup_iff];exact g.gc.tn,by rw[hp.length_eq];exact b2,fun m hm=>hr m (hp.mem_iff.1 hm)⟩
theorem tu(W:Wo):(MB W).Perm (tv W):=List.mergeSort_perm _ _
theorem MA(W:Wo):(MB W).Pairwise fun a b=>a.id<=b.id:=by
 have :=List.pairwise_mergeSort (le:=fun a b:Ms=>decide (a.id<=b.id)) (fun a b c h1 h2=>by simp at h1 h2 ⊢;omega) (fun a b=>by simp;omega) (tv W);exact this.imp fun h=>by simpa using h
theorem DI.kept(h:DI p W){j:Nat}(hj:j<W.hs.length):(fT (W.H j)).length<=25*p/\∀m∈fT (W.H j),bG m=true:=by
 obtain⟨h1,h2,h3⟩:=h.Ia;have hs:List.Sublist (fT (W.H j)) (tv W):=by
  unfold tv;obtain⟨a,b,e⟩:=List.append_of_mem (bz.2 hj);rw[e,List.flatMap_append,aO];unfold si;exact((List.sublist_append_left _ _).trans (List.sublist_append_left _ _)).trans (List.sublist_append_right _ _)
 exact⟨Nat.le_trans hs.length_le h2,fun m hm=>h3 m (hs.subset hm)⟩
theorem DI.hk(h:DI p W){j:Nat}(hj:j<W.hs.length):(SQ (W.H j)).length<=25*p/\∀m∈SQ (W.H j),bG m=true:=by
 obtain⟨c,kb,hw,-⟩:=h.b;obtain⟨x,hx,e1,-⟩:=eZ hj;have hB:=(hw.hs j x hx).B;rw[<-e1]at hB;obtain⟨h1,h2⟩:=h.kept hj;have hp:=zN hB (ns:=(W.H j).aE.map (·.1)) (.refl _)
 exact⟨by unfold SQ;rw[hp.length_eq];exact h1,fun m hm=>h2 m (hp.mem_iff.1 hm)⟩
theorem FB(q:Qu):∀m∈eK q,m∈cM q:=fun m hm=>by
 obtain⟨e,he,rfl⟩:=aD.1 hm;obtain⟨h1,h2⟩:=aI.1 he;exact aD.2 ⟨e,aI.2 ⟨h1,by unfold fU at h2;simp at h2 ⊢;omega⟩,rfl⟩
theorem L4{n:Nat}{H:Ho}(hB:cE n H){s:ak}{i:Nat}(h:H.qI s=some i):∀m∈cM (H.dX i),m∈fT H:=fun m hm=>by
 obtain⟨hi,-⟩:=i_ h;unfold fT;refine List.mem_flatMap.2 ⟨H.aE[i],List.getElem_mem _,?_⟩;have :H.dX i=(H.aE[i]).2:=by
  unfold Ho.dX;rw[aq,ao hi];rfl
 rw[<-this];exact hm
theorem DI.there(h:DI p W)(hp:p<=2005){j:Nat}(hj:j<W.hs.length)(s:ak):(jP (W.H j) s).length<=80000/\∀m∈jP (W.H j) s,bG m=true:=by
 obtain⟨c,kb,hw,hc,-⟩:=h.b;obtain⟨x,hx,e1,-⟩:=eZ hj;have hB:=(hw.hs j x hx).B;rw[<-e1]at hB;have hu:=hB.used;obtain⟨h1,h2⟩:=h.kept hj;unfold jP;split
 ·cases hq:(W.H j).qI s with
  |none=>
   rename_i he;unfold gh at he;rw[hq]at he;cases he
  |some i=>
   have KF:(W.H j).dX i∈(W.H j).all\/(W.H j).dX i=⟨[],0⟩:=by
    obtain⟨hi,-⟩:=i_ hq;left;unfold Ho.all Ho.dX;rw[aq,ao hi];exact aP.2 (.inr (aD.2 ⟨_,List.getElem_mem hi,rfl⟩))
   refine⟨?_,fun m hm=>h2 m (L4 hB hq m (FB _ m hm))⟩;unfold eK;rw[aV];refine Nat.le_trans (List.length_filter_le _ _) ?_;rcases KF with KF|KF
   ·have :=(hB.qs _ KF).len;simp only[Option.getD_some];omega
   ·simp only[Option.getD_some];rw[KF];exact aR _
 ·exact⟨aR _,fun _ h=>by cases h⟩
theorem DI.waits(h:DI p W)(hp:p<=2005){j:Nat}(hj:j<W.hs.length)(k:Int):(Tt (W.H j) k).length<=80000/\∀m∈Tt (W.H j) k,bG m=true:=by
 obtain⟨c,kb,hw,hc,-⟩:=h.b;obtain⟨x,hx,e1,-⟩:=eZ hj;have hb:=hw.hs j x hx;have hB:=hb.B;have hW:=hb.ways;rw[<-e1]at hB hW;have hu:=hB.used;unfold Tt;split
 ·refine⟨?_,fun m hm=>uv hW _ m hm⟩;refine Nat.le_trans (pK _) ?_;unfold Ho.hF;rw[aq];cases hk:(W.H j).ways[k.toNat]? with
  |none=>exact aR _
  |some q=>
   have :=(hB.qs q (aP.2 (.inl (ax hk)))).len;simp only[Option.getD_some];omega
 ·exact⟨aR _,fun _ h=>by cases h⟩
theorem DI.get(h:DI p W){j:Nat}(hj:j<W.hs.length){u:Int}{s:ak}(he:gm (W.H j) u s=0):bG (getM (W.H j) u s)=true:=by
 obtain⟨n,c,kb,C0,T,g,hw,hm,hr,-⟩:=h.ex;have hu:0<=u/\u<5:=by
  unfold gm at he;by_cases g1:u<0\/5<=u
  ·rw[if_pos g1]at he;cases he
  ·omega
 obtain⟨v,rfl⟩:∃v:Nat,u=(v:Int):=⟨u.toNat,by omega⟩;exact hr _ (g.get hw (by rw[<-g.hn];exact hj) ae he).2
end
def eB (e:Int):Prop:=0<=e/\e<=20
section
variable {p q:Nat} {W:Wo} {H:Ho} {D:Dk}
theorem Bm:eB (ep H D):=by
 unfold ep jJ nu eB
 repeat' split
 all_goals omega
theorem S_(u:Int):eB (wq H u):=by
 unfold wq eB
 repeat' split
 all_goals omega
theorem S9(u:Int):eB (vq H D u):=by
 unfold vq;split
 ·unfold kC eB
  repeat' split
  all_goals omega
 ·exact Bm
theorem Bn(k:Int):eB (oC W k):=by
 unfold oC eB;split<;>omega
theorem An(i:Int):eB (vL W i):=by
 unfold vL eB;split<;>omega
theorem NA(u:Int)(s:ak):eB (gm H u s):=by
 unfold gm lH eB
 repeat' split
 all_goals omega
theorem Iv(x:Nm):eB (jL H D x):=by
 unfold jL;split
 ·unfold fC cu eB
  repeat' split
  all_goals omega
 ·exact Bm
theorem S7(s:ak):eB (Sc H D s):=by
 unfold Sc;split
 ·unfold nQ eB;split<;>omega
 ·exact Bm
theorem Nz(u:Int)(s:ak)(pri:Int)(body:ak):eB (ic H u s pri body):=by
 unfold ic;split
 ·unfold eB;omega
 ·split
  ·unfold eB;omega
  ·split
   ·unfold kE;have :=CI (l:=H.names) (H.names.length+1) s;unfold eB
    repeat' split
    all_goals (dsimp only;omega)
   ·split
    ·unfold eB;omega
    ·unfold jr eB
     repeat' split
     all_goals omega
theorem S8(k d:Int):eB (Fv W k d):=by
 unfold Fv;split
 ·unfold vt;split
  ·unfold py eB
   repeat' split
   all_goals omega
  ·split
   ·exact Bm
   ·unfold eB;omega
 ·unfold eB;omega
theorem D4(s:ak):eB (gh H s):=by
 unfold gh eB
 repeat' split
 all_goals omega
theorem S6(k:Int):eB (WY H k):=by
 unfold WY eB;split<;>omega
theorem dF{P:Wo×Out->Prop}{a:ak}{f:Int->Wo×Out}(h0:P (W,.er 3))(hf:∀k,canon a=some k->P (f k)):P (fu W a f):=by
 unfold fu;cases hc:canon a with
 |none=>exact h0
 |some k=>exact hf k hc
theorem qy{P:Wo×Out->Prop}{k:Int}{f:Nat->Wo×Out}(h0:P (W,.er 2))(hf:∀j:Nat,k=(j:Int)->W.is (j:Int)=true->P (f j)):P (EY W k f):=by
 unfold EY;split
 ·rename_i h;have h2:=gG h;have e:k=(k.toNat:Int):=by omega
  exact hf _ e (by rw[<-e];exact h)
 ·exact h0
theorem J8{a:ak}{k:Int}(h:canon a=some k):jG k:=by
 unfold canon at h;cases hn:dM a with
 |none=>rw[hn]at h;cases h
 |some v=>
  rw[hn]at h;dsimp only at h;split at h
  ·simp only[ay]at h;subst h;exact C3 hn
  ·cases h
def u7 (p:Nat) (S:Wo×Out):Prop:=DI p S.1/\(pC S.2).size<=9000000
theorem N0{e:Int}(h:eB e):(pC (.er e)).size<=9000000:=by
 have h2:=bJ (n:=e) ⟨by have :=h.1;omega,by have :=h.2;omega⟩;unfold pC;have :((⟨#[101,114,114,111,114,32]⟩:ak):ak).size=6:=rfl;rw[aB];omega
theorem u7.er{e:Int}(h:DI p W)(he:eB e):u7 p (W,.er e):=⟨h,N0 he⟩
theorem u7.fin{e:Int}{s:ak}(h:DI p W)(he:eB e)(hs:e=0->s.size<=9000000):u7 p (dj W e s):=by
 unfold dj;split
 ·rename_i h0;exact⟨h,hs h0⟩
 ·exact⟨h,N0 he⟩
theorem pa{s:ak}{l:List Ms}(hs:s.size<=10)(hl:l.length<=80000)(hr:∀m∈l,bG m=true):(s++sp++bL l).size<=9000000:=by
 have h1:=gE hr;have h2:sp.size=1:=rfl;rw[aB,aB];omega
theorem zE{x:Nm}(h:bW x=true):(r9 x).size<=60:=by
 obtain⟨h1,h2⟩:=mT h;obtain⟨-,-,h3,h4⟩:=eJ h;have h5:=bJ (n:=x.b9) ⟨by omega,by omega⟩;have a1:((⟨#[61]⟩:ak):ak).size=1:=rfl;have a2:((⟨#[64]⟩:ak):ak).size=1:=rfl;unfold r9;dsimp only;split<;>split<;>(try simp only[aB,a1,a2])<;>omega
theorem VG(h:DI p W)(hp:p<=2005)(i:Nat)(cw:ak)(w:List ak)(hc:nA[i]? =some cw)(hw:ke (cw::w)<=q)(hn:∀x∈w,1<=x.size)(h1:1<=q):u7 (p+q) (cX i W w):=by
 have hm:DI (p+q) W:=h.mono (Nat.le_add_right _ _);have e2:u7 (p+q) (W,.er 2):=u7.er hm (by unfold eB;decide);have e3:u7 (p+q) (W,.er 3):=u7.er hm (by unfold eB;decide);have lt:∀{j:Nat},W.is (j:Int)=true->j<W.hs.length:=fun h=>by have :=gG h;omega
 have act:∀(x:Ac) {j:Nat},x.cq<6->W.is (j:Int)=true->(x.cq=2\/x.cq=3->10<=q)->(x.cq=4->11<=q)->DI (p+q) (WZ W j x):=fun x j h6 hi ha hb=>h.act hp hi x h6 h1 ha hb
 unfold cX;split
 ·refine dF e3 fun k _=>dF e3 fun u _=>qy e2 fun j _ hi=>?_
  exact u7.fin (act ⟨5,0,u,0,⟨⟨#[]⟩,⟨#[]⟩,0⟩,⟨#[]⟩,[]⟩ (by show(5:Int)<6;decide) hi (fun h=>by simp at h) (fun h=>by simp at h)) (S_ u) (fun _=>by decide)
 ·rename_i a;refine dF e3 fun k _=>?_
  split
  ·exact e2
  ·rename_i hk;have ha:=hn a aj;have hcw:cw.size=4:=by simp[nA]at hc;rw[<-hc];rfl
   simp only[mN]at hw;exact⟨h.calm hp ae ae,(by decide:(pC (.ok (⟨#[99,97,108,109]⟩:ak))).size<=9000000)⟩
 ·rename_i a b;refine dF e3 fun k _=>dF e3 fun u _=>qy e2 fun j _ hi=>?_
  have ha:=hn a aj;have hb:=hn b aj;have hcw:cw.size=6:=by simp[nA]at hc;rw[<-hc];rfl
  simp only[mN]at hw;exact u7.fin (act ⟨4,0,u,0,⟨⟨#[]⟩,⟨#[]⟩,0⟩,⟨#[]⟩,[]⟩ (by show(4:Int)<6;decide) hi (fun h=>by simp at h) (fun _=>by omega)) (S9 u) (fun _=>by decide)
 ·refine dF e3 fun k _=>dF e3 fun n hk=>dF e3 fun t _=>?_
  exact u7.fin (h.cut hp h1 k t (J8 hk).2) (Bn k) (fun _=>by decide)
 ·refine dF e3 fun k _=>?_
  exact u7.fin (h.de hp h1 k) (An k) (fun _=>by decide)
 ·rename_i a b c;refine dF e3 fun k _=>dF e3 fun u _=>qy e2 fun j _ hi=>?_
  have ha:=hn a aj;have hb:=hn b aj;have Xq:=hn c aj;have hcw:cw.size=3:=by simp[nA]at hc;rw[<-hc];rfl
  simp only[mN]at hw;refine u7.fin (act ⟨3,0,u,0,⟨c,⟨#[]⟩,0⟩,⟨#[]⟩,[]⟩ (by show(3:Int)<6;decide) hi (fun _=>by omega) (fun h=>by simp at h)) (NA u c) (fun he=>pa ai aj fun m hm=>?_);simp at hm;subst hm;exact h.get (lt hi) he
 ·exact⟨hm,(by decide:(pC (.ok aat)).size<=9000000)⟩
 ·refine dF e3 fun k _=>qy e2 fun j _ hi=>?_
  obtain⟨h2,h3⟩:=h.hk (lt hi);exact⟨hm,pa ai ae h3⟩
 ·obtain⟨-,h2,h3⟩:=h.Ia;exact⟨hm,pa ai (by rw[(tu W).length_eq];omega) fun m hm=>h3 m ((tu W).mem_iff.1 hm)⟩
 ·refine dF e3 fun k _=>?_
  exact u7.fin (h.lo hp h1 k) (An k) (fun _=>by decide)
 ·obtain⟨c,kb,hw,-,zZ,-⟩:=h.b;have h2:=hw.wl;have h3:=hw.lost;have h4:=bJ (n:=(W.dy.length:Nat)) ⟨by omega,by omega⟩;have h5:=bJ (n:=W.lost) ⟨by omega,by omega⟩;have h6:sp.size=1:=rfl;refine⟨hm,?_⟩
  show(bH (W.dy.length:Nat)++sp++bH W.lost).size<=_
  rw[aB,aB];omega
 ·rename_i a b c d;refine dF e3 fun k _=>dF e3 fun u _=>qy e2 fun j _ hi=>?_
  exact u7.fin (act ⟨0,0,0,0,⟨b,toS c,u⟩,⟨#[]⟩,[]⟩ (by show(0:Int)<6;decide) hi (fun h=>by simp at h) (fun h=>by simp at h)) (Iv _) (fun _=>by decide)
 ·refine dF e3 fun k _=>qy e2 fun j _ hi=>?_
  obtain⟨c,kb,hw,-⟩:=h.b;obtain⟨x,hx,e1,-⟩:=eZ (lt hi);have hB:=(hw.hs j x hx).B;rw[<-e1]at hB;have hl:=hB.kr;have h2:=eM sp 60 ((W.H j).names.map r9) fun y hy=>by
   obtain⟨x,hx,rfl⟩:=aD.1 hy;exact zE (hB.right x hx)
  have h6:sp.size=1:=rfl;have h7:((⟨#[110,97,109,101,115,32]⟩:ak):ak).size=6:=rfl;rw[aV,h6]at h2;refine⟨hm,?_⟩
  show((⟨#[110,97,109,101,115,32]⟩:ak)++_:ak).size<=_
  rw[aB];omega
 ·rename_i a b c d e;refine dF e3 fun k _=>dF e3 fun u _=>dF e3 fun r _=>qy e2 fun j _ hi=>?_
  have ha:=hn a aj;have hb:=hn b aj;have Xq:=hn c aj;have hd:=hn d aj;have hcw:cw.size=3:=by simp[nA]at hc;rw[<-hc];rfl
  simp only[mN]at hw;refine u7.fin (act ⟨2,0,u,r,⟨c,⟨#[]⟩,0⟩,e,[]⟩ (by show(2:Int)<6;decide) hi (fun _=>by omega) (fun h=>by simp at h)) (Nz u c r e) (fun he=>?_);obtain⟨cc,kb,hw,-⟩:=h.b;obtain⟨x,hx,e1,-⟩:=eZ (lt hi);have hB:=(hw.hs j x hx).B;rw[<-e1]at hB;have hx:=hB.next
  have hid:=hB.id;unfold u4;rw[if_pos he];have :=bJ (n:=(fk (W.H j) c r e).id) (by unfold fk jG;dsimp only;omega);omega
 ·refine dF e3 fun k _=>?_
  exact u7.fin (h.re hp h1 k) (Bn k) (fun _=>by decide)
 ·refine dF e3 fun k _=>dF e3 fun d _=>?_
  exact u7.fin (h.se hp h1 k d) (S8 k d) (fun _=>by decide)
 ·rename_i a b;refine dF e3 fun k _=>qy e2 fun j _ hi=>?_
  obtain⟨h2,h3⟩:=h.there hp (lt hi) b;exact u7.fin hm (D4 b) (fun _=>pa ai h2 h3)
 ·refine dF e3 fun k _=>?_
  exact u7.fin (h.tw hp h1 k) (An k) (fun _=>by decide)
 ·rename_i a b;refine dF e3 fun k _=>qy e2 fun j _ hi=>?_
  exact u7.fin (act ⟨1,0,0,0,⟨b,⟨#[]⟩,0⟩,⟨#[]⟩,[]⟩ (by show(1:Int)<6;decide) hi (fun h=>by simp at h) (fun h=>by simp at h)) (S7 b) (fun _=>by decide)
 ·refine dF e3 fun k _=>dF e3 fun d _=>qy e2 fun j _ hi=>?_
  obtain⟨h2,h3⟩:=h.waits hp (lt hi) d;exact u7.fin hm (S6 d) (fun _=>pa ai h2 h3)
 ·refine dF e3 fun k _=>?_
  split
  ·exact⟨(DI.new (n:=k.toNat) ae).mono (aR _),(by decide:(pC (.ok (⟨#[119,111,114,108,100]⟩:ak))).size<=9000000)⟩
  ·exact e2
 ·exact e3
theorem Iy(h:DI p W)(hp:p<=2005)(s:ak):u7 (p+(s.size+1)) (kB W s):=by
 have hm:DI (p+(s.size+1)) W:=h.mono (Nat.le_add_right _ _);obtain⟨h1,h2⟩:=Nt s;unfold kB;cases hf:qi s with
 |nil=>exact⟨hm,(by decide:(pC (.ok (⟨#[111,107]⟩:ak))).size<=9000000)⟩
 |cons c w=>
  rw[hf]at h1 h2;dsimp only;cases hi:nA.findIdx? (fun x=>decide (x=c))with
  |none=>exact u7.er hm (by unfold eB;decide)
  |some i=>
   obtain⟨dI,hx,-⟩:=List.findIdx?_eq_some_iff_getElem.1 hi;exact VG h hp i c w (by rw[ao dI];simpa using hx) h1 (fun x hx=>(h2 x sR).1) (Nat.le_add_left _ _)
end
end WB
namespace Go.Proofs.YtjhogocabcdjbabGreatDoor
open Tryz
open Go Go.RowKit WB
abbrev rK (b bw:Nat):HP:=bD b (.cells [aZ bw].toArray 196 (0,0))
def lx (b:Nat) (W:Wo):HP:=ex fun c:Nat×rN=>sep (CP (c.2.2.2=none)) (sep (jI c.1 c.2 W) (rK b c.1))
theorem f_{w0 w:World}{b:Nat}{W:Wo}{L:List HP}(h:St w0 (lx b W::L) w):∃c:{c:Nat×rN//c.2.2.2=none},St w0 (jI c.1.1 c.1.2 W::rK b c.1.1::L) w:=by
 obtain⟨c,h⟩:=h.B9;obtain⟨hc,h⟩:=h.split.qQ;exact⟨⟨c,hc⟩,h.split⟩
theorem eV{w0 w:World}{b bw:Nat}{hd:rN}{W:Wo}{L:List HP}(hc:hd.2.2=none)(h:St w0 (jI bw hd W::rK b bw::L) w):St w0 (lx b W::L) w:=
 St.Bk (F:=fun c:Nat×rN=>sep (CP (c.2.2.2=none)) (sep (jI c.1 c.2 W) (rK b c.1))) (bw,hd) (St.join (St.u5 hc h.join))
def dkO (b:Nat) (W:Wo) (k:Nat) (p:Nat×Nat):HP:=ex fun c:Nat×rN×Kr=>sep (CP (c.2.1.2.2=none/\(c.2.2.ps.length=W.hs.length/\c.2.2.hv=c.2.1.1/\yG c.2.1 c.2.2.dv c.2.2.ps)/\c.2.2.ps[k]? =some p)) (gj (uu c.1 c.2.2 W [rK b c.1]))
theorem VA{w0 w:World}{b bw k:Nat}{hd:rN}{V:Kr}{W:Wo}{L:List HP}{p:Nat×Nat}(hc:hd.2.2=none)(hV:V.ps.length=W.hs.length/\V.hv=hd.1/\yG hd V.dv V.ps)(hp:V.ps[k]? =some p)(h:St w0 (uu bw V W (rK b bw::L)) w):St w0 (dkO b W k p::L) w:=
 St.Bk (F:=fun c:Nat×rN×Kr=>sep (CP (c.2.1.2.2=none/\(c.2.2.ps.length=W.hs.length/\c.2.2.hv=c.2.1.1/\yG c.2.1 c.2.2.dv c.2.2.ps)/\c.2.2.ps[k]? =some p)) (gj (uu c.1 c.2.2 W [rK b c.1]))) (bw,hd,V) (St.join (St.u5 ⟨hc,hV,hp⟩ (St.zO (L:=uu bw V W [rK b bw]) h)))
theorem D5{w0 w:World}{b k:Nat}{W:Wo}{L:List HP}{p:Nat×Nat}(h:St w0 (dkO b W k p::L) w):∃(bw:Nat) (hd:rN) (V:Kr),hd.2.2=none/\(V.ps.length=W.hs.length/\V.hv=hd.1/\yG hd V.dv V.ps)/\V.ps[k]? =some p/\St w0 (uu bw V W (rK b bw::L)) w:=by
 obtain⟨⟨bw,hd,V⟩,h⟩:=h.B9;obtain⟨⟨h1,h2,h3⟩,h⟩:=h.split.qQ;exact⟨bw,hd,V,h1,h2,h3,by have :=h.splits;exact this⟩
theorem KC.dk{P:Program}{f:FuncId}{args:Array Value}{w0:World}{b k:Nat}{W:Wo}{p:Nat×Nat}{H':Ho}{D':Dk}{φ:Value->Prop}{L R:List HP}(hk:W.is (k:Int)=true)(hp:bC L (dkO b W k p) R)(h:∀L,KC P f args w0 (cW p.1 p.2 (W.H k)::fa p.2 (W.D k)::L) (fun u M=>φ u/\M=cW p.1 p.2 H'::fa p.2 D'::L)):KC P f args w0 L (fun u M=>φ u/\M=lx b (W.bX k (H',D'))::R):=fun w hw=>by
 obtain⟨bw,hd,V,h1,⟨h2,h3,h4⟩,h5,hs⟩:=D5 (hw.pick hp);have qB:=gG hk;obtain⟨x,hx,e1,e2⟩:=eZ (W:=W) (j:=k) ae;have key:=KC.ri (P:=P) (g:=f) (args:=args) (w0:=w0) (f:=yM) (φ:=φ) (y:=(H',D')) h5 hx (L:=uu bw V W (rK b bw::R)) (.tail (.tail (.tail (.tail .head)))) (fun L=>KC.hd (x:=x) (y:=(H',D')) (by rw[<-e1,<-e2];exact h L));refine(key w hs).mono ?_;rintro e w' ⟨v,L',rfl,⟨hφ,rfl⟩,aY⟩;refine⟨v,_,rfl,⟨hφ,rfl⟩,?_⟩;exact eV h1 (dJ (W:=W.bX k (H',D')) V (by dsimp only[Wo.bX];rw[List.length_set];exact h2) (aY.all Y7) h3 h4)
theorem vK{W:Wo}{k:Nat}(hk:W.is (k:Int)=true):W.bX k (W.H k,W.D k)=W:=by
 have qB:=gG hk;obtain⟨x,hx,e1,e2⟩:=eZ (W:=W) (j:=k) ae;unfold Wo.bX;rw[e1,e2,show W.hs.set k (x.1,x.2)=W.hs from by obtain⟨h2,rfl⟩:=au.1 hx;exact List.set_getElem_self h2]
theorem KC.dkG{γ:Type}{P:Program}{f:FuncId}{args:Array Value}{w0:World}{b k:Nat}{W:Wo}{p:Nat×Nat}{H':Ho}{D':Dk}{φ:γ->Value->Prop}{A:γ->HP}{L R:List HP}(hk:W.is (k:Int)=true)(hp:bC L (dkO b W k p) R)(h:∀L,KC P f args w0 (cW p.1 p.2 (W.H k)::fa p.2 (W.D k)::L) (fun u M=> ∃c,φ c u/\M=A c::cW p.1 p.2 H'::fa p.2 D'::L)):KC P f args w0 L (fun u M=> ∃c,φ c u/\M=A c::lx b (W.bX k (H',D'))::R):=fun w hw=>by
 obtain⟨bw,hd,V,h1,⟨h2,h3,h4⟩,h5,hs⟩:=D5 (hw.pick hp);have qB:=gG hk;obtain⟨x,hx,e1,e2⟩:=eZ (W:=W) (j:=k) ae
 have key:=KC.Nw (P:=P) (g:=f) (args:=args) (w0:=w0) (f:=yM) (φ:=φ) (A:=A) (y:=(H',D')) h5 hx (L:=uu bw V W (rK b bw::R)) (.tail (.tail (.tail (.tail .head)))) (fun L=>KC.perm (fun w hw=>hw.split) (KC.oI (by rw[<-e1,<-e2];exact h L) (by
  rintro v M ⟨c,h1,rfl⟩
  exact⟨_,⟨c,h1,rfl⟩,fun w hw=>(hw.gu (.tail .head) (.tail .head)).join.fL⟩)))
 refine(key w hs).mono ?_;rintro e w' ⟨v,L',rfl,⟨c,hφ,rfl⟩,aY⟩;refine⟨v,_,rfl,⟨c,hφ,rfl⟩,?_⟩;have h9:=eV (b:=b) (L:=A c::R) h1 (dJ (W:=W.bX k (H',D')) V (by dsimp only[Wo.bX];rw[List.length_set];exact h2) (aY.all Y7) h3 h4);exact h9.fL
theorem KC.Xe{P:Program}{f:FuncId}{args:Array Value}{w0:World}{p:Nat×Nat}{H H':Ho}{D:Dk}{φ:Value->Prop}(h:∀L,KC P f args w0 (cW p.1 p.2 H::L) (fun u M=>φ u/\M=cW p.1 p.2 H'::L))(L:List HP):
 KC P f args w0 (cW p.1 p.2 H::fa p.2 D::L) (fun u M=>φ u/\M=cW p.1 p.2 H'::fa p.2 D::L):=h _
theorem Ld(w0:World)(L R:List HP)(bw:Nat)(hd:rN)(W:Wo)(k:Int)(hp:bC L (jI bw hd W) R)(hk:W.is k=false):KE prog 26 #[aZ bw,.int .i64 k] w0 L (fun u M=>u=.tuple #[.pointer none,cz 70 2]/\M=L):=by
 refine KE.mk (n:=18) func26 rfl ntmps26 aj ?_;intro w hw;refine jX ?_;refine kQ ?_;refine Z1 ?_;refine KO.ce (cp:=[]) rfl rfl rfl call78 rfl ((fW w0 L R bw hd W k hp).jQ hw) ?_;rintro v' L' ⟨rfl,rfl⟩;rw[hk];refine GV ?_;refine l3 ?_;refine KQ.ef rfl rfl rfl (fun w' hs=>⟨_,_,rfl,⟨rfl,rfl⟩,hw.aA hs.below,hs.below⟩)
theorem fw(w0:World)(L R:List HP)(b k:Nat)(W:Wo)(hp:bC L (lx b W) R)(hk:W.is (k:Int)=true)(hg:c8 w0):KE prog 364 #[aZ b,.int .i64 (k:Nat)] w0 L (fun u M=> ∃p:Nat×Nat,u=aZ p.1/\M=dkO b W k p::R):=by
 refine KE.mk (n:=19) func364 rfl ntmps364 aj ?_;intro w hw;have KJ:=(Ext.bB hw.below).cell hg;obtain⟨⟨⟨bw,hd⟩,h1⟩,hc⟩:=f_ (hw.pick hp);dsimp only at h1 hc;have kG:=hc.pick (A:=rK b bw) (.tail .head);obtain⟨⟨V,h2,h3,h4⟩,hV⟩:=dR hc;dsimp only at hV;have qB:=gG hk;obtain⟨p,h5⟩:∃e,V.ps[k]? =some e:=⟨_,ao ae⟩;have c0:w.cell? ⟨b,0,none⟩=some (aZ bw):=by rw[World.cell?,kG.look.2];rfl
 have dx:=(Le w0 (rK b bw::R) bw V W k p h2 h5).jQ hV (L':=[]);refine iG ?_;refine lb ?_;refine Wb ?_;refine KO.pb rfl rfl isAgg55 c0 rfl ?_;refine Z1 ?_;refine KO.ce (cp:=[]) rfl rfl rfl call26 rfl dx ?_;rintro v' L' ⟨rfl,rfl⟩;refine jY ?_;refine KO.ce (cp:=[]) rfl rfl rfl call198 rfl (Mq w _ KJ) ?_;rintro v' L' ⟨rfl,rfl⟩;refine oy ?_;refine fK ?_;refine KQ.a_ rfl rfl (fun w' hs=>⟨_,_,rfl,⟨p,rfl,rfl⟩,?_,hs.below⟩);exact(VA h1 ⟨h2,h3,h4⟩ h5 hV).aA hs.below
theorem iL(w0:World)(L R:List HP)(b:Nat)(k:Int)(W:Wo)(hp:bC L (lx b W) R)(hk:W.is k=false)(hg:c8 w0):KN prog 364 #[aZ b,.int .i64 k] w0 L (fun c M=>c=zj 2/\M=L):=by
 refine KN.mkE (n:=19) func364 rfl ntmps364 aj ?_;intro w hw;have KJ:=(Ext.bB hw.below).cell hg;obtain⟨⟨⟨bw,hd⟩,h1⟩,hc⟩:=f_ (hw.pick hp);dsimp only at h1 hc;have kG:=hc.pick (A:=rK b bw) (.tail .head);have c0:w.cell? ⟨b,0,none⟩=some (aZ bw):=by rw[World.cell?,kG.look.2];rfl
 have dx:=(Ld w0 _ _ bw hd W k .head hk).jQ hc (L':=[]);refine iG ?_;refine lb ?_;refine Wb ?_;refine KO.pb rfl rfl isAgg55 c0 rfl ?_;refine Z1 ?_;refine KO.ce (cp:=[]) rfl rfl rfl call26 rfl dx ?_;rintro v' L' ⟨rfl,rfl⟩;refine jY ?_;refine KO.die (fi:=[]) (cp:=[]) rfl rfl rfl call198 (gl w _ KJ (k:=2) ae) ?_;rintro c M ⟨rfl,rfl⟩;exact fun tm w' hs=>⟨rfl,rfl,hs⟩
theorem xw(w0:World)(L:List HP)(nm:ak)(v:Value)(xs:List Ms)(hr:∀w,St w0 L w->oS w 5 dN v xs)(hT:nI w0)(hg:c8 w0)(hx:∀m∈xs,bG m=true)(hl:xs.length<=90000)(hn:nm.size<=20):
 KE prog 365 #[.string nm,v] w0 L (fun u M=>u=.string (nm++sp++bL xs)/\M=L):=by
 refine KE.mk (n:=18) func365 rfl ntmps365 aj ?_;intro w hw;have KJ:=(Ext.bB hw.below).cell hg;have hTw:=hT.ext (Ext.bB hw.below);have hb:iX xs=none:=Ay fun j m hm=>hx m (ax hm)
 have rG:=gE hx;have dx:KE prog 60 #[v] w [] (fun u M=>u=.tuple #[.string (bL xs),.nilIface]/\M=[]):=by
  have h1:=jv w0 L v xs hr hT (fun m hm=>lE (hx m hm)) ae;intro w1 F0;refine(h1 w1 (hw.aA F0.below)).mono ?_;rintro e w2 ⟨u,M,rfl,hR,hs,jy⟩;exact⟨u,[],rfl,⟨by unfold K8 at hR;rw[hb]at hR;exact hR.1,rfl⟩,F0.aA jy,jy⟩
 refine iG ?_;refine KO.ce (cp:=[]) rfl rfl rfl call60 rfl dx ?_;rintro v' L' ⟨rfl,rfl⟩;refine jY ?_;refine KO.ce (cp:=[]) rfl rfl rfl call198 rfl (Mq w _ KJ) ?_;rintro v' L' ⟨rfl,rfl⟩;refine oy ?_;refine KO.cat rfl rfl (by show nm.size+1<=_;omega) rfl ?_;refine Z1 ?_;refine KO.cat rfl rfl (by rw[aB];show nm.size+1+_<=_;omega) rfl ?_;refine fK ?_;refine KQ.a_ rfl rfl (fun w' hs=>⟨_,_,rfl,⟨rfl,rfl⟩,hw.aA hs.below,hs.below⟩)
end Go.Proofs.YtjhogocabcdjbabGreatDoor
namespace WB
open Go
section
variable {W:Wo} {a b c d e:ak} {ws:List ak} {f:Int->Wo×Out} {g:Nat->Wo×Out} {k:Int}
theorem b0(h:canon a=some k):fu W a f=f k:=by unfold fu;rw[h]
theorem tg(h:canon a=none):fu W a f=(W,.er 3):=by unfold fu;rw[h]
theorem qw{j:Nat}(h:W.is (j:Int)=true):EY W (j:Int) g=g j:=if_pos h
theorem qx(h:W.is k=false):EY W k g=(W,.er 2):=if_neg (by rw[h];decide)
theorem qv{f:Int->Wo×Out}(h:[a].mapM canon=none):fu W a f=(W,.er 3):=tg (by
 cases ha:canon a with
 |none=>rfl
 |some x=>simp[ha]at h)
theorem qu{l:List Int}(h:[a].mapM canon=some l):∃x,canon a=some x/\l=[x]:=by
 cases ha:canon a with
 |none=>simp[ha]at h
 |some x=>simp[ha]at h;exact⟨x,rfl,h.symm⟩
theorem zG{f:Int->Int->Wo×Out}(h:[a,b].mapM canon=none):(fu W a fun k=>fu W b (f k))=(W,.er 3):=by
 cases ha:canon a with
 |none=>exact tg ha
 |some x=>
  rw[b0 ha];cases hb:canon b with
  |none=>exact tg hb
  |some y=>simp[ha,hb]at h
theorem zF{l:List Int}(h:[a,b].mapM canon=some l):∃x y,canon a=some x/\canon b=some y/\l=[x,y]:=by
 cases ha:canon a with
 |none=>simp[ha]at h
 |some x=>
  cases hb:canon b with
  |none=>simp[ha,hb]at h
  |some y=>simp[ha,hb]at h;exact⟨x,y,rfl,rfl,h.symm⟩
theorem SE{f:Int->Int->Int->Wo×Out}(h:[a,b,c].mapM canon=none):(fu W a fun k=>fu W b fun u=>fu W c (f k u))=(W,.er 3):=by
 cases ha:canon a with
 |none=>exact tg ha
 |some x=>
  rw[b0 ha];cases hb:canon b with
  |none=>exact tg hb
  |some y=>
   rw[b0 hb];cases hc:canon c with
   |none=>exact tg hc
   |some z=>simp[ha,hb,hc]at h
theorem SD{l:List Int}(h:[a,b,c].mapM canon=some l):∃x y z,canon a=some x/\canon b=some y/\canon c=some z/\l=[x,y,z]:=by
 cases ha:canon a with
 |none=>simp[ha]at h
 |some x=>
  cases hb:canon b with
  |none=>simp[ha,hb]at h
  |some y=>
   cases hc:canon c with
   |none=>simp[ha,hb,hc]at h
   |some z=>simp[ha,hb,hc]at h;exact⟨x,y,z,rfl,rfl,rfl,h.symm⟩
theorem Da{α:Type}{l:List α}(h:l.length=1):∃x,l=[x]:=by
 match l,h with
 |[x],_=>exact⟨x,rfl⟩
theorem Jn{α:Type}{l:List α}(h:l.length=2):∃x y,l=[x,y]:=by
 match l,h with
 |[x,y],_=>exact⟨x,y,rfl⟩
theorem Yw{α:Type}{l:List α}(h:l.length=3):∃x y z,l=[x,y,z]:=by
 match l,h with
 |[x,y,z],_=>exact⟨x,y,z,rfl⟩
theorem adk{α:Type}{l:List α}(h:l.length=4):∃x y z u,l=[x,y,z,u]:=by
 match l,h with
 |[x,y,z,u],_=>exact⟨x,y,z,u,rfl⟩
theorem adj{α:Type}{l:List α}(h:l.length=5):∃x y z u v,l=[x,y,z,u,v]:=by
 match l,h with
 |[x,y,z,u,v],_=>exact⟨x,y,z,u,v,rfl⟩
def arity:List Nat:=[2,1,2,3,1,3,0,1,0,1,0,4,1,5,1,2,2,1,2,2,1]
theorem cZ{i:Nat}(h:ws.length≠arity.getD i 0):cX i W ws=(W,.er 3):=by
 unfold cX;split<;>first|rfl|exact absurd rfl h
end
end WB
namespace Go.Proofs.YtjhogocabcdjbabGreatDoor
open Tryz
open Go Go.RowKit WB
theorem dE(w0:World)(L:List HP)(v:Value)(ws:List ak)(hr:∀w,St w0 L w->oS w 1 fI v ws)(DT:nI w0)(Gl:oB w0)(hg:c8 w0)(cj:∀x∈ws,x.size<=100000000)(hl:ws.length<=1000){l:List Int}(h:ws.mapM canon=some l):
 KE prog 197 #[v] w0 L (fun u M=>M=SL 3 1 cR u l::L):=(Mj w0 L v ws hr DT Gl hg cj hl).e fun e M hh=>by rw[h]at hh;exact hh
theorem gk(w0:World)(L:List HP)(v:Value)(ws:List ak)(hr:∀w,St w0 L w->oS w 1 fI v ws)(DT:nI w0)(Gl:oB w0)(hg:c8 w0)(cj:∀x∈ws,x.size<=100000000)(hl:ws.length<=1000)(h:ws.mapM canon=none):
 KN prog 197 #[v] w0 L (fun c M=>c=zj 3/\M=L):=(Mj w0 L v ws hr DT Gl hg cj hl).no fun e M hh=>by rw[h]at hh;exact⟨_,hh.1,rfl,hh.2⟩
def ae2:Out->Ending
 | .ok s=>.returned (.string s)
 | .er k=>.panicked (zj k)
structure Tq (w0:World) (p:Nat) (W:Wo) (A:HP) (a:Option Addr) (cap:Nat) (ws:List ak):Prop where
 hT:nI w0
 hM:oB w0
 hg:c8 w0
 hS:yF w0
 h:DI p W
 hp:p<=2005
 hA:∀(w1 w:World) (R:List HP),St w1 (A::R) w->oS w 1 fI (.slice a ws.length cap) ws
 cj:∀x∈ws,x.size<=100000000
theorem Tq.at{w0 w1 w:World}{p:Nat}{W:Wo}{A:HP}{ad:Addr}{cap:Nat}{ws:List ak}{R:List HP}(c:Tq w0 p W A (some ad) cap ws)(h:St w1 (A::R) w){i:Nat}{x:ak}(hx:ws[i]? =some x):w.cell? (ad.add (i *1))=some (.string x):=by
 obtain⟨a,k,e,hh⟩:=c.hA w1 w R h;simp only[Value.slice.injEq]at e;obtain⟨rfl,-,rfl⟩:=e;obtain⟨ad',e,hc⟩:=hh i x hx;cases e
 have :=hc 0 _ rfl
 rwa [Addr.add_zero']at this
theorem Tq.some{w0 w1 w:World}{p:Nat}{W:Wo}{A:HP}{a:Option Addr}{cap:Nat}{ws:List ak}{R:List HP}(c:Tq w0 p W A a cap ws)(h:St w1 (A::R) w){x:ak}(hx:ws[0]? =some x):∃ad,a=some ad:=by
 obtain⟨a,k,e,hh⟩:=c.hA w1 w R h;simp only[Value.slice.injEq]at e;obtain⟨rfl,-,rfl⟩:=e;obtain⟨ad',e,hc⟩:=hh 0 x hx;exact⟨_,e⟩
def yP (i:Nat) (f:FuncId):Prop:= ∀(w0:World) (N:List HP) (A:HP) (b p:Nat) (a:Option Addr) (cap:Nat) (ws:List ak) (W:Wo),Tq w0 p W A a cap ws->
 KP prog f #[aZ b,.slice a ws.length cap] w0 (lx b W::A::N) (fun e M=>e=ae2 (cX i W ws).2/\M=lx b (cX i W ws).1::A::N)
theorem Gz:yP 4 283:=fun w0 N A b p a cap ws W c=>by
 have hT:=c.hT;have hM:=c.hM;have hg:=c.hg;have hD:=c.h;have hp:=c.hp;obtain⟨cc,kb,hB,Be,zZ,vj⟩:=hD.b;by_cases hn:ws.length=1
 case neg=>
  rw[cZ (i:=4) hn];refine KP.mk (n:=17) func283 rfl ntmps283 aj ?_;refine iG ?_;refine KO.die (fi:=[]) (cp:=[]) rfl rfl rfl call196 (iy w0 _ a hg ae) ?_;rintro c' M ⟨rfl,rfl⟩;exact fun tm w' hs=>⟨rfl,_,⟨rfl,rfl⟩,hs⟩
 obtain⟨x0,rfl⟩:=Da hn;refine KP.mk (n:=17) func283 rfl ntmps283 aj ?_;refine iG ?_;refine KO.ce (cp:=[]) rfl rfl rfl call196 rfl (iz w0 _ a hg rfl) ?_;rintro v' L' ⟨rfl,rfl⟩;refine Z0 ?_;refine K.cg (fun _ h=>f_ h) ?_;rintro⟨⟨bw,hd⟩,hN⟩;dsimp only at hN ⊢;cases hm:[x0].mapM canon with
 |none=>
  have e1:cX 4 W [x0]=(W,.er 3):=qv hm;rw[e1];refine vD ?_;refine KO.die (fi:=[]) (cp:=[]) rfl rfl rfl call197 (gk w0 _ _ _ (fun w' hw'=>c.hA _ _ _ (hw'.pick aX)) hT hM hg c.cj aj hm) ?_;rintro c' M ⟨rfl,rfl⟩;exact fun tm w' hs=>⟨rfl,_,⟨rfl,rfl⟩,eV hN hs⟩
 |some l=>
 obtain⟨k,hk,rfl⟩:=qu hm;have e1:cX 4 W [x0]=dj (tX W k) (vL W k) (⟨#[100,101,108,105,118,101,114]⟩:ak):=b0 hk;rw[e1];by_cases he:vL W k=0
 ·refine vD ?_;refine KO.ce (cp:=[]) rfl rfl rfl call197 rfl (dE w0 _ _ _ (fun w' hw'=>c.hA _ _ _ (hw'.pick aX)) hT hM hg c.cj aj hm) ?_;rintro vn L' rfl;refine KO.fact (fun w' hw'=>aN (hw'.pick (A:=SL 3 1 cR vn [k]) bE)) ?_;rintro⟨sn,cn,rfl,gn⟩;obtain⟨g,rfl⟩:=gn aj;refine yO ?_;refine KO.cl (cp:=[]) rfl rfl rfl call70 rfl (KC.qR aX (Lg w0 _ bw cc kb hd W k hT hM hB ae ae)) ?_;rintro v' L' ⟨rfl,rfl⟩;refine KO.ce (cp:=[]) rfl rfl rfl call198 rfl (iV w0 _ hg he) ?_;rintro v' L' ⟨rfl,rfl⟩;refine jf ?_;refine KQ.a_ rfl rfl (fun w' hs=>⟨_,⟨by unfold dj;rw[if_pos he];rfl,rfl⟩,eV hN (hs.all (M:=jI bw hd (tX W k)::rK b bw::A::N) Y5)⟩)
 ·refine vD ?_;refine KO.ce (cp:=[]) rfl rfl rfl call197 rfl (dE w0 _ _ _ (fun w' hw'=>c.hA _ _ _ (hw'.pick aX)) hT hM hg c.cj aj hm) ?_;rintro vn L' rfl;refine KO.fact (fun w' hw'=>aN (hw'.pick (A:=SL 3 1 cR vn [k]) bE)) ?_;rintro⟨sn,cn,rfl,gn⟩;obtain⟨g,rfl⟩:=gn aj;refine yO ?_;refine KO.cl (cp:=[]) rfl rfl rfl call70 rfl (KC.qR aX (Lg w0 _ bw cc kb hd W k hT hM hB ae ae)) ?_;rintro v' L' ⟨rfl,rfl⟩;refine KO.die (fi:=[]) (cp:=[]) rfl rfl rfl call198 (gl w0 _ hg he) ?_;rintro c' M ⟨rfl,rfl⟩;exact fun tm w' hs=>⟨rfl,_,⟨by unfold dj;rw[if_neg he];rfl,rfl⟩,eV hN (hs.all (M:=jI bw hd (tX W k)::rK b bw::A::N) Y5)⟩
theorem QV:yP 9 288:=fun w0 N A b p a cap ws W c=>by
 have hT:=c.hT;have hM:=c.hM;have hg:=c.hg;have hD:=c.h;have hp:=c.hp;obtain⟨cc,kb,hB,Be,zZ,vj⟩:=hD.b;by_cases hn:ws.length=1
 case neg=>
  rw[cZ (i:=9) hn];refine KP.mk (n:=17) func288 rfl ntmps288 aj ?_;refine iG ?_;refine KO.die (fi:=[]) (cp:=[]) rfl rfl rfl call196 (iy w0 _ a hg ae) ?_;rintro c' M ⟨rfl,rfl⟩;exact fun tm w' hs=>⟨rfl,_,⟨rfl,rfl⟩,hs⟩
 obtain⟨x0,rfl⟩:=Da hn;refine KP.mk (n:=17) func288 rfl ntmps288 aj ?_;refine iG ?_;refine KO.ce (cp:=[]) rfl rfl rfl call196 rfl (iz w0 _ a hg rfl) ?_;rintro v' L' ⟨rfl,rfl⟩;refine Z0 ?_;refine K.cg (fun _ h=>f_ h) ?_;rintro⟨⟨bw,hd⟩,hN⟩;dsimp only at hN ⊢;cases hm:[x0].mapM canon with
 |none=>
  have e1:cX 9 W [x0]=(W,.er 3):=qv hm;rw[e1];refine vD ?_;refine KO.die (fi:=[]) (cp:=[]) rfl rfl rfl call197 (gk w0 _ _ _ (fun w' hw'=>c.hA _ _ _ (hw'.pick aX)) hT hM hg c.cj aj hm) ?_;rintro c' M ⟨rfl,rfl⟩;exact fun tm w' hs=>⟨rfl,_,⟨rfl,rfl⟩,eV hN hs⟩
 |some l=>
 obtain⟨k,hk,rfl⟩:=qu hm;have e1:cX 9 W [x0]=dj (FO W k) (vL W k) (⟨#[108,111,115,101]⟩:ak):=b0 hk;rw[e1];by_cases he:vL W k=0
 ·refine vD ?_;refine KO.ce (cp:=[]) rfl rfl rfl call197 rfl (dE w0 _ _ _ (fun w' hw'=>c.hA _ _ _ (hw'.pick aX)) hT hM hg c.cj aj hm) ?_;rintro vn L' rfl;refine KO.fact (fun w' hw'=>aN (hw'.pick (A:=SL 3 1 cR vn [k]) bE)) ?_;rintro⟨sn,cn,rfl,gn⟩;obtain⟨g,rfl⟩:=gn aj;refine yO ?_;refine KO.cl (cp:=[]) rfl rfl rfl call71 rfl (KC.qR aX (R9 w0 _ bw cc kb hd W k hB)) ?_;rintro v' L' ⟨rfl,rfl⟩;refine KO.ce (cp:=[]) rfl rfl rfl call198 rfl (iV w0 _ hg he) ?_;rintro v' L' ⟨rfl,rfl⟩;refine jf ?_;refine KQ.a_ rfl rfl (fun w' hs=>⟨_,⟨by unfold dj;rw[if_pos he];rfl,rfl⟩,eV hN (hs.all (M:=jI bw hd (FO W k)::rK b bw::A::N) Y5)⟩)
 ·refine vD ?_;refine KO.ce (cp:=[]) rfl rfl rfl call197 rfl (dE w0 _ _ _ (fun w' hw'=>c.hA _ _ _ (hw'.pick aX)) hT hM hg c.cj aj hm) ?_;rintro vn L' rfl;refine KO.fact (fun w' hw'=>aN (hw'.pick (A:=SL 3 1 cR vn [k]) bE)) ?_;rintro⟨sn,cn,rfl,gn⟩;obtain⟨g,rfl⟩:=gn aj;refine yO ?_;refine KO.cl (cp:=[]) rfl rfl rfl call71 rfl (KC.qR aX (R9 w0 _ bw cc kb hd W k hB)) ?_;rintro v' L' ⟨rfl,rfl⟩;refine KO.die (fi:=[]) (cp:=[]) rfl rfl rfl call198 (gl w0 _ hg he) ?_;rintro c' M ⟨rfl,rfl⟩;exact fun tm w' hs=>⟨rfl,_,⟨by unfold dj;rw[if_neg he];rfl,rfl⟩,eV hN (hs.all (M:=jI bw hd (FO W k)::rK b bw::A::N) Y5)⟩
theorem NC:yP 17 296:=fun w0 N A b p a cap ws W c=>by
 have hT:=c.hT;have hM:=c.hM;have hg:=c.hg;have hD:=c.h;have hp:=c.hp;obtain⟨cc,kb,hB,Be,zZ,vj⟩:=hD.b;by_cases hn:ws.length=1
 case neg=>
  rw[cZ (i:=17) hn];refine KP.mk (n:=17) func296 rfl ntmps296 aj ?_;refine iG ?_;refine KO.die (fi:=[]) (cp:=[]) rfl rfl rfl call196 (iy w0 _ a hg ae) ?_;rintro c' M ⟨rfl,rfl⟩;exact fun tm w' hs=>⟨rfl,_,⟨rfl,rfl⟩,hs⟩
 obtain⟨x0,rfl⟩:=Da hn;refine KP.mk (n:=17) func296 rfl ntmps296 aj ?_;refine iG ?_;refine KO.ce (cp:=[]) rfl rfl rfl call196 rfl (iz w0 _ a hg rfl) ?_;rintro v' L' ⟨rfl,rfl⟩;refine Z0 ?_;refine K.cg (fun _ h=>f_ h) ?_;rintro⟨⟨bw,hd⟩,hN⟩;dsimp only at hN ⊢;cases hm:[x0].mapM canon with
 |none=>
  have e1:cX 17 W [x0]=(W,.er 3):=qv hm;rw[e1];refine vD ?_;refine KO.die (fi:=[]) (cp:=[]) rfl rfl rfl call197 (gk w0 _ _ _ (fun w' hw'=>c.hA _ _ _ (hw'.pick aX)) hT hM hg c.cj aj hm) ?_;rintro c' M ⟨rfl,rfl⟩;exact fun tm w' hs=>⟨rfl,_,⟨rfl,rfl⟩,eV hN hs⟩
 |some l=>
 obtain⟨k,hk,rfl⟩:=qu hm;have e1:cX 17 W [x0]=dj (Fl W k) (vL W k) (⟨#[116,119,105,99,101]⟩:ak):=b0 hk;rw[e1];by_cases he:vL W k=0
 ·refine vD ?_;refine KO.ce (cp:=[]) rfl rfl rfl call197 rfl (dE w0 _ _ _ (fun w' hw'=>c.hA _ _ _ (hw'.pick aX)) hT hM hg c.cj aj hm) ?_;rintro vn L' rfl;refine KO.fact (fun w' hw'=>aN (hw'.pick (A:=SL 3 1 cR vn [k]) bE)) ?_;rintro⟨sn,cn,rfl,gn⟩;obtain⟨g,rfl⟩:=gn aj;refine yO ?_;refine KO.cl (cp:=[]) rfl rfl rfl call72 rfl (KC.qR aX (R7 w0 _ bw cc kb hd W k hB ae)) ?_;rintro v' L' ⟨rfl,rfl⟩;refine KO.ce (cp:=[]) rfl rfl rfl call198 rfl (iV w0 _ hg he) ?_;rintro v' L' ⟨rfl,rfl⟩;refine jf ?_;refine KQ.a_ rfl rfl (fun w' hs=>⟨_,⟨by unfold dj;rw[if_pos he];rfl,rfl⟩,eV hN (hs.all (M:=jI bw hd (Fl W k)::rK b bw::A::N) Y5)⟩)
 ·refine vD ?_;refine KO.ce (cp:=[]) rfl rfl rfl call197 rfl (dE w0 _ _ _ (fun w' hw'=>c.hA _ _ _ (hw'.pick aX)) hT hM hg c.cj aj hm) ?_;rintro vn L' rfl;refine KO.fact (fun w' hw'=>aN (hw'.pick (A:=SL 3 1 cR vn [k]) bE)) ?_;rintro⟨sn,cn,rfl,gn⟩;obtain⟨g,rfl⟩:=gn aj;refine yO ?_;refine KO.cl (cp:=[]) rfl rfl rfl call72 rfl (KC.qR aX (R7 w0 _ bw cc kb hd W k hB ae)) ?_;rintro v' L' ⟨rfl,rfl⟩;refine KO.die (fi:=[]) (cp:=[]) rfl rfl rfl call198 (gl w0 _ hg he) ?_;rintro c' M ⟨rfl,rfl⟩;exact fun tm w' hs=>⟨rfl,_,⟨by unfold dj;rw[if_neg he];rfl,rfl⟩,eV hN (hs.all (M:=jI bw hd (Fl W k)::rK b bw::A::N) Y5)⟩
theorem Gw:yP 14 293:=fun w0 N A b p a cap ws W c=>by
 have hT:=c.hT;have hM:=c.hM;have hg:=c.hg;have hD:=c.h;have hp:=c.hp;obtain⟨cc,kb,hB,Be,zZ,vj⟩:=hD.b;by_cases hn:ws.length=1
 case neg=>
  rw[cZ (i:=14) hn];refine KP.mk (n:=17) func293 rfl ntmps293 aj ?_;refine iG ?_;refine KO.die (fi:=[]) (cp:=[]) rfl rfl rfl call196 (iy w0 _ a hg ae) ?_;rintro c' M ⟨rfl,rfl⟩;exact fun tm w' hs=>⟨rfl,_,⟨rfl,rfl⟩,hs⟩
 obtain⟨x0,rfl⟩:=Da hn;refine KP.mk (n:=17) func293 rfl ntmps293 aj ?_;refine iG ?_;refine KO.ce (cp:=[]) rfl rfl rfl call196 rfl (iz w0 _ a hg rfl) ?_;rintro v' L' ⟨rfl,rfl⟩;refine Z0 ?_;refine K.cg (fun _ h=>f_ h) ?_;rintro⟨⟨bw,hd⟩,hN⟩;dsimp only at hN ⊢;cases hm:[x0].mapM canon with
 |none=>
  have e1:cX 14 W [x0]=(W,.er 3):=qv hm;rw[e1];refine vD ?_;refine KO.die (fi:=[]) (cp:=[]) rfl rfl rfl call197 (gk w0 _ _ _ (fun w' hw'=>c.hA _ _ _ (hw'.pick aX)) hT hM hg c.cj aj hm) ?_;rintro c' M ⟨rfl,rfl⟩;exact fun tm w' hs=>⟨rfl,_,⟨rfl,rfl⟩,eV hN hs⟩
 |some l=>
 obtain⟨k,hk,rfl⟩:=qu hm;have e1:cX 14 W [x0]=dj (Ff W k) (oC W k) (⟨#[114,101,115,116,97,114,116]⟩:ak):=b0 hk;rw[e1];by_cases he:oC W k=0
 ·refine vD ?_;refine KO.ce (cp:=[]) rfl rfl rfl call197 rfl (dE w0 _ _ _ (fun w' hw'=>c.hA _ _ _ (hw'.pick aX)) hT hM hg c.cj aj hm) ?_;rintro vn L' rfl;refine KO.fact (fun w' hw'=>aN (hw'.pick (A:=SL 3 1 cR vn [k]) bE)) ?_;rintro⟨sn,cn,rfl,gn⟩;obtain⟨g,rfl⟩:=gn aj;refine yO ?_;refine KO.cl (cp:=[]) rfl rfl rfl call74 rfl (KC.qR aX (Lb w0 _ bw cc kb hd hN W k hT hM hB ae)) ?_;rintro v' L' ⟨rfl,rfl⟩;refine KO.ce (cp:=[]) rfl rfl rfl call198 rfl (iV w0 _ hg he) ?_;rintro v' L' ⟨rfl,rfl⟩;refine jf ?_;refine KQ.a_ rfl rfl (fun w' hs=>⟨_,⟨by unfold dj;rw[if_pos he];rfl,rfl⟩,eV hN (hs.all (M:=jI bw hd (Ff W k)::rK b bw::A::N) Y5)⟩)
 ·refine vD ?_;refine KO.ce (cp:=[]) rfl rfl rfl call197 rfl (dE w0 _ _ _ (fun w' hw'=>c.hA _ _ _ (hw'.pick aX)) hT hM hg c.cj aj hm) ?_;rintro vn L' rfl;refine KO.fact (fun w' hw'=>aN (hw'.pick (A:=SL 3 1 cR vn [k]) bE)) ?_;rintro⟨sn,cn,rfl,gn⟩;obtain⟨g,rfl⟩:=gn aj;refine yO ?_;refine KO.cl (cp:=[]) rfl rfl rfl call74 rfl (KC.qR aX (Lb w0 _ bw cc kb hd hN W k hT hM hB ae)) ?_;rintro v' L' ⟨rfl,rfl⟩;refine KO.die (fi:=[]) (cp:=[]) rfl rfl rfl call198 (gl w0 _ hg he) ?_;rintro c' M ⟨rfl,rfl⟩;exact fun tm w' hs=>⟨rfl,_,⟨by unfold dj;rw[if_neg he];rfl,rfl⟩,eV hN (hs.all (M:=jI bw hd (Ff W k)::rK b bw::A::N) Y5)⟩
theorem QS:yP 15 294:=fun w0 N A b p a cap ws W c=>by
 have hT:=c.hT;have hM:=c.hM;have hg:=c.hg;have hD:=c.h;have hp:=c.hp;obtain⟨cc,kb,hB,Be,zZ,vj⟩:=hD.b;by_cases hn:ws.length=2
 case neg=>
  rw[cZ (i:=15) hn];refine KP.mk (n:=22) func294 rfl ntmps294 aj ?_;refine iG ?_;refine KO.die (fi:=[]) (cp:=[]) rfl rfl rfl call196 (iy w0 _ a hg ae) ?_;rintro c' M ⟨rfl,rfl⟩;exact fun tm w' hs=>⟨rfl,_,⟨rfl,rfl⟩,hs⟩
 obtain⟨x0,x1,rfl⟩:=Jn hn;refine KP.mk (n:=22) func294 rfl ntmps294 aj ?_;refine iG ?_;refine KO.ce (cp:=[]) rfl rfl rfl call196 rfl (iz w0 _ a hg rfl) ?_;rintro v' L' ⟨rfl,rfl⟩;refine Z0 ?_;cases hm:[x0,x1].mapM canon with
 |none=>
  have e1:cX 15 W [x0,x1]=(W,.er 3):=zG hm;rw[e1];refine Z7 ?_;refine KO.die (fi:=[]) (cp:=[]) rfl rfl rfl call197 (gk w0 _ _ _ (fun w' hw'=>c.hA _ _ _ (hw'.pick aX)) hT hM hg c.cj aj hm) ?_;rintro c' M ⟨rfl,rfl⟩;exact fun tm w' hs=>⟨rfl,_,⟨rfl,rfl⟩,hs.all mH⟩
 |some l=>
 obtain⟨k,d,hk,hd,rfl⟩:=zF hm;have e1:cX 15 W [x0,x1]=dj (AP W k d) (Fv W k d) (⟨#[115,101,110,100]⟩:ak):=((b0 hk).trans (b0 hd));rw[e1];refine Z7 ?_;refine KO.ce (cp:=[]) rfl rfl rfl call197 rfl (dE w0 _ _ _ (fun w' hw'=>c.hA _ _ _ (hw'.pick aX)) hT hM hg c.cj aj hm) ?_;rintro vn L' rfl;refine KO.fact (fun w' hw'=>aN (hw'.pick (A:=SL 3 1 cR vn [k,d]) bE)) ?_;rintro⟨sn,cn,rfl,gn⟩;obtain⟨g,rfl⟩:=gn aj;refine jH ?_;refine K.cg (fun _ h=>f_ (h.pick aX)) ?_;rintro⟨⟨bw,hd⟩,hN⟩;dsimp only at hN ⊢;by_cases he:Fv W k d=0
 ·refine aa4 ?_;refine Hg ?_;refine Z99 ?_;refine Z1 ?_;refine aaY ?_;refine KO.cl (cp:=[]) rfl rfl rfl call69 rfl (La w0 _ bw cc kb hd W k d hT hM hB ae ae) ?_;rintro v' L' ⟨rfl,rfl⟩;refine KO.ce (cp:=[]) rfl rfl rfl call198 rfl (iV w0 _ hg he) ?_;rintro v' L' ⟨rfl,rfl⟩;refine jf ?_;refine KQ.a_ rfl rfl (fun w' hs=>⟨_,⟨by unfold dj;rw[if_pos he];rfl,rfl⟩,eV hN (hs.all (M:=jI bw hd (AP W k d)::rK b bw::A::N) Y5)⟩)
 ·refine aa4 ?_;refine Hg ?_;refine Z99 ?_;refine Z1 ?_;refine aaY ?_;refine KO.cl (cp:=[]) rfl rfl rfl call69 rfl (La w0 _ bw cc kb hd W k d hT hM hB ae ae) ?_;rintro v' L' ⟨rfl,rfl⟩;refine KO.die (fi:=[]) (cp:=[]) rfl rfl rfl call198 (gl w0 _ hg he) ?_;rintro c' M ⟨rfl,rfl⟩;exact fun tm w' hs=>⟨rfl,_,⟨by unfold dj;rw[if_neg he];rfl,rfl⟩,eV hN (hs.all (M:=jI bw hd (AP W k d)::rK b bw::A::N) Y5)⟩
theorem VD:yP 3 282:=fun w0 N A b p a cap ws W c=>by
 have hT:=c.hT;have hM:=c.hM;have hg:=c.hg;have hD:=c.h;have hp:=c.hp;obtain⟨cc,kb,hB,Be,zZ,vj⟩:=hD.b;by_cases hn:ws.length=3
 case neg=>
  rw[cZ (i:=3) hn];refine KP.mk (n:=25) func282 rfl ntmps282 aj ?_;refine iG ?_;refine KO.die (fi:=[]) (cp:=[]) rfl rfl rfl call196 (iy w0 _ a hg ae) ?_;rintro c' M ⟨rfl,rfl⟩;exact fun tm w' hs=>⟨rfl,_,⟨rfl,rfl⟩,hs⟩
 obtain⟨x0,x1,x2,rfl⟩:=Yw hn;refine KP.mk (n:=25) func282 rfl ntmps282 aj ?_;refine iG ?_;refine KO.ce (cp:=[]) rfl rfl rfl call196 rfl (iz w0 _ a hg rfl) ?_;rintro v' L' ⟨rfl,rfl⟩;refine Z0 ?_;cases hm:[x0,x1,x2].mapM canon with
 |none=>
  have e1:cX 3 W [x0,x1,x2]=(W,.er 3):=SE hm;rw[e1];refine Z7 ?_;refine KO.die (fi:=[]) (cp:=[]) rfl rfl rfl call197 (gk w0 _ _ _ (fun w' hw'=>c.hA _ _ _ (hw'.pick aX)) hT hM hg c.cj aj hm) ?_;rintro c' M ⟨rfl,rfl⟩;exact fun tm w' hs=>⟨rfl,_,⟨rfl,rfl⟩,hs.all mH⟩
 |some l=>
 obtain⟨k,n,t,hk,hn,ht,rfl⟩:=SD hm;have e1:cX 3 W [x0,x1,x2]=dj (sX W k n t) (oC W k) (⟨#[99,117,116]⟩:ak):=(((b0 hk).trans (b0 hn)).trans (b0 ht));rw[e1];refine Z7 ?_;refine KO.ce (cp:=[]) rfl rfl rfl call197 rfl (dE w0 _ _ _ (fun w' hw'=>c.hA _ _ _ (hw'.pick aX)) hT hM hg c.cj aj hm) ?_;rintro vn L' rfl;refine KO.fact (fun w' hw'=>aN (hw'.pick (A:=SL 3 1 cR vn [k,n,t]) bE)) ?_;rintro⟨sn,cn,rfl,gn⟩;obtain⟨g,rfl⟩:=gn aj;refine jH ?_;refine K.cg (fun _ h=>f_ (h.pick aX)) ?_;rintro⟨⟨bw,hd⟩,hN⟩;dsimp only at hN ⊢;by_cases he:oC W k=0
 ·refine aa9 ?_;refine Hg ?_;refine Z99 ?_;refine Z1 ?_;refine VX ?_;refine aa0 ?_;refine KO.cl (cp:=[]) rfl rfl rfl call73 rfl (Lh w0 _ bw cc kb hd W k n t hB) ?_;rintro v' L' ⟨rfl,rfl⟩;refine KO.ce (cp:=[]) rfl rfl rfl call198 rfl (iV w0 _ hg he) ?_;rintro v' L' ⟨rfl,rfl⟩;refine jf ?_;refine KQ.a_ rfl rfl (fun w' hs=>⟨_,⟨by unfold dj;rw[if_pos he];rfl,rfl⟩,eV hN (hs.all (M:=jI bw hd (sX W k n t)::rK b bw::A::N) Y5)⟩)
 ·refine aa9 ?_;refine Hg ?_;refine Z99 ?_;refine Z1 ?_;refine VX ?_;refine aa0 ?_;refine KO.cl (cp:=[]) rfl rfl rfl call73 rfl (Lh w0 _ bw cc kb hd W k n t hB) ?_;rintro v' L' ⟨rfl,rfl⟩;refine KO.die (fi:=[]) (cp:=[]) rfl rfl rfl call198 (gl w0 _ hg he) ?_;rintro c' M ⟨rfl,rfl⟩;exact fun tm w' hs=>⟨rfl,_,⟨by unfold dj;rw[if_neg he];rfl,rfl⟩,eV hN (hs.all (M:=jI bw hd (sX W k n t)::rK b bw::A::N) Y5)⟩
theorem Q0:yP 1 280:=fun w0 N A b p a cap ws W c=>by
 have hT:=c.hT;have hM:=c.hM;have hg:=c.hg;have hD:=c.h;have hp:=c.hp;obtain⟨cc,kb,hB,Be,zZ,vj⟩:=hD.b;by_cases hn:ws.length=1
 case neg=>
  rw[cZ (i:=1) hn];refine KP.mk (n:=26) func280 rfl ntmps280 aj ?_;refine iG ?_;refine KO.die (fi:=[]) (cp:=[]) rfl rfl rfl call196 (iy w0 _ a hg ae) ?_;rintro c' M ⟨rfl,rfl⟩;exact fun tm w' hs=>⟨rfl,_,⟨rfl,rfl⟩,hs⟩
 obtain⟨x0,rfl⟩:=Da hn;refine KP.mk (n:=26) func280 rfl ntmps280 aj ?_;refine iG ?_;refine KO.ce (cp:=[]) rfl rfl rfl call196 rfl (iz w0 _ a hg rfl) ?_;rintro v' L' ⟨rfl,rfl⟩;refine Z0 ?_;cases hm:[x0].mapM canon with
 |none=>
  have e1:cX 1 W [x0]=(W,.er 3):=qv hm;rw[e1];refine Z7 ?_;refine KO.die (fi:=[]) (cp:=[]) rfl rfl rfl call197 (gk w0 _ _ _ (fun w' hw'=>c.hA _ _ _ (hw'.pick aX)) hT hM hg c.cj aj hm) ?_;rintro c' M ⟨rfl,rfl⟩;exact fun tm w' hs=>⟨rfl,_,⟨rfl,rfl⟩,hs.all mH⟩
 |some l=>
 obtain⟨k,hk,rfl⟩:=qu hm;refine Z7 ?_;refine KO.ce (cp:=[]) rfl rfl rfl call197 rfl (dE w0 _ _ _ (fun w' hw'=>c.hA _ _ _ (hw'.pick aX)) hT hM hg c.cj aj hm) ?_;rintro vn L' rfl;refine KO.fact (fun w' hw'=>aN (hw'.pick (A:=SL 3 1 cR vn [k]) bE)) ?_;rintro⟨sn,cn,rfl,gn⟩;obtain⟨g,rfl⟩:=gn aj;refine yO ?_;refine jH ?_;by_cases h1:k<0\/100<k
 ·have e1:cX 1 W [x0]=(W,.er 2):=(b0 hk).trans (if_pos h1);rw[e1];by_cases h2:k<0
  ·refine G9 ?_;refine BP ?_;refine K.cA rfl (by simp[h2]) ?_;refine dC ?_;refine rC ?_;refine KO.die (fi:=[]) (cp:=[]) rfl rfl rfl call198 (SF w0 _ hg) ?_;rintro c' M ⟨rfl,rfl⟩;exact fun tm w' hs=>⟨rfl,_,⟨rfl,rfl⟩,hs.all Y5⟩
  ·refine BT ?_;refine BL ?_;refine N4 ?_;refine dC ?_;refine rC ?_;refine KO.die (fi:=[]) (cp:=[]) rfl rfl rfl call198 (SF w0 _ hg) ?_;rintro c' M ⟨rfl,rfl⟩;exact fun tm w' hs=>⟨rfl,_,⟨rfl,rfl⟩,hs.all Y5⟩
 ·obtain⟨j,rfl⟩:∃j:Nat,k=(j:Int):=⟨k.toNat,by omega⟩;have e1:cX 1 W [x0]=(calm j W,.ok (⟨#[99,97,108,109]⟩:ak)):=(b0 hk).trans (if_neg h1);rw[e1];refine BX ?_;refine K3 ?_;refine yB ?_;refine BQ ?_;refine BE ?_;refine Z6 ?_;refine K.cg (fun _ h=>f_ (h.pick aX)) ?_;rintro⟨⟨bw,hd⟩,hN⟩;dsimp only at hN ⊢;refine Z7 ?_;refine Hg ?_;refine KO.cl (cp:=[]) rfl rfl rfl call25 rfl (O4 w0 _ bw cc kb j hd W (.inl hN) hT hM hB ae ae ae) ?_;rintro v' L' ⟨rfl,rfl⟩;refine jf ?_;refine KQ.a_ rfl rfl (fun w' hs=>⟨_,⟨rfl,rfl⟩,eV hN (hs.all (M:=jI bw hd (calm j W)::rK b bw::A::N) Y5)⟩)
theorem QZ:yP 6 285:=fun w0 N A b p a cap ws W c=>by
 have hT:=c.hT;have hM:=c.hM;have hg:=c.hg;have hD:=c.h;have hp:=c.hp;obtain⟨cc,kb,hB,Be,zZ,vj⟩:=hD.b;by_cases hn:ws.length=0
 case neg=>
  rw[cZ (i:=6) hn];refine KP.mk (n:=7) func285 rfl ntmps285 aj ?_;refine iG ?_;refine KO.die (fi:=[]) (cp:=[]) rfl rfl rfl call196 (iy w0 _ a hg ae) ?_;rintro c' M ⟨rfl,rfl⟩;exact fun tm w' hs=>⟨rfl,_,⟨rfl,rfl⟩,hs⟩
 obtain rfl:=List.eq_nil_of_length_eq_zero hn;refine KP.mk (n:=7) func285 rfl ntmps285 aj ?_;refine iG ?_;refine KO.ce (cp:=[]) rfl rfl rfl call196 rfl (iz w0 _ a hg rfl) ?_;rintro v' L' ⟨rfl,rfl⟩;refine jf ?_;refine KQ.a_ rfl rfl (fun w' hs=>⟨_,⟨rfl,rfl⟩,hs⟩)
theorem QU:yP 10 289:=fun w0 N A b p a cap ws W c=>by
 have hT:=c.hT;have hM:=c.hM;have hg:=c.hg;have hD:=c.h;have hp:=c.hp;obtain⟨cc,kb,hB,Be,zZ,vj⟩:=hD.b;by_cases hn:ws.length=0
 case neg=>
  rw[cZ (i:=10) hn];refine KP.mk (n:=21) func289 rfl ntmps289 aj ?_;refine iG ?_;refine KO.die (fi:=[]) (cp:=[]) rfl rfl rfl call196 (iy w0 _ a hg ae) ?_;rintro c' M ⟨rfl,rfl⟩;exact fun tm w' hs=>⟨rfl,_,⟨rfl,rfl⟩,hs⟩
 obtain rfl:=List.eq_nil_of_length_eq_zero hn;refine KP.mk (n:=21) func289 rfl ntmps289 aj ?_;refine iG ?_;refine KO.ce (cp:=[]) rfl rfl rfl call196 rfl (iz w0 _ a hg rfl) ?_;rintro v' L' ⟨rfl,rfl⟩;refine Z0 ?_;refine K.cg (fun _ h=>f_ h) ?_;rintro⟨⟨bw,hd⟩,hN⟩;dsimp only at hN ⊢;have Jx:=hB.wl;have F_:=hB.lost;have z1:=bJ (n:=(W.dy.length:Nat)) ⟨by omega,by omega⟩;have z2:=bJ (n:=W.lost) ⟨by omega,by omega⟩;have z3:(⟨#[32]⟩:ak).size=1:=rfl;refine K.draw [.pure,.pure,.pure,.read,.cx,.cx,.pure,.pure,.pure,.pure,.read,.cx,.cx,.pure,.pure] [0,1,2,3,7,8,9,10,4,5,6,11,12,13,14] bm bm ?_;refine Z1 ?_;refine Hg ?_;refine Wv ?_;refine KO.ce (cp:=[]) rfl rfl rfl call46 rfl (O2 w0 _ _ bw hd W bE) ?_;rintro v' L' ⟨rfl,rfl⟩;refine KO.ce (cp:=[]) rfl rfl rfl call59 rfl (fF w0 _ _ hT ⟨by omega,by omega⟩) ?_;rintro v' L' ⟨rfl,rfl⟩;refine nG ?_;refine KO.ce (cp:=[]) rfl rfl rfl call47 rfl (O3 w0 _ _ bw hd W bE) ?_;rintro v' L' ⟨rfl,rfl⟩;refine KO.ce (cp:=[]) rfl rfl rfl call59 rfl (fF w0 _ _ hT ⟨by omega,by omega⟩) ?_;rintro v' L' ⟨rfl,rfl⟩;refine KO.cat rfl rfl Y28 rfl ?_;refine fK ?_;refine KQ.a_ rfl rfl (fun w' hs=>⟨_,⟨rfl,rfl⟩,eV hN hs⟩)
theorem J0:yP 8 287:=fun w0 N A b p a cap ws W c=>by
 have hT:=c.hT;have hM:=c.hM;have hg:=c.hg;have hD:=c.h;have hp:=c.hp;obtain⟨cc,kb,hB,Be,zZ,vj⟩:=hD.b;by_cases hn:ws.length=0
 case neg=>
  rw[cZ (i:=8) hn];refine KP.mk (n:=13) func287 rfl ntmps287 aj ?_;refine iG ?_;refine KO.die (fi:=[]) (cp:=[]) rfl rfl rfl call196 (iy w0 _ a hg ae) ?_;rintro c' M ⟨rfl,rfl⟩;exact fun tm w' hs=>⟨rfl,_,⟨rfl,rfl⟩,hs⟩
 obtain rfl:=List.eq_nil_of_length_eq_zero hn;refine KP.mk (n:=13) func287 rfl ntmps287 aj ?_;refine iG ?_;refine KO.ce (cp:=[]) rfl rfl rfl call196 rfl (iz w0 _ a hg rfl) ?_;rintro v' L' ⟨rfl,rfl⟩;refine Z0 ?_;refine K.cg (fun _ h=>f_ h) ?_;rintro⟨⟨bw,hd⟩,hN⟩;dsimp only at hN ⊢;obtain⟨q1,q2,q3⟩:=hD.Ia;have q4:=tu W;refine Z7 ?_;refine Wv ?_;refine KO.cl (cp:=[]) rfl rfl rfl call48 rfl (Tz w0 _ bw cc kb hd W hB ae c.hS) ?_;rintro v' L' ⟨out,ho1,ho2,rfl⟩;obtain rfl:out=MB W:=Cx (ho1.trans q4.symm) (by rw[(q4.map (·.id)).nodup_iff];exact q1) ho2 (MA W)
 refine KO.ce (cp:=[]) rfl rfl rfl call365 rfl (xw w0 _ _ _ (MB W) (fun w' hw'=>oS.tf (fun _=>rfl) bE hw') hT hg (fun m hm=>q3 m (q4.mem_iff.1 hm)) (by rw[q4.length_eq];omega) ai) ?_;rintro v' L' ⟨rfl,rfl⟩;refine fK ?_;refine KQ.a_ rfl rfl (fun w' hs=>⟨_,⟨rfl,rfl⟩,eV hN (hs.all (M:=jI bw hd W::rK b bw::A::N) Y5)⟩)
end Go.Proofs.YtjhogocabcdjbabGreatDoor
