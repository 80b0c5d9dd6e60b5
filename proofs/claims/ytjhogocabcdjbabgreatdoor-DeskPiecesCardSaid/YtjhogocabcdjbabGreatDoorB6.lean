import Derived.Lib.Builder
import Derived.Shelf.SlSortCmp.NoneTotal
import Derived.Shelf.SlSortCmp.WholeK
import Derived.Ground.SlsfProg
import Derived.Conc.Holds
import Derived.Leaving
import Derived.SevenTiedAt
import Derived.Test.YtjhogocabcdjbabGreatDoorB5
set_option linter.unusedSimpArgs false
set_option linter.unusedVariables false
set_option maxRecDepth 100000
set_option maxHeartbeats 8000000
namespace Go.Proofs.YtjhogocabcdjbabGreatDoor
open Tryz
open Go Go.RowKit WB
theorem dz{w0 w:World}{L R:List HP}{b cap:Nat}{xs:List ak}{vs:List Value}{E:TypeId}{fz:Nat×Nat}(hp:bC L (bD b (.cells vs.toArray E fz)) R)(MR:vs=xs.map Value.string)(hw:St w0 L w):oS w 1 fI (.slice (some ⟨b,0,none⟩) xs.length cap) xs:=
 ⟨_,_,rfl,fun i x hx=>⟨_,rfl,fun j c hj=>by
  cases j with
  |succ j=>simp[fI]at hj
  |zero=>
   simp[fI]at hj;subst hj;rw[Addr.add_lit,Addr.add_lit,World.cell?,(hw.lK hp).2,MR]
   simp[hx]⟩⟩
theorem Pv{w0 w:World}{L R:List HP}{b cap:Nat}{m:Ms}{E:TypeId}{fz:Nat×Nat}(hp:bC L (bD b (.cells (dN m).toArray E fz)) R)(hw:St w0 L w):oS w 5 dN (.slice (some ⟨b,0,none⟩) [m].length cap) [m]:=
 ⟨_,_,rfl,fun i x hx=>⟨_,rfl,fun j c hj=>by
  cases i with
  |succ i=>simp at hx
  |zero=>
   simp at hx;subst hx;rw[Addr.add_lit,Addr.add_lit,World.cell?,(hw.lK hp).2]
   simpa using hj⟩⟩
theorem qz{cc kb j:Nat}{W:Wo}(hB:dr cc kb W)(hc:cc<=4000)(hK:kb<=1000000000000)(hk:W.is (j:Int)=true):cE 79600 (W.H j)/\(W.D j).places.length=300/\(-4000000000000000000<=(W.D j).left/\(W.D j).left<=9223372036854775807)/\(∀x∈(W.H j).az,ga x)/\(W.H j).aE.length<=1000:=by
 have qB:=gG hk;obtain⟨x,hx,e1,e2⟩:=eZ (W:=W) (j:=j) ae;have hb:=hB.hs j x hx;have hu:=hb.B.used;have hq:=hb.ql;have hl:=hb.left;rw[e1,e2];exact⟨DO hb hc,hb.len,⟨by omega,hl.2⟩,fun y hy=>(hb.az y hy).1,by omega⟩
theorem Q6:yP 0 279:=fun w0 N A b p a cap ws W c=>by
 have hT:=c.hT;have hM:=c.hM;have hg:=c.hg;have hD:=c.h;have hp:=c.hp;obtain⟨cc,kb,hB,Be,zZ,vj⟩:=hD.b;by_cases hn:ws.length=2
 case neg=>
  rw[cZ (i:=0) hn];refine KP.mk (n:=20) func279 rfl ntmps279 aj ?_;refine iG ?_;refine KO.die (fi:=[]) (cp:=[]) rfl rfl rfl call196 (iy w0 _ a hg ae) ?_;rintro c' M ⟨rfl,rfl⟩;exact fun tm w' hs=>⟨rfl,_,⟨rfl,rfl⟩,hs⟩
 obtain⟨x0,x1,rfl⟩:=Jn hn;refine KP.mk (n:=20) func279 rfl ntmps279 aj ?_;refine iG ?_;refine KO.ce (cp:=[]) rfl rfl rfl call196 rfl (iz w0 _ a hg rfl) ?_;rintro v' L' ⟨rfl,rfl⟩;refine Z0 ?_;cases hm:[x0,x1].mapM canon with
 |none=>
  have e1:cX 0 W [x0,x1]=(W,.er 3):=zG hm;rw[e1];refine Z7 ?_;refine KO.die (fi:=[]) (cp:=[]) rfl rfl rfl call197 (gk w0 _ _ _ (fun w' hw'=>c.hA _ _ _ (hw'.pick aX)) hT hM hg c.cj aj hm) ?_;rintro c' M ⟨rfl,rfl⟩;exact fun tm w' hs=>⟨rfl,_,⟨rfl,rfl⟩,hs.all mH⟩
 |some l=>
 obtain⟨k,u,hk,hu,rfl⟩:=zF hm;refine Z7 ?_;refine KO.ce (cp:=[]) rfl rfl rfl call197 rfl (dE w0 _ _ _ (fun w' hw'=>c.hA _ _ _ (hw'.pick aX)) hT hM hg c.cj aj hm) ?_;rintro vn L' rfl;refine KO.fact (fun w' hw'=>aN (hw'.pick (A:=SL 3 1 cR vn [k,u]) bE)) ?_;rintro⟨sn,cn,rfl,gn⟩;obtain⟨g,rfl⟩:=gn aj;refine jH ?_;cases hi:W.is k with
 |false=>
  have e1:cX 0 W [x0,x1]=(W,.er 2):=((b0 hk).trans (b0 hu)).trans (qx hi);rw[e1];refine Xy ?_;refine yO ?_;refine Hd ?_;refine KO.die (fi:=[]) (cp:=[]) rfl rfl rfl call364 (iL w0 _ _ b k W aX hi hg) ?_;rintro c' M ⟨rfl,rfl⟩;exact fun tm w' hs=>⟨rfl,_,⟨rfl,rfl⟩,hs.all Y5⟩
 |true=>
 obtain⟨j,rfl,hj⟩:=mM hi;obtain⟨hH,Gp,Gn,l9,tB⟩:=qz hB ae ae hi;have e1:cX 0 W [x0,x1]=dj (W.bX j (uQ (W.H j) u,W.D j)) (wq (W.H j) u) (⟨#[98,97,99,107]⟩:ak):=((b0 hk).trans (b0 hu)).trans (qw hi);rw[e1];by_cases he:wq (W.H j) u=0
 ·refine Xy ?_;refine Eu ?_;refine KO.ce (cp:=[]) rfl rfl rfl call364 rfl (fw w0 _ _ b j W aX hi hg) ?_;rintro v' L' ⟨p,rfl,rfl⟩;refine KO.cl (cp:=[]) rfl rfl rfl call17 rfl (KC.dk hi bE (KC.Xe (fun L=>Ik w0 L p.1 p.2 79600 (W.H j) u hH ae (fun x hx=>by have :=vj j x hx;omega)))) ?_;rintro v' L' ⟨rfl,rfl⟩;refine KO.ce (cp:=[]) rfl rfl rfl call198 rfl (iV w0 _ hg he) ?_;rintro v' L' ⟨rfl,rfl⟩;refine jf ?_;refine KQ.a_ rfl rfl (fun w' hs=>⟨_,⟨by unfold dj;rw[if_pos he];rfl,rfl⟩,hs.all (M:=lx b (W.bX j (uQ (W.H j) u,W.D j))::A::N) Y5⟩)
 ·refine Xy ?_;refine Eu ?_;refine KO.ce (cp:=[]) rfl rfl rfl call364 rfl (fw w0 _ _ b j W aX hi hg) ?_;rintro v' L' ⟨p,rfl,rfl⟩;refine KO.cl (cp:=[]) rfl rfl rfl call17 rfl (KC.dk hi bE (KC.Xe (fun L=>Ik w0 L p.1 p.2 79600 (W.H j) u hH ae (fun x hx=>by have :=vj j x hx;omega)))) ?_;rintro v' L' ⟨rfl,rfl⟩;refine KO.die (fi:=[]) (cp:=[]) rfl rfl rfl call198 (gl w0 _ hg he) ?_;rintro c' M ⟨rfl,rfl⟩;exact fun tm w' hs=>⟨rfl,_,⟨by unfold dj;rw[if_neg he];rfl,rfl⟩,hs.all (M:=lx b (W.bX j (uQ (W.H j) u,W.D j))::A::N) Y5⟩
theorem J2:yP 2 281:=fun w0 N A b p a cap ws W c=>by
 have hT:=c.hT;have hM:=c.hM;have hg:=c.hg;have hD:=c.h;have hp:=c.hp;obtain⟨cc,kb,hB,Be,zZ,vj⟩:=hD.b;by_cases hn:ws.length=2
 case neg=>
  rw[cZ (i:=2) hn];refine KP.mk (n:=20) func281 rfl ntmps281 aj ?_;refine iG ?_;refine KO.die (fi:=[]) (cp:=[]) rfl rfl rfl call196 (iy w0 _ a hg ae) ?_;rintro c' M ⟨rfl,rfl⟩;exact fun tm w' hs=>⟨rfl,_,⟨rfl,rfl⟩,hs⟩
 obtain⟨x0,x1,rfl⟩:=Jn hn;refine KP.mk (n:=20) func281 rfl ntmps281 aj ?_;refine iG ?_;refine KO.ce (cp:=[]) rfl rfl rfl call196 rfl (iz w0 _ a hg rfl) ?_;rintro v' L' ⟨rfl,rfl⟩;refine Z0 ?_;cases hm:[x0,x1].mapM canon with
 |none=>
  have e1:cX 2 W [x0,x1]=(W,.er 3):=zG hm;rw[e1];refine Z7 ?_;refine KO.die (fi:=[]) (cp:=[]) rfl rfl rfl call197 (gk w0 _ _ _ (fun w' hw'=>c.hA _ _ _ (hw'.pick aX)) hT hM hg c.cj aj hm) ?_;rintro c' M ⟨rfl,rfl⟩;exact fun tm w' hs=>⟨rfl,_,⟨rfl,rfl⟩,hs.all mH⟩
 |some l=>
 obtain⟨k,u,hk,hu,rfl⟩:=zF hm;refine Z7 ?_;refine KO.ce (cp:=[]) rfl rfl rfl call197 rfl (dE w0 _ _ _ (fun w' hw'=>c.hA _ _ _ (hw'.pick aX)) hT hM hg c.cj aj hm) ?_;rintro vn L' rfl;refine KO.fact (fun w' hw'=>aN (hw'.pick (A:=SL 3 1 cR vn [k,u]) bE)) ?_;rintro⟨sn,cn,rfl,gn⟩;obtain⟨g,rfl⟩:=gn aj;refine jH ?_;cases hi:W.is k with
 |false=>
  have e1:cX 2 W [x0,x1]=(W,.er 2):=((b0 hk).trans (b0 hu)).trans (qx hi);rw[e1];refine Xy ?_;refine yO ?_;refine Hd ?_;refine KO.die (fi:=[]) (cp:=[]) rfl rfl rfl call364 (iL w0 _ _ b k W aX hi hg) ?_;rintro c' M ⟨rfl,rfl⟩;exact fun tm w' hs=>⟨rfl,_,⟨rfl,rfl⟩,hs.all Y5⟩
 |true=>
 obtain⟨j,rfl,hj⟩:=mM hi;obtain⟨hH,Gp,Gn,l9,tB⟩:=qz hB ae ae hi;have e1:cX 2 W [x0,x1]=dj (W.bX j (p5 (W.H j) (W.D j) u,t_ (W.H j) (W.D j) u)) (vq (W.H j) (W.D j) u) (⟨#[99,111,109,109,105,116]⟩:ak):=((b0 hk).trans (b0 hu)).trans (qw hi);rw[e1];by_cases he:vq (W.H j) (W.D j) u=0
 ·refine Xy ?_;refine Eu ?_;refine KO.ce (cp:=[]) rfl rfl rfl call364 rfl (fw w0 _ _ b j W aX hi hg) ?_;rintro v' L' ⟨p,rfl,rfl⟩;refine KO.cl (cp:=[]) rfl rfl rfl call16 rfl (KC.dk hi bE (fun L=>z8 w0 L p.1 p.2 79600 (W.H j) (W.D j) u hT hM hH ae l9 Gp Gn)) ?_;rintro v' L' ⟨rfl,rfl⟩;refine KO.ce (cp:=[]) rfl rfl rfl call198 rfl (iV w0 _ hg he) ?_;rintro v' L' ⟨rfl,rfl⟩;refine jf ?_;refine KQ.a_ rfl rfl (fun w' hs=>⟨_,⟨by unfold dj;rw[if_pos he];rfl,rfl⟩,hs.all (M:=lx b (W.bX j (p5 (W.H j) (W.D j) u,t_ (W.H j) (W.D j) u))::A::N) Y5⟩)
 ·refine Xy ?_;refine Eu ?_;refine KO.ce (cp:=[]) rfl rfl rfl call364 rfl (fw w0 _ _ b j W aX hi hg) ?_;rintro v' L' ⟨p,rfl,rfl⟩;refine KO.cl (cp:=[]) rfl rfl rfl call16 rfl (KC.dk hi bE (fun L=>z8 w0 L p.1 p.2 79600 (W.H j) (W.D j) u hT hM hH ae l9 Gp Gn)) ?_;rintro v' L' ⟨rfl,rfl⟩;refine KO.die (fi:=[]) (cp:=[]) rfl rfl rfl call198 (gl w0 _ hg he) ?_;rintro c' M ⟨rfl,rfl⟩;exact fun tm w' hs=>⟨rfl,_,⟨by unfold dj;rw[if_neg he];rfl,rfl⟩,hs.all (M:=lx b (W.bX j (p5 (W.H j) (W.D j) u,t_ (W.H j) (W.D j) u))::A::N) Y5⟩
theorem NB:yP 19 298:=fun w0 N A b p a cap ws W c=>by
 have hT:=c.hT;have hM:=c.hM;have hg:=c.hg;have hD:=c.h;have hp:=c.hp;obtain⟨cc,kb,hB,Be,zZ,vj⟩:=hD.b;by_cases hn:ws.length=2
 case neg=>
  rw[cZ (i:=19) hn];refine KP.mk (n:=28) func298 rfl ntmps298 aj ?_;refine iG ?_;refine KO.die (fi:=[]) (cp:=[]) rfl rfl rfl call196 (iy w0 _ a hg ae) ?_;rintro c' M ⟨rfl,rfl⟩;exact fun tm w' hs=>⟨rfl,_,⟨rfl,rfl⟩,hs⟩
 obtain⟨x0,x1,rfl⟩:=Jn hn;refine KP.mk (n:=28) func298 rfl ntmps298 aj ?_;refine iG ?_;refine KO.ce (cp:=[]) rfl rfl rfl call196 rfl (iz w0 _ a hg rfl) ?_;rintro v' L' ⟨rfl,rfl⟩;refine Z0 ?_;cases hm:[x0,x1].mapM canon with
 |none=>
  have e1:cX 19 W [x0,x1]=(W,.er 3):=zG hm;rw[e1];refine Z7 ?_;refine KO.die (fi:=[]) (cp:=[]) rfl rfl rfl call197 (gk w0 _ _ _ (fun w' hw'=>c.hA _ _ _ (hw'.pick aX)) hT hM hg c.cj aj hm) ?_;rintro c' M ⟨rfl,rfl⟩;exact fun tm w' hs=>⟨rfl,_,⟨rfl,rfl⟩,hs.all mH⟩
 |some l=>
 obtain⟨k,d,hk,hd,rfl⟩:=zF hm;refine Z7 ?_;refine KO.ce (cp:=[]) rfl rfl rfl call197 rfl (dE w0 _ _ _ (fun w' hw'=>c.hA _ _ _ (hw'.pick aX)) hT hM hg c.cj aj hm) ?_;rintro vn L' rfl;refine KO.fact (fun w' hw'=>aN (hw'.pick (A:=SL 3 1 cR vn [k,d]) bE)) ?_;rintro⟨sn,cn,rfl,gn⟩;obtain⟨g,rfl⟩:=gn aj;refine jH ?_;cases hi:W.is k with
 |false=>
  have e1:cX 19 W [x0,x1]=(W,.er 2):=((b0 hk).trans (b0 hd)).trans (qx hi);rw[e1];refine aa6 ?_;refine yO ?_;refine Z1 ?_;refine aaX ?_;refine KO.die (fi:=[]) (cp:=[]) rfl rfl rfl call364 (iL w0 _ _ b k W aX hi hg) ?_;rintro c' M ⟨rfl,rfl⟩;exact fun tm w' hs=>⟨rfl,_,⟨rfl,rfl⟩,hs.all Y5⟩
 |true=>
 obtain⟨j,rfl,hj⟩:=mM hi;obtain⟨hH,Gp,Gn,l9,tB⟩:=qz hB ae ae hi;have e1:cX 19 W [x0,x1]=dj W (WY (W.H j) d) ((⟨#[119,97,105,116,115]⟩:ak)++sp++bL (Tt (W.H j) d)):=((b0 hk).trans (b0 hd)).trans (qw hi);rw[e1];obtain⟨q1,q2⟩:=hD.waits hp (j:=j) ae d;refine aa6 ?_;refine OU ?_;refine Z1 ?_;refine aaX ?_;refine KO.ce (cp:=[]) rfl rfl rfl call364 rfl (fw w0 _ _ b j W aX hi hg) ?_;rintro v' L' ⟨p,rfl,rfl⟩;refine KO.cl (cp:=[]) rfl rfl rfl call27 rfl (KC.dkG (φ:=fun v u=>u=.tuple #[v,cz 70 (WY (W.H j) d)]) (A:=fun v=>SL 44 5 dN v (Tt (W.H j) d)) (H':=W.H j) (D':=W.D j) hi bE (fun L=>Dl w0 _ p.1 p.2 79600 (W.H j) d hH ae)) ?_;rintro v' L' ⟨vl,rfl,rfl⟩;rw[vK hi];refine pD ?_;by_cases he:WY (W.H j) d=0
 ·refine Z7 ?_;refine KO.ce (cp:=[]) rfl rfl rfl call198 rfl (iV w0 _ hg he) ?_;rintro v' L' ⟨rfl,rfl⟩;refine oy ?_;refine KO.ce (cp:=[]) rfl rfl rfl call365 rfl (xw w0 _ _ _ (Tt (W.H j) d) (fun w' hw'=>oS.tf (fun _=>rfl) bE hw') hT hg q2 ae ai) ?_;rintro v' L' ⟨rfl,rfl⟩;refine fK ?_;refine KQ.a_ rfl rfl (fun w' hs=>⟨_,⟨by unfold dj;rw[if_pos he];rfl,rfl⟩,hs.all (M:=lx b W::A::N) Y5⟩)
 ·refine Z7 ?_;refine KO.die (fi:=[]) (cp:=[]) rfl rfl rfl call198 (gl w0 _ hg he) ?_;rintro c' M ⟨rfl,rfl⟩;exact fun tm w' hs=>⟨rfl,_,⟨by unfold dj;rw[if_neg he];rfl,rfl⟩,hs.all (M:=lx b W::A::N) Y5⟩
theorem VB:yP 5 284:=fun w0 N A b p a cap ws W c=>by
 have hT:=c.hT;have hM:=c.hM;have hg:=c.hg;have hD:=c.h;have hp:=c.hp;obtain⟨cc,kb,hB,Be,zZ,vj⟩:=hD.b;by_cases hn:ws.length=3
 case neg=>
  rw[cZ (i:=5) hn];refine KP.mk (n:=38) func284 rfl ntmps284 aj ?_;refine iG ?_;refine KO.die (fi:=[]) (cp:=[]) rfl rfl rfl call196 (iy w0 _ a hg ae) ?_;rintro c' M ⟨rfl,rfl⟩;exact fun tm w' hs=>⟨rfl,_,⟨rfl,rfl⟩,hs⟩
 obtain⟨x0,x1,x2,rfl⟩:=Yw hn;refine KP.mk (n:=38) func284 rfl ntmps284 aj ?_;refine iG ?_;refine KO.ce (cp:=[]) rfl rfl rfl call196 rfl (iz w0 _ a hg rfl) ?_;rintro v' L' ⟨rfl,rfl⟩;refine Z0 ?_;refine K.fact (fun w hw=>c.some (hw.pick (A:=A) aX) (x:=x0) rfl) ?_;rintro⟨ad,rfl⟩;cases hm:[x0,x1].mapM canon with
 |none=>
  have e1:cX 5 W [x0,x1,x2]=(W,.er 3):=zG hm;rw[e1];refine RP ?_;refine yx ?_;refine KO.VN (z:=(Value.string ⟨#[]⟩)) (cV:=16) rfl [.tmp 12,.tmp 15] rfl rfl underlying115 bm aL aL ai ai aL rfl ?_;intro b16;refine KO.die (fi:=[]) (cp:=[]) rfl rfl rfl call197 (gk w0 _ _ [x0,x1] (fun w' hw'=>dz (vs:=[Value.string x0,Value.string x1]) (xs:=[x0,x1]) .head rfl hw') hT hM hg (fun y hy=>c.cj y Y19) aj hm) ?_;rintro c' M ⟨rfl,rfl⟩;exact fun tm w' hs=>⟨rfl,_,⟨rfl,rfl⟩,hs.all Y5⟩
 |some l=>
 obtain⟨k,u,hk,hu,rfl⟩:=zF hm;refine RP ?_;refine yx ?_;refine KO.VN (z:=(Value.string ⟨#[]⟩)) (cV:=16) rfl [.tmp 12,.tmp 15] rfl rfl underlying115 bm aL aL ai ai aL rfl ?_;intro b16;refine KO.ce (cp:=[]) rfl rfl rfl call197 rfl (dE w0 _ _ [x0,x1] (fun w' hw'=>dz (vs:=[Value.string x0,Value.string x1]) (xs:=[x0,x1]) .head rfl hw') hT hM hg (fun y hy=>c.cj y Y19) aj hm) ?_;rintro vn L' rfl;refine KO.fact (fun w' hw'=>aN (hw'.pick (A:=SL 3 1 cR vn [k,u]) bE)) ?_;rintro⟨sn,cn,rfl,gn⟩;obtain⟨g,rfl⟩:=gn aj;refine jH ?_;cases hi:W.is k with
 |false=>
  have e1:cX 5 W [x0,x1,x2]=(W,.er 2):=((b0 hk).trans (b0 hu)).trans (qx hi);rw[e1];refine K.NF [.pure,.pure,.pure,.read,.cx,.pure,.pure,.read,.pure,.pure,.read,.write,.pure,.pure,.pure,.cx,.write,.pure] [(4,15),(11,15)] [[0,1,2,3,5,6,7,8,9,10,4,11,12,13,14,15,16,17],[0,1,2,3,5,6,7,8,9,10,4,15,11,12,13,14,16,17],[0,1,2,3,5,6,7,8,9,10,15,4,11,12,13,14,16,17]] bm bm bm ⟨?_,?_,?_,trivial⟩
  focus
   show KO _ _ _ _ _ _ _ _ _ _
   refine jh ?_;refine yO ?_;refine Hd ?_;refine El ?_;refine KO.die (fi:=[]) (cp:=[]) rfl rfl rfl call364 (iL w0 _ _ b k W aX hi hg) ?_;rintro c' M ⟨rfl,rfl⟩
  rotate_left
  focus
   show KO _ _ _ _ _ _ _ _ _ _
   refine jh ?_;refine yO ?_;refine Hd ?_;refine El ?_;refine KO.die (fi:=[]) (cp:=[]) rfl rfl rfl call364 (iL w0 _ _ b k W aX hi hg) ?_;rintro c' M ⟨rfl,rfl⟩
  rotate_left
  focus
   show KO _ _ _ _ _ _ _ _ _ _
   refine jh ?_;refine yO ?_;refine Hd ?_;refine El ?_;refine KO.alloc rfl zeroValue44 aL rfl ?_;intro b6;refine KO.die (fi:=[]) (cp:=[]) rfl rfl rfl call364 (iL w0 _ _ b k W aX hi hg) ?_;rintro c' M ⟨rfl,rfl⟩
  rotate_left
  all_goals (exact fun tm w' hs=>⟨rfl,_,⟨rfl,rfl⟩,hs.all Y5⟩)
 |true=>
 obtain⟨j,rfl,hj⟩:=mM hi;obtain⟨hH,Gp,Gn,l9,tB⟩:=qz hB ae ae hi;have e1:cX 5 W [x0,x1,x2]=dj (W.bX j (iE (W.H j) u x2,W.D j)) (gm (W.H j) u x2) ((⟨#[103,111,116]⟩:ak)++sp++bL [getM (W.H j) u x2]):=((b0 hk).trans (b0 hu)).trans (qw hi);rw[e1];have JH:=fun he=>hD.get (j:=j) (u:=u) (s:=x2) ae he
 rcases wh:getM (W.H j) u x2 with⟨mi,mp,mb,mq,mh⟩
 rw[wh]at JH;refine K.cut (fun b6:Nat=>[(6,.pointer (some ⟨b6,0,none⟩)),(7,cz 70 (gm (W.H j) u x2))]) (fun b6=>bD b6 (.cells [Value.int .i64 mi,.int .i64 mp,.string mb,.string mq,.int .i64 mh].toArray 44 (0,0))::lx b (W.bX j (iE (W.H j) u x2,W.D j))::A::N) (fun _=>True) ?_ ?_
 ·refine K.NF [.pure,.pure,.pure,.read,.cx,.pure,.pure,.read,.pure,.pure,.read,.write,.pure,.pure,.pure,.cx,.write,.pure] [(4,15),(11,15)] [[0,1,2,3,5,6,7,8,9,10,4,11,12,13,14,15,16,17],[0,1,2,3,5,6,7,8,9,10,4,15,11,12,13,14,16,17],[0,1,2,3,5,6,7,8,9,10,15,4,11,12,13,14,16,17]] bm bm bm ⟨?_,?_,?_,trivial⟩
  focus
   show KO _ _ _ _ _ _ _ _ _ _
   refine jh ?_;refine Eu ?_;refine El ?_;refine KO.ce (cp:=[]) rfl rfl rfl call364 rfl (fw w0 _ _ b j W aX hi hg) ?_;rintro v' L' ⟨p,rfl,rfl⟩;refine KO.cl (cp:=[]) rfl rfl rfl call15 rfl (KC.dk hi bE (KC.Xe (fun L=>Gd w0 L p.1 p.2 79600 (W.H j) u x2 hH ae (fun x hx=>by have :=vj j x hx;omega)))) ?_;rintro v' L' ⟨rfl,rfl⟩;rw[wh];refine Cb ?_;refine KO.alloc rfl zeroValue44 aL rfl ?_;intro b6;refine K2 ?_;refine oz ?_
  rotate_left
  focus
   show KO _ _ _ _ _ _ _ _ _ _
   refine jh ?_;refine Eu ?_;refine El ?_;refine KO.ce (cp:=[]) rfl rfl rfl call364 rfl (fw w0 _ _ b j W aX hi hg) ?_;rintro v' L' ⟨p,rfl,rfl⟩;refine KO.alloc rfl zeroValue44 aL rfl ?_;intro b6;refine KO.cl (cp:=[]) rfl rfl rfl call15 rfl (KC.dk hi aX (KC.Xe (fun L=>Gd w0 L p.1 p.2 79600 (W.H j) u x2 hH ae (fun x hx=>by have :=vj j x hx;omega)))) ?_;rintro v' L' ⟨rfl,rfl⟩;rw[wh];refine Cb ?_;refine EH ?_;refine oz ?_
  rotate_left
  focus
   show KO _ _ _ _ _ _ _ _ _ _
   refine jh ?_;refine Eu ?_;refine El ?_;refine KO.alloc rfl zeroValue44 aL rfl ?_;intro b6;refine KO.ce (cp:=[]) rfl rfl rfl call364 rfl (fw w0 _ _ b j W aX hi hg) ?_;rintro v' L' ⟨p,rfl,rfl⟩;refine KO.cl (cp:=[]) rfl rfl rfl call15 rfl (KC.dk hi bE (KC.Xe (fun L=>Gd w0 L p.1 p.2 79600 (W.H j) u x2 hH ae (fun x hx=>by have :=vj j x hx;omega)))) ?_;rintro v' L' ⟨rfl,rfl⟩;rw[wh];refine Cb ?_;refine EH ?_;refine oz ?_
  rotate_left
  all_goals (exact KQ.qc b6 trivial ⟨rfl,rfl,trivial⟩ (fun w' hs=>hs.all Y5))
 rintro b6-;refine oQ ?_;by_cases he:gm (W.H j) u x2=0
 ·refine Z7 ?_;refine KO.ce (cp:=[]) rfl rfl rfl call198 rfl (iV w0 _ hg he) ?_;rintro v' L' ⟨rfl,rfl⟩;refine E9 ?_;refine EK ?_;refine KO.iN (z:=(Value.agg #[.int .i64 0,.int .i64 0,.string ⟨#[]⟩,.string ⟨#[]⟩,.int .i64 0])) (sz:=5) (cV:=56) rfl rfl underlying49 bm aL aL ai ai rfl ?_;intro VQ;refine KO.ce (cp:=[]) rfl rfl rfl call365 rfl (xw w0 _ _ _ [⟨mi,mp,mb,mq,mh⟩] (fun w' hw'=>Pv (m:=⟨mi,mp,mb,mq,mh⟩) .head hw') hT hg (fun m hm=>by simp at hm;subst hm;exact JH he) aj ai) ?_;rintro v' L' ⟨rfl,rfl⟩;refine fK ?_;refine KQ.a_ rfl rfl (fun w' hs=>⟨_,⟨by unfold dj;rw[if_pos he];rfl,rfl⟩,hs.all (M:=lx b (W.bX j (iE (W.H j) u x2,W.D j))::A::N) Y5⟩)
 ·refine Z7 ?_;refine KO.die (fi:=[]) (cp:=[]) rfl rfl rfl call198 (gl w0 _ hg he) ?_;rintro c' M ⟨rfl,rfl⟩;exact fun tm w' hs=>⟨rfl,_,⟨by unfold dj;rw[if_neg he];rfl,rfl⟩,hs.all (M:=lx b (W.bX j (iE (W.H j) u x2,W.D j))::A::N) Y5⟩
theorem Vx:yP 13 292:=fun w0 N A b p a cap ws W c=>by
 have hT:=c.hT;have hM:=c.hM;have hg:=c.hg;have hD:=c.h;have hp:=c.hp;obtain⟨cc,kb,hB,Be,zZ,vj⟩:=hD.b;by_cases hn:ws.length=5
 case neg=>
  rw[cZ (i:=13) hn];refine KP.mk (n:=46) func292 rfl ntmps292 aj ?_;refine iG ?_;refine KO.die (fi:=[]) (cp:=[]) rfl rfl rfl call196 (iy w0 _ a hg ae) ?_;rintro c' M ⟨rfl,rfl⟩;exact fun tm w' hs=>⟨rfl,_,⟨rfl,rfl⟩,hs⟩
 obtain⟨x0,x1,x2,x3,x4,rfl⟩:=adj hn;refine KP.mk (n:=46) func292 rfl ntmps292 aj ?_;refine iG ?_;refine KO.ce (cp:=[]) rfl rfl rfl call196 rfl (iz w0 _ a hg rfl) ?_;rintro v' L' ⟨rfl,rfl⟩;refine Z0 ?_;refine K.fact (fun w hw=>c.some (hw.pick (A:=A) aX) (x:=x0) rfl) ?_;rintro⟨ad,rfl⟩;cases hm:[x0,x1,x3].mapM canon with
 |none=>
  have e1:cX 13 W [x0,x1,x2,x3,x4]=(W,.er 3):=SE hm;rw[e1];refine aa3 ?_;refine yx ?_;refine Z1 ?_;refine RU ?_;refine KO.VN (z:=(Value.string ⟨#[]⟩)) (cV:=16) rfl [.tmp 12,.tmp 15,.tmp 18] rfl rfl underlying115 bm aL aL ai ai aL rfl ?_;intro b19;refine KO.die (fi:=[]) (cp:=[]) rfl rfl rfl call197 (gk w0 _ _ [x0,x1,x3] (fun w' hw'=>dz (vs:=[Value.string x0,Value.string x1,Value.string x3]) (xs:=[x0,x1,x3]) .head rfl hw') hT hM hg (fun y hy=>c.cj y (by simp at hy ⊢;rcases hy with h|h|h<;>simp[h])) aj hm) ?_;rintro c' M ⟨rfl,rfl⟩;exact fun tm w' hs=>⟨rfl,_,⟨rfl,rfl⟩,hs.all Y5⟩
 |some l=>
 obtain⟨k,u,r,hk,hu,hr,rfl⟩:=SD hm;refine aa3 ?_;refine yx ?_;refine Z1 ?_;refine RU ?_;refine KO.VN (z:=(Value.string ⟨#[]⟩)) (cV:=16) rfl [.tmp 12,.tmp 15,.tmp 18] rfl rfl underlying115 bm aL aL ai ai aL rfl ?_;intro b19;refine KO.ce (cp:=[]) rfl rfl rfl call197 rfl (dE w0 _ _ [x0,x1,x3] (fun w' hw'=>dz (vs:=[Value.string x0,Value.string x1,Value.string x3]) (xs:=[x0,x1,x3]) .head rfl hw') hT hM hg (fun y hy=>c.cj y (by simp at hy ⊢;rcases hy with h|h|h<;>simp[h])) aj hm) ?_;rintro vn L' rfl;refine KO.fact (fun w' hw'=>aN (hw'.pick (A:=SL 3 1 cR vn [k,u,r]) bE)) ?_;rintro⟨sn,cn,rfl,gn⟩;obtain⟨g,rfl⟩:=gn aj;refine jH ?_;cases hi:W.is k with
 |false=>
  have e1:cX 13 W [x0,x1,x2,x3,x4]=(W,.er 2):=(((b0 hk).trans (b0 hu)).trans (b0 hr)).trans (qx hi);rw[e1];refine abn ?_;refine yO ?_;refine Hd ?_;refine El ?_;refine aaZ ?_;refine Z1 ?_;refine aa5 ?_;refine KO.die (fi:=[]) (cp:=[]) rfl rfl rfl call364 (iL w0 _ _ b k W aX hi hg) ?_;rintro c' M ⟨rfl,rfl⟩;exact fun tm w' hs=>⟨rfl,_,⟨rfl,rfl⟩,hs.all Y5⟩
 |true=>
 obtain⟨j,rfl,hj⟩:=mM hi;obtain⟨hH,Gp,Gn,l9,tB⟩:=qz hB ae ae hi;have e1:cX 13 W [x0,x1,x2,x3,x4]=dj (W.bX j (jt (W.H j) u x2 r x4,W.D j)) (ic (W.H j) u x2 r x4) (bH (u4 (W.H j) u x2 r x4)):=(((b0 hk).trans (b0 hu)).trans (b0 hr)).trans (qw hi);rw[e1];have z2:=c.cj x2 aj;have z4:=c.cj x4 aj;have hpi:jG (u4 (W.H j) u x2 r x4):=by
  have hx:=hH.next;have hid:=hH.id
  unfold u4;split
  ·unfold fk jG;dsimp only;omega
  ·unfold jG;omega
 refine abn ?_;refine Eu ?_;refine El ?_;refine aaZ ?_;refine Z1 ?_;refine aa5 ?_;refine KO.ce (cp:=[]) rfl rfl rfl call364 rfl (fw w0 _ _ b j W aX hi hg) ?_;rintro v' L' ⟨p,rfl,rfl⟩;refine KO.cl (cp:=[]) rfl rfl rfl call14 rfl (KC.dk hi bE (KC.Xe (fun L=>UN w0 L p.1 p.2 79600 (W.H j) u x2 r x4 hH ae Ou Ou (fun x hx=>by have :=vj j x hx;omega)))) ?_;rintro v' L' ⟨rfl,rfl⟩;refine pD ?_;by_cases he:ic (W.H j) u x2 r x4=0
 ·refine Z7 ?_;refine KO.ce (cp:=[]) rfl rfl rfl call198 rfl (iV w0 _ hg he) ?_;rintro v' L' ⟨rfl,rfl⟩;refine oy ?_;refine KO.ce (cp:=[]) rfl rfl rfl call59 rfl (fF w0 _ _ hT hpi) ?_;rintro v' L' ⟨rfl,rfl⟩;refine fK ?_;refine KQ.a_ rfl rfl (fun w' hs=>⟨_,⟨by unfold dj;rw[if_pos he];rfl,rfl⟩,hs.all (M:=lx b (W.bX j (jt (W.H j) u x2 r x4,W.D j))::A::N) Y5⟩)
 ·refine Z7 ?_;refine KO.die (fi:=[]) (cp:=[]) rfl rfl rfl call198 (gl w0 _ hg he) ?_;rintro c' M ⟨rfl,rfl⟩;exact fun tm w' hs=>⟨rfl,_,⟨by unfold dj;rw[if_neg he];rfl,rfl⟩,hs.all (M:=lx b (W.bX j (jt (W.H j) u x2 r x4,W.D j))::A::N) Y5⟩
theorem JX:yP 18 297:=fun w0 N A b p a cap ws W c=>by
 have hT:=c.hT;have hM:=c.hM;have hg:=c.hg;have hD:=c.h;have hp:=c.hp;obtain⟨cc,kb,hB,Be,zZ,vj⟩:=hD.b;by_cases hn:ws.length=2
 case neg=>
  rw[cZ (i:=18) hn];refine KP.mk (n:=21) func297 rfl ntmps297 aj ?_;refine iG ?_;refine KO.die (fi:=[]) (cp:=[]) rfl rfl rfl call196 (iy w0 _ a hg ae) ?_;rintro c' M ⟨rfl,rfl⟩;exact fun tm w' hs=>⟨rfl,_,⟨rfl,rfl⟩,hs⟩
 obtain⟨x0,x1,rfl⟩:=Jn hn;refine KP.mk (n:=21) func297 rfl ntmps297 aj ?_;refine iG ?_;refine KO.ce (cp:=[]) rfl rfl rfl call196 rfl (iz w0 _ a hg rfl) ?_;rintro v' L' ⟨rfl,rfl⟩;refine Z0 ?_;refine K.fact (fun w hw=>c.some (hw.pick (A:=A) aX) (x:=x0) rfl) ?_;rintro⟨ad,rfl⟩;cases hm:[x0].mapM canon with
 |none=>
  have e1:cX 18 W [x0,x1]=(W,.er 3):=qv hm;rw[e1];refine RV ?_;refine yx ?_;refine KO.iN (z:=(Value.string ⟨#[]⟩)) (sz:=1) (cV:=16) rfl rfl underlying115 bm aL aL ai ai rfl ?_;intro Rl;refine KO.die (fi:=[]) (cp:=[]) rfl rfl rfl call197 (gk w0 _ _ [x0] (fun w' hw'=>dz (vs:=[Value.string x0]) (xs:=[x0]) .head rfl hw') hT hM hg (fun y hy=>c.cj y OW) aj hm) ?_;rintro c' M ⟨rfl,rfl⟩;exact fun tm w' hs=>⟨rfl,_,⟨rfl,rfl⟩,hs.all Y5⟩
 |some l=>
 obtain⟨k,hk,rfl⟩:=qu hm;cases hi:W.is k with
 |false=>
  have e1:cX 18 W [x0,x1]=(W,.er 2):=(b0 hk).trans (qx hi);rw[e1];refine RV ?_;refine yx ?_;refine KO.iN (z:=(Value.string ⟨#[]⟩)) (sz:=1) (cV:=16) rfl rfl underlying115 bm aL aL ai ai rfl ?_;intro Rl;refine KO.ce (cp:=[]) rfl rfl rfl call197 rfl (dE w0 _ _ [x0] (fun w' hw'=>dz (vs:=[Value.string x0]) (xs:=[x0]) .head rfl hw') hT hM hg (fun y hy=>c.cj y OW) aj hm) ?_;rintro vn L' rfl;refine KO.fact (fun w' hw'=>aN (hw'.pick (A:=SL 3 1 cR vn [k]) bE)) ?_;rintro⟨sn,cn,rfl,gn⟩;obtain⟨g,rfl⟩:=gn aj;refine yO ?_;refine KO.die (fi:=[]) (cp:=[]) rfl rfl rfl call364 (iL w0 _ _ b k W aX hi hg) ?_;rintro c' M ⟨rfl,rfl⟩;exact fun tm w' hs=>⟨rfl,_,⟨rfl,rfl⟩,hs.all Y5⟩
 |true=>
 obtain⟨j,rfl,hj⟩:=mM hi;obtain⟨hH,Gp,Gn,l9,tB⟩:=qz hB ae ae hi;have e1:cX 18 W [x0,x1]=dj (W.bX j (IT (W.H j) (W.D j) x1,Lr (W.H j) (W.D j) x1)) (Sc (W.H j) (W.D j) x1) (⟨#[117,110,110,97,109,101]⟩:ak):=(b0 hk).trans (qw hi);rw[e1];by_cases he:Sc (W.H j) (W.D j) x1=0
 ·refine RV ?_;refine yx ?_;refine KO.iN (z:=(Value.string ⟨#[]⟩)) (sz:=1) (cV:=16) rfl rfl underlying115 bm aL aL ai ai rfl ?_;intro Rl;refine KO.ce (cp:=[]) rfl rfl rfl call197 rfl (dE w0 _ _ [x0] (fun w' hw'=>dz (vs:=[Value.string x0]) (xs:=[x0]) .head rfl hw') hT hM hg (fun y hy=>c.cj y OW) aj hm) ?_;rintro vn L' rfl;refine KO.fact (fun w' hw'=>aN (hw'.pick (A:=SL 3 1 cR vn [(j:Int)]) bE)) ?_;rintro⟨sn,cn,rfl,gn⟩;obtain⟨g,rfl⟩:=gn aj;refine OU ?_;refine KO.ce (cp:=[]) rfl rfl rfl call364 rfl (fw w0 _ _ b j W aX hi hg) ?_;rintro v' L' ⟨p,rfl,rfl⟩;refine KO.cl (cp:=[]) rfl rfl rfl call94 rfl (KC.dk hi bE (fun L=>zR w0 L p.1 p.2 79600 (W.H j) (W.D j) x1 hT hM hH ae Gp Gn)) ?_;rintro v' L' ⟨rfl,rfl⟩;refine KO.ce (cp:=[]) rfl rfl rfl call198 rfl (iV w0 _ hg he) ?_;rintro v' L' ⟨rfl,rfl⟩;refine jf ?_;refine KQ.a_ rfl rfl (fun w' hs=>⟨_,⟨by unfold dj;rw[if_pos he];rfl,rfl⟩,hs.all (M:=lx b (W.bX j (IT (W.H j) (W.D j) x1,Lr (W.H j) (W.D j) x1))::A::N) Y5⟩)
 ·refine RV ?_;refine yx ?_;refine KO.iN (z:=(Value.string ⟨#[]⟩)) (sz:=1) (cV:=16) rfl rfl underlying115 bm aL aL ai ai rfl ?_;intro Rl;refine KO.ce (cp:=[]) rfl rfl rfl call197 rfl (dE w0 _ _ [x0] (fun w' hw'=>dz (vs:=[Value.string x0]) (xs:=[x0]) .head rfl hw') hT hM hg (fun y hy=>c.cj y OW) aj hm) ?_;rintro vn L' rfl;refine KO.fact (fun w' hw'=>aN (hw'.pick (A:=SL 3 1 cR vn [(j:Int)]) bE)) ?_;rintro⟨sn,cn,rfl,gn⟩;obtain⟨g,rfl⟩:=gn aj;refine OU ?_;refine KO.ce (cp:=[]) rfl rfl rfl call364 rfl (fw w0 _ _ b j W aX hi hg) ?_;rintro v' L' ⟨p,rfl,rfl⟩;refine KO.cl (cp:=[]) rfl rfl rfl call94 rfl (KC.dk hi bE (fun L=>zR w0 L p.1 p.2 79600 (W.H j) (W.D j) x1 hT hM hH ae Gp Gn)) ?_;rintro v' L' ⟨rfl,rfl⟩;refine KO.die (fi:=[]) (cp:=[]) rfl rfl rfl call198 (gl w0 _ hg he) ?_;rintro c' M ⟨rfl,rfl⟩;exact fun tm w' hs=>⟨rfl,_,⟨by unfold dj;rw[if_neg he];rfl,rfl⟩,hs.all (M:=lx b (W.bX j (IT (W.H j) (W.D j) x1,Lr (W.H j) (W.D j) x1))::A::N) Y5⟩
theorem ND:yP 16 295:=fun w0 N A b p a cap ws W c=>by
 have hT:=c.hT;have hM:=c.hM;have hg:=c.hg;have hD:=c.h;have hp:=c.hp;obtain⟨cc,kb,hB,Be,zZ,vj⟩:=hD.b;by_cases hn:ws.length=2
 case neg=>
  rw[cZ (i:=16) hn];refine KP.mk (n:=29) func295 rfl ntmps295 aj ?_;refine iG ?_;refine KO.die (fi:=[]) (cp:=[]) rfl rfl rfl call196 (iy w0 _ a hg ae) ?_;rintro c' M ⟨rfl,rfl⟩;exact fun tm w' hs=>⟨rfl,_,⟨rfl,rfl⟩,hs⟩
 obtain⟨x0,x1,rfl⟩:=Jn hn;refine KP.mk (n:=29) func295 rfl ntmps295 aj ?_;refine iG ?_;refine KO.ce (cp:=[]) rfl rfl rfl call196 rfl (iz w0 _ a hg rfl) ?_;rintro v' L' ⟨rfl,rfl⟩;refine Z0 ?_;refine K.fact (fun w hw=>c.some (hw.pick (A:=A) aX) (x:=x0) rfl) ?_;rintro⟨ad,rfl⟩;cases hm:[x0].mapM canon with
 |none=>
  have e1:cX 16 W [x0,x1]=(W,.er 3):=qv hm;rw[e1];refine WG ?_;refine yx ?_;refine KO.iN (z:=(Value.string ⟨#[]⟩)) (sz:=1) (cV:=16) rfl rfl underlying115 bm aL aL ai ai rfl ?_;intro b14;refine KO.die (fi:=[]) (cp:=[]) rfl rfl rfl call197 (gk w0 _ _ [x0] (fun w' hw'=>dz (vs:=[Value.string x0]) (xs:=[x0]) .head rfl hw') hT hM hg (fun y hy=>c.cj y OW) aj hm) ?_;rintro c' M ⟨rfl,rfl⟩;exact fun tm w' hs=>⟨rfl,_,⟨rfl,rfl⟩,hs.all Y5⟩
 |some l=>
 obtain⟨k,hk,rfl⟩:=qu hm;cases hi:W.is k with
 |false=>
  have e1:cX 16 W [x0,x1]=(W,.er 2):=(b0 hk).trans (qx hi);rw[e1];refine WG ?_;refine yx ?_;refine KO.iN (z:=(Value.string ⟨#[]⟩)) (sz:=1) (cV:=16) rfl rfl underlying115 bm aL aL ai ai rfl ?_;intro b14;refine KO.ce (cp:=[]) rfl rfl rfl call197 rfl (dE w0 _ _ [x0] (fun w' hw'=>dz (vs:=[Value.string x0]) (xs:=[x0]) .head rfl hw') hT hM hg (fun y hy=>c.cj y OW) aj hm) ?_;rintro vn L' rfl;refine KO.fact (fun w' hw'=>aN (hw'.pick (A:=SL 3 1 cR vn [k]) bE)) ?_;rintro⟨sn,cn,rfl,gn⟩;obtain⟨g,rfl⟩:=gn aj;refine yO ?_;refine KO.die (fi:=[]) (cp:=[]) rfl rfl rfl call364 (iL w0 _ _ b k W aX hi hg) ?_;rintro c' M ⟨rfl,rfl⟩;exact fun tm w' hs=>⟨rfl,_,⟨rfl,rfl⟩,hs.all Y5⟩
 |true=>
 obtain⟨j,rfl,hj⟩:=mM hi;obtain⟨hH,Gp,Gn,l9,tB⟩:=qz hB ae ae hi;have e1:cX 16 W [x0,x1]=dj W (gh (W.H j) x1) ((⟨#[116,104,101,114,101]⟩:ak)++sp++bL (jP (W.H j) x1)):=(b0 hk).trans (qw hi);rw[e1];obtain⟨q1,q2⟩:=hD.there hp (j:=j) ae x1;refine WG ?_;refine yx ?_;refine KO.iN (z:=(Value.string ⟨#[]⟩)) (sz:=1) (cV:=16) rfl rfl underlying115 bm aL aL ai ai rfl ?_;intro b14;refine KO.ce (cp:=[]) rfl rfl rfl call197 rfl (dE w0 _ _ [x0] (fun w' hw'=>dz (vs:=[Value.string x0]) (xs:=[x0]) .head rfl hw') hT hM hg (fun y hy=>c.cj y OW) aj hm) ?_;rintro vn L' rfl;refine KO.fact (fun w' hw'=>aN (hw'.pick (A:=SL 3 1 cR vn [(j:Int)]) bE)) ?_;rintro⟨sn,cn,rfl,gn⟩;obtain⟨g,rfl⟩:=gn aj;refine OU ?_;refine KO.ce (cp:=[]) rfl rfl rfl call364 rfl (fw w0 _ _ b j W aX hi hg) ?_;rintro v' L' ⟨p,rfl,rfl⟩;refine KO.cl (cp:=[]) rfl rfl rfl call28 rfl (KC.dkG (φ:=fun v u=>u=.tuple #[v,cz 70 (gh (W.H j) x1)]) (A:=fun v=>SL 44 5 dN v (jP (W.H j) x1)) (H':=W.H j) (D':=W.D j) hi bE (fun L=>MU w0 _ p.1 p.2 79600 (W.H j) x1 hH ae)) ?_;rintro v' L' ⟨vl,rfl,rfl⟩;rw[vK hi];refine pD ?_;by_cases he:gh (W.H j) x1=0
 ·refine Z7 ?_;refine KO.ce (cp:=[]) rfl rfl rfl call198 rfl (iV w0 _ hg he) ?_;rintro v' L' ⟨rfl,rfl⟩;refine oy ?_;refine KO.ce (cp:=[]) rfl rfl rfl call365 rfl (xw w0 _ _ _ (jP (W.H j) x1) (fun w' hw'=>oS.tf (fun _=>rfl) bE hw') hT hg q2 ae ai) ?_;rintro v' L' ⟨rfl,rfl⟩;refine fK ?_;refine KQ.a_ rfl rfl (fun w' hs=>⟨_,⟨by unfold dj;rw[if_pos he];rfl,rfl⟩,hs.all (M:=lx b W::A::N) Y5⟩)
 ·refine Z7 ?_;refine KO.die (fi:=[]) (cp:=[]) rfl rfl rfl call198 (gl w0 _ hg he) ?_;rintro c' M ⟨rfl,rfl⟩;exact fun tm w' hs=>⟨rfl,_,⟨by unfold dj;rw[if_neg he];rfl,rfl⟩,hs.all (M:=lx b W::A::N) Y5⟩
theorem QW:yP 7 286:=fun w0 N A b p a cap ws W c=>by
 have hT:=c.hT;have hM:=c.hM;have hg:=c.hg;have hD:=c.h;have hp:=c.hp;obtain⟨cc,kb,hB,Be,zZ,vj⟩:=hD.b;by_cases hn:ws.length=1
 case neg=>
  rw[cZ (i:=7) hn];refine KP.mk (n:=18) func286 rfl ntmps286 aj ?_;refine iG ?_;refine KO.die (fi:=[]) (cp:=[]) rfl rfl rfl call196 (iy w0 _ a hg ae) ?_;rintro c' M ⟨rfl,rfl⟩;exact fun tm w' hs=>⟨rfl,_,⟨rfl,rfl⟩,hs⟩
 obtain⟨x0,rfl⟩:=Da hn;refine KP.mk (n:=18) func286 rfl ntmps286 aj ?_;refine iG ?_;refine KO.ce (cp:=[]) rfl rfl rfl call196 rfl (iz w0 _ a hg rfl) ?_;rintro v' L' ⟨rfl,rfl⟩;refine Z0 ?_;refine K.fact (fun w hw=>c.some (hw.pick (A:=A) aX) (x:=x0) rfl) ?_;rintro⟨ad,rfl⟩;cases hm:[x0].mapM canon with
 |none=>
  have e1:cX 7 W [x0]=(W,.er 3):=qv hm;rw[e1];refine iw ?_;refine K6 ?_;refine KO.iN (z:=(Value.string ⟨#[]⟩)) (sz:=1) (cV:=16) rfl rfl underlying115 bm aL aL ai ai rfl ?_;intro Rl;refine KO.die (fi:=[]) (cp:=[]) rfl rfl rfl call197 (gk w0 _ _ [x0] (fun w' hw'=>dz (vs:=[Value.string x0]) (xs:=[x0]) .head rfl hw') hT hM hg (fun y hy=>c.cj y OW) aj hm) ?_;rintro c' M ⟨rfl,rfl⟩;exact fun tm w' hs=>⟨rfl,_,⟨rfl,rfl⟩,hs.all Y5⟩
 |some l=>
 obtain⟨k,hk,rfl⟩:=qu hm;cases hi:W.is k with
 |false=>
  have e1:cX 7 W [x0]=(W,.er 2):=(b0 hk).trans (qx hi);rw[e1];refine iw ?_;refine K6 ?_;refine KO.iN (z:=(Value.string ⟨#[]⟩)) (sz:=1) (cV:=16) rfl rfl underlying115 bm aL aL ai ai rfl ?_;intro Rl;refine KO.ce (cp:=[]) rfl rfl rfl call197 rfl (dE w0 _ _ [x0] (fun w' hw'=>dz (vs:=[Value.string x0]) (xs:=[x0]) .head rfl hw') hT hM hg (fun y hy=>c.cj y OW) aj hm) ?_;rintro vn L' rfl;refine KO.fact (fun w' hw'=>aN (hw'.pick (A:=SL 3 1 cR vn [k]) bE)) ?_;rintro⟨sn,cn,rfl,gn⟩;obtain⟨g,rfl⟩:=gn aj;refine yO ?_;refine KO.die (fi:=[]) (cp:=[]) rfl rfl rfl call364 (iL w0 _ _ b k W aX hi hg) ?_;rintro c' M ⟨rfl,rfl⟩;exact fun tm w' hs=>⟨rfl,_,⟨rfl,rfl⟩,hs.all Y5⟩
 |true=>
 obtain⟨j,rfl,hj⟩:=mM hi;obtain⟨hH,Gp,Gn,l9,tB⟩:=qz hB ae ae hi;have e1:cX 7 W [x0]=(W,.ok ((⟨#[107,101,112,116]⟩:ak)++sp++bL (SQ (W.H j)))):=(b0 hk).trans (qw hi);rw[e1];obtain⟨q1,q2⟩:=hD.hk (j:=j) ae;refine iw ?_;refine K6 ?_;refine KO.iN (z:=(Value.string ⟨#[]⟩)) (sz:=1) (cV:=16) rfl rfl underlying115 bm aL aL ai ai rfl ?_;intro Rl;refine KO.ce (cp:=[]) rfl rfl rfl call197 rfl (dE w0 _ _ [x0] (fun w' hw'=>dz (vs:=[Value.string x0]) (xs:=[x0]) .head rfl hw') hT hM hg (fun y hy=>c.cj y OW) aj hm) ?_;rintro vn L' rfl;refine KO.fact (fun w' hw'=>aN (hw'.pick (A:=SL 3 1 cR vn [(j:Int)]) bE)) ?_;rintro⟨sn,cn,rfl,gn⟩;obtain⟨g,rfl⟩:=gn aj;refine OU ?_;refine KO.ce (cp:=[]) rfl rfl rfl call364 rfl (fw w0 _ _ b j W aX hi hg) ?_;rintro v' L' ⟨p,rfl,rfl⟩;refine KO.cl (cp:=[]) rfl rfl rfl call20 rfl (KC.dkG (φ:=fun v u=>u=v) (A:=fun v=>SL 44 5 dN v (SQ (W.H j))) (H':=W.H j) (D':=W.D j) hi bE (fun L=>(DG w0 _ p.1 p.2 79600 (W.H j) hH ae tB).mono (by rintro v M ⟨ns,E3,rfl⟩;exact⟨v,rfl,by unfold SQ;rw[LD E3]⟩))) ?_;rintro v' L' ⟨vl,rfl,rfl⟩;rw[vK hi]
 refine KO.ce (cp:=[]) rfl rfl rfl call365 rfl (xw w0 _ _ _ (SQ (W.H j)) (fun w' hw'=>oS.tf (fun _=>rfl) bE hw') hT hg q2 ae ai) ?_;rintro v' L' ⟨rfl,rfl⟩;refine fK ?_;refine KQ.a_ rfl rfl (fun w' hs=>⟨_,⟨rfl,rfl⟩,hs.all (M:=lx b W::A::N) Y5⟩)
theorem QT:yP 11 290:=fun w0 N A b p a cap ws W c=>by
 have hT:=c.hT;have hM:=c.hM;have hg:=c.hg;have hD:=c.h;have hp:=c.hp;obtain⟨cc,kb,hB,Be,zZ,vj⟩:=hD.b;by_cases hn:ws.length=4
 case neg=>
  rw[cZ (i:=11) hn];refine KP.mk (n:=37) func290 rfl ntmps290 aj ?_;refine iG ?_;refine KO.die (fi:=[]) (cp:=[]) rfl rfl rfl call196 (iy w0 _ a hg ae) ?_;rintro c' M ⟨rfl,rfl⟩;exact fun tm w' hs=>⟨rfl,_,⟨rfl,rfl⟩,hs⟩
 obtain⟨x0,x1,x2,x3,rfl⟩:=adk hn;refine KP.mk (n:=37) func290 rfl ntmps290 aj ?_;refine iG ?_;refine KO.ce (cp:=[]) rfl rfl rfl call196 rfl (iz w0 _ a hg rfl) ?_;rintro v' L' ⟨rfl,rfl⟩;refine Z0 ?_;refine K.fact (fun w hw=>c.some (hw.pick (A:=A) aX) (x:=x0) rfl) ?_;rintro⟨ad,rfl⟩;cases hm:[x0,x3].mapM canon with
 |none=>
  have e1:cX 11 W [x0,x1,x2,x3]=(W,.er 3):=zG hm;rw[e1];refine RP ?_;refine K6 ?_;refine Z1 ?_;refine RU ?_;refine KO.VN (z:=(Value.string ⟨#[]⟩)) (cV:=16) rfl [.tmp 11,.tmp 14] rfl rfl underlying115 bm aL aL ai ai aL rfl ?_;intro b15;refine KO.die (fi:=[]) (cp:=[]) rfl rfl rfl call197 (gk w0 _ _ [x0,x3] (fun w' hw'=>dz (vs:=[Value.string x0,Value.string x3]) (xs:=[x0,x3]) .head rfl hw') hT hM hg (fun y hy=>c.cj y Y19) aj hm) ?_;rintro c' M ⟨rfl,rfl⟩;exact fun tm w' hs=>⟨rfl,_,⟨rfl,rfl⟩,hs.all Y5⟩
 |some l=>
 obtain⟨k,h,hk,hh,rfl⟩:=zF hm;refine RP ?_;refine K6 ?_;refine Z1 ?_;refine RU ?_;refine KO.VN (z:=(Value.string ⟨#[]⟩)) (cV:=16) rfl [.tmp 11,.tmp 14] rfl rfl underlying115 bm aL aL ai ai aL rfl ?_;intro b15;refine KO.ce (cp:=[]) rfl rfl rfl call197 rfl (dE w0 _ _ [x0,x3] (fun w' hw'=>dz (vs:=[Value.string x0,Value.string x3]) (xs:=[x0,x3]) .head rfl hw') hT hM hg (fun y hy=>c.cj y Y19) aj hm) ?_;rintro vn L' rfl;refine KO.fact (fun w' hw'=>aN (hw'.pick (A:=SL 3 1 cR vn [k,h]) bE)) ?_;rintro⟨sn,cn,rfl,gn⟩;obtain⟨g,rfl⟩:=gn aj;refine kQ ?_;refine Z45 ?_;refine kQ ?_;refine yv ?_;refine Z5 ?_;refine K.cut (fun _:Unit=>[(0,aZ b),(1,.slice (some ad) [x0,x1,x2,x3].length cap),(5,.slice (some ⟨g,0,none⟩) [k,h].length cn),(6,.string (toS x2))]) (fun _=>SL 3 1 cR (.slice (some ⟨g,0,none⟩) [k,h].length cn) [k,h]::lx b W::A::N) (fun _=>True) ?_ ?_
 ·by_cases hx:x2=(⟨#[45]⟩:ak)
  ·refine K.cA rfl sR ?_;refine dC ?_;refine oz ?_;exact KQ.qc () trivial ⟨rfl,rfl,rfl,by rw[show toS x2=⟨#[]⟩from if_pos hx];rfl,trivial⟩ (fun w' hs=>hs.all Y5)
  ·refine K.cP rfl sR ?_;refine vI ?_;exact KQ.qc () trivial ⟨rfl,rfl,rfl,by rw[show toS x2=x2 from if_neg hx];rfl,trivial⟩ (fun w' hs=>hs.all Y5)
 rintro⟨⟩-;refine oQ ?_;cases hi:W.is k with
 |false=>
  have e1:cX 11 W [x0,x1,x2,x3]=(W,.er 2):=((b0 hk).trans (b0 hh)).trans (qx hi);rw[e1];refine WA ?_;refine yO ?_;refine RG ?_;refine jh ?_;refine VX ?_;refine WE ?_;refine KO.die (fi:=[]) (cp:=[]) rfl rfl rfl call364 (iL w0 _ _ b k W aX hi hg) ?_;rintro c' M ⟨rfl,rfl⟩;exact fun tm w' hs=>⟨rfl,_,⟨rfl,rfl⟩,hs.all Y5⟩
 |true=>
 obtain⟨j,rfl,hj⟩:=mM hi;obtain⟨hH,Gp,Gn,l9,tB⟩:=qz hB ae ae hi;have e1:cX 11 W [x0,x1,x2,x3]=dj (W.bX j (gL (W.H j) (W.D j) ⟨x1,toS x2,h⟩,jb (W.H j) (W.D j) ⟨x1,toS x2,h⟩)) (jL (W.H j) (W.D j) ⟨x1,toS x2,h⟩) (⟨#[110,97,109,101]⟩:ak):=((b0 hk).trans (b0 hh)).trans (qw hi);rw[e1];have z1:=c.cj x1 aj;have z2:(toS x2).size<=100000000:=by
  have :=c.cj x2 aj;unfold toS;split
  ·exact aR _
  ·exact this
 by_cases he:jL (W.H j) (W.D j) ⟨x1,toS x2,h⟩=0
 ·refine WA ?_;refine OU ?_;refine RG ?_;refine jh ?_;refine VX ?_;refine WE ?_;refine KO.ce (cp:=[]) rfl rfl rfl call364 rfl (fw w0 _ _ b j W aX hi hg) ?_;rintro v' L' ⟨p,rfl,rfl⟩;refine KO.cl (cp:=[]) rfl rfl rfl call31 rfl (KC.dk hi bE (fun L=>Ih w0 L p.1 p.2 79600 (W.H j) (W.D j) ⟨x1,toS x2,h⟩ hT hM hH ae Gp Gn Y29 Y29)) ?_;rintro v' L' ⟨rfl,rfl⟩;refine KO.ce (cp:=[]) rfl rfl rfl call198 rfl (iV w0 _ hg he) ?_;rintro v' L' ⟨rfl,rfl⟩;refine jf ?_;refine KQ.a_ rfl rfl (fun w' hs=>⟨_,⟨by unfold dj;rw[if_pos he];rfl,rfl⟩,hs.all (M:=lx b (W.bX j (gL (W.H j) (W.D j) ⟨x1,toS x2,h⟩,jb (W.H j) (W.D j) ⟨x1,toS x2,h⟩))::A::N) Y5⟩)
 ·refine WA ?_;refine OU ?_;refine RG ?_;refine jh ?_;refine VX ?_;refine WE ?_;refine KO.ce (cp:=[]) rfl rfl rfl call364 rfl (fw w0 _ _ b j W aX hi hg) ?_;rintro v' L' ⟨p,rfl,rfl⟩;refine KO.cl (cp:=[]) rfl rfl rfl call31 rfl (KC.dk hi bE (fun L=>Ih w0 L p.1 p.2 79600 (W.H j) (W.D j) ⟨x1,toS x2,h⟩ hT hM hH ae Gp Gn Y29 Y29)) ?_;rintro v' L' ⟨rfl,rfl⟩;refine KO.die (fi:=[]) (cp:=[]) rfl rfl rfl call198 (gl w0 _ hg he) ?_;rintro c' M ⟨rfl,rfl⟩;exact fun tm w' hs=>⟨rfl,_,⟨by unfold dj;rw[if_neg he];rfl,rfl⟩,hs.all (M:=lx b (W.bX j (gL (W.H j) (W.D j) ⟨x1,toS x2,h⟩,jb (W.H j) (W.D j) ⟨x1,toS x2,h⟩))::A::N) Y5⟩
end Go.Proofs.YtjhogocabcdjbabGreatDoor
namespace WB
open Go Go.RowKit
variable {P:Program} {ops:Array Oper} {Q:Exit->Act->World->Prop}
def NY (ops:Array Oper) (E:List (Nat×Nat)):Bool:=
 let qG:=C7 ops.toList []
 Ke ops E||(qF ops qG&&E.any fun q=>E.any fun q'=>via qG q.2 q'.2 q'&&E.any (via qG q'.2 q.1))
theorem GQ{E:List (Nat×Nat)}(hb:ff ops=true){l:List Nat}(hv:Valid ops l)(hE:∀q∈E,∀p s,l=p++q.2::s->q.1∈p)(hm:∀q∈E,q.2∈l)(h:NY ops E=true):False:=by
 simp only[NY,Bool.or_eq_true]at h;rcases h with h|h
 ·exact yl hb hv hE hm h
 rw[aW]at h;obtain⟨ha,h⟩:=h;obtain⟨q,hq,h⟩:=List.any_eq_true.1 h;obtain⟨q',yW,h⟩:=List.any_eq_true.1 h;rw[aW]at h;obtain⟨h1,h2⟩:=h;obtain⟨q'',adL,h2⟩:=List.any_eq_true.1 h2;obtain⟨p1,s1,hl⟩:=List.append_of_mem (hm q hq);obtain⟨a,b,rfl⟩:=List.append_of_mem (hE q hq p1 s1 hl);have h3:=pG hb ha hv (hE q'' adL) h2 a (b++q.2::s1) K7;obtain⟨c,d,rfl⟩:=List.append_of_mem h3;have h4:=pG hb ha hv (hE q' yW) h1 c (d++q.1::(b++q.2::s1)) K7;have hn:=hv.1;rw[hl]at hn;simp only[aK,bn]at hn;exact(List.nodup_append.1 hn).2.2 q.2 h4 q.2 aj rfl
def CZ (ops:Array Oper) (ks:List Kd):List (List (Nat×Nat))->List (List Nat)->Bool
 |[],[]=>true
 |E::r,O=>if NY ops E then CZ ops ks r O else match O with|o::s=>Jd ops ks E o&&CZ ops ks r s|[]=>false
 |_,_=>false
theorem td{ks:List Kd}{f:List Nat->Prop}{E:List (Nat×Nat)}:∀{W:List (List (Nat×Nat))} {O:List (List Nat)},CZ ops ks W O=true->BA f O->E∈W->NY ops E=true\/∃o,Jd ops ks E o=true/\f o
 |[],_,_,_,h=>by cases h
 |F::r,O,h,hf,hE=>by
  cases hB:NY ops F with
  |true=>
   have h2:CZ ops ks r O=true:=by unfold CZ at h;rw[hB]at h;simpa using h
   rcases aJ.1 hE with rfl|hE
   ·exact .inl hB
   ·exact td h2 hf hE
  |false=>
   unfold CZ at h;rw[hB]at h;cases O with
   |nil=>simp at h
   |cons o s=>
    simp only[Bool.false_eq_true,if_false,aW]at h;rcases aJ.1 hE with rfl|hE
    ·exact .inr ⟨o,h.1,hf.1⟩
    ·exact td h.2 hf.2 hE
theorem uU{id:Nat}{a:Act}{w:World}(ks:List Kd)(X:List (Nat×Nat))(O:List (List Nat))(pg:P.follows .mixedOrders=true)(hX:(ff ops&&X.all fun q=>Nat.blt q.1 ops.size&&(Nat.blt q.2 ops.size&& !(q.1==q.2)))=true)(ku:CZ ops ks (ways X) O=true)(h:BA (fun ord=>ib P ops Q (ord.map (item ops ks)) a w.drew) O):(Code.region id ops true).wp P Q a w:=by
 rw[aW]at hX;obtain⟨hb,hX⟩:=hX;refine wp_region_draw fun t=>?_
 have hv:Valid ops (Region.schedule (P.follows .mixedOrders) ops t):=jm _ pg _ _ fun i o ho d hd=>by
  have hi:i<ops.size:=(Array.getElem?_eq_some_iff.1 ho).1
  have h1:=aG.1 (aG.1 hb i (bz.2 hi)) d (by
   have :ops.toList.getD i default=o:=by
    simp[Array.getElem?_eq_getElem hi]at ho ⊢;simp[ho]
   rw[this];exact hd)
  simpa[Nat.blt_eq]using h1
 generalize Region.schedule (P.follows .mixedOrders) ops t=l at hv ⊢;obtain⟨E,hE,ZI,hEm⟩:=sV hv.1 X fun q hq=>by
  have :=aG.1 hX q hq;simp only[aW,Nat.blt_eq,Bool.not_eq_true',beq_eq_false_iff_ne]at this;exact⟨(hv.2.1 _).2 this.1,(hv.2.1 _).2 this.2.1,this.2.2⟩
 rcases td ku h hE with fg|⟨ord,ku,h⟩
 ·exact(GQ hb hv ZI hEm fg).elim
 simp only[Jd,aW]at ku;obtain⟨hb,ha,fZ,dI,hp⟩:=ku;refine q8 hb ha hv ZI l [] ord rfl (fun x=>?_) hp a _ h;rw[hv.2.1 x];constructor
 ·intro hx;simpa[Nat.blt_eq]using aG.1 dI x hx
 ·intro hx;exact List.contains_iff_mem.1 (aG.1 fZ x (bz.2 hx))
theorem K.Vw{n:Nat}{D:List Deferred}{w0:World}{G:Env}{L:List HP}{id:Nat}(ks:List Kd)(X:List (Nat×Nat))(O:List (List Nat))(pg:P.follows .mixedOrders=true)(hX:(ff ops&&X.all fun q=>Nat.blt q.1 ops.size&&(Nat.blt q.2 ops.size&& !(q.1==q.2)))=true)(ku:CZ ops ks (ways X) O=true)(h:BA (fun ord=>KO P ops true Q n D w0 G L (ord.map (item ops ks))) O):K P (.region id ops true) Q n D w0 G L:=fun a _ ha hw=>
 uU ks X O pg hX ku (ug (fun _ hh=>hh a _ ha hw.drew) h)
end WB
namespace Go.Proofs.YtjhogocabcdjbabGreatDoor
open Tryz
open Go Go.RowKit WB
theorem QO{α β:Type}{f:α->β->HP}{w0 w:World}{L:List HP}{ps:List α}{xs:List β}{p:α}{x:β}(hl:ps.length=xs.length)(h:St w0 (f p x::ck f ps xs::L) w):St w0 (ck f (ps++[p]) (xs++[x])::L) w:=by
 have h1:=DZ h.fL;refine xV ?_;rw[List.zipWith_append hl,aK];exact h1
theorem Ty(w0:World)(L:List HP)(n:Nat)(hT:nI w0)(hM:oB w0)(hn:1<=n/\n<=4):
 KC prog 42 #[.int .i64 (n:Nat)] w0 L (fun u M=> ∃c:Nat×rN,c.2.2.2=none/\u=.tuple #[aZ c.1,.nilIface]/\M=jI c.1 c.2 (eE n)::L):=by
 have hs:∀k:Nat,(eE (k+1)).hs=(eE k).hs++[(eo (k:Int),lR)]:=fun k=>by unfold eE;dsimp only;rw[List.range_succ,bu];rfl
 have hln:∀k:Nat,(eE k).hs.length=k:=fun k=>by unfold eE;simp
 refine KC.mk (n:=52) func42 rfl ntmps42 aj ?_;refine jX ?_;refine kQ ?_;refine vz ?_;refine uo ?_;refine BL ?_;refine Z5 ?_;refine BE ?_;refine oR ?_;refine KO.sE (pl:=[(0,1),(1,1),(2,1),(3,1)]) rfl zeroValue164 runUnderlying164 (by intro w;simp[sizeOf3,sizeOf160,sizeOf161,sizeOf162]) aL rfl ?_;refine KO.box rfl rfl aL rfl ?_;intro b17;refine kQ ?_;refine lf ?_;refine K.loop (fun q:Nat×Kr=>[(0,.int .i64 (n:Nat)),(4,aZ b17),(18,.int .i64 (n:Nat)),(19,.int .i64 (q.1:Nat))]) (fun q=>uu b17 q.2 (eE q.1) L) (fun q=>q.1<=n/\q.2.ps.length=q.1/\q.2.wv=.slice none 0 0) (fun q=>n-q.1) (0,⟨.slice none 0 0,.slice none 0 0,.slice none 0 0,[]⟩) ⟨aR _,rfl,rfl⟩ ⟨rfl,rfl,rfl,rfl,trivial⟩ (fun _ h=>?_) ?_
 ·have h1:=xV (f:=yM) (ps:=[]) (xs:=[]) h;have h2:=cL (E:=258) (sz:=2) (cf:=Vl) h1;have h3:=cL (E:=25) (sz:=1) (cf:=oV) h2;have h4:=cL (E:=29) (sz:=1) (cf:=oV) h3;exact h4.all Y7
 rintro⟨k,hv,dv,wv,ps⟩ ⟨hk,oO,YE⟩;dsimp only at hk oO YE ⊢;subst YE;refine gZ ?_;refine K.bI rfl (fun h5=>?_) (fun h5=>?_)
 ·have sO:k<n:=by omega
  refine EE ?_;refine qm ?_;refine KO.sE (pl:=[(0,300),(300,1),(301,1)]) rfl zeroValue28 runUnderlying28 (by intro w;simp[sizeOf3,sizeOf4,sizeOf26]) aL rfl ?_;refine KO.box rfl rfl aL rfl ?_;intro pB;refine jH ?_;refine K.conv (L':=fa pB lR::uu b17 ⟨hv,dv,.slice none 0 0,ps⟩ (eE k) L) (fun w' h=>h) ?_
  refine iw ?_;refine KO.cl (cp:=[]) rfl rfl rfl call11 rfl (KC.qR bE (A_ w0 _ pB (k:Int) lR hT hM ae D6)) ?_;rintro v' L' ⟨bh,rfl,rfl⟩;rw[Me];refine N2 ?_;refine iH ?_;refine K.Vw [.pure,.pure,.pure,.pure,.pure,.read,.pure,.cx,.write,.pure,.pure,.pure,.read,.pure,.cx,.write,.pure,.pure,.write,.pure,.pure,.write] [(8,12),(8,14),(7,14),(12,14),(7,12)] [[0,1,2,3,4,5,6,9,10,11,13,7,8,12,14,15,16,17,18,19,20,21],[0,1,2,3,4,5,6,9,10,11,13,7,8,14,12,15,16,17,18,19,20,21],[0,1,2,3,4,5,6,9,10,11,13,7,14,8,12,15,16,17,18,19,20,21],[0,1,2,3,4,5,6,9,10,11,13,14,7,8,12,15,16,17,18,19,20,21],[0,1,2,3,4,5,6,9,10,11,13,7,12,8,14,15,16,17,18,19,20,21],[0,1,2,3,4,5,6,9,10,11,12,13,7,8,14,15,16,17,18,19,20,21],[0,1,2,3,4,5,6,9,10,11,13,7,12,14,8,15,16,17,18,19,20,21],[0,1,2,3,4,5,6,9,10,11,12,13,7,14,8,15,16,17,18,19,20,21],[0,1,2,3,4,5,6,9,10,11,13,7,14,12,8,15,16,17,18,19,20,21],[0,1,2,3,4,5,6,9,10,11,12,13,14,7,8,15,16,17,18,19,20,21],[0,1,2,3,4,5,6,9,10,11,13,14,7,12,8,15,16,17,18,19,20,21],[0,1,2,3,4,5,6,9,10,11,13,14,12,7,8,15,16,17,18,19,20,21]] bm bm bm ⟨?_,?_,?_,?_,?_,?_,?_,?_,?_,?_,?_,?_,trivial⟩
  focus
   show KO _ _ _ _ _ _ _ _ _ _
   refine BJ ?_;refine KO.iN (z:=(Value.pointer none)) (sz:=1) (cV:=8) rfl rfl underlying160 bm aL aL ai ai rfl ?_;intro NZ;refine KO.app (cf:=oV) (z:=Value.pointer none) (sz:=1) (cV:=8) (us:=[aZ bh]) (xs:=ps.map (·.1)) rfl rfl rfl aX bE underlying160 bm aL bh rfl rfl rfl lY ai rfl ?_;intro vh;refine KO.fact (fun _ hs=>aN hs) ?_;rintro⟨ah,kh,rfl,-⟩
   refine ID ?_;refine KO.iN (z:=(Value.pointer none)) (sz:=1) (cV:=8) rfl rfl underlying161 bm aL aL ai ai rfl ?_;intro K1;refine KO.app (cf:=oV) (z:=Value.pointer none) (sz:=1) (cV:=8) (us:=[.pointer (some ⟨pB,0,none⟩)]) (xs:=ps.map (·.2)) rfl rfl rfl aX bE underlying161 bm aL pB rfl rfl rfl lY ai rfl ?_;intro vd;refine KO.fact (fun _ hs=>aN hs) ?_;rintro⟨ad,kd,rfl,-⟩
   refine vB ?_
  rotate_left
  focus
   show KO _ _ _ _ _ _ _ _ _ _
   refine BJ ?_;refine KO.iN (z:=(Value.pointer none)) (sz:=1) (cV:=8) rfl rfl underlying160 bm aL aL ai ai rfl ?_;intro NZ;refine KO.app (cf:=oV) (z:=Value.pointer none) (sz:=1) (cV:=8) (us:=[aZ bh]) (xs:=ps.map (·.1)) rfl rfl rfl aX bE underlying160 bm aL bh rfl rfl rfl lY ai rfl ?_;intro vh;refine KO.fact (fun _ hs=>aN hs) ?_;rintro⟨ah,kh,rfl,-⟩
   refine KO.iN (z:=(Value.pointer none)) (sz:=1) (cV:=8) rfl rfl underlying161 bm aL aL ai ai rfl ?_;intro K1;refine ID ?_;refine KO.app (cf:=oV) (z:=Value.pointer none) (sz:=1) (cV:=8) (us:=[.pointer (some ⟨pB,0,none⟩)]) (xs:=ps.map (·.2)) rfl rfl rfl aX bE underlying161 bm aL pB rfl rfl rfl lY ai rfl ?_;intro vd;refine KO.fact (fun _ hs=>aN hs) ?_;rintro⟨ad,kd,rfl,-⟩
   refine vB ?_
  rotate_left
  focus
   show KO _ _ _ _ _ _ _ _ _ _
   refine BJ ?_;refine KO.iN (z:=(Value.pointer none)) (sz:=1) (cV:=8) rfl rfl underlying160 bm aL aL ai ai rfl ?_;intro NZ;refine KO.iN (z:=(Value.pointer none)) (sz:=1) (cV:=8) rfl rfl underlying161 bm aL aL ai ai rfl ?_;intro K1;refine KO.app (cf:=oV) (z:=Value.pointer none) (sz:=1) (cV:=8) (us:=[aZ bh]) (xs:=ps.map (·.1)) rfl rfl rfl aX aX underlying160 bm aL bh rfl rfl rfl lY ai rfl ?_;intro vh;refine KO.fact (fun _ hs=>aN hs) ?_;rintro⟨ah,kh,rfl,-⟩
   refine ID ?_;refine KO.app (cf:=oV) (z:=Value.pointer none) (sz:=1) (cV:=8) (us:=[.pointer (some ⟨pB,0,none⟩)]) (xs:=ps.map (·.2)) rfl rfl rfl aX aX underlying161 bm aL pB rfl rfl rfl lY ai rfl ?_;intro vd;refine KO.fact (fun _ hs=>aN hs) ?_;rintro⟨ad,kd,rfl,-⟩
   refine vB ?_
  rotate_left
  focus
   show KO _ _ _ _ _ _ _ _ _ _
   refine BJ ?_;refine KO.iN (z:=(Value.pointer none)) (sz:=1) (cV:=8) rfl rfl underlying161 bm aL aL ai ai rfl ?_;intro K1;refine KO.iN (z:=(Value.pointer none)) (sz:=1) (cV:=8) rfl rfl underlying160 bm aL aL ai ai rfl ?_;intro NZ;refine KO.app (cf:=oV) (z:=Value.pointer none) (sz:=1) (cV:=8) (us:=[aZ bh]) (xs:=ps.map (·.1)) rfl rfl rfl aX bE underlying160 bm aL bh rfl rfl rfl lY ai rfl ?_;intro vh;refine KO.fact (fun _ hs=>aN hs) ?_;rintro⟨ah,kh,rfl,-⟩
   refine ID ?_;refine KO.app (cf:=oV) (z:=Value.pointer none) (sz:=1) (cV:=8) (us:=[.pointer (some ⟨pB,0,none⟩)]) (xs:=ps.map (·.2)) rfl rfl rfl aX aX underlying161 bm aL pB rfl rfl rfl lY ai rfl ?_;intro vd;refine KO.fact (fun _ hs=>aN hs) ?_;rintro⟨ad,kd,rfl,-⟩
   refine vB ?_
  rotate_left
  focus
   show KO _ _ _ _ _ _ _ _ _ _
   refine BJ ?_;refine KO.iN (z:=(Value.pointer none)) (sz:=1) (cV:=8) rfl rfl underlying160 bm aL aL ai ai rfl ?_;intro NZ;refine ID ?_;refine KO.app (cf:=oV) (z:=Value.pointer none) (sz:=1) (cV:=8) (us:=[aZ bh]) (xs:=ps.map (·.1)) rfl rfl rfl aX bE underlying160 bm aL bh rfl rfl rfl lY ai rfl ?_;intro vh;refine KO.fact (fun _ hs=>aN hs) ?_;rintro⟨ah,kh,rfl,-⟩
   refine KO.iN (z:=(Value.pointer none)) (sz:=1) (cV:=8) rfl rfl underlying161 bm aL aL ai ai rfl ?_;intro K1;refine KO.app (cf:=oV) (z:=Value.pointer none) (sz:=1) (cV:=8) (us:=[.pointer (some ⟨pB,0,none⟩)]) (xs:=ps.map (·.2)) rfl rfl rfl aX bE underlying161 bm aL pB rfl rfl rfl lY ai rfl ?_;intro vd;refine KO.fact (fun _ hs=>aN hs) ?_;rintro⟨ad,kd,rfl,-⟩
   refine vB ?_
  rotate_left
  focus
   show KO _ _ _ _ _ _ _ _ _ _
   refine RF ?_;refine ID ?_;refine Z1 ?_;refine KO.iN (z:=(Value.pointer none)) (sz:=1) (cV:=8) rfl rfl underlying160 bm aL aL ai ai rfl ?_;intro NZ;refine KO.app (cf:=oV) (z:=Value.pointer none) (sz:=1) (cV:=8) (us:=[aZ bh]) (xs:=ps.map (·.1)) rfl rfl rfl aX bE underlying160 bm aL bh rfl rfl rfl lY ai rfl ?_;intro vh;refine KO.fact (fun _ hs=>aN hs) ?_;rintro⟨ah,kh,rfl,-⟩
   refine KO.iN (z:=(Value.pointer none)) (sz:=1) (cV:=8) rfl rfl underlying161 bm aL aL ai ai rfl ?_;intro K1;refine KO.app (cf:=oV) (z:=Value.pointer none) (sz:=1) (cV:=8) (us:=[.pointer (some ⟨pB,0,none⟩)]) (xs:=ps.map (·.2)) rfl rfl rfl aX bE underlying161 bm aL pB rfl rfl rfl lY ai rfl ?_;intro vd;refine KO.fact (fun _ hs=>aN hs) ?_;rintro⟨ad,kd,rfl,-⟩
   refine vB ?_
  rotate_left
  focus
   show KO _ _ _ _ _ _ _ _ _ _
   refine BJ ?_;refine KO.iN (z:=(Value.pointer none)) (sz:=1) (cV:=8) rfl rfl underlying160 bm aL aL ai ai rfl ?_;intro NZ;refine ID ?_;refine KO.iN (z:=(Value.pointer none)) (sz:=1) (cV:=8) rfl rfl underlying161 bm aL aL ai ai rfl ?_;intro K1;refine KO.app (cf:=oV) (z:=Value.pointer none) (sz:=1) (cV:=8) (us:=[aZ bh]) (xs:=ps.map (·.1)) rfl rfl rfl aX aX underlying160 bm aL bh rfl rfl rfl lY ai rfl ?_;intro vh;refine KO.fact (fun _ hs=>aN hs) ?_;rintro⟨ah,kh,rfl,-⟩
   refine KO.app (cf:=oV) (z:=Value.pointer none) (sz:=1) (cV:=8) (us:=[.pointer (some ⟨pB,0,none⟩)]) (xs:=ps.map (·.2)) rfl rfl rfl aX aX underlying161 bm aL pB rfl rfl rfl lY ai rfl ?_;intro vd;refine KO.fact (fun _ hs=>aN hs) ?_;rintro⟨ad,kd,rfl,-⟩
   refine vB ?_
  rotate_left
  focus
   show KO _ _ _ _ _ _ _ _ _ _
   refine RF ?_;refine ID ?_;refine Z1 ?_;refine KO.iN (z:=(Value.pointer none)) (sz:=1) (cV:=8) rfl rfl underlying160 bm aL aL ai ai rfl ?_;intro NZ;refine KO.iN (z:=(Value.pointer none)) (sz:=1) (cV:=8) rfl rfl underlying161 bm aL aL ai ai rfl ?_;intro K1;refine KO.app (cf:=oV) (z:=Value.pointer none) (sz:=1) (cV:=8) (us:=[aZ bh]) (xs:=ps.map (·.1)) rfl rfl rfl aX aX underlying160 bm aL bh rfl rfl rfl lY ai rfl ?_;intro vh;refine KO.fact (fun _ hs=>aN hs) ?_;rintro⟨ah,kh,rfl,-⟩
   refine KO.app (cf:=oV) (z:=Value.pointer none) (sz:=1) (cV:=8) (us:=[.pointer (some ⟨pB,0,none⟩)]) (xs:=ps.map (·.2)) rfl rfl rfl aX aX underlying161 bm aL pB rfl rfl rfl lY ai rfl ?_;intro vd;refine KO.fact (fun _ hs=>aN hs) ?_;rintro⟨ad,kd,rfl,-⟩
   refine vB ?_
  rotate_left
  focus
   show KO _ _ _ _ _ _ _ _ _ _
   refine BJ ?_;refine KO.iN (z:=(Value.pointer none)) (sz:=1) (cV:=8) rfl rfl underlying160 bm aL aL ai ai rfl ?_;intro NZ;refine KO.iN (z:=(Value.pointer none)) (sz:=1) (cV:=8) rfl rfl underlying161 bm aL aL ai ai rfl ?_;intro K1;refine ID ?_;refine KO.app (cf:=oV) (z:=Value.pointer none) (sz:=1) (cV:=8) (us:=[aZ bh]) (xs:=ps.map (·.1)) rfl rfl rfl aX aX underlying160 bm aL bh rfl rfl rfl lY ai rfl ?_;intro vh;refine KO.fact (fun _ hs=>aN hs) ?_;rintro⟨ah,kh,rfl,-⟩
   refine KO.app (cf:=oV) (z:=Value.pointer none) (sz:=1) (cV:=8) (us:=[.pointer (some ⟨pB,0,none⟩)]) (xs:=ps.map (·.2)) rfl rfl rfl aX aX underlying161 bm aL pB rfl rfl rfl lY ai rfl ?_;intro vd;refine KO.fact (fun _ hs=>aN hs) ?_;rintro⟨ad,kd,rfl,-⟩
   refine vB ?_
  rotate_left
  focus
   show KO _ _ _ _ _ _ _ _ _ _
   refine RF ?_;refine ID ?_;refine Z1 ?_;refine KO.iN (z:=(Value.pointer none)) (sz:=1) (cV:=8) rfl rfl underlying161 bm aL aL ai ai rfl ?_;intro K1;refine KO.iN (z:=(Value.pointer none)) (sz:=1) (cV:=8) rfl rfl underlying160 bm aL aL ai ai rfl ?_;intro NZ;refine KO.app (cf:=oV) (z:=Value.pointer none) (sz:=1) (cV:=8) (us:=[aZ bh]) (xs:=ps.map (·.1)) rfl rfl rfl aX bE underlying160 bm aL bh rfl rfl rfl lY ai rfl ?_;intro vh;refine KO.fact (fun _ hs=>aN hs) ?_;rintro⟨ah,kh,rfl,-⟩
   refine KO.app (cf:=oV) (z:=Value.pointer none) (sz:=1) (cV:=8) (us:=[.pointer (some ⟨pB,0,none⟩)]) (xs:=ps.map (·.2)) rfl rfl rfl aX aX underlying161 bm aL pB rfl rfl rfl lY ai rfl ?_;intro vd;refine KO.fact (fun _ hs=>aN hs) ?_;rintro⟨ad,kd,rfl,-⟩
   refine vB ?_
  rotate_left
  focus
   show KO _ _ _ _ _ _ _ _ _ _
   refine BJ ?_;refine KO.iN (z:=(Value.pointer none)) (sz:=1) (cV:=8) rfl rfl underlying161 bm aL aL ai ai rfl ?_;intro K1;refine KO.iN (z:=(Value.pointer none)) (sz:=1) (cV:=8) rfl rfl underlying160 bm aL aL ai ai rfl ?_;intro NZ;refine ID ?_;refine KO.app (cf:=oV) (z:=Value.pointer none) (sz:=1) (cV:=8) (us:=[aZ bh]) (xs:=ps.map (·.1)) rfl rfl rfl aX bE underlying160 bm aL bh rfl rfl rfl lY ai rfl ?_;intro vh;refine KO.fact (fun _ hs=>aN hs) ?_;rintro⟨ah,kh,rfl,-⟩
   refine KO.app (cf:=oV) (z:=Value.pointer none) (sz:=1) (cV:=8) (us:=[.pointer (some ⟨pB,0,none⟩)]) (xs:=ps.map (·.2)) rfl rfl rfl aX aX underlying161 bm aL pB rfl rfl rfl lY ai rfl ?_;intro vd;refine KO.fact (fun _ hs=>aN hs) ?_;rintro⟨ad,kd,rfl,-⟩
   refine vB ?_
  rotate_left
  focus
   show KO _ _ _ _ _ _ _ _ _ _
   refine BJ ?_;refine KO.iN (z:=(Value.pointer none)) (sz:=1) (cV:=8) rfl rfl underlying161 bm aL aL ai ai rfl ?_;intro K1;refine ID ?_;refine KO.iN (z:=(Value.pointer none)) (sz:=1) (cV:=8) rfl rfl underlying160 bm aL aL ai ai rfl ?_;intro NZ;refine KO.app (cf:=oV) (z:=Value.pointer none) (sz:=1) (cV:=8) (us:=[aZ bh]) (xs:=ps.map (·.1)) rfl rfl rfl aX bE underlying160 bm aL bh rfl rfl rfl lY ai rfl ?_;intro vh;refine KO.fact (fun _ hs=>aN hs) ?_;rintro⟨ah,kh,rfl,-⟩
   refine KO.app (cf:=oV) (z:=Value.pointer none) (sz:=1) (cV:=8) (us:=[.pointer (some ⟨pB,0,none⟩)]) (xs:=ps.map (·.2)) rfl rfl rfl aX aX underlying161 bm aL pB rfl rfl rfl lY ai rfl ?_;intro vd;refine KO.fact (fun _ hs=>aN hs) ?_;rintro⟨ad,kd,rfl,-⟩
   refine vB ?_
  rotate_left
  all_goals (
   refine Kq ?_;refine KQ.round (k+1,⟨.slice ah (ps.map (·.1)++[bh]).length kh,.slice ad (ps.map (·.2)++[pB]).length kd,.slice none 0 0,ps++[(bh,pB)]⟩) ⟨by dsimp only;omega,by dsimp only;rw[aQ,oO];rfl,rfl⟩ ji ⟨rfl,rfl,rfl,rfl,trivial⟩ (fun _ h=>?_)
   have e1:(ps++[(bh,pB)]).map (·.1)=ps.map (·.1)++[bh]:=by simp
   have e2:(ps++[(bh,pB)]).map (·.2)=ps.map (·.2)++[pB]:=by simp
   have h0:=h.SB (A:=cW bh pB (eo (k:Int))) (B:=fa pB lR) (C:=ck yM ps (eE k).hs) aX aX aX;have h2:=QO (f:=yM) (p:=(bh,pB)) (x:=(eo (k:Int),lR)) (by rw[oO,hln]) h0.join;rw[<-hs]at h2;unfold uu;dsimp only;rw[e1,e2]
   exact h2.all Y7)
 ·have sO:k=n:=by omega
  subst sO;refine yu ?_;refine nE ?_;refine KQ.ef rfl rfl rfl (fun w' aY=>⟨_,_,rfl,⟨(b17,(hv,dv,none)),rfl,rfl,rfl⟩,?_⟩);exact dJ (hd:=(hv,dv,none)) ⟨hv,dv,_,ps⟩ (by rw[hln];exact oO) aY rfl ⟨rfl,fun l hl=>by cases hl⟩
theorem Tx(w0:World)(L:List HP)(n:Int)(hn:n<1\/4<n):KE prog 42 #[.int .i64 n] w0 L (fun u M=>u=.tuple #[.pointer none,cz 70 2]/\M=L):=by
 refine KE.mk (n:=52) func42 rfl ntmps42 aj ?_;intro w hw;refine jX ?_;refine jH ?_;by_cases h1:n<1
 ·refine G9 ?_;refine BP ?_;refine K.cA rfl ET ?_;refine l3 ?_;refine KQ.ef rfl rfl rfl (fun w' hs=>⟨_,_,rfl,⟨rfl,rfl⟩,hw.aA hs.below,hs.below⟩)
 ·refine BT ?_;refine BL ?_;refine N4 ?_;refine l3 ?_;refine KQ.ef rfl rfl rfl (fun w' hs=>⟨_,_,rfl,⟨rfl,rfl⟩,hw.aA hs.below,hs.below⟩)
theorem Is(w0:World)(N:List HP)(A:HP)(b p:Nat)(a:Option Addr)(cap:Nat)(ws:List ak)(W:Wo)(c:Tq w0 p W A a cap ws)(v0:Value):
 KP prog 112 #[aZ b,.slice a ws.length cap] w0 (bD b (.cells [v0].toArray 196 (0,0))::A::N) (fun e M=>(∃n:Nat,1<=n/\n<=4/\(∀W,cX 20 W ws=(eE n,.ok (⟨#[119,111,114,108,100]⟩:ak)))/\e=.returned (.string (⟨#[119,111,114,108,100]⟩:ak))/\M=lx b (eE n)::A::N)\/
  ∃k,(∀W,cX 20 W ws=(W,.er k))/\e=.panicked (zj k)/\M=bD b (.cells [v0].toArray 196 (0,0))::A::N):=by
 have hT:=c.hT;have hM:=c.hM;have hg:=c.hg;by_cases hn:ws.length=1
 case neg=>
  have e1:∀W,cX 20 W ws=(W,.er 3):=fun W=>cZ (i:=20) hn
  refine KP.mk (n:=26) func112 rfl ntmps112 aj ?_;refine iG ?_;refine KO.die (fi:=[]) (cp:=[]) rfl rfl rfl call196 (iy w0 _ a hg ae) ?_;rintro c' M ⟨rfl,rfl⟩;exact fun tm w' hs=>⟨rfl,_,.inr ⟨3,e1,rfl,rfl⟩,hs⟩
 obtain⟨x0,rfl⟩:=Da hn;refine KP.mk (n:=26) func112 rfl ntmps112 aj ?_;refine iG ?_;refine KO.ce (cp:=[]) rfl rfl rfl call196 rfl (iz w0 _ a hg rfl) ?_;rintro v' L' ⟨rfl,rfl⟩;refine Z0 ?_;refine K.fact (fun w hw=>c.some (hw.pick (A:=A) aX) (x:=x0) rfl) ?_;rintro⟨ad,rfl⟩;cases hm:[x0].mapM canon with
 |none=>
  have e1:∀W,cX 20 W [x0]=(W,.er 3):=fun W=>qv hm
  refine Z7 ?_;refine K6 ?_;refine KO.iN (z:=(Value.string ⟨#[]⟩)) (sz:=1) (cV:=16) rfl rfl underlying115 bm aL aL ai ai rfl ?_;intro VS;refine KO.die (fi:=[]) (cp:=[]) rfl rfl rfl call197 (gk w0 _ _ [x0] (fun w' hw'=>dz (vs:=[Value.string x0]) (xs:=[x0]) .head rfl hw') hT hM hg c.cj aj hm) ?_;rintro c' M ⟨rfl,rfl⟩;exact fun tm w' hs=>⟨rfl,_,.inr ⟨3,e1,rfl,rfl⟩,hs.all Y5⟩
 |some l=>
 obtain⟨k,hk,rfl⟩:=qu hm;by_cases h1:1<=k/\k<=4
 ·obtain⟨j,rfl⟩:∃j:Nat,k=(j:Int):=⟨k.toNat,by omega⟩;have e1:∀W,cX 20 W [x0]=(eE j,.ok (⟨#[119,111,114,108,100]⟩:ak)):=fun W=>(b0 hk).trans (if_pos h1)
  refine Z7 ?_;refine K6 ?_;refine KO.iN (z:=(Value.string ⟨#[]⟩)) (sz:=1) (cV:=16) rfl rfl underlying115 bm aL aL ai ai rfl ?_;intro VS;refine KO.ce (cp:=[]) rfl rfl rfl call197 rfl (dE w0 _ _ [x0] (fun w' hw'=>dz (vs:=[Value.string x0]) (xs:=[x0]) .head rfl hw') hT hM hg c.cj aj hm) ?_;rintro vn L' rfl;refine KO.fact (fun w' hw'=>aN (hw'.pick (A:=SL 3 1 cR vn [(j:Int)]) bE)) ?_;rintro⟨sn,cn,rfl,gn⟩;obtain⟨g,rfl⟩:=gn aj;refine OU ?_;refine KO.cl (cp:=[]) rfl rfl rfl call42 rfl (Ty w0 _ j hT hM ae) ?_;rintro v' L' ⟨⟨bw,hd⟩,hN,rfl,rfl⟩;refine jY ?_;refine KO.ce (cp:=[]) rfl rfl rfl call198 rfl (Mq w0 _ hg) ?_;rintro v' L' ⟨rfl,rfl⟩;refine Z0 ?_;refine vC ?_;refine Wb ?_;refine KO.lC rfl rfl rfl aL (by exact sizeOf55) aL aX aL ?_;refine jf ?_;refine KQ.a_ rfl rfl (fun w' hs=>⟨_,.inl ⟨j,by omega,by omega,e1,rfl,rfl⟩,eV hN (hs.all (M:=jI bw hd (eE j)::rK b bw::A::N) Y5)⟩)
 ·have e1:∀W,cX 20 W [x0]=(W,.er 2):=fun W=>(b0 hk).trans (if_neg h1)
  refine Z7 ?_;refine K6 ?_;refine KO.iN (z:=(Value.string ⟨#[]⟩)) (sz:=1) (cV:=16) rfl rfl underlying115 bm aL aL ai ai rfl ?_;intro VS;refine KO.ce (cp:=[]) rfl rfl rfl call197 rfl (dE w0 _ _ [x0] (fun w' hw'=>dz (vs:=[Value.string x0]) (xs:=[x0]) .head rfl hw') hT hM hg c.cj aj hm) ?_;rintro vn L' rfl;refine KO.fact (fun w' hw'=>aN (hw'.pick (A:=SL 3 1 cR vn [k]) bE)) ?_;rintro⟨sn,cn,rfl,gn⟩;obtain⟨g,rfl⟩:=gn aj;refine yO ?_;refine KO.ce (cp:=[]) rfl rfl rfl call42 rfl (Tx w0 _ k ae) ?_;rintro v' L' ⟨rfl,rfl⟩;refine jY ?_;refine KO.die (fi:=[]) (cp:=[]) rfl rfl rfl call198 (gl w0 _ hg (k:=2) ae) ?_;rintro c' M ⟨rfl,rfl⟩;exact fun tm w' hs=>⟨rfl,_,.inr ⟨2,e1,rfl,rfl⟩,hs.all Y5⟩
theorem NI:yP 20 112:=fun w0 N A b p a cap ws W c w hw=>by
 obtain⟨⟨⟨bw,hd⟩,hN⟩,hs⟩:=f_ hw;refine(Is w0 (jI bw hd W::N) A b p a cap ws W c (aZ bw) w (hs.all Y7)).mono ?_;rintro e w' ⟨M,(⟨n,-,-,e1,rfl,rfl⟩|⟨k,e1,rfl,rfl⟩),aY⟩
 ·rw[e1 W];exact⟨_,⟨rfl,rfl⟩,aY.all Y5⟩
 ·rw[e1 W];exact⟨_,⟨rfl,rfl⟩,eV hN (aY.all (M:=jI bw hd W::rK b bw::A::N) Y7)⟩
theorem NG:yP 12 291:=fun w0 N A b p a cap ws W c=>by
 have hT:=c.hT;have hM:=c.hM;have hg:=c.hg;have hD:=c.h;have hp:=c.hp;obtain⟨cc,kb,hB,Be,zZ,vj⟩:=hD.b;by_cases hn:ws.length=1
 case neg=>
  rw[cZ (i:=12) hn];refine KP.mk (n:=53) func291 rfl ntmps291 aj ?_;refine iG ?_;refine KO.die (fi:=[]) (cp:=[]) rfl rfl rfl call196 (iy w0 _ a hg ae) ?_;rintro c' M ⟨rfl,rfl⟩;exact fun tm w' hs=>⟨rfl,_,⟨rfl,rfl⟩,hs⟩
 obtain⟨x0,rfl⟩:=Da hn;refine KP.mk (n:=53) func291 rfl ntmps291 aj ?_;refine iG ?_;refine KO.ce (cp:=[]) rfl rfl rfl call196 rfl (iz w0 _ a hg rfl) ?_;rintro v' L' ⟨rfl,rfl⟩;refine Z0 ?_;refine K.fact (fun w hw=>c.some (hw.pick (A:=A) aX) (x:=x0) rfl) ?_;rintro⟨ad,rfl⟩;refine dC ?_;refine jH ?_;cases hm:[x0].mapM canon with
 |none=>
  have e1:cX 12 W [x0]=(W,.er 3):=qv hm;rw[e1];refine iw ?_;refine K6 ?_;refine KO.iN (z:=(Value.string ⟨#[]⟩)) (sz:=1) (cV:=16) rfl rfl underlying115 bm aL aL ai ai rfl ?_;intro b15;refine KO.die (fi:=[]) (cp:=[]) rfl rfl rfl call197 (gk w0 _ _ [x0] (fun w' hw'=>dz (vs:=[Value.string x0]) (xs:=[x0]) .head rfl hw') hT hM hg c.cj aj hm) ?_;rintro c' M ⟨rfl,rfl⟩;exact fun tm w' hs=>⟨rfl,_,⟨rfl,rfl⟩,hs.all Y5⟩
 |some l=>
 obtain⟨k,hk,rfl⟩:=qu hm;cases hi:W.is k with
 |false=>
  have e1:cX 12 W [x0]=(W,.er 2):=(b0 hk).trans (qx hi);rw[e1];refine iw ?_;refine K6 ?_;refine KO.iN (z:=(Value.string ⟨#[]⟩)) (sz:=1) (cV:=16) rfl rfl underlying115 bm aL aL ai ai rfl ?_;intro b15;refine KO.ce (cp:=[]) rfl rfl rfl call197 rfl (dE w0 _ _ [x0] (fun w' hw'=>dz (vs:=[Value.string x0]) (xs:=[x0]) .head rfl hw') hT hM hg c.cj aj hm) ?_;rintro vn L' rfl;refine KO.fact (fun w' hw'=>aN (hw'.pick (A:=SL 3 1 cR vn [k]) bE)) ?_;rintro⟨sn,cn,rfl,gn⟩;obtain⟨g,rfl⟩:=gn aj;refine yO ?_;refine KO.die (fi:=[]) (cp:=[]) rfl rfl rfl call364 (iL w0 _ _ b k W aX hi hg) ?_;rintro c' M ⟨rfl,rfl⟩;exact fun tm w' hs=>⟨rfl,_,⟨rfl,rfl⟩,hs.all Y5⟩
 |true=>
 obtain⟨j,rfl,hj⟩:=mM hi;obtain⟨hH,Gp,Gn,l9,tB⟩:=qz hB ae ae hi;have xH:=hH.kr;have UL:=hH.right;have e1:cX 12 W [x0]=(W,.ok ((⟨#[110,97,109,101,115,32]⟩:ak)++cJ ((W.H j).names.map r9) sp)):=(b0 hk).trans (qw hi);rw[e1];generalize E3:(W.H j).names=ns at xH UL;refine iw ?_;refine K6 ?_;refine KO.iN (z:=(Value.string ⟨#[]⟩)) (sz:=1) (cV:=16) rfl rfl underlying115 bm aL aL ai ai rfl ?_;intro b15;refine KO.ce (cp:=[]) rfl rfl rfl call197 rfl (dE w0 _ _ [x0] (fun w' hw'=>dz (vs:=[Value.string x0]) (xs:=[x0]) .head rfl hw') hT hM hg c.cj aj hm) ?_;rintro vn L' rfl;refine KO.fact (fun w' hw'=>aN (hw'.pick (A:=SL 3 1 cR vn [(j:Int)]) bE)) ?_;rintro⟨sn,cn,rfl,gn⟩;obtain⟨g,rfl⟩:=gn aj;refine OU ?_;refine KO.ce (cp:=[]) rfl rfl rfl call364 rfl (fw w0 _ _ b j W aX hi hg) ?_;rintro v' L' ⟨p,rfl,rfl⟩;refine KO.cl (cp:=[]) rfl rfl rfl call107 rfl (KC.dkG (φ:=fun v u=>u=v) (A:=fun v=>jg v ns) (H':=W.H j) (D':=W.D j) hi bE (fun L=>(M4 w0 _ p.1 p.2 (W.H j) hH.kr).mono (by rintro v M rfl;exact⟨v,rfl,by rw[E3]⟩))) ?_;rintro v' L' ⟨_,rfl,rfl⟩;rw[vK hi];refine KO.fact (fun w' hw'=>aN (hw'.pick (A:=jg v' ns) bE)) ?_;rintro⟨sv,cv,rfl,gv⟩;refine Kj ?_;refine lf ?_
 refine K.loop (fun s:Nat×Value=>[(5,s.2),(20,.slice sv ns.length cv),(21,.int .i64 (ns.length:Nat)),(22,.int .i64 (s.1:Nat))]) (fun s=>iR s.2 ((ns.take s.1).map r9)::jg (.slice sv ns.length cv) ns::lx b W::A::N) (fun s=>s.1<=ns.length) (fun s=>ns.length-s.1) (0,.slice none 0 0)
  (aR _) ⟨rfl,rfl,rfl,rfl,trivial⟩ (fun _ h=>cL (h.all Y5)) ?_
 rintro⟨k,vo⟩ oX;dsimp only at oX ⊢;refine gZ ?_;refine K.bI rfl (fun h=>?_) (fun h=>?_)
 ·obtain⟨x,hx⟩:∃e,ns[k]? =some e:=⟨ns[k],ao ae⟩;obtain⟨g2,rfl⟩:=gv ae;have hrx:=UL x (ax hx);obtain⟨l0,u9⟩:=mT hrx;obtain⟨-,-,hz3,hz4⟩:=eJ hrx;obtain⟨xn,xt,xh⟩:=x;dsimp only at l0 u9 hz3 hz4;have hz5:=bJ (n:=xh) ⟨by omega,by omega⟩;have q1:(⟨#[61]⟩:ak).size=1:=rfl;have q2:(⟨#[64]⟩:ak).size=1:=rfl;have hlen:((ns.take k).map r9).length<1000000:=by simp;omega
  refine pE ?_;refine KO.eN (i:=k) rfl rfl runUnderlying86 sizeOf75 rfl ae rfl ?_;refine KO.yU (i:=k) (sz:=3) (cf:=Nm.cells) (e:=⟨xn,xt,xh⟩) rfl rfl isAgg75 sizeOf75 aX (fun _=>rfl) hx rfl ?_;refine KO.alloc rfl zeroValue75 aL rfl ?_;intro b7;refine KO.lC rfl rfl rfl aL (by exact sizeOf75) aL bE aL ?_;refine E9 ?_;refine Hj ?_;refine qn ?_;refine qm ?_;refine V9 ?_;refine qn ?_;refine KO.neS rfl rfl rfl ?_;refine Z5 ?_;let s1:ak:=if xt=⟨#[]⟩then xn else xn++(⟨#[61]⟩++xt)
  have rH:s1.size<=20:=by
   show(if xt=⟨#[]⟩then xn else xn++(⟨#[61]⟩++xt):ak).size<=20
   split<;>(try simp only[aB,q1])<;>omega
  have vY:r9 ⟨xn,xt,xh⟩=if 0<=xh then s1++(⟨#[64]⟩++bH xh)else s1:=rfl
  refine K.cut (fun _:Unit=>[(5,vo),(7,.pointer (some ⟨b7,0,none⟩)),(8,.string s1),(20,.slice (some ⟨g2,0,none⟩) ns.length cv),(21,.int .i64 (ns.length:Nat)),(22,.int .i64 (k:Nat))]) (fun _=>bD b7 (.cells [Value.string xn,.string xt,.int .i64 xh].toArray 75 (0,0))::iR vo ((ns.take k).map r9)::jg (.slice (some ⟨g2,0,none⟩) ns.length cv) ns::lx b W::A::N) (fun _=>True) ?_ ?_
  ·by_cases hxt:xt=(⟨#[]⟩:ak)
   ·refine K.cP rfl (by simp[hxt]) ?_;refine vI ?_;exact KQ.qc () trivial ⟨rfl,rfl,by show some (Value.string xn)=some (.string s1);rw[show s1=xn from if_pos hxt],rfl,rfl,rfl,trivial⟩ (fun w' hs=>hs.all mH)
   ·refine K.cA rfl (by simp[hxt]) ?_;refine Z7 ?_;refine V9 ?_;refine qn ?_;refine KO.cat rfl rfl ji rfl ?_;refine KO.cat rfl rfl (by rw[aB];dsimp only;omega) rfl ?_;refine oz ?_;exact KQ.qc () trivial ⟨rfl,rfl,by show some (Value.string (xn++(⟨#[61]⟩++xt)))=some (.string s1);rw[show s1=xn++(⟨#[61]⟩++xt)from if_neg hxt],rfl,rfl,rfl,trivial⟩ (fun w' hs=>hs.all mH)
  rintro⟨⟩-;refine Z2 ?_;refine V8 ?_;refine vG ?_;refine uh ?_;refine Z5 ?_;refine K.cut (fun _:Unit=>[(5,vo),(8,.string (r9 ⟨xn,xt,xh⟩)),(20,.slice (some ⟨g2,0,none⟩) ns.length cv),(21,.int .i64 (ns.length:Nat)),(22,.int .i64 (k:Nat))]) (fun _=>iR vo ((ns.take k).map r9)::jg (.slice (some ⟨g2,0,none⟩) ns.length cv) ns::lx b W::A::N) (fun _=>True) ?_ ?_
  ·by_cases hxh:0<=xh
   ·refine K.cA rfl (by simp[hxh]) ?_;refine Z7 ?_;refine V8 ?_;refine vG ?_;refine KO.ce (cp:=[]) rfl rfl rfl call59 rfl (fF w0 _ _ hT ⟨by omega,by omega⟩) ?_;rintro v' L' ⟨rfl,rfl⟩;refine nG ?_;refine KO.cat rfl rfl Y28 rfl ?_;refine oz ?_;exact KQ.qc () trivial ⟨rfl,by rw[vY,if_pos hxh];rfl,rfl,rfl,rfl,trivial⟩ (fun w' hs=>hs.all Y5)
   ·refine BE ?_;refine vI ?_;exact KQ.qc () trivial ⟨rfl,by rw[vY,if_neg hxh];rfl,rfl,rfl,rfl,trivial⟩ (fun w' hs=>hs.all Y5)
  rintro⟨⟩-;refine iw ?_;refine KO.iN (z:=(Value.string ⟨#[]⟩)) (sz:=1) (cV:=16) rfl rfl underlying115 bm aL aL ai ai rfl ?_;intro b47;refine KO.app (z:=Value.string ⟨#[]⟩) (sz:=1) (cV:=16) rfl rfl rfl (.tail .head) .head underlying115 kg rfl (r9 ⟨xn,xt,xh⟩) aL aL aL ae ai rfl ?_;intro v';refine rz ?_;refine KQ.round (k+1,v') ji ji ⟨rfl,rfl,rfl,rfl,trivial⟩ (fun _ h=>?_);dsimp only;rw[bA hx,bu];exact h.all mH
 ·have sO:k=ns.length:=by omega
  subst sO;rw[List.take_length];refine wx ?_
  have Gc:=eM sp 60 (ns.map r9) (fun y hy=>by
   obtain⟨x,hx,rfl⟩:=aD.1 hy
   exact zE (UL x hx))
  rw[aV,show sp.size=1 from rfl]at Gc;have q6:((⟨#[110,97,109,101,115,32]⟩:ak):ak).size=6:=rfl;refine Z7 ?_;refine KO.ce (cp:=[]) rfl rfl rfl call62 rfl (ra w0 _ _ vo (ns.map r9) sp bE fV ae) ?_;rintro v' L' ⟨rfl,rfl⟩;refine nG ?_;refine fK ?_;refine KQ.a_ rfl rfl (fun w' hs=>⟨_,⟨rfl,rfl⟩,hs.all Y5⟩)
end Go.Proofs.YtjhogocabcdjbabGreatDoor
namespace WB
open Go Go.RowKit
def ac4 (w0:World) (R:List HP->Prop):Exit->Act->World->Prop
 | .normal,a,w| .ret,a,w=>a.defers=[]/\∃M,R M/\St w0 M w
 |_,_,_=>False
section
variable {P:Program} {w0 w:World} {L M:List HP} {R:List HP->Prop} {n:Nat} {D:List Deferred} {G:Env}
theorem Fc{Q:Exit->Act->List Frame->World->Prop}{ops:Array Oper}{i:Nat}{o:Oper}{rest:List Nat}{a:Act}{cs vp:List Frame}{v:Value}(ho:ops[i]? =some o)(hw:Region.wanted o (yielded ops a.tmps)=true)(he:(execOp a.eval o).run P w=.ok .recover w)(hr:recoverD cs=some (v,vp)\/(recoverD cs=none/\v=.nilIface/\vp=cs))(h:wpOpsS P ops Q rest (a.put o.dst v) vp w):wpOpsS P ops Q (i::rest) a cs w:=by
 simp only[wpOpsS,ho,hw,if_true,he];rcases hr with hr|⟨hr,rfl,rfl⟩
 ·rw[hr];exact h
 ·rw[hr];exact h
theorem Fb{Q:Exit->Act->List Frame->World->Prop}{ops:Array Oper}{i:Nat}{o:Oper}{rest:List Nat}{a:Act}{cs:List Frame}{v:Value}(ho:ops[i]? =some o)(hw:Region.wanted o (yielded ops a.tmps)=true)(he:(execOp a.eval o).run P w=.ok (.value v) w)(h:wpOpsS P ops Q rest (a.put o.dst v) cs w):wpOpsS P ops Q (i::rest) a cs w:=by
 simp only[wpOpsS,ho,hw,if_true,he];exact h
theorem Ci{Q:Exit->Act->List Frame->World->Prop}{id t t':Nat}{ty ty':TypeId}{pos pos':String}{af af':Array Edge}{y:Code}{a:Act}{cs vp:List Frame}{v:Value}(hr:recoverD cs=some (v,vp)\/(recoverD cs=none/\v=.nilIface/\vp=cs))(ht:t<a.tmps.size)(h:y.wpS P Q ((a.put (some t) v).put (some t') v) vp w):
 (Code.seq (.region id #[⟨some t,.call ⟨.builtin .recover,#[],#[]⟩,ty,pos,af,none⟩,⟨some t',.assign (.tmp t),ty',pos',af',none⟩] false) y).wpS P Q a cs w:=by
 refine wpS_seq (wpS_region ?_)
 show wpOpsS P _ _ [0,1] a cs w
 refine Fc (o:=⟨some t,.call ⟨.builtin .recover,#[],#[]⟩,ty,pos,af,none⟩) rfl rfl (by simp[execOp,resolve,invoke,builtin]) hr ?_;refine Fb (v:=v) (o:=⟨some t',.assign (.tmp t),ty',pos',af',none⟩) rfl rfl (by simp[execOp,Act.eval,Act.put,Array.getD_eq_getD_getElem?,ht]) ?_;exact h
theorem KD.mk{f:FuncId}{fn:Func}{args:Array Value}{u u2:FrameMode}{id t t':Nat}{ty ty':TypeId}{pos pos':String}{af af':Array Edge}{y:Code}{v:Value}(hf:P.funcs[f]? =some fn)(hb:fn.body=some (Code.seq (.region id #[⟨some t,.call ⟨.builtin .recover,#[],#[]⟩,ty,pos,af,none⟩,⟨some t',.assign (.tmp t),ty',pos',af',none⟩] false) y))(hn:fn.ntmps=n)(cj:args.size<=n)(Qg:fn.results=#[])(ht:Nat.blt t n=true)(ht':Nat.blt t' n=true)(hu:(∃Mi,u=.panicking ({v,recovered:=false}::Mi)/\u2=.panicking ({v,recovered:=true}::Mi))\/(u=.returning/\u2=.returning/\v=.nilIface))(h:K P y (ac4 w0 R) n [] w0 ((t',v)::(t,v)::jW 0 args.toList) L):KD P f args u w0 L (fun u' M=>u'=u2/\R M):=fun w hw=>by
 subst hn;refine callsD_of_wpS hf hb fun c₀ cs hc=>?_
 have hk:=ct.enter cj;have h1:({c₀ with mode:=u2}::cs)=({c₀ with mode:=u2}::cs):=rfl;refine Ci (v:=v) (vp:={c₀ with mode:=u2}::cs) ?_ (by rw[hk.size];simpa[Nat.blt_eq]using ht) ?_
 ·rcases hu with⟨Mi,rfl,rfl⟩|⟨rfl,rfl,rfl⟩
  ·left;simp[recoverD,hc]
  ·right;refine⟨by simp[recoverD,hc],rfl,?_⟩;cases c₀;simp only at hc;subst hc;rfl
 ·refine wpS_of_wp ?_;refine Go.wp_mono (h _ w (fQ (fQ hk v ht) v ht') hw) fun e a w hq=>?_
  cases e with
  |normal=>
   obtain⟨hd,M,hr,hs⟩:=hq;exact⟨hd,u2,rfl,.tuple #[],results_none Qg a.tmps P w,_,M,rfl,⟨rfl,hr⟩,hs⟩
  |ret=>
   obtain⟨hd,M,hr,hs⟩:=hq;exact⟨hd,u2,rfl,.tuple #[],results_none Qg a.tmps P w,_,M,rfl,⟨rfl,hr⟩,hs⟩
  |_=>exact hq.elim
theorem St.owned{w':World}{e:TypeId}{size k:Nat}{v:Value}{xs:List Value}(hb:Below w.heap.size w w')(h:w'.ownsRow w.heap.size e size v k xs):St w [ie e size v k xs] w':=by
 have h0:St w [] w':=(St.init w).aA hb;obtain⟨hl,h⟩:=h;rcases h with⟨rfl,rfl⟩|⟨g,cap,cur,rfl,hg,hc,h1,h2,h3,h4⟩
 ·have :xs=[]:=List.eq_nil_of_length_eq_zero (by simpa using hl);subst this;exact h0.pM
 ·refine {h0 with own:=⟨fun j=>if j=g then some (.cells cur e (0,0))else none,fun j o hj=>?_,?_⟩}
  ·by_cases ej:j=g
   ·subst ej;simp at hj;subst hj;exact⟨hg,hc⟩
   ·simp[ej]at hj
  ·refine⟨fun j=>if j=g then some (.cells cur e (0,0))else none,fun _=>none,fun _=>.inr rfl,?_,⟨hl,.inr ⟨g,cap,cur,rfl,h1,h2,h3,h4,by simp,fun j hj=>by simp[hj]⟩⟩,fun _=>rfl⟩;funext j;simp[nL]
end
section
variable {P:Program} {ops:Array Oper} {d:Bool} {Q:Exit->Act->World->Prop} {n t:Nat} {D:List Deferred} {w0:World} {G:Env} {L:List HP} {l:List (Kd×Oper)} {k:Kd} {ty T T':TypeId} {pos:String} {af:Array Edge} {x:Operand} {ats rs:Array TypeId} {vr:Bool} {f:Fn} {fi cp:Array Value}
theorem KO.ae1(hx:ev G x=some .nilFunc)(hT:P.underlying T=some (.func ats rs vr))(ht:Nat.blt t n=true)(h:KO P ops d Q n D w0 ((t,.bool true)::G) L l):KO P ops d Q n D w0 G L ((k,⟨some t,.binOp .eql T x (.const .nilFunc) T',ty,pos,af,none⟩)::l):=
 KO.val (fun a w ha=>by
  have h1:∀e:Nat,(Op.equalIn (e+1) T .nilFunc .nilFunc).run P w=.ok true w:=fun e=>by simp[Op.equalIn,run_underlying hT]
  simp only[execOp,ha.eval hx,show a.eval (.const .nilFunc)=.nilFunc from rfl]
  simp[go_sem,binOp,Op.equal,Op.maxDepth,h1 9999]) ht h
theorem KO.ae0(hx:ev G x=some (.func f fi cp))(hT:P.underlying T=some (.func ats rs vr))(ht:Nat.blt t n=true)(h:KO P ops d Q n D w0 ((t,.bool false)::G) L l):KO P ops d Q n D w0 G L ((k,⟨some t,.binOp .eql T x (.const .nilFunc) T',ty,pos,af,none⟩)::l):=
 KO.val (fun a w ha=>by
  have h1:∀e:Nat,(Op.equalIn (e+1) T (.func f fi cp) .nilFunc).run P w=.ok false w:=fun e=>by simp[Op.equalIn,run_underlying hT]
  simp only[execOp,ha.eval hx,show a.eval (.const .nilFunc)=.nilFunc from rfl]
  simp[go_sem,binOp,Op.equal,Op.maxDepth,h1 9999]) ht h
end
section
variable {P:Program} {f:FuncId} {args:Array Value} {w0:World} {L L':List HP} {R:Ending->List HP->Prop}
theorem KP.perm(hs:∀w,St w0 L w->St w0 L' w)(h:KP P f args w0 L' R):KP P f args w0 L R:=fun w hw=>h w (hs w hw)
theorem KP.no{Rp:List PanicEntry->List HP->Prop}(h:KP P f args w0 L R)(hr:∀e M,R e M->∃ch,e=.panicked ch/\Rp ch M):KN P f args w0 L Rp:=fun w hw=>
 (h w hw).mono fun _ _ ⟨M,r,s⟩=>let⟨ch,e,rp⟩:=hr _ _ r;⟨ch,M,e,rp,s⟩
end
end WB
namespace Go.Proofs.YtjhogocabcdjbabGreatDoor
open Tryz
open Go Go.RowKit WB
def Bv (b:Nat) (p v:Value) (s:ak) (L:List HP):List HP:=bD b (.cells [p,v].toArray 201 (0,0))::ie 5 1 v s.size (Lib.strCells s)::L
def Bw (b:Nat) (s:ak):HP:=ex fun c:Value×Value=>sep (CP (c.1=.pointer none\/c.1=aZ b)) (gj (Bv b c.1 c.2 s []))
theorem Ed{w0 w:World}{b:Nat}{s:ak}{L:List HP}(h:St w0 (Bw b s::L) w):∃c:{c:Value×Value//c.1=.pointer none\/c.1=aZ b},St w0 (Bv b c.1.1 c.1.2 s L) w:=by
 obtain⟨c,h⟩:=h.B9;obtain⟨hc,h⟩:=h.split.qQ;exact⟨⟨c,hc⟩,by have :=h.splits;exact this⟩
theorem NT{w0 w:World}{b:Nat}{p v:Value}{s:ak}{L:List HP}(hc:p=.pointer none\/p=aZ b)(h:St w0 (Bv b p v s L) w):St w0 (Bw b s::L) w:=
 St.Bk (F:=fun c:Value×Value=>sep (CP (c.1=.pointer none\/c.1=aZ b)) (gj (Bv b c.1 c.2 s []))) (p,v) (St.join (St.u5 hc (St.zO (L:=Bv b p v s []) h)))
theorem CV{w0 w:World}{L:List HP}{e:TypeId}{sz:Nat}{v:Value}{n:Nat}{xs:List Value}(h:St w0 (ie e sz v n xs::L) w):∃a cap,v=.slice a n cap:=by
 rcases h.cr with⟨rfl,rfl,-⟩|⟨g,cap,cur,rfl,-⟩
 ·exact⟨none,0,rfl⟩
 ·exact⟨_,cap,rfl⟩
theorem AJ(s t:ak):Lib.strCells (s++t)=Lib.strCells s++Lib.strCells t:=by unfold Lib.strCells;simp
theorem afa(w0:World)(L:List HP)(b:Nat)(p v:Value)(hp:p=.pointer none\/p=aZ b):KC prog 201 #[aZ b] w0 (bD b (.cells [p,v].toArray 201 (0,0))::L) (fun u M=>u=.tuple #[]/\M=bD b (.cells [aZ b,v].toArray 201 (0,0))::L):=fun w hw=>by
 have hl:=hw.look.2;have c0:w.cell? ⟨b,0,none⟩=some p:=by rw[World.cell?,hl];rfl
 rcases hp with rfl|rfl
 ·refine(Any.Builder_copyCheck_fresh (ρ:=Tryz.lays156_ren) {Tryz.lays156 with} Tryz.Builder_Extra_156.toX72 b w c0 (by simp[World.shape?,hl];rfl) (by simp[World.frozen?,hl])).mono ?_;rintro e w' ⟨rfl,rfl⟩;exact⟨_,_,rfl,⟨rfl,rfl⟩,hw.setCell (off:=0) (aZ b)⟩
 ·refine(Any.Builder_copyCheck_used (ρ:=Tryz.lays156_ren) {Tryz.lays156 with} Tryz.Builder_Extra_156.toX72 b w c0).mono ?_;rintro e w' ⟨rfl,rfl⟩;exact⟨_,_,rfl,⟨rfl,rfl⟩,hw⟩
theorem acy(w0:World)(L:List HP)(b:Nat)(s t:ak)(hs:s.size+t.size<=140737488355328):KC prog 115 #[aZ b,.string t] w0 (Bw b s::L) (fun u M=>M=Bw b (s++t)::L):=by
 refine KC.mk (n:=19) func115 rfl ntmps115 aj ?_;refine oQ ?_;refine K.cg (fun _ h=>Ed h) ?_;rintro⟨⟨p,v⟩,hp⟩;dsimp only at hp;simp only[Bv];refine K.fact (fun w hw=>CV (hw.pick (A:=ie 5 1 v s.size (Lib.strCells s)) aX)) ?_;rintro⟨a,cap,rfl⟩;refine dC ?_;refine Z8 ?_;refine kQ ?_;refine KO.cl (cp:=[]) rfl rfl rfl call201 rfl (afa w0 _ b p _ hp) ?_;rintro v' L' ⟨rfl,rfl⟩;refine Z0 ?_;refine vC ?_;refine KO.ij (off:=1) rfl runUnderlying201 rfl rfl sizeOf199 rfl ?_;refine KO.di (i:=1) rfl rfl isAgg199 bE rfl rfl rfl ?_;refine Z1 ?_;refine KO.VW (m:=s.size) (xs:=Lib.strCells s) rfl rfl rfl aX underlying199 underlying9 bm hs rfl ?_;intro XJ;refine KO.fact (fun w hw=>CV hw) ?_;rintro⟨a2,c2,rfl⟩;refine lb ?_;refine KO.ij (off:=1) rfl runUnderlying201 rfl rfl sizeOf199 rfl ?_;refine KO.iA (b:=b) (i:=1) rfl rfl rfl rfl (by exact sizeOf199) rfl aX rfl aj ?_;refine oy ?_;refine ze ?_;refine nE ?_;refine KQ.ef rfl rfl rfl (fun w' aY=>⟨_,_,rfl,rfl,NT (p:=aZ b) (v:=.slice a2 (s.size+t.size) c2) (.inr rfl) ?_⟩);unfold Bv;rw[aB,AJ];exact aY.all mH
theorem afc(w0:World)(L:List HP)(b bd:Nat)(s:ak):KC prog 117 #[aZ b] w0 (Bw b s::bD bd (.deferred (some []))::L) (fun u M=>u=.string s/\M=[bD bd (.deferred (some []))]):=fun w hw=>by
 obtain⟨⟨⟨p,v⟩,hp⟩,hs⟩:=Ed hw;dsimp only at hp hs;unfold Bv at hs;have h1:=hs.look;have h2:=(hs.pick (A:=ie 5 1 v s.size (Lib.strCells s)) (.tail .head)).o8;have kF:v.ownBlock≠some b:=by
  rcases(hs.pick (A:=ie 5 1 v s.size (Lib.strCells s)) (.tail .head)).cr with⟨rfl,-⟩|⟨g,cap,cur,rfl,-,-,-,-,-,h3⟩
  ·simp[Value.ownBlock]
  ·have :=h3.ne;simp[Value.ownBlock,this]
 have key:Lib.IsBuilder 201 5 w0.heap.size b (Lib.byteCells s.data.toList) w:=by
  have hb:Lib.BuilderAt 201 5 w0.heap.size b p (Lib.byteCells s.data.toList) w:=⟨h1.1,v,h1.2,by
   have e:(Lib.byteCells s.data.toList).length=s.size:=by unfold Lib.byteCells;simp
   rw[e];exact h2,kF⟩
  rcases hp with rfl|rfl
  ·exact .inl hb
  ·exact .inr hb
 have hd:=hs.pick (A:=bD bd (.deferred (some []))) (.tail (.tail .head));have me:=hd.look;have hdb:bd≠b:=fun e=>by
  subst e;have :=h1.2.symm.trans me.2;cases this
 refine(Tryz.Builder_String_any_k w0.heap.size b s.data.toList w (Lib.IsBuilderF.of key) hw.size).mono ?_;rintro e w' ⟨rfl,-,hb,hk⟩;have h9:w'.heap[bd]? =some (.deferred (some [])):=hk bd _ me.2 (by simpa using hdb) (fun _ _ h=>by cases h);refine⟨_,_,rfl,⟨rfl,rfl⟩,hb.os.trans hw.os,hb.tape.trans hw.tape,hb.output.trans hw.output,Nat.le_trans hw.size hb.size,fun k hk=>(hb.block k hk).trans (hw.block k hk),fun j=>if j=bd then some (.deferred (some []))else none,fun j o hj=>?_,?_⟩
 ·by_cases ej:j=bd
  ·subst ej;simp at hj;subst hj;exact⟨me.1,h9⟩
  ·simp[ej]at hj
 ·refine⟨fun j=>if j=bd then some (.deferred (some []))else none,fun _=>none,fun _=>.inr rfl,?_,⟨by simp,fun j hj=>by simp[hj]⟩,fun _=>rfl⟩;funext j;simp[nL]
theorem O9(w0:World)(L:List HP)(s:ak)(hs:s.size<=100000000):KE prog 114 #[.string s,.string ⟨#[10]⟩] w0 L (fun u M=>u=.string (hI s)/\M=L):=KE.bB fun w hw=>
 (Tryz.strings_TrimSuffix s ⟨#[10]⟩ w ae).mono fun e w' h=>⟨h.1,by rw[h.2];exact Below.refl _ _⟩
theorem XT(w:World):PredAt prog 204 #[] encR (fun r=>r==32) w:=fun W x _=>by
 show Calls prog 204 #[encR x] W _
 unfold encR
 go_enter func204,ntmps204
 go_wp2
 go_ret
 refine⟨?_,0,rfl⟩;have e1:((x:Int)==32)=(x==32):=by rw[Bool.eq_iff_iff];simp;omega
 rw[<-e1];rfl
theorem aeT(w0:World)(L:List HP)(s:ak)(hs:s.size<=100000000):KE prog 203 #[.string s,.func (.func 204) #[] #[]] w0 L (fun u M=> ∃b,u=.slice (some ⟨b,0,none⟩) (qi s).length (qi s).length/\M=iR u (qi s)::L):=fun w hw=>by
 refine(Tryz.strings_FieldsFunc 204 #[] call204 (fun r=>r==32) s w ae (XT w)).mono ?_;rintro e w' ⟨A,rfl,-,ho,hb⟩;refine⟨_,_,rfl,⟨A,rfl,rfl⟩,?_,hb⟩;have h1:=hw.stack (St.owned hb ho);have e1:(qi s).flatMap fI=(qi s).map Value.string:=by
  unfold fI
  induction qi s with
  |nil=>rfl
  |cons a l ih=>simp[ih]
 show St w0 (ie 9 1 _ (qi s).length ((qi s).flatMap fI)::L) w'
 rw[e1];exact h1
theorem Rc(w0:World)(L:List HP)(b:Nat)(v0:Value)(k:Int)(hk:jG k)(hT:nI w0):KD prog 202 #[aZ b] (.panicking (zj k)) w0 (bD b (.cells [v0].toArray 9 (0,0))::L) (fun u M=>u=.panicking [{v:=.iface 289 (.agg #[.int .i64 k]),recovered:=true}]/\M=bD b (.cells [.string (pC (.er k))].toArray 9 (0,0))::L):=by
 have hi:=bJ hk;refine KD.mk (n:=19) (v:=.iface 289 (.agg #[.int .i64 k])) func202 rfl ntmps202 aj rfl rfl rfl (.inl ⟨[],rfl,rfl⟩) ?_;refine gU ?_;refine zc ?_;refine BD ?_;refine gU ?_;refine KO.taY rfl bm rfl ?_;refine Cb ?_;refine KO.alloc rfl zeroValue289 aL rfl ?_;intro b2;refine KO.lC rfl rfl rfl aL (by exact sizeOf289) aL bE aL ?_;refine kQ ?_;refine oY ?_;refine BB ?_;refine ES ?_;refine dC ?_;refine KO.ij (off:=0) rfl runUnderlying289 rfl rfl sizeOf70 rfl ?_;refine KO.ld rfl rfl isAgg70 bE aL rfl ?_;refine KO.ce (cp:=[]) rfl rfl rfl call59 rfl (fF w0 _ k hT hk) ?_;rintro v' L' ⟨rfl,rfl⟩;refine KO.cat rfl rfl (by show 6+_<=_;omega) rfl ?_;refine KO.iA (b:=b) (i:=0) rfl rfl rfl rfl WL rfl aX rfl aj ?_;refine KO.nil ?_;exact fun a w ha hw=>⟨ha.defers,_,rfl,hw.all Y5⟩
theorem Re(w0:World)(L:List HP)(b:Nat):KD prog 202 #[aZ b] .returning w0 L (fun u M=>u=.returning/\M=L):=by
 refine KD.mk (n:=19) (v:=.nilIface) func202 rfl ntmps202 aj rfl rfl rfl (.inr ⟨rfl,rfl,rfl⟩) ?_;refine gU ?_;refine qo ?_;refine BB ?_;refine vI ?_;exact fun a w ha hw=>⟨ha.defers,_,rfl,hw⟩
def Xw:List FuncId:=[279,280,281,282,283,284,285,286,287,288,289,290,291,292,293,294,295,296,297,298,112]
def VF (b:Nat) (s:ak):Value:=match nA.findIdx? (fun x=>decide (x=s))with
 |none=>.nilFunc
 |some i=>.func (.func (Xw.getD i 0)) #[aZ b] #[]
theorem ae6:∀i,i<21->yP i (Xw.getD i 0)
 |0,_=>Q6|1,_=>Q0|2,_=>J2|3,_=>VD|4,_=>Gz|5,_=>VB|6,_=>QZ|7,_=>QW|8,_=>J0|9,_=>QV|10,_=>QU
 |11,_=>QT|12,_=>NG|13,_=>Vx|14,_=>Gw|15,_=>QS|16,_=>ND|17,_=>NC|18,_=>JX|19,_=>NB|20,_=>NI
 |i+21,h=>absurd h ae
theorem Tc:∀i,i<21->∀args w,(callFunc (Xw.getD i 0) args).run prog w=.ok (.enter (Xw.getD i 0) args) w
 |0,_=>call279|1,_=>call280|2,_=>call281|3,_=>call282|4,_=>call283|5,_=>call284|6,_=>call285
 |7,_=>call286|8,_=>call287|9,_=>call288|10,_=>call289|11,_=>call290|12,_=>call291|13,_=>call292
 |14,_=>call293|15,_=>call294|16,_=>call295|17,_=>call296|18,_=>call297|19,_=>call298|20,_=>call112
 |i+21,h=>absurd h ae
def Q8 (b:Nat):Nat->List (ak×Value)
 |0=>[]
 |i+1=>kj (Q8 b i) (nA.getD i default) (.func (.func (Xw.getD i 0)) #[aZ b] #[])
theorem D8(b:Nat)(s:ak):∀n,n<=21->(gC (Q8 b n) s).getD .nilFunc=match (nA.take n).findIdx? (fun x=>decide (x=s))with|none=>.nilFunc|some i=>.func (.func (Xw.getD i 0)) #[aZ b] #[]
 |0,_=>rfl
 |n+1,h=>by
  have ih:=D8 b s n ae;have hl:n<nA.length:=by show n<21;omega
  have e1:nA.getD n default=nA[n]:=by rw[aq,ao hl];rfl
  rw[List.take_succ_eq_append_getElem hl,List.findIdx?_append];unfold Q8;rw[tQ,e1];by_cases hs:nA[n]=s
  ·rw[if_pos hs];have og:(nA.take n).findIdx? (fun x=>decide (x=s))=none:=by
    rw[List.findIdx?_eq_none_iff];intro x hx;obtain⟨j,hj,rfl⟩:=List.getElem_of_mem hx;have F7:nA.Nodup:=by decide
    rw[List.getElem_take];simp only[decide_eq_false_iff_not];intro e;have E6:j<n:=by rw[bp]at hj;omega
    have :=(List.getElem_inj F7).1 (e.trans hs.symm);omega
   rw[og];have :(nA.take n).length=n:=by rw[bp];omega
   simp[hs,this,List.findIdx?_cons]
  ·rw[if_neg hs,ih];cases hf:(nA.take n).findIdx? (fun x=>decide (x=s))with
   |none=>simp[hs,List.findIdx?_cons]
   |some i=>simp
theorem Vz(w0:World)(L:List HP)(b:Nat)(s:ak):KE prog 205 #[aZ b,.string s] w0 L (fun u M=>u=VF b s/\M=L):=by
 have hd:(gC (Q8 b 21) s).getD .nilFunc=VF b s:=D8 b s 21 (aC _);refine KE.mk (n:=51) func205 rfl ntmps205 aj ?_;intro w hw;refine Z2 ?_;refine qm ?_;refine KO.mkm (Value.string) rfl rfl ?_;intro b5;refine zb ?_;refine zb ?_;refine zb ?_;refine zb ?_;refine zb ?_;refine zb ?_;refine zb ?_;refine zb ?_;refine zb ?_;refine zb ?_;refine Wu ?_;refine jh ?_;refine KO.Jl fj _ rfl rfl rfl underlying360 underlying9 zeroValue197 bE rfl ?_;refine fK ?_;refine KQ.a_ rfl rfl (fun w' hs=>⟨_,_,rfl,⟨hd,rfl⟩,hw.aA hs.below,hs.below⟩)
theorem Pu{w0 w:World}{R:List HP}{g cap:Nat}{c:ak}{ws:List ak}(h:St w0 (iR (.slice (some ⟨g,0,none⟩) (c::ws).length cap) (c::ws)::R) w):oS w 1 fI (.slice (some (cutAt g 1 1 cap)) ws.length (cap-1)) ws:=by
 refine⟨_,_,rfl,fun i x hx=>⟨_,rfl,?_⟩⟩;obtain⟨h1,h2⟩:=B1 h;have hi:=(au.1 hx).1;simp only[List.length_cons]at h2;unfold cutAt;rw[if_neg ae];intro j cc hj;cases j with
 |succ j=>simp[fI]at hj
 |zero=>
  have :=lW (sz:=1) (fun _=>rfl) h (i:=i+1) (e:=x) (by simpa using hx) 0 ae;simp[fI]at hj;subst hj;rw[Addr.add_lit,Addr.add_lit];rw[show 1*1+i *1+0=(i+1)*1+0 by omega,this];rfl
theorem Q7{W:Wo}{i:Nat}{ws:List ak}{k:Int}(h:(cX i W ws).2=.er k):eB k:=by
 have e2:eB 2:=by unfold eB;decide
 have e3:eB 3:=by unfold eB;decide
 have n1:∀{a:ak} {f:Int->Wo×Out},(∀x,(f x).2=.er k->eB k)->(fu W a f).2=.er k->eB k:=fun hf h=>by
  unfold fu at h;split at h
  ·exact hf _ h
  ·cases h;exact e3
 have nH:∀{q:Int} {f:Nat->Wo×Out},(∀x,(f x).2=.er k->eB k)->(EY W q f).2=.er k->eB k:=fun hf h=>by
  unfold EY at h;split at h
  ·exact hf _ h
  ·cases h;exact e2
 have nF:∀{W':Wo} {e:Int} {s:ak},eB e->(dj W' e s).2=.er k->eB k:=fun he h=>by
  unfold dj at h;split at h
  ·cases h
  ·cases h;exact he
 unfold cX at h;split at h
 ·exact n1 (fun _=>n1 fun _=>nH fun _=>nF (S_ _)) h
 ·refine n1 (fun x h=>?_) h;split at h
  ·cases h;exact e2
  ·cases h
 ·exact n1 (fun _=>n1 fun _=>nH fun _=>nF (S9 _)) h
 ·exact n1 (fun _=>n1 fun _=>n1 fun _=>nF (Bn _)) h
 ·exact n1 (fun _=>nF (An _)) h
 ·exact n1 (fun _=>n1 fun _=>nH fun _=>nF (NA _ _)) h
 ·cases h
 ·exact n1 (fun _=>nH fun _ h=>by cases h) h
 ·cases h
 ·exact n1 (fun _=>nF (An _)) h
 ·cases h
 ·exact n1 (fun _=>n1 fun _=>nH fun _=>nF (Iv _)) h
 ·exact n1 (fun _=>nH fun _ h=>by cases h) h
 ·exact n1 (fun _=>n1 fun _=>n1 fun _=>nH fun _=>nF (Nz _ _ _ _)) h
 ·exact n1 (fun _=>nF (Bn _)) h
 ·exact n1 (fun _=>n1 fun _=>nF (S8 _ _)) h
 ·exact n1 (fun _=>nH fun _=>nF (D4 _)) h
 ·exact n1 (fun _=>nF (An _)) h
 ·exact n1 (fun _=>nH fun _=>nF (S7 _)) h
 ·exact n1 (fun _=>n1 fun _=>nH fun _=>nF (S6 _)) h
 ·refine n1 (fun x h=>?_) h;split at h
  ·cases h
  ·cases h;exact e2
 ·cases h;exact e3
theorem Vv{k:Int}(h:eB k):jG k:=⟨by have :=h.1;omega,by have :=h.2;omega⟩
theorem Uo(w0:World)(N:List HP)(b p:Nat)(W:Wo)(s:ak)(hT:nI w0)(hM:oB w0)(hg:c8 w0)(hS:yF w0)(h:DI p W)(hp:p<=2005)(hs:s.size<=100000000):
 KC prog 116 #[aZ b,.string s] w0 (lx b W::N) (fun u M=>u=.string (pC (kB W s).2)/\M=lx b (kB W s).1::N):=by
 obtain⟨-,cj⟩:=Nt s;have fin:∀{e:Exit} {G:Env} (b4:Nat) (W':Wo) (t:ak) (L:List HP),(e=.ret\/e=.normal)->cF G 4=some (.pointer (some ⟨b4,0,none⟩))->(∀w,St w0 L w->St w0 (bD b4 (.cells [.string t].toArray 9 (0,0))::lx b W'::N) w)->kB W s=(W',.ok t)->
  KQ (bodyPostD prog Tryz.f116 (R5 w0 fun u M=>u=.string (pC (kB W s).2)/\M=lx b (kB W s).1::N)) e 26 [{target:=.fn (.func 202) #[aZ b4],args:=#[]}] w0 G L:=fun b4 W' t L he hG hL hd=>by
  refine KQ.leave (ch:=[]) (fi:=#[]) (cp:=#[aZ b4]) (u:=.returning) (R2:=fun M=>M=L) (by rcases he with rfl|rfl<;>simp) call202 (fun w hw=>?_) ?_
  ·refine(Re w0 L b4 w (by simpa using hw)).mono ?_;rintro e' u' w' ⟨v,M,rfl,⟨rfl,rfl⟩,aY⟩;exact⟨v,_,rfl,⟨rfl,rfl⟩,aY⟩
  ·rintro M rfl;refine⟨.string t,fun a w ha hw=>Sx rfl hG isAgg9 .head a w ha (hL w hw),fun w hw=>⟨_,_,rfl,?_,(hL w hw).drop⟩⟩;rw[hd];exact⟨rfl,rfl⟩
 have Z_:∀{G:Env} (b4:Nat) (W':Wo) (v0:Value) (k:Int) (L:List HP),eB k->cF G 4=some (.pointer (some ⟨b4,0,none⟩))->(∀w,St w0 L w->St w0 (bD b4 (.cells [v0].toArray 9 (0,0))::lx b W'::N) w)->kB W s=(W',.er k)->
  KQ (bodyPostD prog Tryz.f116 (R5 w0 fun u M=>u=.string (pC (kB W s).2)/\M=lx b (kB W s).1::N)) (.panic (zj k)) 26 [{target:=.fn (.func 202) #[aZ b4],args:=#[]}] w0 G L:=fun {G} b4 W' v0 k L hk hG hL hd=>by
  refine KQ.conv hL ?_
  refine KQ.leave (ch:=zj k) (fi:=#[]) (cp:=#[aZ b4]) (u:=.panicking (zj k)) (R2:=fun M=>M=bD b4 (.cells [.string (pC (.er k))].toArray 9 (0,0))::lx b W'::N) aj call202 (fun w hw=>?_) ?_
  ·refine(Rc w0 (lx b W'::N) b4 v0 k (Vv hk) hT w (by simpa using hw)).mono ?_;rintro e' u' w' ⟨v,M,rfl,⟨rfl,rfl⟩,aY⟩;exact⟨v,_,rfl,⟨rfl,rfl⟩,aY⟩
  ·rintro M rfl;refine⟨.string (pC (.er k)),fun a w ha hw=>Sx rfl hG isAgg9 .head a w ha hw,fun w hw=>⟨_,_,rfl,?_,hw.drop⟩⟩;rw[hd];exact⟨rfl,rfl⟩
 refine KC.Kv (n:=26) func116 rfl ntmps116 aj ?_;refine Z2 ?_;refine KO.alloc rfl zeroValue9 aL rfl ?_;intro b4;refine E9 ?_;refine Ep ?_;refine KO.dfr rfl rfl ?_;refine oy ?_;refine KO.ce (cp:=[]) rfl rfl rfl call203 rfl (aeT w0 _ s hs) ?_;rintro v' L' ⟨bf,rfl,rfl⟩;refine jH ?_;have me:kB W s=match qi s with|[]=>(W,.ok (⟨#[111,107]⟩:ak))|c::w=>match nA.findIdx? (fun x=>decide (x=c))with|none=>(W,.er 3)|some i=>cX i W w:=rfl
 generalize hf:qi s=ws at me cj;cases ws with
 |nil=>
  refine Z7 ?_;refine Hc ?_;refine IC ?_;refine BD ?_;refine Z2 ?_;refine KO.lC rfl rfl rfl aL WL aL aX aL ?_;refine Z3 ?_;exact fin b4 W _ _ (.inl rfl) rfl (fun w hw=>hw.all Y5) me
 |cons c w=>
 refine Z7 ?_;refine Hc ?_;refine sI ?_;refine BE ?_;refine Z6 ?_;refine iw ?_;refine KO.eN (i:=0) rfl rfl runUnderlying115 sizeOf9 rfl aj rfl ?_;refine KO.fJ (i:=0) (sz:=1) (cf:=fI) (e:=c) rfl rfl isAgg9 bE (fun _=>rfl) rfl aj aL rfl ?_;refine KO.ce (cp:=[]) rfl rfl rfl call205 rfl (Vz w0 _ b c) ?_;rintro v' L' ⟨rfl,rfl⟩;refine jH ?_;dsimp only at me;unfold VF;cases hi:nA.findIdx? (fun x=>decide (x=c))with
 |none=>
  rw[hi]at me;dsimp only;refine Z7 ?_;refine KO.ae1 rfl underlying197 rfl ?_;refine BD ?_;refine dC ?_;refine rC ?_;refine KO.aan (fi:=[]) (cp:=[]) rfl rfl call198 (H5 w0 _ hg) ?_;rintro c' M ⟨rfl,rfl⟩
  repeat(refine KQ.wJ ?_)
  exact Z_ b4 W _ 3 _ (by unfold eB;decide) rfl (fun w hw=>hw.all Y5) me
 |some i=>
  rw[hi]at me;dsimp only at me ⊢;have U4:i<21:=(List.findIdx?_eq_some_iff_getElem.1 hi).1;refine Z7 ?_;refine KO.ae0 rfl underlying197 rfl ?_;refine yr ?_;have hc:Tq w0 p W (iR (.slice (some ⟨bf,0,none⟩) (c::w).length (c::w).length) (c::w)) (some (cutAt bf 1 1 (c::w).length)) ((c::w).length-1) w:=⟨hT,hM,hg,hS,h,hp,fun w1 w R hw=>Pu hw,fun x hx=>by have :=(cj x sR).2;omega⟩;have hk:=ae6 i U4 w0 (bD b4 (.cells [.string ⟨#[]⟩].toArray 9 (0,0))::N) _ b p _ _ w W hc;have qB:=KP.perm (L:=iR (.slice (some ⟨bf,0,none⟩) (c::w).length (c::w).length) (c::w)::lx b W::bD b4 (.cells [.string ⟨#[]⟩].toArray 9 (0,0))::N) (L':=_) ?perm hk
  case perm=>exact fun w hw=>hw.all Y7
  cases ho:(cX i W w).2 with
  |ok t=>
   rw[ho]at qB;refine aaR ?_;refine KO.cl (fi:=[aZ b]) (cp:=[]) rfl rfl rfl (Tc i U4) rfl (KP.c (KP.perm (fun w hw=>hw.all Y7) qB) (Rv:=fun v M=>v=.string t/\M=_) (fun e M ⟨h1,h2⟩=>⟨_,h1,rfl,h2⟩)) ?_;rintro v' L' ⟨rfl,rfl⟩;refine KO.lC rfl rfl rfl aL WL aL aX aL ?_;refine Z4 ?_;exact fin b4 _ t _ (.inl rfl) rfl (fun w hw=>hw.all Y5) (me.trans (by rw[<-ho]))
  |er k=>
   rw[ho]at qB;refine aaR ?_;refine KO.aan (fi:=[aZ b]) (cp:=[]) rfl rfl (Tc i U4) (KP.no (KP.perm (fun w hw=>hw.all Y7) qB) (Rp:=fun c M=>c=zj k/\M=_) (fun e M ⟨h1,h2⟩=>⟨_,h1,rfl,h2⟩)) ?_;rintro c' M ⟨rfl,rfl⟩
   repeat(refine KQ.wJ ?_)
   exact Z_ b4 _ _ k _ (Q7 ho) rfl (fun w hw=>hw.all Y5) (me.trans (by rw[<-ho]))
end Go.Proofs.YtjhogocabcdjbabGreatDoor
namespace WB
open Go
theorem Fm(s:ak):(hI s).size<=s.size:=by
 unfold hI Lib.trimSuffix;split
 ·show(s.data.toList.take _).toArray.size<=s.data.size
  rw[List.size_toArray,bp,Array.length_toList];omega
 ·show s.data.toList.toArray.size<=s.data.size
  rw[List.size_toArray,Array.length_toList];exact aC _
theorem rQ(l m:List ak):ke (l++m)=ke l+ke m:=by unfold ke;simp
theorem Lf(l:List ak):l.length<=ke l:=by
 induction l with
 |nil=>exact aR _
 |cons a l ih=>rw[mN,List.length_cons];omega
theorem Ma(c:UInt8):∀l:List UInt8,((pieces c l).map fun x=>x.length+1).sum=l.length+1:=by
 intro l
 induction l with
 |nil=>rfl
 |cons b l ih=>
  by_cases h:b=c
  ·subst h;rw[pieces_eq];simp[ih];omega
  ·obtain⟨q,qs,e⟩:=List.exists_cons_of_ne_nil (mX c l);rw[gJ h e];rw[e]at ih;simp at ih ⊢;omega
theorem PY(s:ak):ke (cH 10 s)=s.size+1:=by
 have :=Ma 10 s.data.toList;unfold ke cH;rw[List.map_map];have e:((fun x:ak=>x.size+1)∘toB)=fun x:List UInt8=>x.length+1:=by
  funext x
  show x.toArray.size+1=_
  rw[List.size_toArray]
 rw[e,this];rfl
theorem Mz{l:List ak}{k:Nat}{q:ak}(h:l[k]? =some q):ke (l.take k)+(q.size+1)<=ke l:=by
 have h1:ke (l.take (k+1))=ke (l.take k)+(q.size+1):=by rw[bA h,rQ];simp[ke]
 have h2:=rQ (l.take (k+1)) (l.drop (k+1));rw[List.take_append_drop]at h2;omega
theorem IM(l:List ak)(k:Nat):ke (l.take k)<=ke l:=by
 have h2:=rQ (l.take k) (l.drop k);rw[List.take_append_drop]at h2;omega
theorem D9(l:List ak):∀k,ke l<=2005->DI (ke (l.take k)) (iq (eE 2,⟨#[]⟩) (l.take k)).1/\(iq (eE 2,⟨#[]⟩) (l.take k)).2.size<=9000001*k
 |0,_=>⟨DI.new ae,aR _⟩
 |k+1,h=>by
  obtain⟨h1,h2⟩:=D9 l k h;have hl:=IM l k;cases hq:l[k]? with
  |none=>
   have SO:=List.getElem?_eq_none_iff.1 hq;rw[List.take_of_length_le SO]at h1 h2;rw[List.take_of_length_le ae];exact⟨h1,by omega⟩
  |some q=>
   have hs:=Iy h1 ae q;rw[bA hq,rm];refine⟨?_,?_⟩
   ·have e:ke (l.take k++[q])=ke (l.take k)+(q.size+1):=by rw[rQ];simp[ke]
    rw[e];exact hs.1
   ·show((iq (eE 2,⟨#[]⟩) (l.take k)).2++(pC _++⟨#[10]⟩)).size<=_
    have :=hs.2;rw[aB,aB];have e1:(⟨#[10]⟩:ak).size=1:=rfl;omega
end WB
namespace Go.Proofs.YtjhogocabcdjbabGreatDoor
open Tryz
open Go Go.RowKit WB
def acN (b3 b4 bd:Nat) (ls:List ak) (k:Nat) (M:List HP):Prop:=M=[Bw b4 (iq (eE 2,⟨#[]⟩) (ls.take k)).2,lx bd (iq (eE 2,⟨#[]⟩) (ls.take k)).1,bD b3 (.cells [aZ bd].toArray 194 (0,0))]
theorem QH{b:Nat}{A:HP}{N L:List HP}(h2:∀W,cX 20 W [(⟨#[50]⟩:ak)]=(eE 2,.ok (⟨#[119,111,114,108,100]⟩:ak)))(e:Ending)(M:List HP)(h:(∃n:Nat,1<=n/\n<=4/\(∀W,cX 20 W [(⟨#[50]⟩:ak)]=(eE n,.ok (⟨#[119,111,114,108,100]⟩:ak)))/\e=.returned (.string (⟨#[119,111,114,108,100]⟩:ak))/\M=lx b (eE n)::A::N)\/∃k,(∀W,cX 20 W [(⟨#[50]⟩:ak)]=(W,.er k))/\e=.panicked (zj k)/\M=L):
 ∃v,e=.returned v/\M=lx b (eE 2)::A::N:=by
 rcases h with⟨n,-,-,e1,rfl,rfl⟩|⟨k,e1,-,-⟩
 ·have e:=congrArg Prod.fst ((e1 (eE 2)).symm.trans (h2 _));dsimp only at e;exact⟨_,rfl,by rw[e]⟩
 ·have :=congrArg Prod.snd ((e1 (eE 2)).symm.trans (h2 _));cases this
theorem I2(w0:World)(L:List HP)(s:ak)(DT:nI w0)(Gl:oB w0)(hg0:c8 w0)(hS0:∀w,yF w)(hs:s.size<=2003\/20000<s.size/\s.size<=100000000):KE prog 41 #[.string s] w0 L (fun u M=>u=.string (AO s)/\M=L):=by
 refine KE.mkM (n:=24) func41 rfl ntmps41 aj ?_;intro w hw;have hT:=DT.ext (Ext.bB hw.below);have hM:=Gl.ext (Ext.bB hw.below);have hg:=(Ext.bB hw.below).cell hg0;have hS:=hS0 w;refine iG ?_;refine ze ?_;refine yB ?_;refine Z5 ?_;by_cases Vd:20000<s.size
 ·refine K.cA rfl fV ?_;refine vH ?_;refine KQ.aac (fun a w ha _=>Yi rfl rfl a w ha) (fun w' hs=>⟨_,_,rfl,⟨?_,rfl⟩,hw.aA hs.below,hs.below⟩);unfold AO;rw[if_pos Vd]
 have SJ:s.size<=2003:=by omega
 refine BE ?_;refine oR ?_;refine KO.sE (pl:=[(0,1)]) rfl zeroValue196 runUnderlying196 (by intro w;simp[sizeOf55]) aL rfl ?_;refine KO.box rfl rfl aL rfl ?_;intro Az;refine KO.alloc rfl zeroValue194 aL rfl ?_;intro b3;refine KO.lC rfl rfl rfl aL (by exact sizeOf194) aL bE aL ?_;refine Z0 ?_;have h2:∀W,cX 20 W [(⟨#[50]⟩:ak)]=(eE 2,.ok (⟨#[119,111,114,108,100]⟩:ak)):=fun W=>(b0 (k:=2) (by decide+kernel)).trans (if_pos ae)
 have hdc:∀VT:Nat,Tq w 0 (eE 2) (bD VT (.cells [Value.string (⟨#[50]⟩:ak)].toArray 9 (0,0))) (some ⟨VT,0,none⟩) 1 [(⟨#[50]⟩:ak)]:=fun VT=>
  ⟨hT,hM,hg,hS,DI.new ae,aR _,fun w1 w' R hw'=>dz (vs:=[Value.string (⟨#[50]⟩:ak)]) (xs:=[(⟨#[50]⟩:ak)]) .head rfl hw',fun x hx=>by simp at hx;subst hx;decide⟩
 refine dC ?_;refine KO.ld rfl rfl isAgg194 bE aL rfl ?_;refine KO.iN (z:=Value.string ⟨#[]⟩) (sz:=1) (cV:=16) (cs:=[Value.string ⟨#[50]⟩]) rfl rfl underlying115 bm aL aL ai ai rfl ?_;intro VT;refine KO.cl (cp:=[]) rfl rfl rfl call112 rfl (KP.c (KP.perm (fun w' hw'=>hw'.all Y7) (Is w [bD b3 (.cells [aZ Az].toArray 194 (0,0))] _ Az 0 _ _ _ (eE 2) (hdc VT) (.pointer none))) (Rv:=fun v M=>M=lx Az (eE 2)::bD VT (.cells [Value.string (⟨#[50]⟩:ak)].toArray 9 (0,0))::[bD b3 (.cells [aZ Az].toArray 194 (0,0))]) (QH h2)) ?_;rintro v' L' rfl;refine E9 ?_;refine KO.alloc rfl zeroValue201 aL rfl ?_;intro b4;refine Z0 ?_;refine K.conv (L':=Bw b4 ⟨#[]⟩::lx Az (eE 2)::[bD b3 (.cells [aZ Az].toArray 194 (0,0))]) (fun w' hw'=>?_) ?_
 ·refine NT (p:=.pointer none) (v:=.slice none 0 0) (.inl rfl) ?_;unfold Bv;exact(St.pM (e:=5) (size:=1) hw').all (M:=bD b4 (.cells [Value.pointer none,Value.slice none 0 0].toArray 201 (0,0))::ie 5 1 (.slice none 0 0) 0 []::lx Az (eE 2)::[bD b3 (.cells [aZ Az].toArray 194 (0,0))]) Y8
 refine Z7 ?_;refine KO.ce (cp:=[]) rfl rfl rfl call114 rfl (O9 w _ s ae) ?_;rintro v' L' ⟨rfl,rfl⟩;refine KO.ce (cp:=[]) rfl rfl rfl call113 rfl (Sg w _ (hI s) ⟨#[10]⟩) ?_;rintro v' L' ⟨i4,i3,i5,rfl,rfl⟩;refine Tn ?_;have htr:=Fm s;have hlen:=PY (hI s);refine K.CJ (acN b3 b4 Az (cH 10 (hI s))) (fun _=>False) (G2:=fun q=>[(5,.string q),(3,.pointer (some ⟨b3,0,none⟩)),(4,.pointer (some ⟨b4,0,none⟩))]) rfl rfl ae rfl ?_ ?_ ?_ ?_
 ·intro l N q;refine KR.FA bm (fun a w h=>by exact h) ?_;refine oz ?_;exact KQ.qc () trivial ⟨rfl,rfl,rfl,trivial⟩ (fun _ h=>h)
 ·rintro k q M l N RQ hq rfl og Xm MY;obtain⟨hDI,cj⟩:=D9 (cH 10 (hI s)) k ae;have F0:=Mz (l:=cH 10 (hI s)) hq;have YU:q.size<=2003:=by omega
  have hk9:=Lf ((cH 10 (hI s)).take k);have hk8:=(au.1 hq).1;rw[bp]at hk9;have fN:=Iy hDI ae q;simp only[bn,List.nil_append]
  repeat((with_reducible refine KR.block ?_))
  refine K5 ?_;refine KO.ld rfl rfl isAgg194 aX aL rfl ?_;refine Z1 ?_;refine KO.cl (cp:=[]) rfl rfl rfl call116 rfl (KC.perm (fun w' hw'=>hw'.all Y7) (Uo w (Bw b4 (iq (eE 2,⟨#[]⟩) ((cH 10 (hI s)).take k)).2::bD b3 (.cells [aZ Az].toArray 194 (0,0))::N) Az _ _ q hT hM hg hS hDI ae ae)) ?_;rintro v' L' ⟨rfl,rfl⟩;refine KO.cat rfl rfl (by have :=fN.2;show _+1<=_;omega) rfl ?_;refine KO.cl (cp:=[]) rfl rfl rfl call115 rfl (KC.perm (fun w' hw'=>hw'.all Y7) (acy w (lx Az (kB (iq (eE 2,⟨#[]⟩) ((cH 10 (hI s)).take k)).1 q).1::bD b3 (.cells [aZ Az].toArray 194 (0,0))::N) b4 _ _ (by have :=fN.2;rw[aB];show _+(_+1)<=_;omega))) ?_;rintro v' L' rfl;refine yD ?_;refine KQ.conv (L':=[Bw b4 (iq (eE 2,⟨#[]⟩) ((cH 10 (hI s)).take (k+1))).2,lx Az (iq (eE 2,⟨#[]⟩) ((cH 10 (hI s)).take (k+1))).1,bD b3 (.cells [aZ Az].toArray 194 (0,0))]++N) (fun w' hw'=>?_) (Xm _ _ rfl)
  rw[bA hq,rm];exact hw'.all mH
 ·rintro bd M rfl;rw[List.take_length];refine aaV ?_;refine dC ?_;refine KO.cl (cp:=[]) rfl rfl rfl call117 rfl (KC.perm (fun w' hw'=>hw'.all Y8) (afc w [] b4 bd (iq (eE 2,⟨#[]⟩) (cH 10 (hI s))).2)) ?_;rintro v' L' ⟨rfl,rfl⟩;refine fK ?_;refine KQ.S5 (v:=.string (iq (eE 2,⟨#[]⟩) (cH 10 (hI s))).2) .head (fun a w ha _=>by rw[results_tmp rfl];simp[Array.getD_eq_getD_getElem?,ha.get 2 _ rfl]) (fun w' hs=>⟨_,_,rfl,⟨?_,rfl⟩,hw.aA hs.below,hs.below⟩);unfold AO;rw[if_neg Vd]
 ·rintro b M h;exact h.elim
end Go.Proofs.YtjhogocabcdjbabGreatDoor
namespace Go.Proofs
open Tryz
open Go.Shelf
def Tryz.Fq:Go.Shelf.Ren:=⟨fun|6=>125|15=>163|14=>208|28=>262|29=>263|20=>299|21=>300|22=>301|23=>302|24=>303|25=>304|26=>305|27=>306|46=>366|47=>355|48=>356|49=>367|50=>368|57=>397|n=>n,fun|22=>49|24=>44|25=>216|3=>3|39=>73|0=>0|53=>227|55=>224|4=>4|46=>337|45=>336|50=>239|5=>5|9=>9|66=>404|70=>407|76=>429|77=>430|n=>n,fun|n=>n⟩
theorem Tryz.LC:Go.Proofs.SlLaysF0.n6 prog Tryz.Fq:={
 mixed:=by kernel_rfl
 f6:=⟨Tryz.f125.name,by decide,func125.trans (congrArg some bm)⟩
 f14:=⟨Tryz.f208.name,by decide,func208.trans (congrArg some bm)⟩
 f15:=func163.trans (congrArg some bm)
 f20:=⟨Tryz.f299.name,by decide,func299.trans (congrArg some bm)⟩
 f21:=⟨Tryz.f300.name,by decide,func300.trans (congrArg some bm)⟩
 f22:=⟨Tryz.f301.name,by decide,func301.trans (congrArg some bm)⟩
 f23:=⟨Tryz.f302.name,by decide,func302.trans (congrArg some bm)⟩
 f24:=⟨Tryz.f303.name,by decide,func303.trans (congrArg some bm)⟩
 f25:=⟨Tryz.f304.name,by decide,func304.trans (congrArg some bm)⟩
 f26:=⟨Tryz.f305.name,by decide,func305.trans (congrArg some bm)⟩
 f27:=⟨Tryz.f306.name,by decide,func306.trans (congrArg some bm)⟩
 f28:=func262.trans (congrArg some bm)
 f29:=func263.trans (congrArg some bm)
 f46:=⟨Tryz.f366.name,by decide,func366.trans (congrArg some bm)⟩
 f47:=func355.trans (congrArg some bm)
 f48:=func356.trans (congrArg some bm)
 f49:=⟨Tryz.f367.name,by decide,func367.trans (congrArg some bm)⟩
 f50:=⟨Tryz.f368.name,by decide,func368.trans (congrArg some bm)⟩
 f57:=⟨Tryz.f397.name,by decide,func397.trans (congrArg some bm)⟩
 t0:=underlying0
 a0:=isAgg0
 z0:=sizeOf0
 v0:=zeroValue0
 t3:=underlying3
 a3:=isAgg3
 z3:=sizeOf3
 v3:=zeroValue3
 t4:=underlying4
 a4:=isAgg4
 z4:=sizeOf4
 v4:=zeroValue4
 t5:=underlying5
 a5:=isAgg5
 z5:=sizeOf5
 v5:=zeroValue5
 t9:=underlying9
 a9:=isAgg9
 z9:=sizeOf9
 v9:=zeroValue9
 t22:=underlying49
 a22:=isAgg49
 z22:=sizeOf49
 v22:=zeroValue49
 t25:=underlying216
 a25:=isAgg216
 z25:=sizeOf216
 v25:=zeroValue216
 t39:=underlying73
 a39:=isAgg73
 z39:=sizeOf73
 v39:=zeroValue73
 t45:=underlying336
 a45:=isAgg336
 z45:=sizeOf336
 v45:=zeroValue336
 t46:=underlying337
 a46:=isAgg337
 z46:=sizeOf337
 v46:=zeroValue337
 t50:=underlying239
 a50:=isAgg239
 z50:=sizeOf239
 v50:=zeroValue239
 t53:=underlying227
 a53:=isAgg227
 z53:=sizeOf227
 v53:=zeroValue227
 t55:=underlying224
 a55:=isAgg224
 z55:=sizeOf224
 v55:=zeroValue224
 t66:=underlying404
 a66:=isAgg404
 z66:=sizeOf404
 v66:=zeroValue404
 t70:=underlying407
 a70:=isAgg407
 z70:=sizeOf407
 v70:=zeroValue407
 t76:=underlying429
 a76:=isAgg429
 z76:=sizeOf429
 v76:=zeroValue429
 t77:=underlying430
 a77:=isAgg430
 z77:=sizeOf430
 v77:=zeroValue430}
end Go.Proofs
namespace Go.Proofs.YtjhogocabcdjbabGreatDoor
open Tryz
open Go Go.RowKit WB Go.Shelf Go.Lib Go.Sort
abbrev WQ:={m:Ms//0<=m.id/\m.id<=1099511627776}
instance:Inhabited WQ:=⟨⟨⟨0,0,⟨#[]⟩,⟨#[]⟩,0⟩,by decide⟩⟩
def Kw (m:WQ):List Value:=dN m.1
def FL (x y:WQ):Int:=x.1.id-y.1.id
theorem H7(x y:WQ):ltOf FL x y=decide (x.1.id<y.1.id):=by
 unfold ltOf FL;exact decide_eq_decide.2 ae
theorem Ui:SWO (ltOf FL):={
 irrefl:=fun x=>by rw[H7];simp
 trans:=fun x y z h1 h2=>by rw[H7]at *;simp at *;omega
 ntrans:=fun x y z h1 h2=>by rw[H7]at *;simp at *;omega}
theorem ado(x y:WQ)(W:World):Calls prog 126 #[.agg (Kw x).toArray,.agg (Kw y).toArray] W fun e w'=>e=.returned (.int .i64 (FL x y))/\∃q os',w'=grow (W.drewN q) os':=by
 obtain⟨⟨xi,xp,xb,xq,xh⟩,hx⟩:=x;obtain⟨⟨yi,yp,yb,yq,yh⟩,hy⟩:=y;dsimp only at hx hy;have hwr:IntKind.i64.wrap (xi-yi)=xi-yi:=by simp[IntKind.wrap,IntKind.bits,IntKind.signed];omega
 unfold Kw FL dN;dsimp only
 go_enter func126,ntmps126
 go_wp2
 go_ret
 exact⟨rfl,0,_,by rw[alloc_eq_grow,alloc_eq_grow,grow_grow];rfl⟩
theorem Uh(w0:World):yF w0:=fun L v xs hl hid w hw=>by
 obtain⟨zs,rfl⟩:∃zs:List WQ,zs.map Subtype.val=xs:=⟨xs.attach.map fun m=>⟨m.1,hid m.1 m.2⟩,by simp⟩;have key:∀(u:Value) (ys:List WQ),SL 44 5 dN u (ys.map Subtype.val)=SL 44 5 Kw u ys:=fun u ys=>by
  unfold SL;rw[aV,List.flatMap_map];rfl
 rw[aV]at hl;rw[key]at hw;have h1:∀x,∀v∈Kw x,v.oneCell'=true:=fun x v hv=>by
  unfold Kw dN at hv;simp at hv;rcases hv with rfl|rfl|rfl|rfl|rfl<;>rfl
 rcases yE hw with⟨rfl,rfl⟩|⟨g,cap,rfl⟩
 ·refine(AnyF.slices_SortFunc_none Tryz.LC none 0 _ w).mono ?_;rintro e w' ⟨rfl,rfl⟩;exact⟨_,_,rfl,⟨rfl,[],.refl _,.nil,rfl⟩,hw⟩
 ·have hH:=zU (cf:=Kw) (k:=5) (fun _=>rfl) hw;obtain⟨-,-,-,cur,-,-,h6⟩:=g_ hw;have hc:=AnyQ.slices_SortFunc Tryz.LC 5 isAgg44 sizeOf44 Kw (fun _=>rfl) h1 FL Ui 126 #[] g 0 cap zs.toArray w call126 (fun _ _ _ _ x y=>ado x y _) hH h6.lt fV;have kG:Calls prog 125 #[.slice (some ⟨g,0,none⟩) zs.length cap,.func (.func 126) #[] #[]] w fun e w'=>e=.returned (.tuple #[])/\∃d' n os,PermIn 0 zs.toArray.size zs.toArray d'/\SortedIn (ltOf FL) 0 zs.toArray.size d'/\w'=sortWorldK Kw 5 w g 0 n d' os:=by
   exact hc
  refine kG.mono ?_;rintro e w' ⟨rfl,d',q,os,⟨B8,-,hp⟩,yJ,rfl⟩;have me:d'.toList.length=zs.length:=by simpa using B8
  refine⟨_,_,rfl,⟨rfl,d'.toList.map Subtype.val,?_,?_,rfl⟩,?_⟩
  ·have e1:(d'.extract 0 zs.toArray.size).toList=d'.toList:=by rw[<-B8];simp
   have e2:(zs.toArray.extract 0 zs.toArray.size).toList=zs:=by simp
   rw[e1,e2]at hp;exact hp.map _
  ·rw[List.pairwise_map,List.pairwise_iff_getElem];intro p q hp hq OL;have :=yJ p q (aR _) OL (by rw[me]at hq;simpa using hq);simp only[Array.length_toList]at hp hq;rw[getElem!_pos d' q hq,getElem!_pos d' p hp,H7]at this;simp at this;simpa using this
  ·rw[key];have e:sortWorldK Kw 5 w g 0 q d' os=Sort.grow (putRowK Kw 5 (Sort.ahead w q) g 0 d') os:=by
    rfl
   rw[e];have :=St.sorted (cf:=Kw) (k:=5) (ys:=d'.toList) (fun _=>rfl) hw me q os;simpa using this
end Go.Proofs.YtjhogocabcdjbabGreatDoor
namespace WB
open Go
def dT0:ak:=⟨#[110,97,109,101,32,48,32,113,32,45,32,45,49,10,112,117,116,32,48,32,49,32,113,32,51,32,104,105,10,120,10]⟩
def dT1:ak:=⟨#[110,97,109,101,10,48,10,101,114,114,111,114,32,51,10]⟩
theorem TM:AO dT0=dT1:=by decide+kernel
theorem xf(c:UInt8):∀(l m:List UInt8),pieces c (l++c::m)=pieces c l++pieces c m
 |[],m=>by rw[List.nil_append,pieces_eq];rfl
 |b::l,m=>by
  have ih:=xf c l m;rw[bn];by_cases h:b=c
  ·subst h;rw[pieces_eq,pieces_eq,ih];rfl
  ·obtain⟨q,qs,e⟩:=List.exists_cons_of_ne_nil (mX c l);rw[e]at ih;rw[gJ h e,gJ h (by rw[ih];rfl)];rfl
def nl:ak:=⟨#[10]⟩
theorem H4(a b:ak):cH 10 (a++nl++b)=cH 10 a++cH 10 b:=by
 have e:(a++nl++b).data.toList=a.data.toList++10::b.data.toList:=by
  show((a++nl)++b).data.toList=_
  rw[ByteArray.data_append,ByteArray.data_append];simp[nl]
 unfold cH;rw[e,xf,bu]
theorem zl(a:ak):hI (a++nl)=a:=by
 unfold hI Lib.trimSuffix Lib.hasSuffix;have e:(a++nl).data.toList=a.data.toList++[10]:=by rw[ByteArray.data_append];simp[nl]
 rw[e,if_pos (by simp[List.isSuffixOf_iff_suffix])];apply ByteArray.ext;apply Array.ext';simp
theorem Lu(b:ak):hI b=b\/∃c,b=c++nl:=by
 unfold hI Lib.trimSuffix;split
 ·rename_i h;right;unfold Lib.hasSuffix at h;rw[List.isSuffixOf_iff_suffix]at h;obtain⟨t,ht⟩:=h;refine⟨⟨t.toArray⟩,?_⟩;apply ByteArray.ext;apply Array.ext';rw[ByteArray.data_append];simp[nl];exact ht.symm
 ·left;apply ByteArray.ext;apply Array.ext';simp
theorem Jm(a b:ak):∃m,cH 10 (hI (a++nl++b))=cH 10 (hI (a++nl))++m:=by
 rw[zl];rcases Lu (a++nl++b)with h|⟨c,h⟩
 ·rw[h];exact⟨_,H4 a b⟩
 ·rw[h,zl];have ld:∀x y:ak,(x++y).data.toList=x.data.toList++y.data.toList:=fun x y=>by rw[ByteArray.data_append];simp
  have ex:∀x y:ak,x.data.toList=y.data.toList->x=y:=fun x y e=>ByteArray.ext (Array.ext' e)
  have hl:=congrArg (fun x:ak=>x.data.toList) h;simp only[ld]at hl;rcases List.eq_nil_or_concat b.data.toList with h0|⟨l,x,h0⟩
  ·rw[h0,List.append_nil]at hl;have :a=c:=ex _ _ (List.append_inj_left' hl rfl);subst this;exact⟨[],by simp⟩
  ·have h0':b.data.toList=l++[x]:=by rw[h0,List.concat_eq_append]
   rw[h0',<-aK]at hl;have hx:a++nl++⟨l.toArray⟩=c:=ex _ _ (by rw[ld,ld];simpa using List.append_inj_left' hl rfl);rw[<-hx];exact⟨_,H4 a _⟩
theorem LI(a b:ak)(h:(a++nl++b).size<=20000):∃t,AO (a++nl++b)=AO (a++nl)++t:=by
 have h1:(a++nl).size<=20000:=by rw[aB]at h;omega
 unfold AO;rw[if_neg ae,if_neg ae];obtain⟨m,hm⟩:=Jm a b;rw[hm,rm];exact yd m _
end WB
namespace Go.Proofs.YtjhogocabcdjbabGreatDoor
open Tryz
open Go Go.RowKit WB
theorem ae9(x t:ak):(x++t).extract 0 x.size=x:=by
 apply ByteArray.ext;simp
theorem JZ(w0:World)(L:List HP)(a b:ak)(hz:a.size<=4611686018427387903/\b.size<=4611686018427387903)(DT:nI w0)(Gl:oB w0)(hg0:c8 w0):KE prog 7 #[.string a,.string b] w0 L (fun u M=>u=.bool true/\M=L):=by
 refine KE.mk (n:=36) func7 rfl ntmps7 aj ?_;intro w hw;have hT:=DT.ext (Ext.bB hw.below);have hM:=Gl.ext (Ext.bB hw.below);have hg:=(Ext.bB hw.below).cell hg0;refine iG ?_;refine ze ?_;refine Z1 ?_;refine ze ?_;refine uS ?_;refine yB ?_;refine Z5 ?_;by_cases Vd:2000<a.size+b.size
 ·refine K.cA rfl fV ?_;refine vH ?_;refine KQ.a_ rfl rfl (fun w' hs=>⟨_,_,rfl,⟨rfl,rfl⟩,hw.aA hs.below,hs.below⟩)
 refine BE ?_;refine Z6 ?_;have n1:nl.size=1:=rfl;have ses:∀(M:List HP) (s:ak),s.size<=2003->KE prog 41 #[.string s] w M (fun u M'=>u=.string (AO s)/\M'=M):=fun M s hs=>I2 w M s hT hM hg Uh (.inl hs)
 refine dC ?_;refine KO.ce (cp:=[]) rfl rfl rfl call41 rfl (ses _ dT0 ai) ?_;rintro v' L' ⟨rfl,rfl⟩;rw[TM];refine KO.neS rfl rfl rfl ?_;refine Z5 ?_;refine K.cP rfl ai ?_;refine Z6 ?_;obtain⟨t,ht⟩:=LI a b (by rw[aB,aB];omega);refine Z7 ?_;refine KO.cat rfl rfl (by show a.size+1<=_;omega) rfl ?_;refine KO.ce (cp:=[]) rfl rfl rfl call41 rfl (ses _ (a++nl) Y28) ?_;rintro v' L' ⟨rfl,rfl⟩;refine kQ ?_;refine KO.cat rfl rfl (by show a.size+1<=_;omega) rfl ?_;refine Z1 ?_;refine KO.cat rfl rfl (by rw[aB];show a.size+1+b.size<=_;omega) rfl ?_;refine KO.ce (cp:=[]) rfl rfl rfl call41 rfl (ses _ (a++nl++b) (by rw[aB,aB];omega)) ?_;rintro v' L' ⟨rfl,rfl⟩;refine jH ?_;rw[ht];generalize AO (a++nl)=x;have hle:decide ((x.size:Int)<=((x++t).size:Int))=true:=by rw[aB];exact decide_eq_true ae
 refine Z7 ?_;refine ze ?_;refine Z1 ?_;refine ze ?_;refine KO.leq rfl rfl rfl ?_;refine Z1 ?_;refine KO.on rfl rfl hle ?_;refine KO.mv rfl rfl ?_;refine KO.on rfl rfl hle ?_;refine KO.mv rfl rfl ?_;refine KO.on rfl rfl hle ?_;refine KO.Yv rfl underlying9 rfl ?_;refine KO.on rfl rfl hle ?_;refine KO.LA (i:=x.size) rfl rfl underlying9 rfl aj rfl ?_;rw[ae9];refine KO.on rfl rfl hle ?_;refine KO.mv rfl rfl ?_;refine KO.on rfl rfl hle ?_;refine KO.eqS rfl rfl rfl ?_;refine KO.r7 rfl hle rfl rfl ?_;refine fK ?_;refine KQ.a_ rfl rfl (fun w' hs=>⟨_,_,rfl,⟨by simp,rfl⟩,hw.aA hs.below,hs.below⟩)
end Go.Proofs.YtjhogocabcdjbabGreatDoor
namespace WB
open Go
theorem sj{a:Assume}{C:Checked}{os:Os}{f:FuncId}{r:Reach}{Pre:World->Array Value->Prop}{abw:World->Array Value->Value->World->Prop}(h:ReturnsInHanded a C os f r Pre abw):ReturnsInLeavingWide a C os f r Pre abw:=fun enter=>by
 obtain⟨h1,h2,h3,h4,h5⟩:=h enter;refine⟨h1,h2,h3,h4,fun w tape i hf=>?_⟩;obtain⟨n,v,w',k1,k2,k3,k4,⟨j,last,k5,k6,k7⟩,k8⟩:=h5 w tape i hf;exact⟨n,v,w',k1,k2,k3,k4,⟨j,last,k5,k6,k7.2.1,onlyLeaving_of_quiet k7.1,k7.2.2⟩,k8⟩
theorem ve(Lk:Looks){p:Pinned}{s:OpenSpec}{c:OpenClaim}(kinds:List LaidKind)(tests:Bool)(Gi:Bool×String)(lk:Bool)(hc:c.holds p s)(hw:c.wfByText s=true)(adC:c.laidByTextAt Lk p kinds tests)(kO:c.start=.entering)(hnb:c.noBlocks=false/\c.again=false)(hm:p.checked.prog.mainIs=some (Gi.1,Gi.2.toList))(hn:(!Gi.1&&Gi.2.isEmpty&& !lk)=false)(hl:∀f fn,p.checked.prog.funcNamed c.func=some f->p.checked.prog.funcs[f]? =some fn->lk=p.checked.prog.looks []/\∀(j:Nat) t,fn.params[j]? =some t->p.checked.prog.wantsStandIn t=false)(hg:true=c.goesBy p.checked.prog):
 Claim7.holds p (.plain s) {stood:={row:=c,standIns:=[],harness:=Gi,looks:=lk},kinds:=[],alts:=[],goes:=true,laidByText:=true,laidKinds:=kinds,laidTests:=tests,laidLooks:=Lk}:=by
 have h6:Claim7.isSixth {stood:={row:=c,standIns:=[],harness:=Gi,looks:=lk},kinds:=[]}=false:=by simpa[Claim7.isSixth]using hn
 exact⟨Claim7.tied_new_at Lk kinds tests (Claim7.new_of_sixth hc Gi lk kO hnb hm h6 hl) hw,(fun D hD=>by cases hD),adC,(fun h=>by cases h),hg⟩
theorem QF{P:Program}{c:OpenClaim}{f:FuncId}(hf:P.funcNamed c.func=some f)(hu:P.unfollowed f=true)(hg:P.funcs.any Func.goes=true):true=c.goesBy P:=by
 unfold OpenClaim.goesBy Program.goesAt Program.goesFrom;rw[hf];simp[Program.goes,hu,hg]
theorem Jq{P:Program}{f:FuncId}{fn:Func}{s:ChangeSpec}{c:OpenClaim}(a1:(c.wf (OpenSpec.ofChange s)&&laidOutB P&&mapsRowed P)=true)(a2:(fn.params.all (P.readableRec ·)&&namedTie P c.named s.vars&&(c.stops==[])&&(P.stops==[])&&(c.knobs==[])&&(P.stopKnobs==[]))=true)(a3:(c.inPlace==P.inPlace f)=true)(a4:(c.unfollowed==P.unfollowed f)=true)(a5:(c.recurses==P.recurses f)=true)(a6:(c.named==P.varsNamed f)=true)(a7:((c.maps==(fn.params.toList++s.plain.varTypes P).any (P.mapsRec ·))&&(c.ifaces==(fn.params.toList++s.plain.varTypes P).any (P.ifacesRec ·))&&(c.mapsOut==P.mapsAmong fn.resultTypes.toList)&&
  (c.loops==(fn.params.toList++s.plain.varTypes P).any (P.loopsFrom ·))&&(c.wideKeys==(fn.params.toList++s.plain.varTypes P++fn.resultTypes.toList).any (P.wideKeysFrom ·))&&
  s.vars.all (P.varReadable ·)&&fn.resultTypes.all (fun t=>P.readableRec t&&decide (t<P.types.size))&&(c.ifacesOut==fn.resultTypes.toList.any (P.ifacesRec ·))&&(c.loopsOut==fn.resultTypes.toList.any (P.loopsFrom ·))&&(c.plainKeys==P.plainKeys)&&c.shortTexts.isNone)=true)(a8:(P.stopsHeard&&P.mayEnter&&(c.lifted==P.liftsFinal)&&(P.make==some c.make))=true)(a9:((c.kinds==(if c.domain.isEmpty then[]else fn.params.toList.map fun t=>match P.underlying t with|some (.int k)=>some k|_=>none))&&(c.pinned==c.pinnedBy)&&
  (c.veiled==(fn.params.toList++s.plain.varTypes P++fn.resultTypes.toList).any (P.veiledRec ·))&&c.veiledFits P fn.params.toList (fn.params.toList++s.plain.varTypes P++fn.resultTypes.toList))=true):
 joinedFacts P f fn s c=true:=by
 unfold joinedFacts;simp only[aW]at a1 a2 a7 a8 a9 ⊢
 grind
end WB
