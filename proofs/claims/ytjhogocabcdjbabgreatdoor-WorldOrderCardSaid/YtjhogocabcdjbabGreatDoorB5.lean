import Derived.Shelf.SlSortCmp.NoneTotal
import Derived.Shelf.SlSortCmp.WholeK
import Derived.Ground.SlsfProg
import Derived.Test.YtjhogocabcdjbabGreatDoorB4
set_option linter.unusedSimpArgs false
set_option linter.unusedVariables false
set_option maxRecDepth 100000
set_option maxHeartbeats 8000000
namespace WB
open Go
theorem F_{H H1:Ho}{m:Ms}(h:fM H m=some H1):H1.names=H.names:=by
 unfold fM at h
 dsimp only at h
 split at h
 ·simp only[az]at h;subst h;rfl
 ·split at h
  ·cases h
  ·simp only[az]at h;subst h;rfl
theorem n5:∀(l:List Ms) (H:Ho),(ef H l).1.names=H.names
 |[],H=>rfl
 |m::l,H=>by
  unfold ef
  cases hp:fM H m with
  |none=>rfl
  |some H1=>exact(n5 l H1).trans (F_ hp)
theorem xY:∀(l:List ak) (H:Ho),(iz H l).1.names=H.names
 |[],H=>rfl
 |s::l,H=>by
  unfold iz
  cases hp:iA H s with
  |none=>rfl
  |some H1=>
   refine(xY l H1).trans ?_
   unfold iA at hp
   split at hp
   ·cases hp
   ·split at hp
    ·cases hp
    ·split at hp
     ·simp only[az]at hp;subst hp;rfl
     ·cases hp
theorem Gt(H:Ho)(s:ak):(eZ H s).1.names=H.names:=by
 unfold eZ
 split
 ·rfl
 ·split
  ·rfl
  ·rename_i l hl
   split
   ·exact n5 l H
   ·split
    ·exact n5 l H
    ·exact(xY _ _).trans (n5 l H)
theorem Gh(H:Ho)(s:ak):(iy H s).1.names=H.names:=by
 unfold iy
 split
 ·split<;>rfl
 ·rfl
theorem DQ(H:Ho)(s:ak):(ft H s).1.names=H.names:=by
 unfold ft
 split
 ·split<;>rfl
 ·rfl
theorem p5:∀(l:List (Ms×ak)) (H:Ho),(dO H l).1.names=H.names
 |[],H=>rfl
 |(m,t)::l,H=>by
  unfold dO
  split
  ·rfl
  ·exact p5 l _
theorem Gw(H:Ho)(s:ak):(iD H s).1.names=H.names:=by
 unfold iD
 split
 ·split
  ·split
   ·split
    ·exact p5 _ _
    ·exact p5 _ _
   ·rfl
  ·rfl
 ·rfl
theorem vQ(H:Ho)(D:Dk){c:UInt8}{s:ak}(hc:c=97\/c=98\/c=114):(lM H D (cv c++cv 58++s)).names=H.names:=by
 unfold lM
 split
 ·refine Eq.trans ?_ (kH H D).2.2.1
  unfold ck
  rw[nU (by rcases hc with rfl|rfl|rfl<;>decide)]
  rcases hc with rfl|rfl|rfl
  ·dsimp only
   rw[if_neg ai,if_neg ai,if_neg ai,if_neg ai,if_pos rfl]
   exact DQ _ _
  ·dsimp only
   rw[if_neg ai,if_neg ai,if_neg ai,if_pos rfl]
   exact Gh _ _
  ·dsimp only
   rw[if_neg ai,if_neg ai,if_neg ai,if_neg ai,if_neg ai,if_pos rfl]
   exact Gw _ _
 ·exact(kH H D).2.2.1
theorem CV(H:Ho)(D:Dk)(u:Int):(la H D u).names=H.names:=by
 unfold la
 split
 ·rfl
 ·split
  ·exact(kH H D).2.2.1
  ·exact(Gt _ _).trans (kH H D).2.2.1
theorem ML(H:Ho)(D:Dk)(a:Int):(gR H D a).names=H.names:=by
 unfold gR;split
 ·exact vQ H D (.inr (.inl rfl))
 ·rfl
theorem CY(H:Ho)(D:Dk)(a m:Int):(r9 H D a m).names=H.names:=by
 unfold r9;split
 ·rfl
 ·exact vQ H D (.inl rfl)
theorem C5(H:Ho)(D:Dk)(a m:Int)(l:List Ms):(lb H D a m l).names=H.names:=by
 unfold lb;split
 ·exact vQ H D (.inr (.inr rfl))
 ·rfl
theorem Il(H:Ho)(u:Int)(s:ak)(pri:Int)(body:ak):(fl H u s pri body).names=H.names:=by
 unfold fl;split
 ·exact sR _ _
 ·rfl
theorem Jb(H:Ho)(u:Int)(s:ak):(jZ H u s).names=H.names:=by
 unfold jZ;split<;>rfl
theorem MN(H:Ho)(u:Int):(ou H u).names=H.names:=by
 unfold ou;split<;>rfl
theorem o7(H:Ho)(D:Dk)(a:Int):(gR H D a).aB=H.aB:=by
 unfold gR;split
 ·exact(ua _ _ _).2
 ·rfl
theorem xd(H:Ho)(D:Dk)(a m:Int):(r9 H D a m).aB=H.aB:=by
 unfold r9;split
 ·rfl
 ·exact(ua _ _ _).2
theorem r_(H:Ho)(D:Dk)(a m:Int)(l:List Ms):(lb H D a m l).aB=H.aB:=by
 unfold lb;split
 ·exact(ua _ _ _).2
 ·rfl
section
variable {c kb n:Nat} {W:Wo} {C0:Nat->Ho} {T:List Ms}
theorem GI.at(g:GI n W C0 T){k:Nat}(hk:k<n):∃x,W.hs[k]? =some x/\W.H k=x.1/\W.D k=x.2/\HI k x.1 x.2 (C0 k):=by
 obtain⟨x,hx,e1,e2⟩:=fS (W:=W) (j:=k) (by rw[g.hn];exact hk)
 exact⟨x,hx,e1,e2,g.hi k x hx⟩
theorem GI.Ke(g:GI n W C0 T){k:Nat}(hk:k<n){y:Nat×Ms}(hy:y∈WB.hk (W.H k))(h4:4<=y.1):y.2∈T:=by
 obtain⟨x,hx,e1,-,h⟩:=g.at hk
 rw[e1]at hy
 rw[<-g.gc.Kc.mem_iff]
 unfold yo view
 refine List.mem_flatMap.2 ⟨k,aO.2 hk,bO (aC.2 ⟨h.ye.mem_iff.1 hy,?_⟩)⟩
 unfold gH;simp[h4]
theorem GI.Ky(g:GI n W C0 T){k:Nat}(hk:k<n){u:Nat}{y:pg}(hy:(W.H k).aB[u]? =some y):∀i∈y.bu.map (·.1),i∈T.map (·.id):=fun i hi=>by
 obtain⟨x,hx,e1,-,h⟩:=g.at hk
 rw[e1]at hy
 obtain⟨p,hp,rfl⟩:=ay.1 hi
 obtain⟨i,-,e,he,hj,hid,IS,-⟩:=(h.unit u y hy).bu p hp
 have :e.m∈T:=g.Ke hk (y:=(e.j,e.m)) (by
  rw[e1];unfold WB.hk
  exact ay.2 ⟨e,aC.2 ⟨he,by unfold iW;simpa using IS⟩,rfl⟩) iK
 exact ay.2 ⟨e.m,this,hid⟩
theorem GI.put(g:GI n W C0 T)(hw:c6 c kb W){k u:Nat}(hk:k<n)(hu:u<5){s:ak}{pri:Int}{body:ak}(he:jn (W.H k) u s pri body=0):GI n (W.bU k (fl (W.H k) u s pri body,W.D k)) C0 T:=by
 obtain⟨x,hx,e1,e2,h⟩:=g.at hk
 rw[e1]at he ⊢
 rw[e2]
 have hB:=(hw.hs k x hx).B
 obtain⟨h1,hid⟩:=h.put hB hu he
 refine g.same h1 (by rw[Il];exact g.jA k x hx) fun v y hy p hp=>?_
 have gY:(fl x.1 u s pri body).aB=x.1.aB.set u ⟨(x.1.eP u).aM++[(fk x.1 s pri body,(jU x.1 s).2.1)],(x.1.eP u).bu⟩:=by
  unfold fl
  rw[if_pos he]
  unfold cQ
  dsimp only
  rw[gy,aA]
 have kN:=gu hB hu
 rw[gY]at hy
 rcases lj YL hy with⟨rfl,rfl⟩|⟨gN,hy⟩
 ·rcases aN.1 hp with hp|hp
  ·exact g.fresh k x hx v _ kN p hp
  ·simp at hp;subst hp
   dsimp only
   intro hm
   obtain⟨m,hm,e⟩:=ay.1 hm
   obtain⟨o,ho,a,b⟩:=g.gc.V8 m hm
   have gO:=hw.n1
   rw[g.hn]at gO
   have :o=k:=by rw[e,hid]at a;omega
   subst this
   have h2:=h.nx
   have b:m.id/4<(C0 o).next:=b
   rw[e,hid]at b
   omega
 ·exact g.fresh k x hx v y hy p hp
theorem GI.get(g:GI n W C0 T)(hw:c6 c kb W){k u:Nat}(hk:k<n)(hu:u<5){s:ak}(he:lR (W.H k) u s=0):GI n (W.bU k (jZ (W.H k) u s,W.D k)) C0 T/\getM (W.H k) u s∈T:=by
 obtain⟨x,hx,e1,e2,h⟩:=g.at hk
 rw[e1]at he ⊢
 rw[e2]
 have hB:=(hw.hs k x hx).B
 obtain⟨h1,i,hid,h4⟩:=h.get hB hu he
 refine⟨g.same h1 (by rw[Jb];exact g.jA k x hx) fun v y hy p hp=>?_,g.Ke hk (y:=(i,_)) (by rw[e1];exact hid) h4⟩
 have gY:(jZ x.1 u s).aB=x.1.aB.set u ⟨(x.1.eP u).aM,(x.1.eP u).bu++[((mX (x.1.ec ((x.1.qI s).getD 0))).id,s)]⟩:=by
  unfold jZ
  rw[if_pos he]
  rfl
 have kN:=gu hB hu
 rw[gY]at hy
 rcases lj YL hy with⟨rfl,rfl⟩|⟨gN,hy⟩
 ·exact g.fresh k x hx v _ kN p hp
 ·exact g.fresh k x hx v y hy p hp
theorem GI.back(g:GI n W C0 T)(hw:c6 c kb W){k u:Nat}(hk:k<n)(hu:u<5)(he:Bz (W.H k) u=0):GI n (W.bU k (ou (W.H k) u,W.D k)) C0 T:=by
 obtain⟨x,hx,e1,e2,h⟩:=g.at hk
 rw[e1]at he ⊢
 rw[e2]
 have hB:=(hw.hs k x hx).B
 refine g.same (h.back hB hu he) (by rw[MN];exact g.jA k x hx) fun v y hy p hp=>?_
 have gY:(ou x.1 u).aB=x.1.aB.set u cC:=by
  unfold ou
  rw[if_pos he]
  rfl
 rw[gY]at hy
 rcases lj YL hy with⟨rfl,rfl⟩|⟨gN,hy⟩
 ·cases hp
 ·exact g.fresh k x hx v y hy p hp
theorem GI.mo(g:GI n W C0 T)(hw:c6 c kb W){k u:Nat}(hk:k<n)(hu:u<5)(he:vj (W.H k) (W.D k) u≠0):GI n (W.bU k (la (W.H k) (W.D k) u,od (W.H k) (W.D k) u)) C0 T:=by
 obtain⟨x,hx,e1,e2,h⟩:=g.at hk
 rw[e1,e2]at he ⊢
 refine g.same (h.mo (hw.hs k x hx) hu he) (by rw[CV];exact g.jA k x hx) (g.aB hx ?_)
 rw[kQ,if_neg he]
def Fv (T:List Ms) (x:pg):List Ms:=(x.aM.map (·.1)++T).filter fun m=> !decide (m.id∈x.bu.map (·.1))
theorem GI.kO(g:GI n W C0 T)(hw:c6 c kb W)(hK:kb<=1000000000000)(hc:c<=250){k u:Nat}(hk:k<n)(hu:u<5)(he:vj (W.H k) (W.D k) u=0):
 ∃C1,GI n (W.bU k (la (W.H k) (W.D k) u,od (W.H k) (W.D k) u)) C1 (Fv T ((W.H k).eP u)):=by
 obtain⟨x,hx,e1,e2,h⟩:=g.at hk
 rw[e1,e2]at he ⊢
 have hb:=hw.hs k x hx
 have gO:=hw.n1
 rw[g.hn]at gO
 obtain⟨H3,h1,h2,h3,h4,h5,h6,h7⟩:=h.kO hb ae hK hc hu he
 have kN:=gu hb.B hu
 have gY:=kQ (H:=x.1) (D:=x.2) (u:Int)
 rw[if_pos he,aA]at gY
 generalize hy:x.1.eP u=y at h2 h7 kN ⊢
 have ui:=h.unit u y kN
 obtain⟨Aj,-⟩:=hb.aB y (ax kN)
 have hPm:(y.aM.map fun p=>(nG x.1 p.1,p.1)).map (·.2)=y.aM.map (·.1):=by rw[List.map_map];rfl
 have hPi:(y.aM.map fun p=>(nG x.1 p.1,p.1)).map pd=y.aM.map fun p=>p.1.id:=by rw[List.map_map];rfl
 have Ra:=g.fresh k x hx u y kN
 have Q_:=GC.kO (c:=ny H3) g.gc hk (P:=y.aM.map fun p=>(nG x.1 p.1,p.1)) (G:=y.bu.map (·.1)) h2
  (by show bm H3=bm (C0 k);funext d;unfold bm;rw[h3]) (by show bD H3=bD (C0 k);funext d;unfold bD;rw[h4]) (by show bY H3=bY (C0 k);funext d;unfold bY;rw[h5]) h6
  (fun z hz=>by
   obtain⟨p,hp,rfl⟩:=ay.1 hz
   obtain⟨-,a,-⟩:=ui.aM p hp
   obtain⟨-,-,-,-,-,-,m7,m8⟩:=bV (Aj.aM p hp)
   refine⟨?_,by rw[<-h.hid];exact a,h7 p hp⟩
   dsimp only
   unfold nG
   split
   ·rename_i hh
    right
    intro e
    have :=h.hid
    exact hh ae
   ·left;omega)
  (by rw[hPi];exact ui.pn)
  (fun z hz=>by
   obtain⟨p,hp,rfl⟩:=ay.1 hz
   exact Ra p hp)
  (fun z hz=>by
   obtain⟨p,hp,rfl⟩:=ay.1 hz
   obtain⟨-,-,e,I1,-,fQ,Nf⟩:=ui.aM p hp
   intro hm
   obtain⟨w,rX,sF⟩:=ay.1 hm
   obtain⟨e',IK,rfl⟩:=ay.1 rX
   obtain⟨e4,a1,a2,a3,a4⟩:=h.in0 IK
   have a5:e4.m.id=p.1.id:=by rw[a3];exact sF
   have :e4=e:=gQ h.oy a1 I1 (by unfold eO;rw[fQ];exact a5)
   rw[this,Nf]at a4;omega)
  (fun i hi=>by
   obtain⟨p,hp,rfl⟩:=ay.1 hi
   obtain⟨i,-,e,a1,a2,a3,a4,-⟩:=ui.bu p hp
   obtain⟨e',b1,b2,b3⟩:=h.to0 a1 a4
   exact⟨pV e',bO b1,by show 4<=e'.j;omega,by rw[<-a3];show e'.m.id=e.m.id;rw[b3]⟩)
 rw[hPm]at Q_
 have F2:∀q,q∉T.map (·.id)->q∉(y.aM.map fun p=>p.1.id)->q∉(Fv T y).map (·.id):=fun q hq1 Zh hm=>by
  unfold Fv at hm
  obtain⟨m,hm5,rfl⟩:=ay.1 hm
  rcases aN.1 (aC.1 hm5).1 with h8|h8
  ·obtain⟨p,hp,rfl⟩:=ay.1 h8
   exact Zh (List.mem_map_of_mem (f:=fun p:Ms×Int=>p.1.id) hp)
  ·exact hq1 (List.mem_map_of_mem (f:=(·.id)) h8)
 refine⟨_,g.set h1 Q_ (by rw[CV];exact g.jA k x hx) (fun v z hz p hp=>?_) fun i x' gN Kg v z hz p hp=>?_⟩
 ·rw[gY]at hz
  rcases lj (by rw[hb.B.aB];exact hu) hz with⟨rfl,rfl⟩|⟨gN,hz⟩
  ·cases hp
  ·refine F2 _ (g.fresh k x hx v z hz p hp) fun hm=>?_
   obtain⟨q,hq,e⟩:=ay.1 hm
   obtain⟨-,-,e3,a1,-,a2,a3⟩:=(h.unit v z hz).aM p hp
   obtain⟨-,-,e4,b1,-,b2,b3⟩:=ui.aM q hq
   have :e3=e4:=gQ h.oy a1 b1 (by unfold eO;rw[a2,b2];exact e.symm)
   rw[this,b3]at a3
   exact gN ae
 ·refine F2 _ (g.fresh i x' Kg v z hz p hp) fun hm=>?_
  obtain⟨q,hq,e⟩:=ay.1 hm
  have a1:=((g.hi i x' Kg).unit v z hz).aM p hp |>.2.1
  have b1:=(ui.aM q hq).2.1
  rw[(g.hi i x' Kg).hid]at a1
  rw[h.hid]at b1
  have e:q.1.id=p.1.id:=e
  exact gN ae
end
section
variable {c kb n:Nat} {W:Wo} {C0:Nat->Ho} {T:List Ms}
theorem jl{W:Wo}{k:Nat}{x:Ho×Dk}(i:Nat):(W.bU k x).H i=if i=k/\k<W.hs.length then x.1 else W.H i:=by
 unfold Wo.H Wo.at' Wo.bU
 dsimp only
 rw[aq,aq,List.getElem?_set]
 by_cases e:k=i
 ·subst e
  by_cases h:k<W.hs.length
  ·rw[if_pos rfl,if_pos h,if_pos ⟨rfl,h⟩];rfl
  ·rw[if_pos rfl,if_neg h,if_neg (fun x=>h x.2),br ae]
 ·rw[if_neg e,if_neg (fun x=>e x.1.symm)]
def fc (W W':Wo):Prop:= ∀i,(W'.H i).aB=(W.H i).aB
theorem fc.refl(W:Wo):fc W W:=fun _=>rfl
theorem fc.trans{A B C:Wo}(h:fc A B)(g:fc B C):fc A C:=fun i=>(g i).trans (h i)
theorem fc.set{k:Nat}{x:Ho×Dk}(h:x.1.aB=(W.H k).aB):fc W (W.bU k x):=fun i=>by
 rw[jl]
 split
 ·rename_i h1;rw[h1.1];exact h
 ·rfl
theorem fc.hs{W W':Wo}(h:W'.hs=W.hs):fc W W':=fun i=>by unfold Wo.H Wo.at';rw[h]
theorem fc.ER(W:Wo)(g:Gm):fc W (px W g):=fc.hs (C_ _ _)
theorem fc.xH(W:Wo)(dst:Int)(f:Fr)(l:List Ms):fc W (fm W dst f l):=fc.hs (oC _ _ _ _)
theorem fc.se(W:Wo)(k dst:Int):fc W (yf W k dst):=by
 unfold yf
 split
 ·have h1:fc W (l8 W k dst):=by unfold l8;exact fc.set (o7 _ _ _)
  split
  ·exact h1.trans (fc.xH _ _ _ _)
  ·exact h1
 ·exact fc.refl W
theorem fc.cm(W:Wo)(g:Gm):fc W (vL W g):=by
 unfold vL
 split
 ·exact fc.set (xd _ _ _ _)
 ·split
  ·exact(fc.set (r_ _ _ _ _ _)).trans (fc.xH _ _ _ _)
  ·exact fc.set (r_ _ _ _ _ _)
theorem fc.out(W:Wo)(i:Nat):fc W (qw W i):=fc.hs rfl
theorem fc.de(W:Wo)(i:Int):fc W (tW W i):=by
 unfold tW;split
 ·exact(fc.out W _).trans (fc.cm _ _)
 ·exact fc.refl W
theorem fc.lo(W:Wo)(i:Int):fc W (Ow W i):=by
 unfold Ow;split
 ·exact fc.out W _
 ·exact fc.refl W
theorem fc.tw(W:Wo)(i:Int):fc W (Nz W i):=by
 unfold Nz;split
 ·exact fc.ER _ _
 ·exact fc.refl W
theorem fc.iE:∀(f:Nat) (W:Wo),fc W (iE f W)
 |0,W=>fc.refl W
 |f+1,W=>by
  unfold WB.iE;split
  ·exact fc.refl W
  ·exact(fc.de W 0).trans (fc.iE f _)
theorem fc.Vl(W:Wo):fc W (lS W):=fc.iE _ W
theorem fc.mr(W:Wo)(k dst:Nat):fc W (mr W k dst):=by
 unfold WB.mr;split
 ·exact(fc.se W k dst).trans (fc.Vl _)
 ·exact fc.se W k dst
theorem fc.fold{α:Type}{f:Wo->α->Wo}(h:∀W a,fc W (f W a)):∀(l:List α) (W:Wo),fc W (l.foldl f W)
 |[],W=>fc.refl W
 |a::l,W=>by rw[List.foldl_cons];exact(h W a).trans (fc.fold h l _)
theorem fc.vn(m:Nat)(W:Wo)(k:Nat):fc W (vn m W k):=fc.fold (fun W a=>fc.mr W k a) _ W
theorem GI.cut(g:GI n W C0 T){k:Nat}(hk:k<n)(t m:Int):GI n (W.bU k ({W.H k with dz:=t},cu (W.D k) m)) C0 T:=by
 obtain⟨x,hx,e1,e2,h⟩:=g.at hk
 rw[e1,e2]
 exact g.same ((h.dz t).cut m) (g.jA k x hx) (g.aB hx rfl)
theorem GI.PJ(g:GI n W C0 T){k:Nat}(hk:k<n)(m:Int):GI n (W.bU k (W.H k,cu (W.D k) m)) C0 T:=by
 obtain⟨x,hx,e1,e2,h⟩:=g.at hk
 rw[e1,e2]
 exact g.same (h.cut m) (g.jA k x hx) (g.aB hx rfl)
theorem GI.sg(g:GI n W C0 T){k:Nat}(hk:k<n):GI n (sg W k) C0 T/\((sg W k).H k).aB=List.replicate 5 ⟨[],[]⟩:=by
 obtain⟨x,hx,e1,e2,h⟩:=g.at hk
 unfold WB.sg
 rw[e2]
 have h1:=(h.cut (-1)).Ij
 rw[(h.cut (-1)).opened]
 have hu:=h.H9
 refine⟨g.same h1 (by rw[h.names];exact g.jA k x hx) (fun u y hy p hp=>?_),?_⟩
 ·rw[hu]at hy
  have :=List.eq_of_mem_replicate (ax hy)
  subst this
  cases hp
 ·rw[jl,if_pos ⟨rfl,by rw[g.hn];exact hk⟩]
  exact hu
theorem B3{k d:Int}(h:Dj W k d=0):W.is k=true/\W.is d=true/\tX (W.H k.toNat) (W.D k.toNat) d=0:=by
 unfold Dj at h
 split at h
 ·rename_i h1;exact⟨h1.1,h1.2,h⟩
 ·cases h
theorem C3{H:Ho}{D:Dk}{a:Int}(h:tX H D a=0):kR H a=0/\(dQ H a=true->c7 H D=0):=by
 unfold tX at h
 by_cases h1:kR H a≠0
 ·rw[if_pos h1]at h;exact absurd h h1
 ·rw[if_neg h1]at h
  refine⟨by simpa using h1,fun h2=>?_⟩
  rw[if_pos h2]at h;exact h
theorem tF{H:Ho}{a:Int}(h:kR H a=0):cj H a=true:=by
 unfold kR at h
 split at h
 ·cases h
 ·rename_i h1;simpa using h1
theorem D5{H0 H:Ho}{D:Dk}{k m:Nat}(h:HI k H D H0)(hB:cK m H){d:Nat}(hd:d<4):((aW (H.dy d)).filter (OH (bm H d))).Perm (sw (ny H0) d):=by
 rw[<-Km hB.ways hd]
 unfold sw
 refine(h.ye.filter _).map _ |>.trans (List.Perm.of_eq ?_)
 have e:bm H0 d=bm H d:=by unfold bm;rw[h.bt]
 congr 2
 funext y
 unfold rq OH
 rw[show(ny H0).bt d=bm H0 d from rfl,e];rfl
theorem GI.se(g:GI n W C0 T)(hw:c6 c kb W)(hK:kb<=1000000000000)(k d:Int):∃C1,GI n (yf W k d) C1 T:=by
 unfold yf
 split
 ·rename_i hh
  have hk:=pw hh.1
  have hd:=pw hh.2
  have hn:=g.hn
  have gO:=hw.n1
  obtain⟨x,hx,e1,e2,h⟩:=g.at (k:=k.toNat) ae
  have hb:=hw.hs _ x hx
  have sI:=hb.bt d
  have ob:=g.jA _ x hx
  have Kl:((k.toNat:Nat):Int)=k:=by omega
  have hdd:((d.toNat:Nat):Int)=d:=by omega
  have Gv:d.toNat<4:=by omega
  have key:∃C1,GI n (l8 W k d) C1 T/\HI k.toNat (gR x.1 x.2 d) (lF x.1 x.2 d) (C1 k.toNat)/\(∀i,i≠k.toNat->C1 i=C0 i):=by
   unfold l8
   rw[e1,e2]
   by_cases hN:dQ x.1 d=true/\c7 x.1 x.2=0
   ·obtain⟨H3,h1,h2,h3,h4,h5,h6,h7,h8,-⟩:=h.made hb hN.1 hN.2
    have hr:=bM.1 (fh hN.1).1
    have h0:bm (C0 k.toNat) d.toNat=[]:=by
     have :=(fh hN.1).2.2.1
     unfold bm at this ⊢;rw[h.bt];exact this
    have qQ:=(h.B0 hb ae hK).1
    have Q_:=GC.made (c:=ny H3) g.gc (k:=k.toNat) (d:=d.toNat) ae ae (by have :=h.hid;omega) Gv h7 h0 h8 (by unfold ny;rw[h2];rfl)
     (fun b=>by show bm H3 b=_;unfold bm;rw[h3,dx (by rw[qQ.batch];exact Gv)];rfl)
     (fun b=>by show bD H3 b=_;unfold bD;rw[h4,dx (by rw[qQ.bW];exact Gv)];rfl)
     Y16 h6
    refine⟨Bo C0 k.toNat H3,g.set h1 Q_ Y37 (g.aB hx (o7 _ _ _)) (fun i x _ hx=>g.fresh i x hx),?_,fun i hi=>?_⟩
    ·unfold Bo;rw[if_pos rfl];exact h1
    ·unfold Bo;rw[if_neg hi]
   ·have h1:=h.FJ hb (a:=d) (by
     by_cases h2:dQ x.1 d=true
     ·exact .inr fun h3=>hN ⟨h2,h3⟩
     ·exact .inl Rq)
    exact⟨C0,g.same h1 Y37 (g.aB hx (o7 _ _ _)),h1,fun _ _=>rfl⟩
  obtain⟨C1,g1,h1,hC⟩:=key
  split
  ·rename_i M_
   obtain⟨-,-,Nh⟩:=B3 M_
   rw[e1,e2]at Nh
   obtain⟨hp,-⟩:=C3 Nh
   have hr:=bM.1 (tF hp)
   have gN:k.toNat≠d.toNat:=by have :=h.hid;omega
   refine⟨C1,g1.xH ⟨k.toNat,d.toNat,Kl.symm,hdd.symm,by omega,by omega,gN,(fun hh=>by cases hh),fun _=>?_⟩⟩
   dsimp only
   rw[e1,e2]
   have hN:Jl x.1 x.2 d=bD (C1 k.toNat) d.toNat:=by
    unfold Jl
    rw[if_pos Nh]
    unfold bD;rw[h1.sn]
   have hL:(y8 x.1 x.2 d).Perm (sw (ny (C1 k.toNat)) d.toNat):=by
    unfold y8
    rw[if_pos Nh]
    exact D5 h1 sI.B Gv
   rw[hN]
   refine⟨Int.le_refl _,fun _ h2=>⟨fun h3=>?_,hL⟩⟩
   have :=(g1.gc.pr k.toNat d.toNat ae ae gN).2.2 h3
   have h2:bY (C1 d.toNat) k.toNat<bD (C1 k.toNat) d.toNat:=h2
   have this :bY (C1 d.toNat) k.toNat=bD (C1 k.toNat) d.toNat:=this
   omega
  ·exact⟨C1,g1⟩
 ·exact⟨C0,g⟩
theorem GI.cm(g:GI n W C0 T)(hw:c6 c kb W)(hK:kb<=1000000000000){m:Gm}(hm:Ht n (CC C0) m)(Q6:ZP W.hs.length m):∃C1,GI n (vL W m) C1 T:=by
 obtain⟨a,b,f1,f2,ha,hb,vK,f3,f4⟩:=hm.ok
 have hn:=g.hn
 have gO:=hw.n1
 have Pg:m.dto.toNat=b:=by rw[f2];rfl
 have Zp:m.f.fa.toNat=a:=by rw[f1];rfl
 obtain⟨x,hx,e1,e2,h⟩:=g.at (k:=b) hb
 have qA:=hw.hs _ x hx
 have ob:=g.jA _ x hx
 have qQ:=(h.B0 qA ae hK).1
 have ha4:a<4:=by omega
 unfold vL
 rw[Pg,e1,e2]
 split
 ·rename_i hack
  by_cases hc:iT x.1 m.f.fa m.f.num=0/\c7 x.1 x.2=0
  ·obtain⟨q1,-,q3,q4⟩:=nz hc.1
   obtain⟨H3,h1,h2,h3,h4,h5,h6⟩:=h.known qA ae hK hc.1 hc.2
   rw[Zp]at h2 h3 q3 q4
   have hfa:=f3 hack
   have ebt:bm (C0 b) a=bm x.1 a:=by unfold bm;rw[h.bt]
   have esn:bD (C0 b) a=bD x.1 a:=by unfold bD;rw[h.sn]
   have Q_:=GC.known (c:=ny H3) g.gc (k:=b) (d:=a) hb ha (fun e=>vK e.symm) ae (by show bm (C0 b) a≠[];rw[ebt];exact q3) (by show bD (C0 b) a<=bY (C0 a) b;have :m.f.num<=bY (C0 a) b:=hfa;omega) h2
    (fun d=>by show bm H3 d=_;unfold bm;rw[h3,dx (by rw[qQ.batch];exact ha4)];rfl)
    (by show bD H3=bD (C0 b);funext d;unfold bD;rw[h4]) (by show bY H3=bY (C0 b);funext d;unfold bY;rw[h5]) h6
   exact⟨_,g.set h1 Q_ (by rw[CY];exact ob) (g.aB hx (xd _ _ _ _)) (fun i x _ hx=>g.fresh i x hx)⟩
  ·have h1:=h.DE (a:=m.f.fa) (num:=m.f.num) (by
    by_cases h2:iT x.1 m.f.fa m.f.num=0
    ·exact .inr fun h3=>hc ⟨h2,h3⟩
    ·exact .inl h2)
   exact⟨C0,g.same h1 (by rw[CY];exact ob) (g.aB hx (xd _ _ _ _))⟩
 ·rename_i hack
  have hack:m.f.vN=false:=by simpa using hack
  obtain⟨f5,f6⟩:=f4 hack
  have hl:m.l.length<=250:=by have :=Q6.ok;unfold okF at this;omega
  have key:∃C1,GI n (W.bU b (lb x.1 x.2 m.f.fa m.f.num m.l,oe x.1 x.2 m.f.fa m.f.num m.l)) C1 T/\HI b (lb x.1 x.2 m.f.fa m.f.num m.l) (oe x.1 x.2 m.f.fa m.f.num m.l) (C1 b):=by
   by_cases hc:xg x.1 m.f.fa m.f.num m.l=true/\c7 x.1 x.2=0
   ·obtain⟨q1,-,q3,-⟩:=mR hc.1
    obtain⟨H3,P,h1,h2,h3,h4,h5,h6,h7,h8,-⟩:=h.yw qA ae hK hl hc.1 hc.2
    rw[Zp]at h7 q3
    have eav:bY (C0 b) a=bY x.1 a:=by unfold bY;rw[h.av]
    have Co:=g.gc.pr a b ha hb vK
    have p1:bY (C0 b) a<=bD (C0 a) b/\bD (C0 a) b<=bY (C0 b) a+1:=⟨Co.1,Co.2.1⟩
    have f5':m.f.num<=bD (C0 a) b:=f5
    have Cn:bD (C0 a) b=bY (C0 b) a+1:=by omega
    obtain⟨q5,q6⟩:=f6 (show m.f.num=bD (C0 a) b by omega) (show bY (C0 b) a<m.f.num by omega)
    have Q_:=GC.yw (c:=ny H3) g.gc (k:=a) (d:=b) ha hb vK ae h3 q5 Cn (by rw[h2];exact q6) h4
     (by
      have :=h1.OL
      unfold ny
      rw[List.map_map];exact this)
     (by show bm H3=bm (C0 b);funext d;unfold bm;rw[h5]) (by show bD H3=bD (C0 b);funext d;unfold bD;rw[h6])
     (fun d=>by show bY H3 d=_;unfold bY;rw[h7,dx (by rw[qQ.aK];exact ha4)];rfl) h8
    refine⟨_,g.set h1 Q_ (by rw[C5];exact ob) (g.aB hx (r_ _ _ _ _ _)) (fun i x _ hx=>g.fresh i x hx),?_⟩
    unfold Bo;rw[if_pos rfl];exact h1
   ·have h1:=h.KX (a:=m.f.fa) (num:=m.f.num) hl (by
     by_cases h2:xg x.1 m.f.fa m.f.num m.l=true
     ·exact .inr fun h3=>hc ⟨h2,h3⟩
     ·exact .inl Rq)
    exact⟨C0,g.same h1 (by rw[C5];exact ob) (g.aB hx (r_ _ _ _ _ _)),h1⟩
  obtain⟨C1,g1,h1⟩:=key
  split
  ·rename_i DS
   refine⟨C1,g1.xH ⟨b,a,f2,f1,hb,ha,fun e=>vK e.symm,fun _=>?_,fun hh=>by cases hh⟩⟩
   dsimp only
   show rz x.1 x.2 m.f.fa m.f.num m.l<=bY (C1 b) a
   unfold rz
   rw[if_pos DS,Zp]
   unfold bY;rw[h1.av];exact Int.le_refl _
  ·exact⟨C1,g1⟩
theorem GI.de(g:GI n W C0 T)(hw:c6 c kb W)(hK:kb<=1000000000000)(i:Int):∃C1,GI n (tW W i) C1 T:=by
 unfold tW
 split
 ·rename_i h0
  obtain⟨h1,h2⟩:=zj h0
  have hm:=ax (k_ (W:=W) (i:=i.toNat) ae)
  exact(g.out i.toNat).cm (hw.out i.toNat) hK (g.gc.fr _ hm) (hw.cR _ hm)
 ·exact⟨C0,g⟩
theorem GI.lo(g:GI n W C0 T)(i:Int):GI n (Ow W i) C0 T:=by
 unfold Ow
 split
 ·exact g.out _
 ·exact g
theorem GI.tw(g:GI n W C0 T)(i:Int):GI n (Nz W i) C0 T:=by
 unfold Nz
 split
 ·rename_i h0
  obtain⟨h1,h2⟩:=zj h0
  have hm:=ax (k_ (W:=W) (i:=i.toNat) ae)
  exact g.ER (g.gc.fr _ hm)
 ·exact g
theorem GI.iE:∀(f:Nat) {kb:Nat} {W:Wo} {C0:Nat->Ho},GI n W C0 T->c6 c kb W->kb+2*f<=1000000000000->∃C1,GI n (iE f W) C1 T
 |0,_,_,C0,g,_,_=>⟨C0,g⟩
 |f+1,kb,W,C0,g,hw,hK=>by
  unfold WB.iE
  split
  ·exact⟨C0,g⟩
  ·obtain⟨C1,g1⟩:=g.de hw ae 0
   exact GI.iE f g1 (hw.de 0) ae
theorem GI.Vl(g:GI n W C0 T)(hw:c6 c kb W)(hK:kb+400<=1000000000000):∃C1,GI n (lS W) C1 T:=g.iE _ hw (by have :=uc hw;omega)
theorem GI.mr(g:GI n W C0 T)(hw:c6 c kb W)(hK:kb+402<=1000000000000)(k d:Nat):∃C1,GI n (mr W k d) C1 T:=by
 obtain⟨C1,g1⟩:=g.se hw ae k d
 unfold WB.mr
 split
 ·exact g1.Vl (hw.se k d) ae
 ·exact⟨C1,g1⟩
theorem GI.fold{α:Type}{f:Wo->α->Wo}{b:Nat}(h:∀W a kb C0,GI n W C0 T->c6 c kb W->kb+b<=1000000000000->c6 c (kb+b) (f W a)/\∃C1,GI n (f W a) C1 T):∀(l:List α) {kb:Nat} {W:Wo} {C0:Nat->Ho},GI n W C0 T->c6 c kb W->kb+b *l.length<=1000000000000->∃C1,GI n (l.foldl f W) C1 T
 |[],_,_,C0,g,_,_=>⟨C0,g⟩
 |a::l,kb,W,C0,g,hw,hK=>by
  rw[List.length_cons,Nat.mul_succ]at hK
  obtain⟨h1,C1,g1⟩:=h W a kb C0 g hw ae
  rw[List.foldl_cons]
  exact GI.fold h l g1 h1 ae
theorem GI.vn(g:GI n W C0 T)(hw:c6 c kb W)(hK:kb+1608<=1000000000000)(k:Nat){m:Nat}(hm:m<=4):∃C1,GI n (vn m W k) C1 T:=
 g.fold (f:=fun W d=>WB.mr W k d) (b:=402) (fun W a kb C0 g hw hK=>⟨hw.mr k a,g.mr hw hK k a⟩) (List.range m) hw YM
theorem GI.jt(g:GI n W C0 T){k:Nat}(hk:k<n):GI n (jt W k) C0 T:=by
 unfold WB.jt
 have g1:=g.PJ hk (-1)
 split
 ·exact(g1.sg hk).1
 ·exact g1
theorem GI.AR:∀(l:List Nat) {W:Wo},GI n W C0 T->(∀k∈l,k<n)->GI n (l.foldl WB.jt W) C0 T
 |[],_,g,_=>g
 |k::l,W,g,h=>GI.AR l (g.jt (h k aj)) fun j hj=>h j Uv
theorem GI.tD(g:GI n W C0 T)(hw:c6 c kb W)(hK:kb+400<=1000000000000):∃C1,GI n (tD W) C1 T:=by
 have hn:=g.hn
 unfold WB.tD
 exact(GI.AR _ g fun k hk=>by rw[<-hn];exact aO.1 hk).Vl (c6.AR ae _ W hw fun k hk=>aO.1 hk) ae
theorem GI.oA(g:GI n W C0 T)(hw:c6 c kb W)(hK:kb+10000<=1000000000000):∃C1,GI n (oA W) C1 T:=by
 have hn:=hw.n1
 obtain⟨C1,g1⟩:=g.tD hw ae
 unfold WB.oA
 exact g1.fold (b:=1608) (fun W' a Ez C0 g hw hK=>⟨hw.vn a hn.2,g.vn hw hK a hn.2⟩) (List.range W.hs.length) (hw.tD ae) YM
theorem GI.calm:∀(r:Nat) {kb:Nat} {W:Wo} {C0:Nat->Ho},GI n W C0 T->c6 c kb W->kb+10000*r<=1000000000000->∃C1,GI n (calm r W) C1 T/\c6 c (kb+10000*r) (calm r W)
 |0,_,_,C0,g,hw,_=>⟨C0,g,hw⟩
 |r+1,kb,W,C0,g,hw,hK=>by
  rw[Nat.mul_succ]at hK ⊢
  have hz:∀z:Nat,kb+(z+10000)<=1000000000000->kb+10000<=1000000000000/\kb<=1000000000000/\kb+10000+z<=1000000000000/\kb+10000+z<=kb+(z+10000):=fun z h=>by omega
  obtain⟨hK1,hK2,hK3,hK4⟩:=hz _ hK
  obtain⟨C1,g1⟩:=g.oA hw hK1
  have rX:=hw.oA hK2
  obtain⟨C2,g2,h2⟩:=GI.calm r g1 rX hK3
  exact⟨C2,g2,h2.mono (aD _) hK4⟩
theorem MG(g:GI n W C0 T){k:Nat}(hk:k<n)(i:Nat):((jt W k).H i).aB=if i=k/\(W.H k).down=true then List.replicate 5 ⟨[],[]⟩else(W.H i).aB:=by
 have hn:=g.hn
 unfold WB.jt
 have u1:fc W (W.bU k (W.H k,cu (W.D k) (-1))):=fc.set rfl
 split
 ·rename_i hd
  by_cases e:i=k
  ·subst e
   rw[if_pos ⟨rfl,hd⟩]
   exact((g.PJ hk (-1)).sg hk).2
  ·rw[if_neg (fun x=>e x.1)]
   unfold sg
   rw[jl,if_neg (fun x=>e x.1)]
   exact u1 i
 ·rename_i hd
  rw[if_neg (fun x=>hd x.2)]
  exact u1 i
theorem PV{k:Nat}(i:Nat)(hi:i≠k):((jt W k).H i).down=(W.H i).down:=by
 unfold WB.jt
 split
 ·unfold sg
  rw[jl,if_neg (fun x=>hi x.1),jl,if_neg (fun x=>hi x.1)]
 ·rw[jl,if_neg (fun x=>hi x.1)]
theorem AP:∀(l:List Nat) {W:Wo},GI n W C0 T->(∀k∈l,k<n)->l.Nodup->∀i,((l.foldl WB.jt W).H i).aB=if i∈l/\(W.H i).down=true then List.replicate 5 ⟨[],[]⟩else(W.H i).aB
 |[],_,_,_,_,i=>by simp
 |k::l,W,g,h,nM,i=>by
  rw[bI]at nM
  rw[List.foldl_cons,AP l (g.jt (h k aj)) (fun j hj=>h j Uv) nM.2 i,MG g (h k aj) i]
  by_cases e:i=k
  ·subst e
   rw[if_neg (fun x=>nM.1 x.1)]
   simp
  ·rw[PV i e]
   by_cases hd:(W.H i).down=true<;>by_cases hm:i∈l<;>simp[e,hd,hm]
theorem xc(g:GI n W C0 T){i:Nat}(hi:i<n):((oA W).H i).aB=if(W.H i).down=true then List.replicate 5 ⟨[],[]⟩else(W.H i).aB:=by
 have hn:=g.hn
 unfold WB.oA
 rw[fc.fold (fun W a=>fc.vn _ W a) _ _ i]
 unfold WB.tD
 rw[fc.Vl _ i,AP _ g (fun k hk=>by rw[<-hn];exact aO.1 hk) List.nodup_range i]
 have :i∈List.range W.hs.length:=aO.2 ae
 simp[this]
end
open Go Go.RowKit
structure Bl where
 jK:Int
 k:Int
 n:Int
 m:Int
 unit:Int
def nP (x:Bl):List Value:=[.int .i64 x.jK,.int .i64 x.k,.int .i64 x.n,.int .i64 x.m,.int .i64 x.unit]
def iC (x:Int):List Value:=[.int .i64 x]
structure Hs where
 i:Nat
 bh:Nat
 H:Ho
 H0:Ho
 D:Dk
 R:List ak
 T:List Int
 us:List Value
 P:List (List Int)
 vs:List Value
 G:List (List Int)
structure amk (c:Nat) (s:Hs):Prop where
 L:ag3 VJ 0 c s.H s.H0 s.D s.R s.T (fun u=>s.P.getD u []) (fun u=>s.G.getD u [])
 us:s.us.length=5
 P:s.P.length=5
 vs:s.vs.length=5
 G:s.G.length=5
def qOf (k:Nat):ak:=if k=0 then eV else hI
theorem lf.put{c kb k:Nat}{x:Ho×Dk}(h:lf c kb k x)(u:Int)(s:ak)(pri:Int)(body:ak)(hm:∀y∈x.1.aB,y.aM.length+y.bu.length<=600):lf (c+1) kb k (fl x.1 u s pri body,x.2):=by
 by_cases he:jn x.1 u s pri body=0
 ·obtain⟨ku,Br,EB,-⟩:=Im he
  obtain⟨hj,-,-⟩:=zL h.B ku
  have hB:=h.B.put u s pri body
  have e1:fl x.1 u s pri body=cQ {x.1.fj (mY x.1 s) (db (x.1.dY (mY x.1 s)) (fk x.1 s pri body) u)with next:=x.1.next+1} u.toNat ⟨(x.1.eP u.toNat).aM++[(fk x.1 s pri body,(jU x.1 s).2.1)],(x.1.eP u.toNat).bu⟩:=by
   unfold fl
   rw[if_pos he]
   unfold pM
   rw[if_pos Br]
  rw[e1]at hB ⊢
  refine⟨(Dh _ _).trans h.id,hB.le (by show _<=300+(c+1)+250*(x.1.fj _ _).used;rw[oH];omega),h.len,h.left,h.size,h.oj,fun y hy=>?_,?_,?_⟩
  ·have hy:y∈(x.1.fj (mY x.1 s) (db (x.1.dY (mY x.1 s)) (fk x.1 s pri body) u)).aB.set u.toNat ⟨(x.1.eP u.toNat).aM++[(fk x.1 s pri body,(jU x.1 s).2.1)],(x.1.eP u.toNat).bu⟩:=hy
   rw[gy]at hy
   rcases a_ hy with h1|rfl
   ·exact⟨(h.aB y h1).1,by have :=(h.aB y h1).2;omega⟩
   ·rcases Nat.lt_or_ge u.toNat x.1.aB.length with hu|hu
    ·have h2:=gu h.B (u:=u.toNat) (by have :=h.B.aB;omega)
     have h3:=ax h2
     obtain⟨a,b⟩:=h.aB _ h3
     have h4:=hm _ h3
     refine⟨⟨fun p hp=>?_,a.bu,by dsimp only;simp;omega⟩,by dsimp only;simp;omega⟩
     rcases aN.1 hp with hp|hp
     ·exact a.aM p hp
     ·simp at hp;subst hp;exact EB
    ·have :(x.1.eP u.toNat)=⟨[],[]⟩:=by unfold Ho.eP;rw[aq,br hu];rfl
     rw[this]
     refine⟨⟨fun p hp=>?_,(fun g hg=>by cases hg),by simp⟩,by simp⟩
     simp at hp;subst hp;exact EB
  ·refine WR.of (H:=x.1.fj (mY x.1 s) (db (x.1.dY (mY x.1 s)) (fk x.1 s pri body) u)) ?_ rfl
   unfold Ho.fj
   split
   ·rename_i h4
    refine h.ways.gK fun e he=>?_
    rcases B5 he with rfl|he
    ·exact EB
    ·rw[kB h.B.ways h4]at he;exact h.ways.at' _ e he
   ·exact h.ways.of rfl
  ·have h1:(x.1.fj (mY x.1 s) (db (x.1.dY (mY x.1 s)) (fk x.1 s pri body) u)).aI.length=x.1.aI.length:=B2 _ _
   have h2:(x.1.fj (mY x.1 s) (db (x.1.dY (mY x.1 s)) (fk x.1 s pri body) u)).used=x.1.used:=oH _ _
   show(x.1.fj _ _).aI.length<=2+(x.1.fj _ _).used
   rw[h1,h2];exact h.ql
 ·have :fl x.1 u s pri body=x.1:=by unfold fl;rw[if_neg he]
  rw[this];exact h.mono (Nat.le_succ c) (aD _)
theorem Xx{H:Ho}{u:Int}{s:ak}(he:lR H u s=0):∃i,H.qI s=some i/\nV (H.ec i)=0/\H.down=false/\(s=cL\/fq H.names s=true):=by
 have h0:=he
 unfold lR at h0
 split at h0
 ·cases h0
 ·cases hq:H.qI s with
  |none=>rw[hq]at h0;cases h0
  |some i=>
   rw[hq]at h0
   dsimp only at h0
   split at h0
   ·cases h0
   ·rename_i h1
    split at h0
    ·cases h0
    ·rename_i h2
     refine⟨i,rfl,h0,by simpa using h2,?_⟩
     by_cases hd:s=cL
     ·exact .inl hd
     ·cases hl:fq H.names s with
      |true=>exact .inr rfl
      |false=>exact absurd ⟨hd,hl⟩ h1
theorem lf.get{c kb k:Nat}{x:Ho×Dk}(h:lf c kb k x)(u:Int){s:ak}(hs:dw s=true)(hm:∀y∈x.1.aB,y.aM.length+y.bu.length<=600):lf (c+1) kb k (jZ x.1 u s,x.2):=by
 by_cases he:lR x.1 u s=0
 ·obtain⟨i,yY,Br,-,-⟩:=Xx he
  have hB:=h.B.get u s
  obtain⟨q,W_⟩:∃q,zI (x.1.ec i)=some q:=by
   unfold nV at Br
   split at Br
   ·cases Br
   ·rename_i q k9;exact⟨q,k9⟩
  obtain⟨uX,-,-⟩:=List.findIdx?_eq_some_iff_getElem.1 W_
  have DR:mX (x.1.ec i)=((x.1.ec i).l[q]).m:=by unfold mX;rw[W_];dsimp only;rw[pW (ao uX)]
  have nN:=(h.B.qa (ik yY).1).ids _ (List.getElem_mem uX)
  rw[<-DR]at nN
  have e1:jZ x.1 u s=cQ (x.1.fB i (oM (x.1.ec i) u)) u.toNat ⟨(x.1.eP u.toNat).aM,(x.1.eP u.toNat).bu++[((mX (x.1.ec i)).id,s)]⟩:=by
   unfold jZ
   rw[if_pos he,yY]
   rfl
  rw[e1]at hB ⊢
  refine⟨h.id,hB.le (by show _<=300+(c+1)+250*x.1.used;omega),h.len,h.left,h.size,h.oj,fun y hy=>?_,h.ways.of rfl,by show(x.1.fB _ _).aI.length<=_;rw[zy];exact h.ql⟩
  have hy:y∈x.1.aB.set u.toNat ⟨(x.1.eP u.toNat).aM,(x.1.eP u.toNat).bu++[((mX (x.1.ec i)).id,s)]⟩:=hy
  rcases a_ hy with h1|rfl
  ·exact⟨(h.aB y h1).1,by have :=(h.aB y h1).2;omega⟩
  ·rcases Nat.lt_or_ge u.toNat x.1.aB.length with hu|hu
   ·have h2:=gu h.B (u:=u.toNat) (by have :=h.B.aB;omega)
    have h3:=ax h2
    obtain⟨a,b⟩:=h.aB _ h3
    have h4:=hm _ h3
    refine⟨⟨a.aM,fun g hg=>?_,by dsimp only;simp;omega⟩,by dsimp only;omega⟩
    rcases aN.1 hg with hg|hg
    ·exact a.bu g hg
    ·simp at hg;subst hg;exact⟨nN.1,nN.2,hs⟩
   ·have :(x.1.eP u.toNat)=⟨[],[]⟩:=by unfold Ho.eP;rw[aq,br hu];rfl
    rw[this]
    refine⟨⟨(fun p hp=>by cases hp),fun g hg=>?_,by simp⟩,by simp⟩
    simp at hg;subst hg;exact⟨nN.1,nN.2,hs⟩
 ·have :jZ x.1 u s=x.1:=by unfold jZ;rw[if_neg he]
  rw[this];exact h.mono (Nat.le_succ c) (aD _)
theorem lf.bk{c kb k:Nat}{x:Ho×Dk}(h:lf c kb k x)(u:Int):lf c kb k (ou x.1 u,x.2):=by
 have hB:=h.B.bk u
 unfold ou at hB ⊢
 split
 ·rename_i h0
  rw[if_pos h0]at hB
  refine⟨h.id,hB.le (by show _<=300+c+250*x.1.used;omega),h.len,h.left,h.size,h.oj,fun y hy=>?_,fun q hq=>?_,by show(cE x.1 u).aI.length<=2+x.1.used;unfold cE;simpa using h.ql⟩
  ·have hy:y∈x.1.aB.set u.toNat cC:=hy
   rcases a_ hy with h1|rfl
   ·exact h.aB y h1
   ·exact⟨⟨(fun p hp=>by cases hp),(fun g hg=>by cases hg),by decide⟩,aV _⟩
  ·have hq:q∈x.1.ways.map fun q=>eK q u true:=hq
   obtain⟨q0,h1,rfl⟩:=ay.1 hq
   intro e he
   unfold eK at he
   split at he
   ·exact h.ways q0 h1 e he
   ·obtain⟨e0,h2,rfl⟩:=ay.1 he
    exact h.ways q0 h1 e0 (aC.1 h2).1
 ·exact h
theorem lf.cm{c kb k:Nat}{x:Ho×Dk}(h:lf c kb k x)(hc:c<=240){u:Nat}(hu:u<5):lf c (kb+1) k (la x.1 x.2 u,od x.1 x.2 u):=by
 have kN:=gu h.B hu
 have hum:=ax kN
 obtain⟨Aj,U2⟩:=h.aB _ hum
 have jg:fO 250 (oK (x.1.eP u)):=Aj.VZ ae
 have hw:=h.write jg (y_ Aj)
 by_cases h1:kP x.1 u≠0
 ·unfold la od
  rw[if_pos h1,if_pos h1]
  exact h.mono (aD _) (Nat.le_succ _)
 by_cases h2:c7 x.1 x.2≠0
 ·unfold la od
  rw[if_neg h1,if_neg h1,if_pos h2,aA]
  unfold lM at hw
  rw[if_neg h2]at hw
  exact hw
 have hB:=h.B.cm (D:=x.2) (u:Int) fun y hy=>(h.aB y hy).1
 have gY:=kQ (H:=x.1) (D:=x.2) (u:Int)
 have h1':kP x.1 u=0:=by simpa using h1
 have h2':c7 x.1 x.2=0:=by simpa using h2
 have he:vj x.1 x.2 u=0:=by unfold vj;rw[if_neg h1];exact h2'
 rw[if_pos he,aA]at gY
 rw[aA]at hB
 have eD:od x.1 x.2 u=gU x.1 x.2 (oK (x.1.eP u)):=by unfold od;rw[if_neg h1,aA]
 have eH:la x.1 x.2 u=(eZ (cQ (cE (dc x.1 x.2) u) u cC) (qu (x.1.eP u))).1:=by
  unfold la;rw[if_neg h1,if_neg h2,aA]
 obtain⟨eL,-,-,-⟩:=dA h2' (oK (x.1.eP u))
 have eU:(la x.1 x.2 u).used=x.1.used+1:=by
  rw[eH,(nq _ _).used,eL];rfl
 refine⟨?_,hB.le (by dsimp only;rw[eU];omega),by dsimp only;rw[eD];exact hw.len,by dsimp only;rw[eD];exact hw.left,by dsimp only;rw[eD];exact hw.size,by dsimp only;rw[eD];exact hw.oj,fun y hy=>?_,?_,?_⟩
 ·dsimp only
  rw[eH,(nq _ _).id,eL];exact h.id
 ·dsimp only at hy
  rw[gY]at hy
  rcases a_ hy with h3|rfl
  ·exact h.aB y h3
  ·exact⟨⟨(fun p hp=>by cases hp),(fun g hg=>by cases hg),by decide⟩,aV _⟩
 ·dsimp only
  rw[eH]
  refine Gu ?_ _
  intro q hq
  have hq:q∈(dc x.1 x.2).ways.map fun q=>eK q u true:=hq
  rw[Ch]at hq
  obtain⟨q0,h1,rfl⟩:=ay.1 hq
  intro e he
  unfold eK at he
  split at he
  ·exact h.ways q0 h1 e he
  ·obtain⟨e0,h2,rfl⟩:=ay.1 he
   exact h.ways q0 h1 e0 (aC.1 h2).1
 ·dsimp only
  rw[eU,eH,Gs]
  have h3:(cQ (cE (dc x.1 x.2) u) u cC).aI.length=x.1.aI.length:=by
   rw[eL];unfold cQ cE;simp
  rw[h3]
  have :=h.ql
  omega
theorem Ap{κ β:Type}[DecidableEq κ]{m:List (κ×β)}(hn:(m.map (·.1)).Nodup){x:κ×β}(h:x∈m):eI m x.1=some x.2:=by
 induction m with
 |nil=>cases h
 |cons y r ih=>
  rw[aL,bI]at hn
  rcases aF.1 h with rfl|h
  ·rw[eI,if_pos rfl]
  ·have gN:¬y.1=x.1:=fun e=>hn.1 (by rw[e];exact List.mem_map_of_mem (f:=(·.1)) h)
   rw[eI,if_neg gN]
   exact ih hn.2 h
theorem Fm{κ β:Type}[DecidableEq κ]{m:List (κ×β)}{k:κ}(h:k∉m.map (·.1))(v:β):gh m k v=m++[(k,v)]:=by
 induction m with
 |nil=>rfl
 |cons x r ih=>
  rw[aL,aF,not_or]at h
  rw[gh,if_neg fun e=>h.1 e.symm,ih h.2];rfl
theorem GM{κ β:Type}[DecidableEq κ]{m:List (κ×β)}(hn:(m.map (·.1)).Nodup)(k:κ):rm m k=m.filter fun x=> !decide (x.1=k):=by
 induction m with
 |nil=>rfl
 |cons x r ih=>
  rw[aL,bI]at hn
  rw[rm,bE]
  by_cases e:x.1=k
  ·rw[if_pos e,if_neg (by simp[e]),aT.2]
   intro y hy
   have :y.1≠k:=fun e2=>hn.1 (by rw[e,<-e2];exact List.mem_map_of_mem (f:=(·.1)) hy)
   simpa using this
  ·rw[if_neg e,if_pos Uw,ih hn.2]
structure nS where
 n:Nat
 W:Wo
 T:List (Int×Ms)
 P:List (List Ms)
 G:List (List Int)
 ks:List Int
 Ls:List (List Int)
 ok:Bool
def xS:ak:=⟨#[120]⟩
def v7 (k:Nat):ak:=if k=0 then eV else if k=1 then hI else eF
def lP (ks:List Int) (x:Int):Option Nat:=ks.findIdx? fun k=>decide (k=x)
def wm (ks:List Int) (x:Int):List Int:=match lP ks x with|some _=>ks|none=>ks++[x]
def wk (ks:List Int) (Ls:List (List Int)) (x id:Int):List (List Int):=match lP ks x with|some i=>Ls.set i (Ls.getD i []++[id])|none=>Ls++[[id]]
structure OvS where
 T:List (Int×Ms)
 ks:List Int
 Ls:List (List Int)
def sh (k:Nat) (s:OvS) (m:Ms):OvS:=
 if m.cq≠(k:Int)then⟨gh s.T m.id m,wm s.ks ((k:Int)*100+m.pri),wk s.ks s.Ls ((k:Int)*100+m.pri) m.id⟩else⟨gh s.T m.id m,s.ks,s.Ls⟩
def M6 (s:List (Int×Ms)×Bool) (id:Int):List (Int×Ms)×Bool:=(rm s.1 id,s.2&&(eI s.1 id).isSome)
def ix (k u:Nat):Nat:=k *5+u
def sP (S:nS) (k u:Nat):nS:=
 let o:=(S.P.getD (ix k u) []).foldl (sh k) ⟨S.T,S.ks,S.Ls⟩
 let g:=(S.G.getD (ix k u) []).foldl M6 (o.T,S.ok)
 {S with T:=g.1,ks:=o.ks,Ls:=o.Ls,ok:=g.2,P:=S.P.set (ix k u) [],G:=S.G.set (ix k u) []}
def FE {α:Type} (P:List (List α)) (k:Nat):List (List α):=(List.range 5).foldl (fun P u=>P.set (ix k u) []) P
def gI (S:nS) (k:Nat):nS:={S with P:=FE S.P k,G:=FE S.G k}
def pB (n k:Nat) (id pri:Int) (q:ak):Ms:=if q=eF then⟨id,pri,xS,eV,((k:Int)+1)%n⟩else⟨id,pri,xS,q,k⟩
def oG (S:nS) (k u:Nat) (q:ak) (pri:Int):nS:=
 let S1:={S with W:=S.W.bU k (fl (S.W.H k) u q pri xS,S.W.D k)}
 if jn (S.W.H k) u q pri xS=0 then {S1 with P:=S.P.set (ix k u) (S.P.getD (ix k u) []++[pB S.n k (zK (S.W.H k) u q pri xS) pri q])}else S1
def uq (S:nS) (k u:Nat) (q:ak):nS:=
 let m:=getM (S.W.H k) u q
 let S1:={S with W:=S.W.bU k (jZ (S.W.H k) u q,S.W.D k)}
 if lR (S.W.H k) u q=0 then {S1 with ok:=S.ok&&decide ((eI S.T m.id).getD oh=m),G:=S.G.set (ix k u) (S.G.getD (ix k u) []++[m.id])}else S1
def sC (S:nS) (k u:Nat):nS:=
 let S1:={S with W:=S.W.bU k (la (S.W.H k) (S.W.D k) u,od (S.W.H k) (S.W.D k) u)}
 if vj (S.W.H k) (S.W.D k) u=0 then sP S1 k u else S1
def zq (S:nS) (k u:Nat):nS:=
 let S1:={S with W:=S.W.bU k (ou (S.W.H k) u,S.W.D k)}
 if Bz (S.W.H k) u=0 then {S1 with P:=S.P.set (ix k u) [],G:=S.G.set (ix k u) []}else S1
def fI (S:nS) (k:Nat):nS:=if(S.W.H k).down=true then gI S k else S
def gS (S:nS):nS:={(List.range S.n).foldl fI S with W:=calm 1 S.W}
def YZ (S:nS) (x:Bl):Int:=if 0<S.W.cR.length then pk x.n (S.W.cR.length:Nat)else 0
def dt (S:nS) (x:Bl):Nat:=(pk x.k (S.n:Nat)).toNat
def je (x:Bl):Nat:=(pk x.unit 5).toNat
def dW (S:nS) (x:Bl):nS:=
 if x.jK=0 then oG S (dt S x) (je x) (v7 (pk x.n 3).toNat) (pk x.m 3)
 else if x.jK=1 then uq S (dt S x) (je x) (if pk x.m 5=0 then cL else v7 (pk x.n 2).toNat)
 else if x.jK=2 then sC S (dt S x) (je x)
 else if x.jK=3 then zq S (dt S x) (je x)
 else if x.jK=4 then {S with W:=yf S.W (dt S x) (((dt S x:Nat)+1)%(S.n:Int))}
 else if x.jK=5 then {S with W:=tW S.W (YZ S x)}
 else if x.jK=6 then {S with W:=Ow S.W (YZ S x)}
 else if x.jK=7 then {S with W:=Nz S.W (YZ S x)}
 else if x.jK=8 then {S with W:=Bm S.W (dt S x) (pk x.n 4) (pk x.m 150-1)}
 else if x.jK=9 then {gI S (dt S x)with W:=Le S.W (dt S x)}
 else if x.jK=10 then gS S
 else S
section
variable {c kb n:Nat} {W W':Wo} {C0:Nat->Ho} {T T':List Ms}
theorem GI.perm(g:GI n W C0 T)(h:T.Perm T'):GI n W C0 T':=
 ⟨g.hn,g.hi,g.gc.perm h,fun k x hx u y hy p hp hm=>g.fresh k x hx u y hy p hp ((h.map _).mem_iff.2 hm),g.jA⟩
theorem kE{k:Nat}(h:k<W.hs.length):W.bU k (W.H k,W.D k)=W:=by
 unfold Wo.bU Wo.H Wo.D Wo.at'
 rw[aq,ao h]
 show({W with hs:=W.hs.set k (W.hs[k])}:Wo)=W
 rw[List.set_getElem_self]
def PT (W:Wo) (P:List (List Ms)):Prop:=P.length=20/\∀k u,k<4->u<5->P[ix k u]? =some (((W.H k).eP u).aM.map (·.1))
def GT (W:Wo) (G:List (List Int)):Prop:=G.length=20/\∀k u,k<4->u<5->G[ix k u]? =some (((W.H k).eP u).bu.map (·.1))
theorem mE{H H':Ho}(h:H'.aB=H.aB)(u:Nat):H'.eP u=H.eP u:=by unfold Ho.eP;rw[h]
theorem PT.same{P:List (List Ms)}(h:PT W P)(hu:fc W W'):PT W' P:=⟨h.1,fun k u hk SV=>by rw[mE (hu k)];exact h.2 k u hk SV⟩
theorem GT.same{P:List (List Int)}(h:GT W P)(hu:fc W W'):GT W' P:=⟨h.1,fun k u hk SV=>by rw[mE (hu k)];exact h.2 k u hk SV⟩
theorem yO{W:Wo}{k i u v:Nat}{H':Ho}{D':Dk}{y:pg}(hk:k<W.hs.length)(hu:u<5)(h5:(W.H k).aB.length=5)(gY:H'.aB=(W.H k).aB.set u y):
 ((W.bU k (H',D')).H i).eP v=if i=k/\v=u then y else(W.H i).eP v:=by
 rw[jl]
 by_cases e:i=k
 ·subst e
  rw[if_pos ⟨rfl,hk⟩]
  unfold Ho.eP
  dsimp only
  rw[gY,aq,aq,List.getElem?_set]
  by_cases e2:u=v
  ·rw[if_pos e2,if_pos ae,if_pos ⟨rfl,e2.symm⟩];rfl
  ·rw[if_neg e2,if_neg (fun x=>e2 x.2.symm)]
 ·rw[if_neg (fun x=>e x.1),if_neg (fun x=>e x.1)]
theorem wF{k u i v:Nat}(hu:u<5)(hv:v<5):ix i v=ix k u↔i=k/\v=u:=by unfold ix;omega
theorem PT.set{P:List (List Ms)}(h:PT W P){k u:Nat}(hk:k<W.hs.length)(lV:k<4)(hu:u<5){H':Ho}{D':Dk}{y:pg}(h5:(W.H k).aB.length=5)(gY:H'.aB=(W.H k).aB.set u y){l:List Ms}(hl:l=y.aM.map (·.1)):PT (W.bU k (H',D')) (P.set (ix k u) l):=by
 refine⟨by simpa using h.1,fun i v hi hv=>?_⟩
 rw[yO hk hu h5 gY,List.getElem?_set]
 by_cases e:i=k/\v=u
 ·rw[if_pos ((wF hu hv).2 e).symm,if_pos (by rw[h.1];unfold ix;omega),if_pos e,hl]
 ·rw[if_neg (fun x=>e ((wF hu hv).1 x.symm)),if_neg e];exact h.2 i v hi hv
theorem GT.set{P:List (List Int)}(h:GT W P){k u:Nat}(hk:k<W.hs.length)(lV:k<4)(hu:u<5){H':Ho}{D':Dk}{y:pg}(h5:(W.H k).aB.length=5)(gY:H'.aB=(W.H k).aB.set u y){l:List Int}(hl:l=y.bu.map (·.1)):GT (W.bU k (H',D')) (P.set (ix k u) l):=by
 refine⟨by simpa using h.1,fun i v hi hv=>?_⟩
 rw[yO hk hu h5 gY,List.getElem?_set]
 by_cases e:i=k/\v=u
 ·rw[if_pos ((wF hu hv).2 e).symm,if_pos (by rw[h.1];unfold ix;omega),if_pos e,hl]
 ·rw[if_neg (fun x=>e ((wF hu hv).1 x.symm)),if_neg e];exact h.2 i v hi hv
theorem PT.stay{P:List (List Ms)}(h:PT W P){k u:Nat}(hk:k<W.hs.length)(lV:k<4)(hu:u<5){H':Ho}{D':Dk}{y:pg}(h5:(W.H k).aB.length=5)(gY:H'.aB=(W.H k).aB.set u y)(hl:y.aM=((W.H k).eP u).aM):PT (W.bU k (H',D')) P:=by
 refine⟨h.1,fun i v hi hv=>?_⟩
 rw[yO hk hu h5 gY]
 split
 ·rename_i e;rw[hl,h.2 i v hi hv,e.1,e.2]
 ·exact h.2 i v hi hv
theorem GT.stay{P:List (List Int)}(h:GT W P){k u:Nat}(hk:k<W.hs.length)(lV:k<4)(hu:u<5){H':Ho}{D':Dk}{y:pg}(h5:(W.H k).aB.length=5)(gY:H'.aB=(W.H k).aB.set u y)(hl:y.bu=((W.H k).eP u).bu):GT (W.bU k (H',D')) P:=by
 refine⟨h.1,fun i v hi hv=>?_⟩
 rw[yO hk hu h5 gY]
 split
 ·rename_i e;rw[hl,h.2 i v hi hv,e.1,e.2]
 ·exact h.2 i v hi hv
theorem uK{α:Type}{P:List (List α)}(hP:P.length=20){k i v:Nat}(hk:k<4)(hi:i<4)(hv:v<5):(FE P k)[ix i v]? =if i=k then some []else P[ix i v]? :=by
 have key:∀(l:List Nat) (P:List (List α)),P.length=20->(∀u∈l,u<5)->(l.foldl (fun P u=>P.set (ix k u) []) P)[ix i v]? =if i=k/\v∈l then some []else P[ix i v]? :=by
  intro l
  induction l with
  |nil=>intro P _ _;simp
  |cons a l ih=>
   intro P hP hl
   have ha:=hl a aj
   have jq:(P.set (ix k a) [])[ix i v]? =if i=k/\v=a then some []else P[ix i v]? :=by
    rw[List.getElem?_set]
    by_cases e:i=k/\v=a
    ·rw[if_pos ((wF ha hv).2 e).symm,if_pos (by rw[hP];unfold ix;omega),if_pos e]
    ·rw[if_neg (fun x=>e ((wF ha hv).1 x.symm)),if_neg e]
   rw[List.foldl_cons,ih _ (by simpa using hP) (fun u hu=>hl u (by simp[hu])),jq]
   by_cases e1:i=k<;>by_cases e2:v=a<;>by_cases e3:v∈l<;>simp[e1,e2,e3]
 unfold FE
 rw[key _ _ hP (fun u hu=>aO.1 hu)]
 by_cases e:i=k
 ·rw[if_pos ⟨e,aO.2 hv⟩,if_pos e]
 ·rw[if_neg (fun x=>e x.1),if_neg e]
theorem uJ{α:Type}(P:List (List α))(k:Nat):(FE P k).length=P.length:=by
 have key:∀(l:List Nat) (P:List (List α)),(l.foldl (fun P u=>P.set (ix k u) []) P).length=P.length:=by
  intro l
  induction l with
  |nil=>intro P;rfl
  |cons a l ih=>intro P;rw[List.foldl_cons,ih];simp
 exact key _ P
theorem rJ{H:Ho}(h:H.aB=List.replicate 5 ⟨[],[]⟩)(u:Nat):H.eP u=⟨[],[]⟩:=by
 unfold Ho.eP
 rw[h,aq,List.getElem?_replicate]
 split<;>rfl
theorem PT.nil{P:List (List Ms)}(h:PT W P){k:Nat}(lV:k<4)(h1:(W'.H k).aB=List.replicate 5 ⟨[],[]⟩)(h2:∀i,i≠k->(W'.H i).aB=(W.H i).aB):PT W' (FE P k):=by
 refine⟨by rw[uJ];exact h.1,fun i v hi hv=>?_⟩
 rw[uK h.1 lV hi hv]
 by_cases e:i=k
 ·subst e;rw[if_pos rfl,rJ h1];rfl
 ·rw[if_neg e,mE (h2 i e)];exact h.2 i v hi hv
theorem GT.nil{P:List (List Int)}(h:GT W P){k:Nat}(lV:k<4)(h1:(W'.H k).aB=List.replicate 5 ⟨[],[]⟩)(h2:∀i,i≠k->(W'.H i).aB=(W.H i).aB):GT W' (FE P k):=by
 refine⟨by rw[uJ];exact h.1,fun i v hi hv=>?_⟩
 rw[uK h.1 lV hi hv]
 by_cases e:i=k
 ·subst e;rw[if_pos rfl,rJ h1];rfl
 ·rw[if_neg e,mE (h2 i e)];exact h.2 i v hi hv
end
structure nD (c kb:Nat) (S:nS):Prop where
 n2:2<=S.n/\S.n<=4
 B:c6 c kb S.W
 gi:∃C0,GI S.n S.W C0 (S.T.map (·.2))
 key:∀x∈S.T,x.1=x.2.id
 um:∀k,∀y∈(S.W.H k).aB,y.aM.length+y.bu.length<=c
 P:PT S.W S.P
 G:GT S.W S.G
 ok:S.ok=true
section
variable {c kb:Nat} {S:nS}
theorem nD.keys(h:nD c kb S):(S.T.map (·.1)).Nodup/\S.T.map (·.1)=(S.T.map (·.2)).map (·.id):=by
 obtain⟨C0,g⟩:=h.gi
 have e:S.T.map (·.1)=(S.T.map (·.2)).map (·.id):=by
  rw[List.map_map]
  exact List.map_congr_left fun x hx=>h.key x hx
 exact⟨by rw[e];exact g.gc.tn,e⟩
theorem nD.find(h:nD c kb S){m:Ms}(hm:m∈S.T.map (·.2)):eI S.T m.id=some m:=by
 obtain⟨x,hx,rfl⟩:=ay.1 hm
 rw[<-h.key x hx]
 exact Ap h.keys.1 hx
theorem nD.Du(h:nD c kb S){W':Wo}{b:Nat}(hB:c6 c (kb+b) W')(hu:fc S.W W')(g:∃C0,GI S.n W' C0 (S.T.map (·.2))):nD c (kb+b) {S with W:=W'}:=
 ⟨h.n2,hB,g,h.key,fun k y hy=>h.um k y (by rw[<-hu k];exact hy),h.P.same hu,h.G.same hu,h.ok⟩
theorem nD.mono(h:nD c kb S){c' Ez:Nat}(h1:c<=c')(h2:kb<=Ez):nD c' Ez S:=⟨h.n2,h.B.mono h1 h2,h.gi,h.key,fun k y hy=>Nat.le_trans (h.um k y hy) h1,h.P,h.G,h.ok⟩
theorem nD.hn(h:nD c kb S):S.W.hs.length=S.n:=by obtain⟨C0,g⟩:=h.gi;exact g.hn
theorem Od{H:Ho}{k n:Nat}(hid:H.id=(k:Int))(hk:k<n)(hn:2<=n/\n<=4)(ob:H.names=Sr k n){j:Nat}:jU H (v7 j)=if v7 j=eF then(eV,((k:Int)+1)%n,0)else(v7 j,-1,0):=by
 unfold jU
 rw[hid,ob]
 have lV:k=0\/k=1\/k=2\/k=3:=by omega
 have gO:n=2\/n=3\/n=4:=by omega
 have hq:v7 j=eV\/v7 j=hI\/v7 j=eF:=by unfold v7;split;exact .inl rfl;split;exact .inr (.inl rfl);exact .inr (.inr rfl)
 rcases hq with hq|hq|hq<;>rw[hq]<;>rcases gO with rfl|rfl|rfl<;>rcases lV with rfl|rfl|rfl|rfl<;>first|(exact absurd hk ai)|decide+kernel
theorem pH{W:Wo}{k:Nat}{x:Ho×Dk}(hk:k<W.hs.length){i:Nat}{y:pg}(hy:y∈((W.bU k x).H i).aB):(i=k/\y∈x.1.aB)\/y∈(W.H i).aB:=by
 rw[jl]at hy
 split at hy
 ·rename_i e;exact .inl ⟨e.1,hy⟩
 ·exact .inr hy
theorem nD.at(h:nD c kb S){k:Nat}(hk:k<S.n):∃x,S.W.hs[k]? =some x/\S.W.H k=x.1/\S.W.D k=x.2/\lf c kb k x/\x.1.names=Sr k S.n/\(S.W.H k).aB.length=5:=by
 obtain⟨C0,g⟩:=h.gi
 obtain⟨x,hx,e1,e2,hh⟩:=g.at hk
 exact⟨x,hx,e1,e2,h.B.hs k x hx,g.jA k x hx,by rw[e1];exact(h.B.hs k x hx).B.aB⟩
theorem nD.put(h:nD c kb S)(hc:c<=200){k u j:Nat}(hk:k<S.n)(hu:u<5)(pri:Int):nD (c+1) kb (oG S k u (v7 j) pri):=by
 obtain⟨x,hx,e1,e2,hb,ob,h5⟩:=h.at hk
 have hn:=h.hn
 have gO:=h.n2
 unfold oG
 dsimp only
 have hum:∀y∈x.1.aB,y.aM.length+y.bu.length<=600:=fun y hy=>by
  have :=h.um k y (by rw[e1];exact hy);omega
 have h_:c6 (c+1) kb (S.W.bU k (fl (S.W.H k) u (v7 j) pri xS,S.W.D k)):=by
  rw[e1,e2]
  exact(h.B.mono (Nat.le_succ c) (aD _)).set (hb.put _ _ _ _ hum)
 split
 ·rename_i he
  obtain⟨C0,g⟩:=h.gi
  have g1:=g.put h.B hk hu he
  have kN:=gu hb.B hu
  have gY:(fl (S.W.H k) u (v7 j) pri xS).aB=(S.W.H k).aB.set u ⟨((S.W.H k).eP u).aM++[(fk (S.W.H k) (v7 j) pri xS,(jU (S.W.H k) (v7 j)).2.1)],((S.W.H k).eP u).bu⟩:=by
   unfold fl
   rw[if_pos he]
   unfold cQ
   dsimp only
   rw[gy,aA]
  have hid:(S.W.H k).id=(k:Int):=by rw[e1];exact hb.id
  have hm:pB S.n k (zK (S.W.H k) u (v7 j) pri xS) pri (v7 j)=fk (S.W.H k) (v7 j) pri xS:=by
   unfold zK pB fk
   rw[if_pos he]
   have qk:=Od hid hk gO (by rw[e1];exact ob) (j:=j)
   rw[qk]
   by_cases hq:v7 j=eF
   ·rw[if_pos hq,if_pos hq]
    have :¬((k:Int)+1)%S.n<0:=by have :=Int.emod_nonneg ((k:Int)+1) (show(S.n:Int)≠0 by omega);omega
    dsimp only
    rw[if_neg this]
   ·rw[if_neg hq,if_neg hq]
    dsimp only
    rw[if_pos ai,hid]
  have hPk:=h.P.2 k u ae hu
  have Rh:S.P.getD (ix k u) []=((S.W.H k).eP u).aM.map (·.1):=by rw[aq,hPk];rfl
  refine⟨h.n2,h_,⟨C0,g1⟩,h.key,fun i y hy=>?_,?_,?_,h.ok⟩
  ·rcases pH ae hy with⟨-,h1⟩|h1
   ·rw[gY]at h1
    rcases a_ h1 with h2|rfl
    ·have :=h.um k y h2;omega
    ·have :=h.um k _ (by rw[e1];exact ax kN)
     rw[e1]
     dsimp only
     simp;omega
   ·have :=h.um i y h1;omega
  ·refine h.P.set ae ae hu h5 gY ?_
   rw[Rh,hm]
   dsimp only
   rw[aZ];rfl
  ·exact h.G.stay ae ae hu h5 gY rfl
 ·rename_i he
  have e3:fl (S.W.H k) u (v7 j) pri xS=S.W.H k:=by unfold fl;rw[if_neg he]
  rw[e3,kE ae]
  exact h.mono (Nat.le_succ c) (aD _)
theorem nD.get(h:nD c kb S)(hc:c<=200){k u:Nat}(hk:k<S.n)(hu:u<5){q:ak}(hq:dw q=true):nD (c+1) kb (uq S k u q):=by
 obtain⟨x,hx,e1,e2,hb,ob,h5⟩:=h.at hk
 have hn:=h.hn
 have gO:=h.n2
 unfold uq
 dsimp only
 have hum:∀y∈x.1.aB,y.aM.length+y.bu.length<=600:=fun y hy=>by
  have :=h.um k y (by rw[e1];exact hy);omega
 have h_:c6 (c+1) kb (S.W.bU k (jZ (S.W.H k) u q,S.W.D k)):=by
  rw[e1,e2]
  exact(h.B.mono (Nat.le_succ c) (aD _)).set (hb.get _ hq hum)
 split
 ·rename_i he
  obtain⟨C0,g⟩:=h.gi
  obtain⟨g1,qm⟩:=g.get h.B hk hu he
  have kN:=gu hb.B hu
  have gY:(jZ (S.W.H k) u q).aB=(S.W.H k).aB.set u ⟨((S.W.H k).eP u).aM,((S.W.H k).eP u).bu++[((getM (S.W.H k) u q).id,q)]⟩:=by
   unfold jZ getM
   rw[if_pos he,if_pos he]
   rfl
  have hGk:=h.G.2 k u ae hu
  have Vh:S.G.getD (ix k u) []=((S.W.H k).eP u).bu.map (·.1):=by rw[aq,hGk];rfl
  refine⟨h.n2,h_,⟨C0,g1⟩,h.key,fun i y hy=>?_,?_,?_,?_⟩
  ·rcases pH ae hy with⟨-,h1⟩|h1
   ·rw[gY]at h1
    rcases a_ h1 with h2|rfl
    ·have :=h.um k y h2;omega
    ·have :=h.um k _ (by rw[e1];exact ax kN)
     rw[e1]
     dsimp only
     simp;omega
   ·have :=h.um i y h1;omega
  ·exact h.P.stay ae ae hu h5 gY rfl
  ·refine h.G.set ae ae hu h5 gY ?_
   rw[Vh]
   dsimp only
   rw[aZ];rfl
  ·dsimp only
   rw[h.ok,h.find qm];simp
 ·rename_i he
  have e3:jZ (S.W.H k) u q=S.W.H k:=by unfold jZ;rw[if_neg he]
  rw[e3,kE ae]
  exact h.mono (Nat.le_succ c) (aD _)
theorem nD.back(h:nD c kb S){k u:Nat}(hk:k<S.n)(hu:u<5):nD c kb (zq S k u):=by
 obtain⟨x,hx,e1,e2,hb,ob,h5⟩:=h.at hk
 have hn:=h.hn
 have gO:=h.n2
 unfold zq
 dsimp only
 have h_:c6 c kb (S.W.bU k (ou (S.W.H k) u,S.W.D k)):=by
  rw[e1,e2]
  exact h.B.set (hb.bk _)
 split
 ·rename_i he
  obtain⟨C0,g⟩:=h.gi
  have g1:=g.back h.B hk hu he
  have gY:(ou (S.W.H k) u).aB=(S.W.H k).aB.set u cC:=by
   unfold ou
   rw[if_pos he]
   rfl
  refine⟨h.n2,h_,⟨C0,g1⟩,h.key,fun i y hy=>?_,h.P.set ae ae hu h5 gY rfl,h.G.set ae ae hu h5 gY rfl,h.ok⟩
  rcases pH ae hy with⟨-,h1⟩|h1
  ·rw[gY]at h1
   rcases a_ h1 with h2|rfl
   ·exact h.um k y h2
   ·exact aV _
  ·exact h.um i y h1
 ·rename_i he
  have e3:ou (S.W.H k) u=S.W.H k:=by unfold ou;rw[if_neg he]
  rw[e3,kE ae]
  exact h
theorem N3(k:Nat):∀(l:List Ms) (s:OvS),(s.T.map (·.1)++l.map (·.id)).Nodup->(l.foldl (sh k) s).T=s.T++l.map fun m=>(m.id,m)
 |[],s,_=>by simp
 |m::l,s,h=>by
  have h1:m.id∉s.T.map (·.1):=fun hm=>by
   rw[List.nodup_append]at h
   exact h.2.2 _ hm m.id aj rfl
  have e:(sh k s m).T=s.T++[(m.id,m)]:=by
   unfold sh
   split
   ·exact Fm h1 m
   ·exact Fm h1 m
  rw[List.foldl_cons,N3 k l _ (by
   rw[e,aZ,aH]
   exact h),e,aH]
  rfl
theorem yT:∀(l:List Int) (T:List (Int×Ms)) (b:Bool),(T.map (·.1)).Nodup->l.Nodup->(∀i∈l,i∈T.map (·.1))->l.foldl M6 (T,b)=(T.filter fun x=> !decide (x.1∈l),b)
 |[],T,b,_,_,_=>by rw[aT.2 (fun _ _=>by simp)];rfl
 |i::l,T,b,hn,hl,h=>by
  rw[bI]at hl
  have h1:(eI T i).isSome=true:=by
   obtain⟨x,hx,e⟩:=ay.1 (h i aj)
   rw[<-e,Ap hn hx];rfl
  rw[List.foldl_cons,M6]
  dsimp only
  rw[h1,Bool.and_true,GM hn,yT l _ b (hn.sublist (List.filter_sublist.map _)) hl.2 fun j hj=>?_]
  ·rw[bp]
   congr 1
   apply List.filter_congr
   intro x _
   by_cases e1:x.1=i<;>by_cases e2:x.1∈l<;>simp[e1,e2]
  ·obtain⟨x,hx,e⟩:=ay.1 (h j Uv)
   refine ay.2 ⟨x,aC.2 ⟨hx,?_⟩,e⟩
   have :x.1≠i:=fun e2=>hl.1 (by rw[<-e2,e];exact hj)
   simpa using this
theorem nD.com(h:nD c kb S)(hc:c<=200)(hK:kb<=1000000000){k u:Nat}(hk:k<S.n)(hu:u<5):nD c (kb+1) (sC S k u):=by
 obtain⟨x,hx,e1,e2,hb,ob,h5⟩:=h.at hk
 have hn:=h.hn
 have gO:=h.n2
 unfold sC
 dsimp only
 have h_:c6 c (kb+1) (S.W.bU k (la (S.W.H k) (S.W.D k) u,od (S.W.H k) (S.W.D k) u)):=by
  rw[e1,e2]
  exact(h.B.mono (aD c) (Nat.le_succ _)).set (hb.cm ae hu)
 obtain⟨C0,g⟩:=h.gi
 have yr:=kQ (H:=S.W.H k) (D:=S.W.D k) (u:Int)
 split
 ·rename_i he
  rw[if_pos he,aA]at yr
  obtain⟨C1,g1⟩:=g.kO h.B ae ae hk hu he
  obtain⟨np,W6⟩:=h.keys
  have kN:(S.W.H k).aB[u]? =some ((S.W.H k).eP u):=by rw[e1];exact gu hb.B hu
  have hPk:=h.P.2 k u ae hu
  have Rh:S.P.getD (ix k u) []=((S.W.H k).eP u).aM.map (·.1):=by rw[aq,hPk];rfl
  have hGk:=h.G.2 k u ae hu
  have Vh:S.G.getD (ix k u) []=((S.W.H k).eP u).bu.map (·.1):=by rw[aq,hGk];rfl
  have Tg:=g.Ky hk kN
  have Mf:=(g.hi k x hx).unit u ((S.W.H k).eP u) (by rw[<-e1];exact kN)
  have Ra:=g.fresh k x hx u ((S.W.H k).eP u) (by rw[<-e1];exact kN)
  generalize (S.W.H k).eP u=y at Rh Vh Tg Mf Ra g1
  have nM:(S.T.map (·.1)++(y.aM.map (·.1)).map (·.id)).Nodup:=by
   rw[List.nodup_append,List.map_map]
   refine⟨np,Mf.pn,fun a ha b hb=>?_⟩
   obtain⟨p,hp,rfl⟩:=ay.1 hb
   rw[W6]at ha
   exact fun e=>Ra p hp (by rw[show p.1.id=a from e.symm];exact ha)
  unfold sP
  dsimp only
  rw[Rh,Vh]
  have hT:=N3 k (y.aM.map (·.1)) ⟨S.T,S.ks,S.Ls⟩ nM
  dsimp only at hT
  rw[hT]
  have Xp:((S.T++(y.aM.map (·.1)).map fun m=>(m.id,m)).map (·.1))=S.T.map (·.1)++(y.aM.map (·.1)).map (·.id):=by
   rw[aZ,List.map_map];rfl
  rw[yT _ _ S.ok (by rw[Xp];exact nM) Mf.gn fun i hi=>by
   rw[Xp]
   refine List.mem_append_left _ ?_
   rw[W6];exact Tg i hi]
  dsimp only
  have hTm:((S.T++(y.aM.map (·.1)).map fun m=>(m.id,m)).map (·.2))=S.T.map (·.2)++y.aM.map (·.1):=by
   rw[aZ,List.map_map]
   congr 1
   exact List.map_id _
  have aa9:∀z∈S.T++(y.aM.map (·.1)).map fun m=>(m.id,m),z.1=z.2.id:=fun z hz=>by
   rcases aN.1 hz with h1|h1
   ·exact h.key z h1
   ·obtain⟨m,-,rfl⟩:=ay.1 h1;rfl
  have hTf:(((S.T++(y.aM.map (·.1)).map fun m=>(m.id,m)).filter fun z=> !decide (z.1∈y.bu.map (·.1))).map (·.2))=(S.T.map (·.2)++y.aM.map (·.1)).filter fun m=> !decide (m.id∈y.bu.map (·.1)):=by
   rw[<-hTm,List.filter_map]
   congr 1
   apply List.filter_congr
   intro z hz
   rw[aa9 z hz];rfl
  refine⟨h.n2,h_,⟨C1,g1.perm ?_⟩,fun z hz=>aa9 z (aC.1 hz).1,fun i z hz=>?_,h.P.set ae ae hu h5 yr rfl,h.G.set ae ae hu h5 yr rfl,h.ok⟩
  ·dsimp only
   rw[hTf]
   unfold Fv
   exact List.perm_append_comm.filter _
  ·rcases pH ae hz with⟨-,h1⟩|h1
   ·dsimp only at h1
    rw[yr]at h1
    rcases a_ h1 with h2|rfl
    ·exact h.um k z h2
    ·exact aV _
   ·exact h.um i z h1
 ·rename_i he
  rw[if_neg he]at yr
  exact h.Du h_ (fc.set yr) ⟨C0,g.mo h.B hk hu he⟩
theorem pC:∀(l:List Nat) (S:nS),S.P.length=20->S.G.length=20->(∀k∈l,k<4)->∃P G,l.foldl fI S={S with P:=P,G:=G}/\P.length=20/\G.length=20/\∀i v,i<4->v<5->(P[ix i v]? =if i∈l/\(S.W.H i).down=true then some []else S.P[ix i v]?)/\(G[ix i v]? =if i∈l/\(S.W.H i).down=true then some []else S.G[ix i v]?)
 |[],S,hP,hG,_=>⟨S.P,S.G,rfl,hP,hG,fun i v _ _=>by simp⟩
 |k::l,S,hP,hG,hl=>by
  have hk:=hl k aj
  by_cases hd:(S.W.H k).down=true
  ·obtain⟨P,G,e,p,g,hh⟩:=pC l (gI S k) (by unfold gI;dsimp only;rw[uJ];exact hP) (by unfold gI;dsimp only;rw[uJ];exact hG) fun j hj=>hl j Uv
   refine⟨P,G,by rw[List.foldl_cons,fI,if_pos hd,e];rfl,p,g,fun i v hi hv=>?_⟩
   obtain⟨a,b⟩:=hh i v hi hv
   unfold gI at a b
   dsimp only at a b
   rw[uK hP hk hi hv]at a
   rw[uK hG hk hi hv]at b
   rw[a,b]
   by_cases e1:i=k
   ·subst e1;simp[hd]
   ·by_cases e2:i∈l<;>by_cases e3:(S.W.H i).down=true<;>simp[e1,e2,e3]
  ·obtain⟨P,G,e,p,g,hh⟩:=pC l S hP hG fun j hj=>hl j Uv
   refine⟨P,G,by rw[List.foldl_cons,fI,if_neg hd,e],p,g,fun i v hi hv=>?_⟩
   obtain⟨a,b⟩:=hh i v hi hv
   rw[a,b]
   by_cases e1:i=k
   ·subst e1;simp[hd]
   ·by_cases e2:i∈l<;>by_cases e3:(S.W.H i).down=true<;>simp[e1,e2,e3]
theorem AS(W:Wo):calm 1 W=oA W:=rfl
theorem nD.calm(h:nD c kb S)(hK:kb<=1000000000):nD c (kb+10000) (gS S):=by
 have hn:=h.hn
 have gO:=h.n2
 obtain⟨C0,g⟩:=h.gi
 obtain⟨C1,g1⟩:=g.oA h.B ae
 have h_:=h.B.oA ae
 obtain⟨P,G,e,p,gl,hh⟩:=pC (List.range S.n) S h.P.1 h.G.1 fun k hk=>by have :=aO.1 hk;omega
 unfold gS
 rw[e,AS]
 have hu:∀i,((oA S.W).H i).aB=if i<S.n/\(S.W.H i).down=true then List.replicate 5 ⟨[],[]⟩else(S.W.H i).aB:=fun i=>by
  by_cases hi:i<S.n
  ·rw[xc g hi];simp[hi]
  ·rw[if_neg (fun x=>hi x.1)]
   have h1:(S.W.H i)=bX 0:=by unfold Wo.H Wo.at';rw[aq,br ae];rfl
   have h2:((oA S.W).H i)=bX 0:=by unfold Wo.H Wo.at';rw[aq,br (by rw[Vp];omega)];rfl
   rw[h1,h2]
 refine⟨h.n2,h_,⟨C1,g1⟩,h.key,fun i y hy=>?_,⟨p,fun i v hi hv=>?_⟩,⟨gl,fun i v hi hv=>?_⟩,h.ok⟩
 ·dsimp only at hy
  rw[hu]at hy
  split at hy
  ·have :=List.eq_of_mem_replicate hy
   subst this;exact aV _
  ·exact h.um i y hy
 ·rw[(hh i v hi hv).1]
  have :i∈List.range S.n↔i<S.n:=aO
  by_cases e1:i<S.n/\(S.W.H i).down=true
  ·rw[if_pos ⟨this.2 e1.1,e1.2⟩,rJ ((hu i).trans (if_pos e1))];rfl
  ·rw[if_neg (fun x=>e1 ⟨this.1 x.1,x.2⟩),mE ((hu i).trans (if_neg e1))];exact h.P.2 i v hi hv
 ·rw[(hh i v hi hv).2]
  have :i∈List.range S.n↔i<S.n:=aO
  by_cases e1:i<S.n/\(S.W.H i).down=true
  ·rw[if_pos ⟨this.2 e1.1,e1.2⟩,rJ ((hu i).trans (if_pos e1))];rfl
  ·rw[if_neg (fun x=>e1 ⟨this.1 x.1,x.2⟩),mE ((hu i).trans (if_neg e1))];exact h.G.2 i v hi hv
theorem zJ(j:Nat):dw (v7 j)=true:=by
 unfold v7
 split
 ·decide+kernel
 ·split<;>decide+kernel
theorem nD.PD(h:nD c kb S)(hc:c<=200)(hK:kb<=100000000)(x:Bl):nD (c+1) (kb+10000) (dW S x):=by
 have hn:=h.hn
 have gO:=h.n2
 have hk:dt S x<S.n:=by
  unfold dt
  have :=gW x.k (n:=(S.n:Int)) ae;omega
 have hu:je x<5:=by
  unfold je
  have :=gW x.unit (n:=5) ae;omega
 obtain⟨C0,g⟩:=h.gi
 unfold dW
 split
 ·exact(h.put hc hk hu _).mono (aD _) ae
 split
 ·refine(h.get hc hk hu ?_).mono (aD _) ae
  split
  ·exact tz
  ·exact zJ _
 split
 ·exact(h.com hc ae hk hu).mono ae ae
 split
 ·exact(h.back hk hu).mono ae ae
 split
 ·exact(h.Du (h.B.se _ _) (fc.se _ _ _) (g.se h.B ae _ _)).mono ae ae
 split
 ·exact(h.Du (h.B.de _) (fc.de _ _) (g.de h.B ae _)).mono ae ae
 split
 ·exact(h.Du (b:=0) (h.B.lo _) (fc.lo _ _) ⟨C0,g.lo _⟩).mono ae ae
 split
 ·exact(h.Du (h.B.tw _) (fc.tw _ _) ⟨C0,g.tw _⟩).mono ae ae
 split
 ·have h4:=gW x.n (n:=4) ai
  have Nb:S.W.is (dt S x:Nat)=true:=by unfold Wo.is;rw[decide_eq_true_eq];omega
  have hBc:=h.B.XI (dt S x:Nat) (pk x.m 150-1) (n:=pk x.n 4) ae
  have e:Bm S.W (dt S x:Nat) (pk x.n 4) (pk x.m 150-1)=S.W.bU (dt S x) ({S.W.H (dt S x)with dz:=pk x.m 150-1},cu (S.W.D (dt S x)) (pk x.n 4)):=by
   unfold Bm;rw[if_pos Nb,aA]
  rw[e]at hBc ⊢
  exact(h.Du (b:=0) hBc (fc.set rfl) ⟨C0,g.cut hk _ _⟩).mono ae ae
 split
 ·have Nb:S.W.is (dt S x:Nat)=true:=by unfold Wo.is;rw[decide_eq_true_eq];omega
  have hBr:=h.B.re ae (dt S x:Nat)
  have e:Le S.W (dt S x:Nat)=sg S.W (dt S x):=by unfold Le;rw[if_pos Nb,aA]
  rw[e]at hBr ⊢
  obtain⟨g1,hu1⟩:=g.sg hk
  have hu2:∀i,i≠dt S x->((sg S.W (dt S x)).H i).aB=(S.W.H i).aB:=fun i hi=>by
   unfold sg;rw[jl,if_neg (fun x=>hi x.1)]
  have h1:nD c kb {gI S (dt S x)with W:=sg S.W (dt S x)}:=by
   refine⟨h.n2,hBr,⟨C0,g1⟩,h.key,fun i y hy=>?_,h.P.nil ae hu1 hu2,h.G.nil ae hu1 hu2,h.ok⟩
   dsimp only at hy
   by_cases e:i=dt S x
   ·rw[e,hu1]at hy
    have :=List.eq_of_mem_replicate hy
    subst this;exact aV _
   ·rw[hu2 i e]at hy;exact h.um i y hy
  exact h1.mono ae ae
 split
 ·exact(h.calm ae).mono ae ae
 ·exact h.mono ae ae
theorem nD.Kc(h:nD c kb S):(L2 S.W).Perm (S.T.map (·.2)):=by
 obtain⟨C0,g⟩:=h.gi
 exact g.Kc h.B
end
def Bp (T:List (Int×Ms)):List (Int×Value):=T.map fun x=>(x.1,.agg (du x.2).toArray)
theorem RM(T:List (Int×Ms))(k:Int)(m:Ms):gh (Bp T) k (.agg (du m).toArray)=Bp (gh T k m):=by
 unfold Bp
 induction T with
 |nil=>rfl
 |cons x r ih=>
  rw[aL,gh,gh]
  dsimp only
  by_cases h:x.1=k
  ·rw[if_pos h,if_pos h];rfl
  ·rw[if_neg h,if_neg h,ih];rfl
theorem Dd(T:List (Int×Ms))(k:Int):eI (Bp T) k=(eI T k).map fun m=>.agg (du m).toArray:=by
 unfold Bp
 induction T with
 |nil=>rfl
 |cons x r ih=>
  rw[aL,eI,eI]
  dsimp only
  by_cases h:x.1=k
  ·rw[if_pos h,if_pos h];rfl
  ·rw[if_neg h,if_neg h,ih]
theorem RO(T:List (Int×Ms))(k:Int):rm (Bp T) k=Bp (rm T k):=by
 unfold Bp
 induction T with
 |nil=>rfl
 |cons x r ih=>
  rw[aL,rm,rm]
  dsimp only
  by_cases h:x.1=k
  ·rw[if_pos h,if_pos h]
  ·rw[if_neg h,if_neg h,ih];rfl
theorem RN(T:List (Int×Ms)):(Bp T).length=T.length:=by unfold Bp;simp
theorem t_:∀(ks:List Int) (os:List Value) (x:Int),os.length=ks.length->eI (ks.zip os) x=(lP ks x).bind fun i=>os[i]?
 |[],[],x,_=>rfl
 |k::ks,o::os,x,h=>by
  have ih:=t_ ks os x HV
  unfold lP at *
  rw[List.zip_cons_cons,eI,List.findIdx?_cons]
  dsimp only
  by_cases e:k=x
  ·simp[e]
  ·simp only[e,decide_false,if_false]
   rw[ih]
   cases List.findIdx? (fun k=>decide (k=x)) ks<;>simp
theorem ph:∀(ks:List Int) (os:List Value) (x:Int) (v:Value) (i:Nat),os.length=ks.length->lP ks x=some i->gh (ks.zip os) x v=ks.zip (os.set i v)
 |[],[],x,v,i,_,h=>by cases h
 |k::ks,o::os,x,v,i,hl,h=>by
  unfold lP at h
  rw[List.findIdx?_cons]at h
  rw[List.zip_cons_cons,gh]
  dsimp only
  by_cases e:k=x
  ·simp only[e,decide_true,if_true,az]at h
   subst h
   rw[if_pos e];rfl
  ·simp only[e,decide_false,Bool.false_eq_true,if_false]at h
   obtain⟨j,hj,rfl⟩:=Option.map_eq_some_iff.1 h
   rw[if_neg e,ph ks os x v j Y62 hj];rfl
theorem po:∀(ks:List Int) (os:List Value) (x:Int) (v:Value),os.length=ks.length->lP ks x=none->gh (ks.zip os) x v=(ks++[x]).zip (os++[v])
 |[],[],x,v,_,_=>rfl
 |k::ks,o::os,x,v,hl,h=>by
  unfold lP at h
  rw[List.findIdx?_cons]at h
  rw[List.zip_cons_cons,gh]
  dsimp only
  by_cases e:k=x
  ·simp[e]at h
  ·simp only[e,decide_false,Bool.false_eq_true,if_false]at h
   rw[if_neg e,po ks os x v Y62 (by unfold lP;cases hh:List.findIdx? (fun k=>decide (k=x)) ks with
    |none=>rfl
    |some j=>rw[hh]at h;cases h)]
   rfl
theorem uH{ks:List Int}{x:Int}{i:Nat}(h:lP ks x=some i):i<ks.length:=(List.findIdx?_eq_some_iff_getElem.1 h).1
structure pc (b:Nat) (ks:List Int) (Ls:List (List Int)):Prop where
 len:Ls.length=ks.length
 small:∀l∈Ls,l.length<=b
theorem pc.mono{b c:Nat}{ks:List Int}{Ls:List (List Int)}(h:pc b ks Ls)(hb:b<=c):pc c ks Ls:=⟨h.len,fun l hl=>Nat.le_trans (h.small l hl) hb⟩
theorem pc.add{b:Nat}{ks:List Int}{Ls:List (List Int)}(h:pc b ks Ls)(x id:Int):pc (b+1) (wm ks x) (wk ks Ls x id):=by
 unfold wm wk
 cases hi:lP ks x with
 |none=>
  refine⟨by simp[h.len],fun l hl=>?_⟩
  rcases aN.1 hl with h1|h1
  ·have :=h.small l h1;omega
  ·simp at h1;subst h1;simp
 |some i=>
  have dS:=uH hi
  refine⟨by simp[h.len],fun l hl=>?_⟩
  rcases a_ hl with h1|rfl
  ·have :=h.small l h1;omega
  ·have :=h.small (Ls.getD i []) (by rw[aq,ao (by rw[h.len];exact dS)];exact List.getElem_mem _)
   rw[aP,List.length_singleton];omega
theorem pc.ovs{k:Nat}:∀(l:List Ms) {b:Nat} {s:OvS},pc b s.ks s.Ls->pc (b+l.length) (l.foldl (sh k) s).ks (l.foldl (sh k) s).Ls
 |[],_,_,h=>h
 |m::l,b,s,h=>by
  have h1:pc (b+1) (sh k s m).ks (sh k s m).Ls:=by
   unfold sh
   split
   ·exact h.add _ _
   ·exact h.mono (Nat.le_succ b)
  rw[List.foldl_cons]
  exact(pc.ovs l h1).mono ga
theorem Aq{α β:Type}{f:α->β->α}{l:List β}{j:Nat}{x:β}(hx:l[j]? =some x)(s:α):(l.take (j+1)).foldl f s=f ((l.take j).foldl f s) x:=by
 rw[bJ hx,List.foldl_append];rfl
theorem FD(us:List Value)(h:us.length=20){k:Nat}(hk:k<4)(z:Value):l9 (k *5) [z,z,z,z,z] us=(List.range 5).foldl (fun P u=>P.set (ix k u) z) us:=by
 have lV:k=0\/k=1\/k=2\/k=3:=by omega
 match us,h with
 |[a0,a1,a2,a3,a4,a5,a6,a7,a8,a9,b0,b1,b2,b3,b4,b5,b6,b7,b8,b9],_=>
  rcases lV with rfl|rfl|rfl|rfl<;>rfl
theorem Fl(a:List Value):∀(i:Nat) (vs b c:List Value),i+vs.length<=b.length->l9 (a.length+i) vs (a++b++c)=a++l9 i vs b++c:=fun i vs b c h=>by
 rw[<-rP _ _ _ ga,<-rP _ _ _ h]
 rw[aH a b c,List.take_append,List.drop_append,show a.length+i-a.length=i by omega,show a.length+i+vs.length-a.length=i+vs.length by omega,List.take_of_length_le ae,List.drop_eq_nil_of_le ae,List.take_append_of_le_length ae,List.drop_append_of_le_length h]
 simp
theorem Px{α β:Type}{f:α->β->HP}{w0 w:World}{L:List HP}{ps:List α}{xs:List β}{i:Nat}{p:α}{x:β}(hi:i<ps.length)(hx:i<xs.length)(hn:∀L,St w0 L w->St w0 (f p x::L) w)(h:St w0 (cr f ps xs::L) w):St w0 (cr f (ps.set i p) (xs.set i x)::L) w:=by
 have h1:=dD (f:=f) (i:=i) (ao hi) (ao hx) h
 exact ja hi hx (hn _ h1.drop)
theorem GH{α:Type}{f:Value->List α->HP}{w0 w:World}{L:List HP}{us:List Value}{P:List (List α)}{k:Nat}{z:Value}(hk:k<4)(hu:us.length=20)(hP:P.length=20)(hn:∀L,St w0 L w->St w0 (f z []::L) w)(h:St w0 (cr f us P::L) w):St w0 (cr f ((List.range 5).foldl (fun P u=>P.set (ix k u) z) us) (FE P k)::L) w:=by
 have key:∀(l:List Nat) (us:List Value) (P:List (List α)),us.length=20->P.length=20->(∀u∈l,u<5)->St w0 (cr f us P::L) w->St w0 (cr f (l.foldl (fun P u=>P.set (ix k u) z) us) (l.foldl (fun P u=>P.set (ix k u) []) P)::L) w:=by
  intro l
  induction l with
  |nil=>intro us P _ _ _ h;exact h
  |cons a l ih=>
   intro us P h1 h2 h3 h
   have ha:=h3 a aj
   rw[List.foldl_cons,List.foldl_cons]
   exact ih _ _ Nn Rq (fun u hu=>h3 u (by simp[hu])) (Px (by rw[h1];unfold ix;omega) (by rw[h2];unfold ix;omega) hn h)
 exact key _ us P hu hP (fun u hu=>aO.1 hu) h
end WB
namespace Go.Proofs.YtjhogocabcdjbabGreatDoor
open Tryz
open Go Go.RowKit WB
structure Hq where
 us:List Value
 vs:List Value
 os:List Value
 mT:Nat
 mO:Nat
def sf (bw:Nat) (V:Hq) (n:Nat):List Value:=[bA bw,.int .i64 (n:Nat),.map (some V.mT)]++V.us++(V.vs++[.map (some V.mO),.bool true])
abbrev Bg (v:Value) (l:List Ms):HP:=SL 44 5 du v l
abbrev gV (v:Value) (l:List Int):HP:=SL 3 1 iC v l
abbrev vH (bt bw:Nat) (V:Hq) (S:nS) (L:List HP):List HP:=
 bP bt (.cells (sf bw V S.n).toArray 62 (0,0))::cg (Value.int .i64) V.mT (Bp S.T)::cg (Value.int .i64) V.mO (S.ks.zip V.os)::cr gV V.os S.Ls::cr Bg V.us S.P::cr gV V.vs S.G::L
structure QG (V:Hq) (ks:List Int):Prop where
 us:V.us.length=20
 vs:V.vs.length=20
 os:V.os.length=ks.length
def ll (bt bw:Nat) (S:nS):HP:=ex fun V:Hq=>sep (LH (QG V S.ks)) (ij (vH bt bw V S []))
theorem fA{w0 w:World}{bt bw:Nat}{S:nS}{L:List HP}(h:St w0 (ll bt bw S::L) w):∃V:{V:Hq//QG V S.ks},St w0 (vH bt bw V.1 S L) w:=by
 obtain⟨V,h⟩:=h.CN
 obtain⟨hV,h⟩:=h.split.sZ
 exact⟨⟨V,hV⟩,by have :=h.splits;exact this⟩
theorem dZ{w0 w:World}{bt bw:Nat}{S:nS}{L:List HP}(V:Hq)(hV:QG V S.ks)(h:St w0 (vH bt bw V S L) w):St w0 (ll bt bw S::L) w:=
 St.Bv (F:=fun V:Hq=>sep (LH (QG V S.ks)) (ij (vH bt bw V S []))) V (St.join (St.yl hV (St.FM (L:=vH bt bw V S []) h)))
theorem rL{bw n:Nat}{V:Hq}(h1:V.us.length=20)(h2:V.vs.length=20):(sf bw V n).length=45:=by unfold sf;simp[h1,h2]
theorem NJ{bw n i:Nat}{V:Hq}{v:Value}(h:V.us[i]? =some v):(sf bw V n)[3+i]? =some v:=by
 have hi:=(au.1 h).1
 unfold sf
 rw[List.getElem?_append_left ga,bf aj,show 3+i-[bA bw,Value.int .i64 (n:Nat),Value.map (some V.mT)].length=i by simp]
 exact h
theorem NI{bw n i:Nat}{V:Hq}{v:Value}(h1:V.us.length=20)(h:V.vs[i]? =some v):(sf bw V n)[23+i]? =some v:=by
 have hi:=(au.1 h).1
 unfold sf
 rw[bf (by(simp[h1];done)),List.getElem?_append_left (by(simp[h1];omega)),show 23+i-([bA bw,Value.int .i64 (n:Nat),Value.map (some V.mT)]++V.us).length=i by(simp[h1];done)]
 exact h
theorem NL{bw n:Nat}{V:Hq}(h1:V.us.length=20)(h2:V.vs.length=20):(sf bw V n)[43]? =some (.map (some V.mO)):=by
 unfold sf
 rw[bf EK,bf (by simp[h1,h2])]
 simp[h1,h2]
theorem NK{bw n:Nat}{V:Hq}(h1:V.us.length=20)(h2:V.vs.length=20):(sf bw V n)[44]? =some (.bool true):=by
 unfold sf
 rw[bf EK,bf (by simp[h1,h2])]
 simp[h1,h2]
theorem vU{bw n i:Nat}{V:Hq}(hi:i<V.us.length)(v:Value):(sf bw V n).set (3+i) v=sf bw {V with us:=V.us.set i v} n:=by
 unfold sf
 rw[List.set_append_left _ _ ga,List.set_append_right _ _ aj]
 simp
theorem vT{bw n i:Nat}{V:Hq}(h1:V.us.length=20)(hi:i<V.vs.length)(v:Value):(sf bw V n).set (23+i) v=sf bw {V with vs:=V.vs.set i v} n:=by
 unfold sf
 rw[List.set_append_right _ _ (by(simp[h1];done)),List.set_append_left _ _ (by(simp[h1];omega)),show 23+i-([bA bw,Value.int .i64 (n:Nat),Value.map (some V.mT)]++V.us).length=i by(simp[h1];done)]
def dI:Value:=.slice none 0 0
def Iv (us:List Value) (k:Nat):List Value:=(List.range 5).foldl (fun P u=>P.set (ix k u) dI) us
theorem uI(us:List Value)(k:Nat):(Iv us k).length=us.length:=by
 have key:∀(l:List Nat) (P:List Value),(l.foldl (fun P u=>P.set (ix k u) dI) P).length=P.length:=by
  intro l
  induction l with
  |nil=>intro P;rfl
  |cons a l ih=>intro P;rw[List.foldl_cons,ih];simp
 exact key _ us
theorem Ln{bw n k:Nat}{V:Hq}(h1:V.us.length=20)(hk:k<4):l9 (3+k *5) [dI,dI,dI,dI,dI] (sf bw V n)=sf bw {V with us:=Iv V.us k} n:=by
 unfold sf
 have :=Fl [bA bw,Value.int .i64 (n:Nat),Value.map (some V.mT)] (k *5) [dI,dI,dI,dI,dI] V.us (V.vs++[.map (some V.mO),.bool true]) (by(simp[h1];omega))
 rw[FD _ h1 hk]at this
 exact this
theorem Lm{bw n k:Nat}{V:Hq}(h1:V.us.length=20)(h2:V.vs.length=20)(hk:k<4):l9 (23+k *5) [dI,dI,dI,dI,dI] (sf bw V n)=sf bw {V with vs:=Iv V.vs k} n:=by
 unfold sf
 have :=Fl ([bA bw,Value.int .i64 (n:Nat),Value.map (some V.mT)]++V.us) (k *5) [dI,dI,dI,dI,dI] V.vs [.map (some V.mO),.bool true] (by simp[h2];omega)
 rw[FD _ h2 hk]at this
 rw[<-aH,<-aH]
 rw[show 23+k *5=([bA bw,Value.int .i64 (n:Nat),Value.map (some V.mT)]++V.us).length+k *5 by simp[h1]]
 exact this
theorem BT(w0:World)(L:List HP)(bt bw k:Nat)(S:nS)(hk:k<4)(hP:S.P.length=20)(hG:S.G.length=20):
 KC prog 75 #[bA bt,.int .i64 (k:Nat)] w0 (ll bt bw S::L) (fun v M=>v=.tuple #[]/\M=ll bt bw (gI S k)::L):=by
 refine KC.mk (n:=16) func75 rfl ntmps75 aj ?_
 refine K.cx (fun _ h=>fA h) ?_
 rintro⟨V,hV⟩
 dsimp only
 obtain⟨h1,h2,h3⟩:=hV
 have wP:=Ln (bw:=bw) (n:=S.n) h1 hk
 have mI:=Lm (bw:=bw) (n:=S.n) (V:={V with us:=Iv V.us k}) (by dsimp only;rw[uI];exact h1) h2 hk
 have Q8:=rL (bw:=bw) (n:=S.n) h1 h2
 have EC:=rL (bw:=bw) (n:=S.n) (V:={V with us:=Iv V.us k}) (by dsimp only;rw[uI];exact h1) h2
 refine K.draw [.pure,.pure,.pure,.pure,.pure,.pure,.pure,.pure,.pure,.write,.pure,.pure,.pure,.write] [0,1,2,3,4,5,6,7,8,10,11,9,12,13] bH bH ?_
 refine nB ?_
 refine nB ?_
 refine KO.bld rfl (by intro w;go_simp;rfl) rfl ?_
 refine KO.bld rfl (by intro w;go_simp;rfl) rfl ?_
 refine lJ ?_
 refine ZA ?_
 refine lJ ?_
 refine KO.gd (off:=23) rfl runUnderlying62 rfl rfl sizeOf59 rfl ?_
 refine KO.JU (b:=bt) (off:=3+k *5) (us:=[dI,dI,dI,dI,dI]) rfl rfl (by(simp only[Addr.add_lit];done)) rfl aQ (by exact sizeOf57) aQ bZ (by rw[Q8];show _+5<=45;omega) wP ?_
 refine KO.kM (i:=k) rfl rfl runUnderlying59 sizeOf36 rfl ae rfl ?_
 refine KO.JU (b:=bt) (off:=23+k *5) (us:=[dI,dI,dI,dI,dI]) rfl rfl (by(simp only[Addr.add_lit];done)) rfl aQ (by exact sizeOf36) aQ bZ (by rw[EC];show _+5<=45;omega) mI ?_
 refine KO.nil ?_
 refine KQ.j9 rfl (fun w' aX=>⟨_,_,rfl,⟨rfl,rfl⟩,?_⟩)
 have qY:=GH (f:=Bg) (z:=dI) hk h1 hP (fun L h=>cM h) (aX.pick (A:=cr Bg V.us S.P) bo)
 have Mh:=GH (f:=gV) (z:=dI) hk h2 hG (fun L h=>cM h) (qY.pick (A:=cr gV V.vs S.G) bo)
 exact dZ ⟨Iv V.us k,Iv V.vs k,V.os,V.mT,V.mO⟩ ⟨by dsimp only;rw[uI];exact h1,by dsimp only;rw[uI];exact h2,h3⟩ (Mh.all Y7)
theorem RI(w0:World)(L:List HP)(bt bw k u b:Nat)(S:nS)(hk:k<4)(hu:u<5)(hP:S.P.length=20)(hG:S.G.length=20)(hO:pc b S.ks S.Ls)(hb:b<=500000)(l:List Ms)(g:List Int)(hPl:S.P[ix k u]? =some l)(hGl:S.G[ix k u]? =some g)(hl:l.length<=1000)(hg:g.length<=1000)(WM:∀m∈l,0<=m.pri/\m.pri<=9)(nM:(S.T.map (·.1)++l.map (·.id)).Nodup)(U7:g.Nodup)(Hy:∀i∈g,i∈S.T.map (·.1)):
 KC prog 68 #[bA bt,.int .i64 (k:Nat),.int .i64 (u:Nat)] w0 (ll bt bw S::L) (fun v M=>v=.tuple #[]/\M=ll bt bw (sP S k u)::L):=by
 have aky:ix k u<20:=by unfold ix;omega
 have Rh:S.P.getD (ix k u) []=l:=by rw[aq,hPl];rfl
 have Vh:S.G.getD (ix k u) []=g:=by rw[aq,hGl];rfl
 refine KC.mk (n:=105) func68 rfl ntmps68 aj ?_
 refine qq ?_
 refine K.cx (fun _ h=>fA h) ?_
 rintro⟨⟨us,vs,os,mT,mO⟩,hV⟩
 dsimp only
 obtain⟨h1,h2,h3⟩:=hV
 dsimp only at h1 h2 h3
 obtain⟨uv,huv⟩:∃e,us[ix k u]? =some e:=⟨us[ix k u],ao ae⟩
 obtain⟨vv,hvv⟩:∃e,vs[ix k u]? =some e:=⟨vs[ix k u],ao ae⟩
 refine Yl ?_
 refine K.fact (fun _ hs=>aY hs) ?_
 rintro⟨a1,c1,rfl,rb⟩
 refine Yn ?_
 refine K.fact (fun _ hs=>aY hs) ?_
 rintro⟨a2,c2,rfl,O_⟩
 have hcu:=NJ (bw:=bw) (n:=S.n) (V:=⟨us,vs,os,mT,mO⟩) huv
 have hcv:=NI (bw:=bw) (n:=S.n) (V:=⟨us,vs,os,mT,mO⟩) h1 hvv
 have Tp:=NL (bw:=bw) (n:=S.n) (V:=⟨us,vs,os,mT,mO⟩) h1 h2
 have hlen:=rL (bw:=bw) (n:=S.n) (V:=⟨us,vs,os,mT,mO⟩) h1 h2
 refine ji ?_
 refine mA ?_
 refine ZA ?_
 refine Qx ?_
 refine KO.dB (i:=3+ix k u) rfl rfl isAgg49 bo Ru hcu rfl ?_
 refine BI ?_
 refine K.loop (fun s:Nat×List Value=>[(0,bA bt),(1,.int .i64 (k:Nat)),(2,.int .i64 (u:Nat)),(20,.slice a1 l.length c1),(21,.int .i64 (l.length:Nat)),(22,.int .i64 (s.1:Nat))])
  (fun s=>cg (Value.int .i64) mT (Bp ((l.take s.1).foldl (sh k) ⟨S.T,S.ks,S.Ls⟩).T)::cg (Value.int .i64) mO (((l.take s.1).foldl (sh k) ⟨S.T,S.ks,S.Ls⟩).ks.zip s.2)::cr gV s.2 ((l.take s.1).foldl (sh k) ⟨S.T,S.ks,S.Ls⟩).Ls::Bg (.slice a1 l.length c1) l::cr Bg (us.eraseIdx (ix k u)) (S.P.eraseIdx (ix k u))::bP bt (.cells (sf bw ⟨us,vs,os,mT,mO⟩ S.n).toArray 62 (0,0))::gV (.slice a2 g.length c2) g::cr gV (vs.eraseIdx (ix k u)) (S.G.eraseIdx (ix k u))::L)
  (fun s=>s.1<=l.length/\s.2.length=((l.take s.1).foldl (sh k) ⟨S.T,S.ks,S.Ls⟩).ks.length) (fun s=>l.length-s.1) (0,os) ⟨aV _,h3⟩ ⟨rfl,rfl,rfl,rfl,rfl,rfl,trivial⟩ (fun w' aX=>by exact aX.all Y7) ?_
 rintro⟨j,Hv⟩ ⟨hj,yu⟩
 dsimp only at hj yu ⊢
 have Tv:=pc.ovs (k:=k) (l.take j) (s:=⟨S.T,S.ks,S.Ls⟩) hO
 have hlj:(l.take j).length<=1000:=by rw[bL];omega
 refine iJ ?_
 refine K.bz rfl (fun h4=>?_) (fun h4=>?_)
 ·obtain⟨m,hm⟩:∃e,l[j]? =some e:=⟨l[j],ao ae⟩
  obtain⟨g1,rfl⟩:=rb ae
  have c8:=Aq (f:=sh k) hm ⟨S.T,S.ks,S.Ls⟩
  have Co:=WM m (ax hm)
  generalize (l.take j).foldl (sh k) ⟨S.T,S.ks,S.Ls⟩=s at yu Tv c8 ⊢
  obtain⟨sT,sk,sL⟩:=s
  dsimp only at yu Tv ⊢
  have IV:l[j]? =some ⟨m.id,m.pri,m.body,m.queue,m.cq⟩:=hm
  refine qF ?_
  refine KO.eX (i:=j) rfl rfl runUnderlying49 sizeOf44 rfl ae rfl ?_
  refine KO.wC (i:=j) (sz:=5) (cf:=du) rfl rfl isAgg44 sizeOf44 bo (fun _=>rfl) IV rfl ?_
  refine KO.alloc rfl zeroValue44 aQ rfl ?_;intro b7
  refine yB ?_
  refine K.draw [.pure,.pure,.pure,.read,.pure,.read,.read,.write] [0,1,2,3,4,5,6,7] bH bH ?_
  refine mA ?_
  refine Zy ?_
  refine JH ?_
  refine Eo ?_
  refine KO.VN (v:=.agg (du m).toArray) jX m.id rfl rfl rfl aQ underlying56 underlying3 bo ?_;rw[RM]
  refine yF ?_
  refine Qa ?_
  refine vy ?_
  refine Z1 ?_
  refine xA ?_
  refine Z2 ?_
  refine K.bz rfl (fun h5=>?_) (fun h5=>?_)
  ·have Mj:sh k ⟨sT,sk,sL⟩ m=⟨gh sT m.id m,wm sk ((k:Int)*100+m.pri),wk sk sL ((k:Int)*100+m.pri) m.id⟩:=by unfold sh;rw[if_pos (by simpa using h5)]
   rw[Mj]at c8
   refine jI ?_
   refine KO.mul rfl rfl rfl ae rfl ?_
   refine T6 ?_
   refine KO.ld (v:=.int .i64 m.pri) rfl rfl isAgg3 bo aQ rfl ?_
   refine vP ?_
   refine sx ?_
   cases hi:lP sk ((k:Int)*100+m.pri)with
   |none=>
    have k9:wm sk ((k:Int)*100+m.pri)=sk++[(k:Int)*100+m.pri]:=by unfold wm;rw[hi]
    have hL1:wk sk sL ((k:Int)*100+m.pri) m.id=sL++[[m.id]]:=by unfold wk;rw[hi]
    rw[k9,hL1]at c8
    have mg:(eI (sk.zip Hv) ((k:Int)*100+m.pri)).getD (.slice none 0 0)=.slice none 0 0:=by rw[t_ _ _ _ yu,hi];rfl
    refine K.conv (fun w' hw'=>cM (E:=3) (sz:=1) (cf:=iC) hw') ?_
    refine K.KJ [.pure,.pure,.pure,.read,.pure,.pure,.pure,.pure,.read,.pure,.read,.pure,.read,.dm,.write,.write] [(3,14)] [[0,1,2,3,4,5,6,7,8,9,10,11,12,13,14,15],[0,1,2,4,5,6,7,8,9,10,11,12,13,14,3,15]] bH bH bH ⟨?_,?_,trivial⟩
    focus
     show KO _ _ _ _ _ _ _ _ _ _
     refine mA ?_
     refine X2 ?_
     refine tI ?_
     refine X2 ?_
     refine Z1 ?_
     refine KO.Ey jX ((k:Int)*100+m.pri) rfl rfl rfl underlying60 underlying3 zeroValue23 bo rfl ?_;rw[mg]
     refine Jq ?_
     refine KO.lY (z:=(Value.int .i64 0)) (sz:=1) (dP:=8) rfl rfl underlying23 bH aQ aQ ai ai rfl ?_;intro b55
     refine KO.app (cf:=iC) (z:=Value.int .i64 0) (sz:=1) (dP:=8) (xs:=[]) rfl rfl rfl (.tail .head) .head underlying23 bH aQ m.id rfl rfl rfl aj ai rfl ?_;intro Ny;refine KO.fact (fun _ hs=>aY hs) ?_;rintro⟨a56,k56,WD,-⟩
     refine KO.VN jX ((k:Int)*100+m.pri) rfl rfl rfl rfl underlying60 underlying3 bo ?_;rw[po _ _ _ _ yu hi]
     refine VB ?_
    rotate_left
    focus
     show KO _ _ _ _ _ _ _ _ _ _
     refine mA ?_
     refine KO.gd (off:=43) rfl runUnderlying62 rfl rfl sizeOf60 rfl ?_
     refine tI ?_
     refine X2 ?_
     refine Z1 ?_
     refine KO.Ey jX ((k:Int)*100+m.pri) rfl rfl rfl underlying60 underlying3 zeroValue23 bo rfl ?_;rw[mg]
     refine Jq ?_
     refine KO.lY (z:=(Value.int .i64 0)) (sz:=1) (dP:=8) rfl rfl underlying23 bH aQ aQ ai ai rfl ?_;intro b55
     refine KO.app (cf:=iC) (z:=Value.int .i64 0) (sz:=1) (dP:=8) (xs:=[]) rfl rfl rfl (.tail .head) .head underlying23 bH aQ m.id rfl rfl rfl aj ai rfl ?_;intro Ny;refine KO.fact (fun _ hs=>aY hs) ?_;rintro⟨a56,k56,WD,-⟩
     refine KO.dB (i:=43) rfl rfl isAgg60 bo rfl Tp rfl ?_
     refine KO.VN jX ((k:Int)*100+m.pri) rfl rfl rfl rfl underlying60 underlying3 bo ?_;rw[po _ _ _ _ yu hi]
     refine VB ?_
    rotate_left
    all_goals (
     refine Rp ?_
     refine KQ.round (j+1,Hv++[Ny]) ⟨by dsimp only;omega,by dsimp only;rw[c8];simp[yu]⟩ iK ⟨rfl,rfl,rfl,rfl,rfl,rfl,trivial⟩ (fun w' aX=>?_)
     dsimp only
     rw[c8]
     have qY:=KF (f:=gV) (p:=Ny) (x:=[m.id]) (by rw[yu,Tv.len]) (aX.all (M:=gV Ny [m.id]::cr gV Hv sL::cg (Value.int .i64) mT (Bp (gh sT m.id m))::cg (Value.int .i64) mO ((sk++[(k:Int)*100+m.pri]).zip (Hv++[Ny]))::Bg (.slice (some ⟨g1,0,none⟩) l.length c1) l::cr Bg (us.eraseIdx (ix k u)) (S.P.eraseIdx (ix k u))::bP bt (.cells (sf bw ⟨us,vs,os,mT,mO⟩ S.n).toArray 62 (0,0))::gV (.slice a2 g.length c2) g::cr gV (vs.eraseIdx (ix k u)) (S.G.eraseIdx (ix k u))::L) Y5)
     exact qY.all Y7)
   |some i=>
    have qn:=uH hi
    obtain⟨ov,aaV⟩:∃e,Hv[i]? =some e:=⟨_,ao (show i<Hv.length by omega)⟩
    obtain⟨Li,Vg⟩:∃e,sL[i]? =some e:=⟨_,ao (show i<sL.length by have :=Tv.len;omega)⟩
    have hLs:=Tv.small Li (ax Vg)
    have k9:wm sk ((k:Int)*100+m.pri)=sk:=by unfold wm;rw[hi]
    have hL1:wk sk sL ((k:Int)*100+m.pri) m.id=sL.set i (Li++[m.id]):=by unfold wk;rw[hi];dsimp only;rw[aq,Vg];rfl
    rw[k9,hL1]at c8
    refine K.conv (fun w' hw'=>dD aaV Vg (hw'.pick (A:=cr gV Hv sL) bo)) ?_
    refine K.fact (fun _ hs=>aY hs) ?_
    rintro⟨a3,c3,rfl,Ti⟩
    have mg:(eI (sk.zip Hv) ((k:Int)*100+m.pri)).getD (.slice none 0 0)=.slice a3 Li.length c3:=by rw[t_ _ _ _ yu,hi];simp[aaV]
    refine K.KJ [.pure,.pure,.pure,.read,.pure,.pure,.pure,.pure,.read,.pure,.read,.pure,.read,.dm,.write,.write] [(3,14)] [[0,1,2,3,4,5,6,7,8,9,10,11,12,13,14,15],[0,1,2,4,5,6,7,8,9,10,11,12,13,14,3,15]] bH bH bH ⟨?_,?_,trivial⟩
    focus
     show KO _ _ _ _ _ _ _ _ _ _
     refine mA ?_
     refine X2 ?_
     refine tI ?_
     refine X2 ?_
     refine Z1 ?_
     refine KO.Ey jX ((k:Int)*100+m.pri) rfl rfl rfl underlying60 underlying3 zeroValue23 bo rfl ?_;rw[mg]
     refine Jq ?_
     refine KO.lY (z:=(Value.int .i64 0)) (sz:=1) (dP:=8) rfl rfl underlying23 bH aQ aQ ai ai rfl ?_;intro b55
     refine KO.app (cf:=iC) (z:=Value.int .i64 0) (sz:=1) (dP:=8) (xs:=Li) rfl rfl rfl (.tail .head) .head underlying23 bH aQ m.id rfl rfl rfl ae ai rfl ?_;intro Ny;refine KO.fact (fun _ hs=>aY hs) ?_;rintro⟨a56,k56,WD,-⟩
     refine KO.VN jX ((k:Int)*100+m.pri) rfl rfl rfl rfl underlying60 underlying3 bo ?_;rw[ph _ _ _ _ _ yu hi]
     refine VB ?_
    rotate_left
    focus
     show KO _ _ _ _ _ _ _ _ _ _
     refine mA ?_
     refine KO.gd (off:=43) rfl runUnderlying62 rfl rfl sizeOf60 rfl ?_
     refine tI ?_
     refine X2 ?_
     refine Z1 ?_
     refine KO.Ey jX ((k:Int)*100+m.pri) rfl rfl rfl underlying60 underlying3 zeroValue23 bo rfl ?_;rw[mg]
     refine Jq ?_
     refine KO.lY (z:=(Value.int .i64 0)) (sz:=1) (dP:=8) rfl rfl underlying23 bH aQ aQ ai ai rfl ?_;intro b55
     refine KO.app (cf:=iC) (z:=Value.int .i64 0) (sz:=1) (dP:=8) (xs:=Li) rfl rfl rfl (.tail .head) .head underlying23 bH aQ m.id rfl rfl rfl ae ai rfl ?_;intro Ny;refine KO.fact (fun _ hs=>aY hs) ?_;rintro⟨a56,k56,WD,-⟩
     refine KO.dB (i:=43) rfl rfl isAgg60 bo rfl Tp rfl ?_
     refine KO.VN jX ((k:Int)*100+m.pri) rfl rfl rfl rfl underlying60 underlying3 bo ?_;rw[ph _ _ _ _ _ yu hi]
     refine VB ?_
    rotate_left
    all_goals (
     refine Rp ?_
     refine KQ.round (j+1,Hv.set i Ny) ⟨by dsimp only;omega,by dsimp only;rw[c8];simp[yu]⟩ iK ⟨rfl,rfl,rfl,rfl,rfl,rfl,trivial⟩ (fun w' aX=>?_)
     dsimp only
     rw[c8]
     have qY:=ja (f:=gV) (ps:=Hv) (xs:=sL) (i:=i) (p:=Ny) (x:=Li++[m.id]) ae (by have :=Tv.len;omega) (aX.all (M:=gV Ny (Li++[m.id])::cr gV (Hv.eraseIdx i) (sL.eraseIdx i)::cg (Value.int .i64) mT (Bp (gh sT m.id m))::cg (Value.int .i64) mO (sk.zip (Hv.set i Ny))::Bg (.slice (some ⟨g1,0,none⟩) l.length c1) l::cr Bg (us.eraseIdx (ix k u)) (S.P.eraseIdx (ix k u))::bP bt (.cells (sf bw ⟨us,vs,os,mT,mO⟩ S.n).toArray 62 (0,0))::gV (.slice a2 g.length c2) g::cr gV (vs.eraseIdx (ix k u)) (S.G.eraseIdx (ix k u))::L) Y5)
     exact qY.all Y7)
  ·have Mj:sh k ⟨sT,sk,sL⟩ m=⟨gh sT m.id m,sk,sL⟩:=by unfold sh;rw[if_neg (by simpa using h5)]
   rw[Mj]at c8
   refine qD ?_
   refine KQ.round (j+1,Hv) ⟨by dsimp only;omega,by dsimp only;rw[c8];exact yu⟩ iK ⟨rfl,rfl,rfl,rfl,rfl,rfl,trivial⟩ (fun w' aX=>?_)
   dsimp only
   rw[c8]
   exact aX.all Y5
 obtain rfl:j=l.length:=by omega
 rw[List.take_length]at yu Tv ⊢
 have Re:=N3 k l ⟨S.T,S.ks,S.Ls⟩ nM
 dsimp only at Re
 have Xp:((l.foldl (sh k) ⟨S.T,S.ks,S.Ls⟩).T.map (·.1))=S.T.map (·.1)++l.map (·.id):=by
  rw[Re,aZ,List.map_map];rfl
 have Mj:sP S k u={S with T:=(g.foldl M6 ((l.foldl (sh k) ⟨S.T,S.ks,S.Ls⟩).T,S.ok)).1,ks:=(l.foldl (sh k) ⟨S.T,S.ks,S.Ls⟩).ks,Ls:=(l.foldl (sh k) ⟨S.T,S.ks,S.Ls⟩).Ls,ok:=(g.foldl M6 ((l.foldl (sh k) ⟨S.T,S.ks,S.Ls⟩).T,S.ok)).2,P:=S.P.set (ix k u) [],G:=S.G.set (ix k u) []}:=by
  unfold sP;rw[Rh,Vh]
 rw[Mj]
 generalize l.foldl (sh k) ⟨S.T,S.ks,S.Ls⟩=s at yu Tv Xp ⊢
 obtain⟨sT,sk,sL⟩:=s
 dsimp only at yu Tv Xp ⊢
 have hTn:(sT.map (·.1)).Nodup:=by rw[Xp];exact nM
 have hTg:∀i∈g,i∈sT.map (·.1):=fun i hi=>by rw[Xp];exact List.mem_append_left _ (Hy i hi)
 refine Z9 ?_
 refine ji ?_
 refine mA ?_
 refine Z91 ?_
 refine Qw ?_
 refine KO.dB (i:=23+ix k u) rfl rfl isAgg23 bo Ru hcv rfl ?_
 refine rG ?_
 refine ox ?_
 refine K.loop (fun j:Nat=>[(0,bA bt),(1,.int .i64 (k:Nat)),(2,.int .i64 (u:Nat)),(65,.slice a2 g.length c2),(66,.int .i64 (g.length:Nat)),(67,.int .i64 (j:Nat))])
  (fun j=>cg (Value.int .i64) mT (Bp ((g.take j).foldl M6 (sT,S.ok)).1)::cg (Value.int .i64) mO (sk.zip Hv)::cr gV Hv sL::Bg (.slice a1 l.length c1) l::cr Bg (us.eraseIdx (ix k u)) (S.P.eraseIdx (ix k u))::bP bt (.cells (sf bw ⟨us,vs,os,mT,mO⟩ S.n).toArray 62 (0,0))::gV (.slice a2 g.length c2) g::cr gV (vs.eraseIdx (ix k u)) (S.G.eraseIdx (ix k u))::L)
  (fun j=>j<=g.length) (fun j=>g.length-j) 0 (aV _) ⟨rfl,rfl,rfl,rfl,rfl,rfl,trivial⟩ (fun w' aX=>by exact aX.all nH) ?_
 intro j hj
 refine iJ ?_
 refine K.bz rfl (fun h5=>?_) (fun h5=>?_)
 ·obtain⟨y,hy⟩:∃e,g[j]? =some e:=⟨g[j],ao ae⟩
  obtain⟨g2,rfl⟩:=O_ ae
  have c8:=Aq (f:=M6) hy (sT,S.ok)
  have hgt:(g.take j).Nodup/\y∉g.take j:=by
   have h6:(g.take (j+1)).Nodup:=U7.sublist (List.take_sublist _ _)
   rw[bJ hy,List.nodup_append]at h6
   exact⟨h6.1,fun hm=>h6.2.2 y hm y aj rfl⟩
  have hTj:=yT (g.take j) sT S.ok hTn hgt.1 (fun i hi=>hTg i (List.mem_of_mem_take hi))
  obtain⟨m,hmT⟩:∃m,eI ((g.take j).foldl M6 (sT,S.ok)).1 y=some m:=by
   obtain⟨x,hx,e⟩:=ay.1 (hTg y (ax hy))
   refine⟨x.2,?_⟩
   rw[hTj,<-e]
   refine Ap (hTn.sublist (List.filter_sublist.map _)) (aC.2 ⟨hx,?_⟩)
   rw[e,decide_eq_false hgt.2];rfl
  have aaL:((g.take (j+1)).foldl M6 (sT,S.ok)).1=rm ((g.take j).foldl M6 (sT,S.ok)).1 y:=by rw[c8];rfl
  generalize ((g.take j).foldl M6 (sT,S.ok)).1=tj at hmT aaL ⊢
  have DR:eI (Bp tj) y=some (.agg (du m).toArray):=by rw[Dd,hmT];rfl
  refine qF ?_
  refine KO.eX rfl rfl runUnderlying23 sizeOf3 aQ ae rfl ?_
  refine KO.iw rfl rfl isAgg3 bo (fun _=>rfl) xG aQ aQ rfl ?_
  refine xC ?_
  refine Zy ?_
  refine Z1 ?_
  refine KO.Ci jX y rfl rfl rfl underlying56 underlying3 zeroValue44 bZ rfl ?_;rw[DR]
  refine G3 ?_
  refine KO.alloc rfl zeroValue44 aQ rfl ?_;intro b11
  refine K7 ?_
  refine mS ?_
  refine qp ?_
  refine GZ ?_
  refine T4 ?_
  refine kp ?_
  refine Zy ?_
  refine Z1 ?_
  refine KO.agD jX y rfl rfl rfl underlying56 underlying3 bo ?_;rw[RO]
  refine vD ?_
  refine KQ.round (j+1) ae ae ⟨rfl,rfl,rfl,rfl,rfl,rfl,trivial⟩ (fun w' aX=>?_)
  rw[aaL]
  exact aX.all Y5
 obtain rfl:j=g.length:=by omega
 rw[List.take_length]
 have kZ:(g.foldl M6 (sT,S.ok)).2=S.ok:=by rw[yT g sT S.ok hTn U7 hTg]
 have afN:=vU (bw:=bw) (n:=S.n) (V:=⟨us,vs,os,mT,mO⟩) (i:=ix k u) iK dI
 have afM:=vT (bw:=bw) (n:=S.n) (V:=⟨us.set (ix k u) dI,vs,os,mT,mO⟩) (i:=ix k u) Nn iK dI
 have ra:=rL (bw:=bw) (n:=S.n) (V:=⟨us.set (ix k u) dI,vs,os,mT,mO⟩) Nn h2
 refine ZB ?_
 refine acF ?_
 refine qG ?_
 refine mA ?_
 refine ZA ?_
 refine Qx ?_
 refine lJ ?_
 refine Z91 ?_
 refine KO.gT (v:=dI) (b:=bt) (i:=3+ix k u) rfl rfl aQ rfl Y53 rfl bo Ru (by rw[hlen];omega) ?_;rw[afN]
 refine Qw ?_
 refine KO.gT (v:=dI) (b:=bt) (i:=23+ix k u) rfl rfl aQ rfl Y55 rfl bZ Ru (by rw[ra];omega) ?_;rw[afM]
 refine KO.nil ?_
 refine KQ.j9 rfl (fun w' aX=>⟨_,_,rfl,⟨rfl,rfl⟩,?_⟩)
 have qY:=ja (f:=Bg) (ps:=us) (xs:=S.P) (i:=ix k u) (p:=dI) (x:=[]) ae ae (cM (aX.pick (A:=cr Bg (us.eraseIdx (ix k u)) (S.P.eraseIdx (ix k u))) bo))
 have Mh:=ja (f:=gV) (ps:=vs) (xs:=S.G) (i:=ix k u) (p:=dI) (x:=[]) ae ae (cM (qY.pick (A:=cr gV (vs.eraseIdx (ix k u)) (S.G.eraseIdx (ix k u))) bo))
 refine dZ ⟨us.set (ix k u) dI,vs.set (ix k u) dI,Hv,mT,mO⟩ ⟨by simpa using h1,by simpa using h2,yu⟩ (Mh.all Y5)
def YP (w:World):Prop:= ∀k,k<3->w.cell? ⟨0,k,none⟩=some (.string (v7 k))
theorem YP.ext{w w':World}(h:YP w)(e:Ext w w'):YP w':=fun k hk=>e.cell (h k hk)
theorem Rz(w0:World)(M:List HP)(bw:Nat)(V:QF)(W:Wo):KE prog 46 #[bA bw] w0 (oi bw V W M) (fun u N=>u=.int .i64 (W.cR.length:Nat)/\N=oi bw V W M):=by
 refine KE.mk (n:=8) func46 rfl ntmps46 aj ?_
 intro w hw
 obtain⟨a,cap,hv,-⟩:=aY (hw.pick (A:=Ja V.wv W.cR) bo)
 have mI:w.cell? ⟨bw,2,none⟩=some (.slice a W.cR.length cap):=by rw[World.cell?,hw.look.2,<-hv];rfl
 refine qE ?_
 refine lJ ?_
 refine Vy ?_
 refine KO.sE rfl rfl isAgg162 mI rfl ?_
 refine El ?_
 refine jH ?_
 refine KQ.bG rfl rfl (fun w' hs=>⟨_,_,rfl,⟨rfl,rfl⟩,hw.aE hs.below,hs.below⟩)
theorem l4{bt bw:Nat}{hd:Bf}{V:QF}{TV:Hq}{S':nS}{w0 w:World}{L:List HP}(hV:V.ps.length=S'.W.hs.length)(e8:V.hv=hd.1)(e9:Hr hd V.dv V.ps)(hT:QG TV S'.ks)(h:St w0 (oi bw V S'.W (vH bt bw TV S' L)) w):St w0 (ll bt bw S'::jJ bw hd S'.W::L) w:=by
 have h1:St w0 (jJ bw hd S'.W::vH bt bw TV S' L) w:=dH V hV h e8 e9
 exact dZ TV hT (h1.all (M:=vH bt bw TV S' (jJ bw hd S'.W::L)) Y7)
theorem De(w0:World)(L:List HP)(bt bw c kb:Nat)(hd:Bf)(hN:hd.2.2=none)(S:nS)(x:Bl)(hT:qH w0)(hM:qK w0)(hQ:YP w0)(hS:nD c kb S)(hO:pc (1000*c) S.ks S.Ls)(hc:c<=120)(hK:kb<=2000000):
 KC prog 23 #[bA bt,.agg (nP x).toArray] w0 (ll bt bw S::jJ bw hd S.W::L) (fun v M=>v=.tuple #[]/\M=ll bt bw (dW S x)::jJ bw hd (dW S x).W::L):=by
 have hn:=hS.hn
 have gO:=hS.n2
 obtain⟨k,hk,np⟩:∃k:Nat,dt S x=k/\k<S.n:=⟨_,rfl,by unfold dt;have :=gW x.k (n:=(S.n:Int)) ae;omega⟩
 obtain⟨u,hu,SV⟩:∃u:Nat,je x=u/\u<5:=⟨_,rfl,by unfold je;have :=gW x.unit (n:=5) ae;omega⟩
 have hpk:pk x.k (S.n:Nat)=(k:Nat):=by unfold dt at hk;have :=gW x.k (n:=(S.n:Int)) ae;omega
 have OW:pk x.unit 5=(u:Nat):=by unfold je at hu;have :=gW x.unit (n:=5) ae;omega
 obtain⟨y,hy,eH,eD,QZ,ajB,hy5⟩:=hS.at np
 have Ww:=QZ.B.le (k:=75420) (by have :=QZ.B.used;omega)
 have hym:∀z∈y.1.aB,z.aM.length+z.bu.length<=120:=fun z hz=>by have :=hS.um k z (by rw[eH];exact hz);omega
 have W_:ix k u<20:=by unfold ix;omega
 obtain⟨Xr,hPt⟩:=hS.P
 obtain⟨Xt,hGt⟩:=hS.G
 have hPk:=hPt k u ae SV
 have hGk:=hGt k u ae SV
 have kN:y.1.aB[u]? =some (y.1.eP u):=gu QZ.B SV
 have abC:(((S.W.H k).eP u).aM.map (·.1)).length<=120:=by
  have :=hym _ (ax kN)
  rw[eH,bj];omega
 have abI:(((S.W.H k).eP u).bu.map (·.1)).length<=120:=by
  have :=hym _ (ax kN)
  rw[eH,bj];omega
 obtain⟨Pl,hPl,ak3,hPe⟩:∃Pl,S.P[ix k u]? =some Pl/\Pl.length<=120/\Pl=((S.W.H k).eP u).aM.map (·.1):=⟨_,hPk,abC,rfl⟩
 obtain⟨Gl,hGl,ale,hGe⟩:∃Gl,S.G[ix k u]? =some Gl/\Gl.length<=120/\Gl=((S.W.H k).eP u).bu.map (·.1):=⟨_,hGk,abI,rfl⟩
 have Rh:S.P.getD (ix k u) []=Pl:=by rw[aq,hPl];rfl
 have Vh:S.G.getD (ix k u) []=Gl:=by rw[aq,hGl];rfl
 have FZ:=hS.B.wl
 obtain⟨i,hi,Zm⟩:∃i:Int,YZ S x=i/\(0<S.W.cR.length->0<=i/\i<(S.W.cR.length:Nat)):=⟨_,rfl,fun h=>by unfold YZ;rw[if_pos h];exact gW x.n ae⟩
 have hd0:dW S x=dW S x:=rfl
 conv at hd0=>rhs;unfold dW;rw[hk,hu,hi]
 rw[hd0]
 unfold YZ at hi
 clear hd0 hk hu
 obtain⟨xw,xk,xn,xm,xu⟩:=x
 dsimp only at hpk OW hi ⊢
 refine KC.mk (n:=267) func23 rfl ntmps23 aj ?_
 refine qq ?_
 refine K.cx (fun _ h=>fA h) ?_
 rintro⟨⟨us,vs,os,mT,mO⟩,hV⟩
 dsimp only
 refine K.conv (fun w h=>h.pick (A:=jJ bw hd S.W) bo) ?_
 refine K.cx (fun _ h=>dM h) ?_
 rintro⟨⟨hv,dv,wv,ps⟩,Kv,e8,e9⟩
 dsimp only at Kv e8 e9 ⊢
 obtain⟨h1,h2,h3⟩:=hV
 dsimp only at h1 h2 h3
 obtain⟨p,hp⟩:∃e,ps[k]? =some e:=⟨_,ao ae⟩
 obtain⟨uv,huv⟩:∃e,us[ix k u]? =some e:=⟨us[ix k u],ao ae⟩
 obtain⟨vv,hvv⟩:∃e,vs[ix k u]? =some e:=⟨vs[ix k u],ao ae⟩
 have hlen:=rL (bw:=bw) (n:=S.n) (V:=⟨us,vs,os,mT,mO⟩) h1 h2
 have Kl:k<S.W.hs.length:=by omega
 refine dR ?_
 refine KO.box rfl rfl aQ rfl ?_;intro b3
 refine Z0 ?_
 refine K.draw [.pure,.pure,.pure,.read,.pure,.read,.pure,.pure,.pure,.read,.dm,.pure,.read,.dm,.pure,.pure,.pure] [0,1,2,3,4,5,6,7,8,9,11,12,10,13,14,15,16] bH bH ?_
 refine mA ?_
 refine X_ ?_
 refine KO.gd (off:=1) rfl runUnderlying38 rfl rfl sizeOf3 rfl ?_
 refine tL ?_
 refine A6 ?_
 refine vy ?_
 refine KO.gd (off:=4) rfl runUnderlying38 rfl rfl sizeOf3 rfl ?_
 refine tL ?_
 refine KO.ce (cp:=[]) rfl rfl rfl call13 rfl (m_ w0 _ xk (S.n:Nat) ae ae) ?_;rintro v' L' ⟨rfl,rfl⟩;rw[hpk]
 refine KO.ce (cp:=[]) rfl rfl rfl call13 rfl (m_ w0 _ xu 5 ai ai) ?_;rintro v' L' ⟨rfl,rfl⟩;rw[OW]
 refine nQ ?_
 refine lK ?_
 refine K.conv (L':=oi bw ⟨hv,dv,wv,ps⟩ S.W (vH bt bw ⟨us,vs,os,mT,mO⟩ S (bP b3 (.cells (nP ⟨xw,xk,xn,xm,xu⟩).toArray 38 (0,0))::L))) (fun w h=>h.all Y7) ?_
 refine ji ?_
 refine KO.ce (cp:=[]) rfl rfl rfl call26 rfl (lh w0 _ bw ⟨hv,dv,wv,ps⟩ S.W k p Kv hp) ?_;rintro v' L' ⟨rfl,rfl⟩
 refine ky ?_
 refine Jo ?_
 refine BL ?_
 refine dR ?_
 refine mS ?_
 refine KO.ce (cp:=[]) rfl rfl rfl call46 rfl (Rz w0 _ bw ⟨hv,dv,wv,ps⟩ S.W) ?_;rintro v' L' ⟨rfl,rfl⟩
 refine mS ?_
 refine vC ?_
 refine KO.nil ?_
 refine KQ.next ?_
 refine K.cut (fun _:Unit=>[(0,bA bt),(3,.pointer (some ⟨b3,0,none⟩)),(4,bA bw),(5,.int .i64 (k:Nat)),(6,.int .i64 (u:Nat)),(7,bA p.1),(9,.int .i64 i)]) (fun _=>oi bw ⟨hv,dv,wv,ps⟩ S.W (vH bt bw ⟨us,vs,os,mT,mO⟩ S (bP b3 (.cells (nP ⟨xw,xk,xn,xm,xu⟩).toArray 38 (0,0))::L))) (fun _=>True) ?_ ?_
 ·refine K.bz rfl (fun rX=>?_) (fun rX=>?_)
  ·have sF:0<S.W.cR.length:=by omega
   rw[if_pos sF]at hi
   refine dR ?_
   refine Qp ?_
   refine vy ?_
   refine Z1 ?_
   refine KO.ce (cp:=[]) rfl rfl rfl call13 rfl (m_ w0 _ xn (S.W.cR.length:Nat) ae ae) ?_;rintro v' L' ⟨rfl,rfl⟩;rw[hi]
   refine xF ?_
   refine KQ.tf () trivial ⟨rfl,rfl,rfl,rfl,rfl,rfl,rfl,trivial⟩ (fun w' aX=>aX)
  ·have sF:¬0<S.W.cR.length:=by omega
   rw[if_neg sF]at hi
   subst hi
   refine Ek ?_
   refine KQ.tf () trivial ⟨rfl,rfl,rfl,rfl,rfl,rfl,rfl,trivial⟩ (fun w' aX=>aX)
 rintro _ _
 clear hi Zm
 refine Z3 ?_
 refine Yq ?_
 refine Qe ?_
 refine dR ?_
 refine Yt ?_
 refine K.bz rfl (fun qj=>?_) (fun qj=>?_)
 ·rw[if_pos qj]
  obtain⟨j,hj,hj3⟩:∃j:Nat,pk xn 3=(j:Nat)/\j<3:=⟨(pk xn 3).toNat,by have :=gW xn (n:=3) ai;omega,by have :=gW xn (n:=3) ai;omega⟩
  have U2:=gW xm (n:=3) ai
  have hq:w0.cell? ((⟨0,0,none⟩:Addr).add (j *1))=some (.string (v7 j)):=by rw[Addr.add_lit,Nat.zero_add,Nat.mul_one];exact hQ j hj3
  have hqs:=(jj (zJ j)).2
  have hmx:(1000000:Nat)<=maxLen:=by decide
  rw[show(pk xn 3).toNat=j by omega]
  refine qq ?_
  refine K.draw [.pure,.read,.dm,.pure,.read,.pure,.read,.dm,.pure,.pure] [0,1,5,6,2,3,4,7,8,9] bH bH ?_
  refine Qp ?_
  refine vy ?_
  refine Yp ?_
  refine KO.ce (cp:=[]) rfl rfl rfl call13 rfl (m_ w0 _ xn 3 ai ai) ?_;rintro v' L' ⟨rfl,rfl⟩;rw[hj]
  refine acs ?_
  refine KO.ce (cp:=[]) rfl rfl rfl call13 rfl (m_ w0 _ xm 3 ai ai) ?_;rintro v' L' ⟨rfl,rfl⟩
  refine Z7 ?_
  refine lK ?_
  generalize v7 j=q at hqs hq ⊢
  generalize pk xm 3=pm at U2 ⊢
  refine Z8 ?_
  refine qG ?_
  refine KO.cl (cp:=[]) rfl rfl rfl call14 rfl (KC.nO (φ:=fun v=>v=.tuple #[.int .i64 (zK y.1 (u:Nat) q pm xS),cS 70 (jn y.1 (u:Nat) q pm xS)]) hp hy bo (fun L=>KC.hdH (fun L=>OT w0 L p.1 p.2 75420 y.1 (u:Nat) q pm xS Ww ae ae ai (fun z hz=>by have :=hym z hz;omega)))) ?_;rintro v' L' ⟨rfl,rfl⟩
  refine qc ?_
  refine K.conv (L':=oi bw ⟨hv,dv,wv,ps⟩ (S.W.bU k (fl y.1 (u:Nat) q pm xS,y.2)) (vH bt bw ⟨us,vs,os,mT,mO⟩ S (bP b3 (.cells (nP ⟨xw,xk,xn,xm,xu⟩).toArray 38 (0,0))::L))) (fun w h=>h.all Y7) ?_
  have nL:ps.length=(S.W.bU k (fl y.1 (u:Nat) q pm xS,y.2)).hs.length:=by rw[fx];exact Kv
  unfold oG
  dsimp only
  rw[eH,eD]
  generalize Mt:fl y.1 (u:Nat) q pm xS=H1 at nL ⊢
  refine Z8 ?_
  refine JF ?_
  refine K.bz rfl (fun he=>?_) (fun he=>?_)
  ·rw[if_pos he,Rh]
   generalize zK y.1 (u:Nat) q pm xS=id
   refine sy ?_
   refine nB ?_
   refine Z50 ?_
   refine KO.alloc rfl zeroValue44 aQ rfl ?_;intro P6
   refine yB ?_
   refine Z8 ?_
   refine A5 ?_
   refine KO.nil ?_
   refine KQ.next ?_
   refine K.cut (fun _:Unit=>[(0,bA bt),(5,.int .i64 (k:Nat)),(6,.int .i64 (u:Nat)),(15,.pointer (some ⟨P6,0,none⟩))]) (fun _=>bP P6 (.cells (du (pB S.n k id pm q)).toArray 44 (0,0))::oi bw ⟨hv,dv,wv,ps⟩ (S.W.bU k (H1,y.2)) (vH bt bw ⟨us,vs,os,mT,mO⟩ S (bP b3 (.cells (nP ⟨xw,xk,xn,xm,xu⟩).toArray 38 (0,0))::L))) (fun _=>True) ?_ ?_
   ·refine K.bz rfl (fun hf=>?_) (fun hf=>?_)
    ·have hm:pB S.n k id pm q=⟨id,pm,xS,eV,((k:Int)+1)%S.n⟩:=by unfold pB;rw[if_pos (show q=eF from hf)]
     rw[hm]
     refine K.KJ [.pure,.pure,.pure,.pure,.pure,.read,.pure,.pure,.write,.pure,.write] [(5,8)] [[0,1,2,3,4,5,6,7,8,9,10],[0,1,2,3,4,7,8,5,6,9,10]] bH bH bH ⟨?_,?_,trivial⟩
     focus
      show KO _ _ _ _ _ _ _ _ _ _
      refine Z1 ?_
      refine vP ?_
      refine A6 ?_
      refine Ya ?_
      refine Qb ?_
      (refine KO.JV rfl rfl rfl aQ ZM aQ bZ aQ Y0 ?_)
      refine Qa ?_
      (refine KO.JV rfl rfl rfl aQ za aQ bZ aQ Y0 ?_)
      refine KO.nil ?_
     rotate_left
     focus
      show KO _ _ _ _ _ _ _ _ _ _
      refine Z1 ?_
      refine vP ?_
      refine A6 ?_
      refine Qb ?_
      (refine KO.JV rfl rfl rfl aQ ZM aQ bZ aQ Y0 ?_)
      refine Ya ?_
      refine Qa ?_
      (refine KO.JV rfl rfl rfl aQ za aQ bZ aQ Y0 ?_)
      refine KO.nil ?_
     rotate_left
     all_goals (refine KQ.tf () trivial ⟨rfl,rfl,rfl,rfl,trivial⟩ (fun w' aX=>aX.all nH))
    ·have hm:pB S.n k id pm q=⟨id,pm,xS,q,k⟩:=by unfold pB;rw[if_neg (show ¬q=eF from hf)]
     rw[hm]
     refine Ek ?_
     refine KQ.tf () trivial ⟨rfl,rfl,rfl,rfl,trivial⟩ (fun w' aX=>aX.all nH)
   rintro _ _
   generalize pB S.n k id pm q=mm
   refine Yl ?_
   refine K.fact (fun _ hs=>aY hs) ?_
   rintro⟨a1,c1,rfl,rb⟩
   have hcu:=NJ (bw:=bw) (n:=S.n) (V:=⟨us,vs,os,mT,mO⟩) huv
   refine K.draw [.pure,.pure,.pure,.pure,.pure,.pure,.pure,.pure,.pure,.pure,.read,.read,.dm,.write,.pure,.pure,.pure,.pure,.write] [0,1,2,3,4,5,6,7,8,9,10,11,14,15,16,12,13,17,18] bH bH ?_
   refine nB ?_
   refine qG ?_
   refine mA ?_
   refine ZA ?_
   refine Qx ?_
   refine KO.dB (i:=3+ix k u) rfl rfl isAgg49 bo Ru hcu rfl ?_
   refine BM ?_
   refine lJ ?_
   refine ZA ?_
   refine KO.lY (z:=(Value.agg #[.int .i64 0,.int .i64 0,.string ⟨#[]⟩,.string ⟨#[]⟩,.int .i64 0])) (sz:=5) (dP:=56) rfl rfl underlying49 bH aQ aQ ai ai rfl ?_;intro P7
   refine KO.app (cf:=du) (z:=Value.agg #[.int .i64 0,.int .i64 0,.string ⟨#[]⟩,.string ⟨#[]⟩,.int .i64 0]) (sz:=5) (dP:=56) (xs:=Pl) rfl rfl rfl (.tail .head) .head underlying49 bH aQ mm rfl rfl rfl ae ai rfl ?_;intro VL;refine KO.fact (fun _ hs=>aY hs) ?_;rintro⟨al9,ajq,U0,-⟩
   refine Qx ?_
   refine KO.gT (b:=bt) (i:=3+ix k u) rfl rfl rfl (by rw[U0];rfl) Y53 (by rw[U0];rfl) bo Ru (by rw[hlen];omega) ?_;rw[vU iK]
   refine BB ?_
   refine KQ.j9 rfl (fun w' aX=>⟨_,_,rfl,⟨rfl,rfl⟩,?_⟩)
   have qY:=ja (f:=Bg) (ps:=us) (xs:=S.P) (i:=ix k u) (p:=VL) (x:=Pl++[mm]) ae ae (aX.gk (A:=Bg VL (Pl++[mm])) (B:=cr Bg (us.eraseIdx (ix k u)) (S.P.eraseIdx (ix k u))) bo bo)
   exact l4 (V:=⟨hv,dv,wv,ps⟩) (TV:=⟨us.set (ix k u) VL,vs,os,mT,mO⟩) nL e8 e9 ⟨by simpa using h1,h2,h3⟩ (qY.all Y5)
  ·rw[if_neg he]
   refine Qz ?_
   refine KQ.j9 rfl (fun w' aX=>⟨_,_,rfl,⟨rfl,rfl⟩,?_⟩)
   exact l4 (V:=⟨hv,dv,wv,ps⟩) (TV:=⟨us,vs,os,mT,mO⟩) nL e8 e9 ⟨h1,h2,h3⟩ (aX.all Y5)
 refine BF ?_
 refine K.bz rfl (fun rX=>?_) (fun rX=>?_)
 ·rw[if_neg qj,if_pos rX]
  obtain⟨j,hj,Hx⟩:∃j:Nat,pk xn 2=(j:Nat)/\j<2:=⟨(pk xn 2).toNat,by have :=gW xn (n:=2) ai;omega,by have :=gW xn (n:=2) ai;omega⟩
  have hq:w0.cell? ((⟨0,0,none⟩:Addr).add (j *1))=some (.string (v7 j)):=by rw[Addr.add_lit,Nat.zero_add,Nat.mul_one];exact hQ j ae
  rw[show(pk xn 2).toNat=j by omega]
  refine Z3 ?_
  refine Qp ?_
  refine vy ?_
  refine KO.ce (cp:=[]) rfl rfl rfl call13 rfl (m_ w0 _ xn 2 ai ai) ?_;rintro v' L' ⟨rfl,rfl⟩;rw[hj]
  refine acs ?_
  refine lK ?_
  have SQ:=zJ j
  clear hq
  generalize v7 j=q0 at SQ ⊢
  refine dR ?_
  refine Yp ?_
  refine KO.ce (cp:=[]) rfl rfl rfl call13 rfl (m_ w0 _ xm 5 ai ai) ?_;rintro v' L' ⟨rfl,rfl⟩
  refine D_ ?_
  refine KO.nil ?_
  refine KQ.next ?_
  refine K.cut (fun _:Unit=>[(0,bA bt),(5,.int .i64 (k:Nat)),(6,.int .i64 (u:Nat)),(7,bA p.1),(16,.string (if pk xm 5=0 then cL else q0))]) (fun _=>oi bw ⟨hv,dv,wv,ps⟩ S.W (vH bt bw ⟨us,vs,os,mT,mO⟩ S (bP b3 (.cells (nP ⟨xw,xk,xn,xm,xu⟩).toArray 38 (0,0))::L))) (fun _=>True) ?_ ?_
  ·refine K.bz rfl (fun hf=>?_) (fun hf=>?_)
   ·rw[if_pos hf]
    refine dR ?_
    refine xF ?_
    refine KQ.tf () trivial ⟨rfl,rfl,rfl,rfl,rfl,trivial⟩ (fun w' aX=>aX.all nH)
   ·rw[if_neg hf]
    refine Ek ?_
    refine KQ.tf () trivial ⟨rfl,rfl,rfl,rfl,rfl,trivial⟩ (fun w' aX=>aX.all nH)
  rintro _ _
  have hqw:dw (if pk xm 5=0 then cL else q0)=true:=by
   split
   ·exact tz
   ·exact SQ
  generalize (if pk xm 5=0 then cL else q0)=q at hqw ⊢
  unfold uq
  dsimp only
  rw[eH,eD]
  have mg:lR y.1 (u:Nat) q=0->getM y.1 (u:Nat) q∈S.T.map (·.2):=fun he=>by
   obtain⟨C0,gg⟩:=hS.gi
   have :=(gg.get hS.B np SV (s:=q) (by rw[eH];exact he)).2
   rw[eH]at this;exact this
  refine Z3 ?_
  refine qG ?_
  refine KO.cl (cp:=[]) rfl rfl rfl call15 rfl (KC.nO (φ:=fun v=>v=.tuple #[.agg (du (getM y.1 (u:Nat) q)).toArray,cS 70 (lR y.1 (u:Nat) q)]) hp hy bo (fun L=>KC.hdH (fun L=>Xc w0 L p.1 p.2 75420 y.1 (u:Nat) q Ww ae (fun z hz=>by have :=hym z hz;omega)))) ?_;rintro v' L' ⟨rfl,rfl⟩
  refine G3 ?_
  refine KO.alloc rfl zeroValue44 aQ rfl ?_;intro X0
  refine K7 ?_
  refine lK ?_
  refine K.conv (L':=bP X0 (.cells (du (getM y.1 (u:Nat) q)).toArray 44 (0,0))::oi bw ⟨hv,dv,wv,ps⟩ (S.W.bU k (jZ y.1 (u:Nat) q,y.2)) (vH bt bw ⟨us,vs,os,mT,mO⟩ S (bP b3 (.cells (nP ⟨xw,xk,xn,xm,xu⟩).toArray 38 (0,0))::L))) (fun w h=>h.all Y7) ?_
  have nL:ps.length=(S.W.bU k (jZ y.1 (u:Nat) q,y.2)).hs.length:=by rw[fx];exact Kv
  generalize Mt:jZ y.1 (u:Nat) q=H1 at nL ⊢
  refine Z8 ?_
  refine JF ?_
  refine K.bz rfl (fun he=>?_) (fun he=>?_)
  ·rw[if_pos he,Vh]
   have hfm:=hS.find (mg he)
   clear mg
   generalize getM y.1 (u:Nat) q=m at hfm ⊢
   have DR:(eI (Bp S.T) m.id).getD (.agg (du oh).toArray)=.agg (du m).toArray:=by rw[Dd,hfm];rfl
   have afe:(S.ok&&decide ((eI S.T m.id).getD oh=m))=S.ok:=by rw[hfm];simp
   rw[afe]
   refine qq ?_
   refine K.draw [.pure,.pure,.pure,.read,.pure,.read,.read,.read,.pure] [0,1,2,3,4,5,6,7,8] bH bH ?_
   refine mA ?_
   refine Zy ?_
   refine Qm ?_
   refine KO.ld (v:=.int .i64 m.id) rfl rfl isAgg3 bZ aQ rfl ?_
   refine KO.Ey jX m.id rfl rfl rfl underlying56 underlying3 zeroValue44 bo rfl ?_;rw[show(Value.agg #[.int .i64 0,.int .i64 0,.string ⟨#[]⟩,.string ⟨#[]⟩,.int .i64 0])=.agg (du oh).toArray from rfl,DR]
   refine Eo ?_
   refine KO.neA (b:=decide (m=m)) rfl rfl bH (Om m m) rfl ?_
   refine Hf ?_
   refine Yn ?_
   refine K.fact (fun _ hs=>aY hs) ?_
   rintro⟨a1,c1,rfl,rb⟩
   have hcv:=NI (bw:=bw) (n:=S.n) (V:=⟨us,vs,os,mT,mO⟩) h1 hvv
   refine T4 ?_
   refine K.draw [.pure,.pure,.pure,.pure,.pure,.pure,.pure,.pure,.pure,.pure,.read,.pure,.read,.dm,.write,.pure,.pure,.pure,.pure,.write] [0,1,2,3,4,5,6,7,8,9,10,11,12,15,16,17,13,14,18,19] bH bH ?_
   refine nB ?_
   refine qG ?_
   refine mA ?_
   refine Z91 ?_
   refine Qw ?_
   refine KO.dB (i:=23+ix k u) rfl rfl isAgg23 bo Ru hcv rfl ?_
   refine Qm ?_
   refine KO.ld (v:=.int .i64 m.id) rfl rfl isAgg3 bo aQ rfl ?_
   refine lJ ?_
   refine Z91 ?_
   refine KO.lY (z:=(Value.int .i64 0)) (sz:=1) (dP:=8) rfl rfl underlying23 bH aQ aQ ai ai rfl ?_;intro al0
   refine KO.app (cf:=iC) (z:=Value.int .i64 0) (sz:=1) (dP:=8) (xs:=Gl) rfl rfl rfl (.tail .head) .head underlying23 bH aQ m.id rfl rfl rfl ae ai rfl ?_;intro v157;refine KO.fact (fun _ hs=>aY hs) ?_;rintro⟨a157,ajo,UZ,-⟩
   refine Qw ?_
   refine KO.gT (b:=bt) (i:=23+ix k u) rfl rfl rfl (by rw[UZ];rfl) Y55 (by rw[UZ];rfl) bo Ru (by rw[hlen];omega) ?_;rw[vT h1 iK]
   refine BB ?_
   refine KQ.j9 rfl (fun w' aX=>⟨_,_,rfl,⟨rfl,rfl⟩,?_⟩)
   have qY:=ja (f:=gV) (ps:=vs) (xs:=S.G) (i:=ix k u) (p:=v157) (x:=Gl++[m.id]) ae ae (aX.gk (A:=gV v157 (Gl++[m.id])) (B:=cr gV (vs.eraseIdx (ix k u)) (S.G.eraseIdx (ix k u))) bo bo)
   exact l4 (V:=⟨hv,dv,wv,ps⟩) (TV:=⟨us,vs.set (ix k u) v157,os,mT,mO⟩) nL e8 e9 ⟨h1,by simpa using h2,h3⟩ (qY.all Y5)
  ·rw[if_neg he]
   refine Qz ?_
   refine KQ.j9 rfl (fun w' aX=>⟨_,_,rfl,⟨rfl,rfl⟩,?_⟩)
   exact l4 (V:=⟨hv,dv,wv,ps⟩) (TV:=⟨us,vs,os,mT,mO⟩) nL e8 e9 ⟨h1,h2,h3⟩ (aX.all Y5)
 refine BF ?_
 refine K.bz rfl (fun sF=>?_) (fun sF=>?_)
 ·rw[if_neg qj,if_neg rX,if_pos sF]
  unfold sC
  dsimp only
  obtain⟨C0,gg⟩:=hS.gi
  obtain⟨afo,W6⟩:=hS.keys
  have huy:(S.W.H k).aB[u]? =some (y.1.eP u):=by rw[eH];exact kN
  have Tg:=gg.Ky np huy
  have Mf:=(gg.hi k y hy).unit u _ kN
  have Ra:=gg.fresh k y hy u _ kN
  have hrt:=(QZ.aB _ (ax kN)).1
  rw[eH]at hPe hGe
  have nM:(S.T.map (·.1)++Pl.map (·.id)).Nodup:=by
   rw[hPe,List.nodup_append,List.map_map]
   refine⟨afo,Mf.pn,fun a ha b hb=>?_⟩
   obtain⟨q,hq,rfl⟩:=ay.1 hb
   rw[W6]at ha
   exact fun e=>Ra q hq (by rw[show q.1.id=a from e.symm];exact ha)
  have U7:Gl.Nodup:=by rw[hGe];exact Mf.gn
  have afB:∀i∈Gl,i∈S.T.map (·.1):=fun i hi=>by rw[W6];exact Tg i (by rw[<-hGe];exact hi)
  have WM:∀m∈Pl,0<=m.pri/\m.pri<=9:=fun m hm=>by
   rw[hPe]at hm
   obtain⟨q,hq,rfl⟩:=ay.1 hm
   obtain⟨-,-,a,b,-⟩:=bV (hrt.aM q hq)
   exact⟨a,b⟩
  have hle:=QZ.left
  rw[eH,eD]
  refine sy ?_
  refine KO.cl (cp:=[]) rfl rfl rfl call16 rfl (KC.nO (φ:=fun v=>v=cS 70 (vj y.1 y.2 (u:Nat))) (y:=(la y.1 y.2 (u:Nat),od y.1 y.2 (u:Nat))) hp hy bo (fun L=>KC.hd (y:=(la y.1 y.2 (u:Nat),od y.1 y.2 (u:Nat))) (Cy w0 L p.1 p.2 75420 y.1 y.2 (u:Nat) hT hM Ww ae (fun z hz=>(QZ.aB z hz).1) QZ.len ⟨by omega,by omega⟩))) ?_;rintro v' L' ⟨rfl,rfl⟩
  refine JF ?_
  refine K.conv (L':=oi bw ⟨hv,dv,wv,ps⟩ (S.W.bU k (la y.1 y.2 (u:Nat),od y.1 y.2 (u:Nat))) (vH bt bw ⟨us,vs,os,mT,mO⟩ S (bP b3 (.cells (nP ⟨xw,xk,xn,xm,xu⟩).toArray 38 (0,0))::L))) (fun w h=>h.all Y7) ?_
  have nL:ps.length=(S.W.bU k (la y.1 y.2 (u:Nat),od y.1 y.2 (u:Nat))).hs.length:=by rw[fx];exact Kv
  generalize Mt:(la y.1 y.2 (u:Nat),od y.1 y.2 (u:Nat))=H1 at nL ⊢
  refine K.bz rfl (fun he=>?_) (fun he=>?_)
  ·rw[if_pos he]
   refine K.conv (fun w hw=>dH (hd:=hd) ⟨hv,dv,wv,ps⟩ nL hw e8 e9) ?_
   refine K.conv (fun w hw=>dZ (bt:=bt) (bw:=bw) (S:={S with W:=S.W.bU k H1}) (L:=jJ bw hd (S.W.bU k H1)::bP b3 (.cells (nP ⟨xw,xk,xn,xm,xu⟩).toArray 38 (0,0))::L) ⟨us,vs,os,mT,mO⟩ ⟨h1,h2,h3⟩ (hw.all Y7)) ?_
   refine Z8 ?_
   refine nB ?_
   refine KO.cl (cp:=[]) rfl rfl rfl call68 rfl (RI w0 _ bt bw k u (1000*c) {S with W:=S.W.bU k H1} ae SV Xr Xt hO ae Pl Gl hPl hGl ae ae WM nM U7 afB) ?_;rintro v' L' ⟨rfl,rfl⟩
   refine BB ?_
   refine KQ.j9 rfl (fun w' aX=>⟨_,_,rfl,⟨rfl,rfl⟩,?_⟩)
   exact aX.all Y5
  ·rw[if_neg he]
   refine Qz ?_
   refine KQ.j9 rfl (fun w' aX=>⟨_,_,rfl,⟨rfl,rfl⟩,?_⟩)
   exact l4 (V:=⟨hv,dv,wv,ps⟩) (TV:=⟨us,vs,os,mT,mO⟩) nL e8 e9 ⟨h1,h2,h3⟩ (aX.all Y5)
 refine BF ?_
 refine K.bz rfl (fun IK=>?_) (fun IK=>?_)
 ·rw[if_neg qj,if_neg rX,if_neg sF,if_pos IK]
  unfold zq
  dsimp only
  rw[eH,eD]
  refine sy ?_
  refine KO.cl (cp:=[]) rfl rfl rfl call17 rfl (KC.nO (φ:=fun v=>v=cS 70 (Bz y.1 (u:Nat))) hp hy bo (fun L=>KC.hdH (fun L=>Tr w0 L p.1 p.2 75420 y.1 (u:Nat) Ww ae (fun z hz=>by have :=hym z hz;omega)))) ?_;rintro v' L' ⟨rfl,rfl⟩
  refine JF ?_
  refine K.conv (L':=oi bw ⟨hv,dv,wv,ps⟩ (S.W.bU k (ou y.1 (u:Nat),y.2)) (vH bt bw ⟨us,vs,os,mT,mO⟩ S (bP b3 (.cells (nP ⟨xw,xk,xn,xm,xu⟩).toArray 38 (0,0))::L))) (fun w h=>h.all Y7) ?_
  have nL:ps.length=(S.W.bU k (ou y.1 (u:Nat),y.2)).hs.length:=by rw[fx];exact Kv
  generalize Mt:ou y.1 (u:Nat)=H1 at nL ⊢
  refine K.bz rfl (fun he=>?_) (fun he=>?_)
  ·rw[if_pos he]
   have ra:=rL (bw:=bw) (n:=S.n) (V:=⟨us.set (ix k u) dI,vs,os,mT,mO⟩) Nn h2
   refine Yl ?_
   refine Yn ?_
   refine acF ?_
   refine qG ?_
   refine mA ?_
   refine ZA ?_
   refine Qx ?_
   refine lJ ?_
   refine Z91 ?_
   refine KO.gT (v:=dI) (b:=bt) (i:=3+ix k u) rfl rfl aQ rfl Y53 rfl bo Ru (by rw[hlen];omega) ?_;rw[vU iK]
   refine Qw ?_
   refine KO.gT (v:=dI) (b:=bt) (i:=23+ix k u) rfl rfl aQ rfl Y55 rfl bZ Ru (by rw[ra];omega) ?_;rw[vT Nn iK]
   refine BB ?_
   refine KQ.j9 rfl (fun w' aX=>⟨_,_,rfl,⟨rfl,rfl⟩,?_⟩)
   have qY:=ja (f:=Bg) (ps:=us) (xs:=S.P) (i:=ix k u) (p:=dI) (x:=[]) ae ae (cM (aX.pick (A:=cr Bg (us.eraseIdx (ix k u)) (S.P.eraseIdx (ix k u))) bo))
   have Mh:=ja (f:=gV) (ps:=vs) (xs:=S.G) (i:=ix k u) (p:=dI) (x:=[]) ae ae (cM (qY.pick (A:=cr gV (vs.eraseIdx (ix k u)) (S.G.eraseIdx (ix k u))) bo))
   exact l4 (V:=⟨hv,dv,wv,ps⟩) (TV:=⟨us.set (ix k u) dI,vs.set (ix k u) dI,os,mT,mO⟩) nL e8 e9 ⟨by simpa using h1,by simpa using h2,h3⟩ (Mh.all Y5)
  ·rw[if_neg he]
   refine Qz ?_
   refine KQ.j9 rfl (fun w' aX=>⟨_,_,rfl,⟨rfl,rfl⟩,?_⟩)
   exact l4 (V:=⟨hv,dv,wv,ps⟩) (TV:=⟨us,vs,os,mT,mO⟩) nL e8 e9 ⟨h1,h2,h3⟩ (aX.all Y5)
 refine BF ?_
 refine K.bz rfl (fun SR=>?_) (fun SR=>?_)
 ·rw[if_neg qj,if_neg rX,if_neg sF,if_neg IK,if_pos SR]
  refine JI ?_
  refine Z8 ?_
  refine nB ?_
  refine vP ?_
  refine A6 ?_
  refine Ya ?_
  refine KO.cl (cp:=[]) rfl rfl rfl call69 rfl (KC.qv bZ (UC w0 _ bw c kb hd S.W (k:Nat) (((k:Nat)+1)%(S.n:Int)) hT hM hS.B ae ae)) ?_;rintro v' L' ⟨rfl,rfl⟩
  refine BB ?_
  refine KQ.j9 rfl (fun w' aX=>⟨_,_,rfl,⟨rfl,rfl⟩,?_⟩)
  exact dZ ⟨us,vs,os,mT,mO⟩ ⟨h1,h2,h3⟩ (aX.all Y5)
 refine BF ?_
 refine K.bz rfl (fun UY=>?_) (fun UY=>?_)
 ·rw[if_neg qj,if_neg rX,if_neg sF,if_neg IK,if_neg SR,if_pos UY]
  refine JI ?_
  refine ji ?_
  refine KO.cl (cp:=[]) rfl rfl rfl call70 rfl (KC.qv bZ (UF w0 _ bw c kb hd S.W i hT hM hS.B ae ae)) ?_;rintro v' L' ⟨rfl,rfl⟩
  refine BB ?_
  refine KQ.j9 rfl (fun w' aX=>⟨_,_,rfl,⟨rfl,rfl⟩,?_⟩)
  exact dZ ⟨us,vs,os,mT,mO⟩ ⟨h1,h2,h3⟩ (aX.all Y5)
 refine BF ?_
 refine K.bz rfl (fun Wy=>?_) (fun Wy=>?_)
 ·rw[if_neg qj,if_neg rX,if_neg sF,if_neg IK,if_neg SR,if_neg UY,if_pos Wy]
  refine JI ?_
  refine ji ?_
  refine KO.cl (cp:=[]) rfl rfl rfl call71 rfl (KC.qv bZ (ZR w0 _ bw c kb hd S.W i hS.B)) ?_;rintro v' L' ⟨rfl,rfl⟩
  refine BB ?_
  refine KQ.j9 rfl (fun w' aX=>⟨_,_,rfl,⟨rfl,rfl⟩,?_⟩)
  exact dZ ⟨us,vs,os,mT,mO⟩ ⟨h1,h2,h3⟩ (aX.all Y5)
 refine BF ?_
 refine K.bz rfl (fun Ze=>?_) (fun Ze=>?_)
 ·rw[if_neg qj,if_neg rX,if_neg sF,if_neg IK,if_neg SR,if_neg UY,if_neg Wy,if_pos Ze]
  refine JI ?_
  refine ji ?_
  refine KO.cl (cp:=[]) rfl rfl rfl call72 rfl (KC.qv bZ (ZQ w0 _ bw c kb hd S.W i hS.B ae)) ?_;rintro v' L' ⟨rfl,rfl⟩
  refine BB ?_
  refine KQ.j9 rfl (fun w' aX=>⟨_,_,rfl,⟨rfl,rfl⟩,?_⟩)
  exact dZ ⟨us,vs,os,mT,mO⟩ ⟨h1,h2,h3⟩ (aX.all Y5)
 refine BF ?_
 refine K.bz rfl (fun hw8=>?_) (fun hw8=>?_)
 ·rw[if_neg qj,if_neg rX,if_neg sF,if_neg IK,if_neg SR,if_neg UY,if_neg Wy,if_neg Ze,if_pos hw8]
  refine JI ?_
  have ahN:=gW xm (n:=150) ai
  refine K.draw [.pure,.pure,.pure,.read,.dm,.pure,.read,.dm,.pure,.write] [0,1,2,3,5,6,4,7,8,9] bH bH ?_
  refine nB ?_
  refine Qp ?_
  refine vy ?_
  refine Yp ?_
  refine KO.ce (cp:=[]) rfl rfl rfl call13 rfl (m_ w0 _ xn 4 ai ai) ?_;rintro v' L' ⟨rfl,rfl⟩
  refine KO.ce (cp:=[]) rfl rfl rfl call13 rfl (m_ w0 _ xm 150 ai ai) ?_;rintro v' L' ⟨rfl,rfl⟩
  refine Hd ?_
  refine KO.cl (cp:=[]) rfl rfl rfl call73 rfl (KC.qv bZ (VI w0 _ bw c kb hd S.W (k:Nat) (pk xn 4) (pk xm 150-1) hS.B)) ?_;rintro v' L' ⟨rfl,rfl⟩
  refine BB ?_
  refine KQ.j9 rfl (fun w' aX=>⟨_,_,rfl,⟨rfl,rfl⟩,?_⟩)
  exact dZ ⟨us,vs,os,mT,mO⟩ ⟨h1,h2,h3⟩ (aX.all Y5)
 refine BF ?_
 refine K.bz rfl (fun hw9=>?_) (fun hw9=>?_)
 ·rw[if_neg qj,if_neg rX,if_neg sF,if_neg IK,if_neg SR,if_neg UY,if_neg Wy,if_neg Ze,if_neg hw8,if_pos hw9]
  have Nb:S.W.is (k:Nat)=true:=by unfold Wo.is;rw[decide_eq_true_eq];omega
  refine JI ?_
  refine K.conv (fun w hw=>dZ (bt:=bt) (bw:=bw) (S:=S) (L:=jJ bw hd S.W::bP b3 (.cells (nP ⟨xw,xk,xn,xm,xu⟩).toArray 38 (0,0))::L) ⟨us,vs,os,mT,mO⟩ ⟨h1,h2,h3⟩ (hw.all Y7)) ?_
  refine sy ?_
  refine KO.cl (cp:=[]) rfl rfl rfl call74 rfl (KC.qv bo (UD w0 _ bw c kb hd hN S.W (k:Nat) hT hM hS.B ae)) ?_;rintro v' L' ⟨rfl,rfl⟩;rw[show BR S.W (k:Nat)=0 by unfold BR;rw[if_pos Nb]]
  refine KO.Zu rfl bH rfl ?_
  refine BA ?_
  refine ji ?_
  refine KO.cl (cp:=[]) rfl rfl rfl call75 rfl (KC.qv bo (BT w0 _ bt bw k S ae Xr Xt)) ?_;rintro v' L' ⟨rfl,rfl⟩
  refine BB ?_
  have ht:ll bt bw {gI S k with W:=Le S.W (k:Nat)}=ll bt bw (gI S k):=rfl
  rw[ht]
  refine KQ.j9 rfl (fun w' aX=>⟨_,_,rfl,⟨rfl,rfl⟩,?_⟩)
  exact aX.all Y5
 refine BF ?_
 refine K.bz rfl (fun Wz=>?_) (fun Wz=>?_)
 ·rw[if_neg qj,if_neg rX,if_neg sF,if_neg IK,if_neg SR,if_neg UY,if_neg Wy,if_neg Ze,if_neg hw8,if_neg hw9,if_pos Wz]
  have aki:∀j∈List.range S.n,j<4:=fun j hj=>by have :=aO.1 hj;omega
  refine K.conv (L':=oi bw ⟨hv,dv,wv,ps⟩ S.W (ll bt bw S::bP b3 (.cells (nP ⟨xw,xk,xn,xm,xu⟩).toArray 38 (0,0))::L)) (fun w hw=>(dZ (bt:=bt) (bw:=bw) (S:=S) (L:=oi bw ⟨hv,dv,wv,ps⟩ S.W (bP b3 (.cells (nP ⟨xw,xk,xn,xm,xu⟩).toArray 38 (0,0))::L)) ⟨us,vs,os,mT,mO⟩ ⟨h1,h2,h3⟩ (hw.all Y7)).all Y7) ?_
  refine tG ?_
  refine K8 ?_
  refine K.loop (fun j:Nat=>[(0,bA bt),(4,bA bw),(19,.int .i64 (j:Nat))]) (fun j=>oi bw ⟨hv,dv,wv,ps⟩ S.W (ll bt bw ((List.range j).foldl fI S)::bP b3 (.cells (nP ⟨xw,xk,xn,xm,xu⟩).toArray 38 (0,0))::L)) (fun j=>j<=S.n) (fun j=>S.n-j) 0 (aV _) ⟨rfl,rfl,rfl,trivial⟩ (fun _ h=>h) ?_
  intro j hj
  obtain⟨Pj,Gj,ej,pj,gj,-⟩:=pC (List.range j) S Xr Xt (fun i hi=>by have :=aO.1 hi;omega)
  have ED:((List.range j).foldl fI S).n=S.n:=by rw[ej]
  have hjW:((List.range j).foldl fI S).W=S.W:=by rw[ej]
  have hjP:((List.range j).foldl fI S).P.length=20:=by rw[ej];exact pj
  have hjG:((List.range j).foldl fI S).G.length=20:=by rw[ej];exact gj
  have Gp:(List.range (j+1)).foldl fI S=fI ((List.range j).foldl fI S) j:=by rw[List.range_succ,List.foldl_append];rfl
  clear ej pj gj
  by_cases U6:j<S.n
  ·obtain⟨z,hz,ezH,ezD,-⟩:=hS.at U6
   obtain⟨q,hq⟩:∃e,ps[j]? =some e:=⟨_,ao (show j<ps.length by omega)⟩
   generalize (List.range j).foldl fI S=Sj at ED hjW hjP hjG Gp ⊢
   refine K.conv (fun w hw=>hw.pick (A:=ll bt bw Sj) bo) ?_
   refine K.cx (fun _ h=>fA h) ?_
   rintro⟨⟨us',vs',os',mT',mO'⟩,Rb⟩
   dsimp only
   refine jI ?_
   refine A6 ?_
   refine tL ?_
   refine rD ?_
   refine K.bz rfl (fun h5=>?_) (fun h5=>?_)
   ·refine acQ ?_
    refine HU ?_
    refine ji ?_
    refine KO.ce (cp:=[]) rfl rfl rfl call26 rfl (lh w0 _ bw ⟨hv,dv,wv,ps⟩ S.W j q Kv hq) ?_;rintro v' L' ⟨rfl,rfl⟩
    refine ky ?_
    refine Jo ?_
    refine A2 ?_
    refine KO.on rfl rfl rfl ?_;refine KO.ce (cp:=[]) rfl rfl rfl call76 rfl (KE.GL (φ:=fun u=>u=.bool z.1.down) hq hz bo (fun L=>KE.perm (fun w hw=>hw.split) (KE.pA (Ks w0 _ _ q.1 q.2 z.1 .head) Y17))) ?_;rintro v' L' ⟨rfl,rfl⟩
    refine Hc ?_
    refine K.cond rfl (fun h6=>?_) (fun h6=>?_)
    ·have c8:fI Sj j=gI Sj j:=by unfold fI;rw[hjW,ezH,if_pos h6]
     refine ji ?_
     refine KO.cl (cp:=[]) rfl rfl rfl call75 rfl (KC.qv bo (BT w0 _ bt bw j Sj ae hjP hjG)) ?_;rintro v' L' ⟨rfl,rfl⟩
     refine VB ?_
     refine He ?_
     refine KQ.round (j+1) ae ae ⟨rfl,rfl,rfl,trivial⟩ (fun w' aX=>?_)
     rw[Gp,c8]
     exact aX.all Y7
    ·have c8:fI Sj j=Sj:=by unfold fI;rw[hjW,ezH,if_neg (by simp[h6])]
     refine JB ?_
     refine KQ.round (j+1) ae ae ⟨rfl,rfl,rfl,trivial⟩ (fun w' aX=>?_)
     rw[Gp,c8]
     exact aX.all Y7
   ·exfalso
    rw[ED]at h5
    omega
  ·obtain rfl:j=S.n:=by omega
   have EF:ll bt bw (gS S)=ll bt bw ((List.range S.n).foldl fI S):=rfl
   rw[EF,show(gS S).W=calm 1 S.W from rfl]
   generalize (List.range S.n).foldl fI S=Sj at ED ⊢
   refine K.conv (fun w hw=>hw.pick (A:=ll bt bw Sj) bo) ?_
   refine K.cx (fun _ h=>fA h) ?_
   rintro⟨⟨us',vs',os',mT',mO'⟩,Rb⟩
   dsimp only
   refine jI ?_
   refine A6 ?_
   refine tL ?_
   refine rD ?_
   refine K.bz rfl (fun h5=>?_) (fun h5=>?_)
   ·exfalso
    rw[ED]at h5
    omega
   refine acQ ?_
   refine JI ?_
   refine ZB ?_
   refine Z8 ?_
   refine KO.cl (cp:=[]) rfl rfl rfl call25 rfl (KC.qv bZ (C8 w0 _ bw c kb 1 hd S.W (.inl hN) hT hM hS.B ae ai ae)) ?_;rintro v' L' ⟨rfl,rfl⟩
   refine BB ?_
   refine KQ.j9 rfl (fun w' aX=>⟨_,_,rfl,⟨rfl,rfl⟩,?_⟩)
   exact aX.all Y5
 ·rw[if_neg qj,if_neg rX,if_neg sF,if_neg IK,if_neg SR,if_neg UY,if_neg Wy,if_neg Ze,if_neg hw8,if_neg hw9,if_neg Wz]
  refine Qz ?_
  refine KQ.j9 rfl (fun w' aX=>⟨_,_,rfl,⟨rfl,rfl⟩,?_⟩)
  exact l4 (V:=⟨hv,dv,wv,ps⟩) (TV:=⟨us,vs,os,mT,mO⟩) Kv e8 e9 ⟨h1,h2,h3⟩ (aX.all Y5)
def JO (w0:World):Prop:= ∀(L:List HP) (v:Value) (xs:List Ms),xs.length<1000000000->(∀m∈xs,0<=m.id/\m.id<=1099511627776)->
 KC prog 125 #[v,.func (.func 126) #[] #[]] w0 (SL 44 5 du v xs::L) (fun u M=>u=.tuple #[]/\∃ys:List Ms,ys.Perm xs/\(ys.Pairwise fun a b=>a.id<=b.id)/\M=SL 44 5 du v ys::L)
theorem VH(w0:World)(L:List HP)(bw c kb:Nat)(hd:Bf)(W:Wo)(hB:c6 c kb W)(hc:c<=4000)(OQ:JO w0):
 KC prog 48 #[bA bw] w0 (jJ bw hd W::L) (fun u M=> ∃out:List Ms,out.Perm (L2 W)/\(out.Pairwise fun a b=>a.id<=b.id)/\M=SL 44 5 du u out::jJ bw hd W::L):=by
 have gO:=hB.n1
 refine KC.mk (n:=97) func48 rfl ntmps48 aj ?_
 refine qq ?_
 refine K.cx (fun _ h=>dM h) ?_
 rintro⟨V,hV,e8,e9⟩
 dsimp only
 obtain⟨hv,dv,wv,ps⟩:=V
 dsimp only at hV e8 e9 ⊢
 refine K.fact (fun w hw=>aY (hw.pick (A:=Kh hv (ps.map (·.1))) bo)) ?_
 rintro⟨a1,c1,rfl,rb⟩
 obtain⟨g1,rfl⟩:=rb nI
 have nL:(ps.map (·.1)).length=W.hs.length:=by rw[bj,hV]
 rw[nL]at e8 ⊢
 clear rb
 refine dR ?_
 refine mB ?_
 refine mS ?_
 refine Ul ?_
 refine Up ?_
 refine ox ?_
 have Zk:∀k,k<W.hs.length->(jY (W.H k)).length<=302*79600:=fun k hk=>by
  obtain⟨x,hx,e1,e2⟩:=fS hk
  have h1:=IX (Kt (hB.hs k x hx) hc)
  have h2:=(hB.hs k x hx).ql
  have h3:=(hB.hs k x hx).B.used
  rw[e1]
  exact Nat.le_trans h1 (Nat.mul_le_mul_right _ ae)
 have hlw:∀k,k<W.hs.length->∀j,((List.range j).flatMap (iu W k)).length<=j *80000:=fun k hk j=>by
  induction j with
  |zero=>simp
  |succ j ih=>
   have :=IA hB hc hk j
   rw[List.range_succ,List.flatMap_append,aP,Nat.succ_mul]
   simp only[aR,List.flatMap_nil,List.append_nil]
   omega
 have hlK:∀k,k<=W.hs.length->((List.range k).flatMap (wB W)).length<=k *30000000:=fun k=>by
  induction k with
  |zero=>simp
  |succ k ih=>
   intro hk
   have h1:=ih ae
   have h2:=Zk k ae
   have h3:=hlw k ae 4
   rw[List.range_succ,List.flatMap_append,aP,Nat.succ_mul]
   simp only[aR,List.flatMap_nil,List.append_nil]
   have h4:(wB W k).length=(jY (W.H k)).length+((List.range 4).flatMap (iu W k)).length:=by unfold wB;rw[aP]
   omega
 refine K.loop (fun q:Nat×Value×List Ms=>[(0,bA bw),(3,q.2.1),(20,.slice (some ⟨g1,0,none⟩) W.hs.length c1),(21,.int .i64 (W.hs.length:Nat)),(22,.int .i64 (q.1:Nat))]) (fun q=>SL 44 5 du q.2.1 q.2.2::oi bw ⟨.slice (some ⟨g1,0,none⟩) W.hs.length c1,dv,wv,ps⟩ W L) (fun q=>q.1<=W.hs.length/\q.2.2.Perm ((List.range q.1).flatMap (wB W))) (fun q=>W.hs.length-q.1) (0,.slice none 0 0,[]) ⟨aV _,by simp⟩ ⟨rfl,rfl,rfl,rfl,rfl,trivial⟩ (fun _ h=>cM (E:=44) (sz:=5) (cf:=du) h) ?_
 rintro⟨k,v3,o3⟩ ⟨hk,ho⟩
 dsimp only at hk ho ⊢
 refine iJ ?_
 refine K.bz rfl (fun h3=>?_) (fun h3=>?_)
 ·have np:k<W.hs.length:=by omega
  obtain⟨x,hx⟩:∃e,W.hs[k]? =some e:=⟨_,ao np⟩
  obtain⟨p,hp⟩:∃e,ps[k]? =some e:=⟨_,ao ae⟩
  obtain⟨eH,eD⟩:=zg hx
  have vI:=hB.hs k x hx
  have h_:=Kt vI hc
  have hu:=vI.B.used
  have F7:x.1.aI.length<=1000:=by have :=vI.ql;omega
  have kY:(ps.map (·.1))[k]? =some p.1:=by rw[aG,hp];rfl
  have kt:W.hs.set k x=W.hs:=List.ig hx
  have Ki:=hlK k hk
  have afn:=ho.length_eq
  have Kj:=Zk k np
  rw[eH]at Kj
  refine xy ?_
  refine acH ?_
  refine Z7 ?_
  refine mS ?_
  refine Z1 ?_
  refine KO.cl (cp:=[]) rfl rfl rfl call20 rfl (KC.Py (γ:=Value×List ak) (φ:=fun c u=>u=c.1/\c.2.Perm (x.1.aI.map (·.1))) (A:=fun c=>SL 44 5 du c.1 ((fK c.2).flatMap (jo x.1))) (y:=x) hp hx bo (fun L=>(KC.perm (fun w hw=>hw.split) (KC.pA (O7 w0 (fR p.2 x.2::L) p.1 p.2 79600 x.1 h_ ae F7) (by rintro v M ⟨ns,h1,rfl⟩;exact⟨_,⟨(v,ns),⟨rfl,h1⟩,rfl⟩,fun w hw=>((hw.gk (A:=dL p.1 p.2 x.1) (B:=fR p.2 x.2) (.tail .head) (.tail .head)).join).gJ⟩))))) ?_;rintro v' L' ⟨⟨vk,ns⟩,⟨rfl,Na⟩,rfl⟩;rw[kt];dsimp only at Na ⊢;have Kk:=L5 h_ Na;have uX:=Kk.length_eq
  refine KO.T3 (cf:=du) (z:=Value.agg #[.int .i64 0,.int .i64 0,.string ⟨#[]⟩,.string ⟨#[]⟩,.int .i64 0]) (sz:=5) (dP:=56) (xs:=o3) (ys:=(fK ns).flatMap (jo x.1)) rfl rfl rfl bo (fun w hw=>Src.of (E:=44) (sz:=5) (cf:=du) .head w hw) underlying49 bH rfl (fun _=>rfl) (fun _=>rfl) ae ai rfl ?_;intro v30
  refine mS ?_
  refine K8 ?_
  refine K.loop (fun q:Nat×Value×List Ms=>[(0,bA bw),(3,q.2.1),(4,.int .i64 (k:Nat)),(5,bA p.1),(20,.slice (some ⟨g1,0,none⟩) W.hs.length c1),(21,.int .i64 (W.hs.length:Nat)),(22,.int .i64 (k:Nat)),(31,.int .i64 (q.1:Nat))]) (fun q=>SL 44 5 du q.2.1 q.2.2::oi bw ⟨.slice (some ⟨g1,0,none⟩) W.hs.length c1,dv,wv,ps⟩ W L) (fun q=>q.1<=4/\q.2.2.Perm ((List.range k).flatMap (wB W)++jY x.1++(List.range q.1).flatMap (iu W k))) (fun q=>4-q.1) (0,v30,o3++(fK ns).flatMap (jo x.1)) ⟨aV _,by simpa using ho.append Kk⟩ ⟨rfl,rfl,rfl,rfl,rfl,rfl,rfl,rfl,trivial⟩ (fun _ h=>h.all Y5) ?_
  clear v30
  rintro⟨j,v6,o6⟩ ⟨hj,Zi⟩
  dsimp only at hj Zi ⊢
  have hlj:=hlw k np j
  have hl6:=Zi.length_eq
  rw[aP,aP]at hl6
  have c8:(List.range (j+1)).flatMap (iu W k)=(List.range j).flatMap (iu W k)++iu W k j:=by rw[List.range_succ,List.flatMap_append];simp
  refine iJ ?_
  refine K.bz rfl (fun h7=>?_) (fun h7=>?_)
  ·have Kn:j<4:=by omega
   refine xy ?_
   refine mS ?_
   refine Z1 ?_
   refine KO.cl (cp:=[]) rfl rfl rfl call27 rfl (KC.Py (γ:=Value) (φ:=fun c u=>u=.tuple #[c,cS 70 (ug x.1 (j:Int))]) (A:=fun c=>SL 44 5 du c (fJ x.1 (j:Int))) (y:=x) hp hx bo (fun L=>(KC.perm (fun w hw=>hw.split) (KC.pA (Ag w0 (fR p.2 x.2::L) p.1 p.2 79600 x.1 (j:Int) h_ ae) Y2)))) ?_;rintro v' L' ⟨vw,rfl,rfl⟩;rw[kt];refine KO.fact (fun _ hs=>aY hs) ?_;rintro⟨aw,cw,rfl,haw⟩
   refine ky ?_
   refine Us ?_
   cases hr:cj x.1 (j:Int)with
   |false=>
    have hlz:iu W k j=[]:=by unfold iu;rw[eH,hr];rfl
    refine K.cV rfl (by unfold ug;rw[hr];rfl) ?_
    refine ZB ?_
    refine Rp ?_
    refine KQ.round (j+1,v6,o6) ⟨by dsimp only;omega,?_⟩ iK ⟨rfl,rfl,rfl,rfl,rfl,rfl,rfl,rfl,trivial⟩ (fun _ h=>h.all Y5)
    dsimp only
    rw[c8,hlz,List.append_nil]
    exact Zi
   |true=>
    refine K.dp rfl (by unfold ug;rw[hr];rfl) ?_
    refine Z6 ?_
    refine ji ?_
    refine KO.cl (cp:=[]) rfl rfl rfl call110 rfl (KC.Py (γ:=Value) (φ:=fun c u=>u=.tuple #[.int .i64 (XG x.1 (j:Int)),c,cS 70 (dbE x.1 (j:Int))]) (A:=fun c=>SL 3 1 kL c (AL x.1 (j:Int))) (y:=x) hp hx bo (fun L=>(KC.perm (fun w hw=>hw.split) (KC.pA (Pc w0 (fR p.2 x.2::L) p.1 p.2 79600 x.1 (j:Int) h_) Y2)))) ?_;rintro v' L' ⟨vd,rfl,rfl⟩;rw[kt];refine KO.fact (fun _ hs=>aY hs) ?_;rintro⟨ad,cd,rfl,had⟩
    refine G3 ?_
    refine tK ?_
    refine nQ ?_
    refine mB ?_
    refine lK ?_
    have tU:AL x.1 (j:Int)=bm x.1 j:=by unfold AL;rw[if_pos hr,aA]
    have FZ:fJ x.1 (j:Int)=aW (x.1.dy j):=by unfold fJ;rw[if_pos hr,aA]
    have hwn:(fJ x.1 (j:Int)).length<=80000:=by rw[FZ];exact Nat.le_trans (vZ _) (Nat.le_trans (h_.w (j:=j) Kn).len ae)
    have sq:(AL x.1 (j:Int)).length<1000000:=by
     rw[tU]
     unfold bm
     rw[aq]
     cases hq:x.1.batch[j]? with
     |none=>decide
     |some l=>exact Nat.lt_of_le_of_lt (h_.ext.Vu l (ax hq)) ai
    refine K.cut (fun _:Unit=>[(0,bA bw),(3,v6),(4,.int .i64 (k:Nat)),(6,.int .i64 (j:Nat)),(5,bA p.1),(7,.slice aw (fJ x.1 (j:Int)).length cw),(9,.int .i64 (XG x.1 (j:Int))),(10,.slice ad (AL x.1 (j:Int)).length cd),(20,.slice (some ⟨g1,0,none⟩) W.hs.length c1),(21,.int .i64 (W.hs.length:Nat)),(22,.int .i64 (k:Nat)),(31,.int .i64 (j:Nat)),(12,.bool false),(56,.bool (decide (bm x.1 j≠[]/\W.is (j:Int)=true)))]) (fun _=>SL 3 1 kL (.slice ad (AL x.1 (j:Int)).length cd) (AL x.1 (j:Int))::SL 44 5 du (.slice aw (fJ x.1 (j:Int)).length cw) (fJ x.1 (j:Int))::SL 44 5 du v6 o6::oi bw ⟨.slice (some ⟨g1,0,none⟩) W.hs.length c1,dv,wv,ps⟩ W L) (fun _=>True) ?_ ?_
    ·by_cases sr:bm x.1 j=[]
     ·have hz:(AL x.1 (j:Int)).length=0:=by rw[tU,sr];rfl
      rw[show decide (bm x.1 j≠[]/\W.is (j:Int)=true)=false by simp[sr]]
      refine Z8 ?_
      refine rG ?_
      refine vC ?_
      refine JC ?_
      refine KO.nil ?_
      exact KQ.tf () trivial ⟨rfl,rfl,rfl,rfl,rfl,rfl,rfl,rfl,rfl,rfl,rfl,rfl,rfl,rfl,trivial⟩ (fun _ h=>h.all Y3)
     ·have hz:0<(AL x.1 (j:Int)).length:=by rw[tU];exact List.length_pos_iff.2 sr
      rw[show decide (bm x.1 j≠[]/\W.is (j:Int)=true)=W.is (j:Int)by simp[sr]]
      refine Z8 ?_
      refine rG ?_
      refine vC ?_
      refine tN ?_
      refine Z1 ?_
      refine KO.on rfl rfl ga ?_;refine KO.ce (cp:=[]) rfl rfl rfl call78 rfl ((ia w0 _ L bw hd W (j:Int) .head).only (fun w h=>dH (W:=W) ⟨.slice (some ⟨g1,0,none⟩) W.hs.length c1,dv,wv,ps⟩ hV (h.all (M:=oi bw ⟨.slice (some ⟨g1,0,none⟩) W.hs.length c1,dv,wv,ps⟩ W L) Y5))) ?_;rintro v' L' ⟨rfl,rfl⟩
      refine sO ?_
      refine KO.nil ?_
      exact KQ.tf () trivial ⟨rfl,rfl,rfl,rfl,rfl,rfl,rfl,rfl,rfl,rfl,rfl,rfl,rfl,rfl,trivial⟩ (fun _ h=>h.all Y3)
    rintro - -
    refine K.cut (fun _:Unit=>[(0,bA bw),(3,v6),(4,.int .i64 (k:Nat)),(6,.int .i64 (j:Nat)),(5,bA p.1),(7,.slice aw (fJ x.1 (j:Int)).length cw),(9,.int .i64 (XG x.1 (j:Int))),(10,.slice ad (AL x.1 (j:Int)).length cd),(20,.slice (some ⟨g1,0,none⟩) W.hs.length c1),(21,.int .i64 (W.hs.length:Nat)),(22,.int .i64 (k:Nat)),(31,.int .i64 (j:Nat)),(12,.bool (rp W k j))]) (fun _=>SL 3 1 kL (.slice ad (AL x.1 (j:Int)).length cd) (AL x.1 (j:Int))::SL 44 5 du (.slice aw (fJ x.1 (j:Int)).length cw) (fJ x.1 (j:Int))::SL 44 5 du v6 o6::oi bw ⟨.slice (some ⟨g1,0,none⟩) W.hs.length c1,dv,wv,ps⟩ W L) (fun _=>True) ?_ ?_
    ·by_cases hb:bm x.1 j≠[]/\W.is (j:Int)=true
     ·refine K.cV rfl (by exact decide_eq_true hb) ?_
      obtain⟨sr,hbw⟩:=hb
      have ED:j<W.hs.length:=by have :=pw hbw;omega
      obtain⟨y,hy⟩:∃e,W.hs[j]? =some e:=⟨_,ao ED⟩
      obtain⟨p2,ku⟩:∃e,ps[j]? =some e:=⟨_,ao ae⟩
      obtain⟨eY,-⟩:=zg hy
      have Gb:(ps.map (·.1))[j]? =some p2.1:=by rw[aG,ku];rfl
      have rh:rp W k j=decide (XG x.1 (j:Int)<=GV y.1 (k:Int)):=by
       have hz:¬(bm x.1 j).length=0:=by rw[List.length_eq_zero_iff];exact sr
       unfold rp XG GV
       rw[eH,eY,if_pos hr,aA,aA,if_neg hz]
       simp[sr,hbw,hr]
      rw[rh]
      refine jI ?_
      refine ZF ?_
      refine Z1 ?_
      refine KO.eX (i:=j) rfl rfl runUnderlying160 sizeOf29 rfl ae rfl ?_
      refine KO.iw (i:=j) (sz:=1) (cf:=qM) (e:=p2.1) rfl rfl isAgg29 bo (fun _=>rfl) Gb aj aQ rfl ?_
      refine Z1 ?_
      refine KO.ce (cp:=[]) rfl rfl rfl call111 rfl (KE.GL (φ:=fun u=>u=.tuple #[.int .i64 (GV y.1 (k:Int)),cS 70 (X1 y.1 (k:Int))]) ku hy bo (fun L=>KE.perm (fun w hw=>hw.split) (KE.pA (I4 w0 _ _ p2.1 p2.2 y.1 (k:Int) .head) Y17))) ?_;rintro v' L' ⟨rfl,rfl⟩
      refine Qc ?_
      refine sx ?_
      refine ji ?_
      refine vO ?_
      refine xF ?_
      exact KQ.tf () trivial ⟨rfl,rfl,rfl,rfl,rfl,rfl,rfl,rfl,rfl,rfl,rfl,rfl,rfl,trivial⟩ (fun _ h=>h.all Y3)
     ·have rh:rp W k j=false:=by unfold rp;rw[eH];simp only[decide_eq_false_iff_not];exact fun h=>hb ⟨h.1,h.2.1⟩
      rw[rh]
      refine K.dp rfl (by exact decide_eq_false hb) ?_
      refine Ek ?_
      exact KQ.tf () trivial ⟨rfl,rfl,rfl,rfl,rfl,rfl,rfl,rfl,rfl,rfl,rfl,rfl,rfl,trivial⟩ (fun _ h=>h)
    rintro - -
    refine qq ?_
    have hlW:iu W k j=(fJ x.1 (j:Int)).filter (fun m=> !rp W k j|| !decide (m.id∈AL x.1 (j:Int))):=by unfold iu;rw[eH,if_pos hr,FZ,tU]
    generalize rp W k j=cm at hlW ⊢
    have akp:=hlw k np j
    refine Z8 ?_
    refine BI ?_
    refine K.loop (fun q:Nat×Value×List Ms=>[(0,bA bw),(3,q.2.1),(4,.int .i64 (k:Nat)),(5,bA p.1),(10,.slice ad (AL x.1 (j:Int)).length cd),(12,.bool cm),(20,.slice (some ⟨g1,0,none⟩) W.hs.length c1),(21,.int .i64 (W.hs.length:Nat)),(22,.int .i64 (k:Nat)),(31,.int .i64 (j:Nat)),(72,.slice aw (fJ x.1 (j:Int)).length cw),(73,.int .i64 ((fJ x.1 (j:Int)).length:Nat)),(74,.int .i64 (q.1:Nat))]) (fun q=>SL 3 1 kL (.slice ad (AL x.1 (j:Int)).length cd) (AL x.1 (j:Int))::SL 44 5 du (.slice aw (fJ x.1 (j:Int)).length cw) (fJ x.1 (j:Int))::SL 44 5 du q.2.1 q.2.2::oi bw ⟨.slice (some ⟨g1,0,none⟩) W.hs.length c1,dv,wv,ps⟩ W L) (fun q=>q.1<=(fJ x.1 (j:Int)).length/\q.2.2.Perm (((List.range k).flatMap (wB W)++jY x.1++(List.range j).flatMap (iu W k))++((fJ x.1 (j:Int)).take q.1).filter (fun m=> !cm|| !decide (m.id∈AL x.1 (j:Int))))) (fun q=>(fJ x.1 (j:Int)).length-q.1) (0,v6,o6) ⟨aV _,by simpa using Zi⟩ ⟨rfl,rfl,rfl,rfl,rfl,rfl,rfl,rfl,rfl,rfl,rfl,rfl,rfl,trivial⟩ (fun _ h=>h.all nH) ?_
    clear Zi hl6
    rintro⟨i,v9,o9⟩ ⟨hi,WT⟩
    dsimp only at hi WT ⊢
    have hl9:=WT.length_eq
    rw[aP,aP,aP]at hl9
    have hlf:=List.length_filter_le (fun m:Ms=> !cm|| !decide (m.id∈AL x.1 (j:Int))) ((fJ x.1 (j:Int)).take i)
    rw[bL]at hlf
    refine iJ ?_
    refine K.bz rfl (fun h17=>?_) (fun h17=>?_)
    ·have qm:i<(fJ x.1 (j:Int)).length:=by omega
     obtain⟨m,hm⟩:∃e,(fJ x.1 (j:Int))[i]? =some e:=⟨_,ao qm⟩
     obtain⟨gw,rfl⟩:=haw ae
     have hts:=bJ hm
     obtain⟨mi,mp,mb,mq,mh⟩:=m
     refine Yw ?_
     refine KO.wC (i:=i) (sz:=5) (cf:=du) (e:=⟨mi,mp,mb,mq,mh⟩) rfl rfl isAgg44 sizeOf44 bo (fun _=>rfl) hm rfl ?_
     refine KO.alloc rfl zeroValue44 aQ rfl ?_;intro b16
     refine yB ?_
     cases cm with
     |false=>
      refine Qo ?_
      refine mC ?_
      refine Vz ?_
      refine xE ?_
      refine Z8 ?_
      refine Eo ?_
      refine KO.lY (z:=(Value.agg #[.int .i64 0,.int .i64 0,.string ⟨#[]⟩,.string ⟨#[]⟩,.int .i64 0])) (sz:=5) (dP:=56) rfl rfl underlying49 bH aQ aQ ai ai rfl ?_;intro b89
      refine KO.app (cf:=du) (z:=Value.agg #[.int .i64 0,.int .i64 0,.string ⟨#[]⟩,.string ⟨#[]⟩,.int .i64 0]) (sz:=5) (dP:=56) (xs:=o9) rfl rfl rfl bo .head underlying49 bH aQ ⟨mi,mp,mb,mq,mh⟩ rfl rfl rfl ae ai rfl ?_;intro ZS
      refine vz ?_
      refine KQ.round (i+1,ZS,o9++[⟨mi,mp,mb,mq,mh⟩]) ⟨by dsimp only;omega,?_⟩ iK ⟨rfl,rfl,rfl,rfl,rfl,rfl,rfl,rfl,rfl,rfl,rfl,rfl,rfl,trivial⟩ (fun _ h=>h.all Y5)
      dsimp only
      rw[hts,bB,bE,if_pos (by rfl),List.filter_nil,<-aH]
      exact WT.append_right _
     |true=>
      refine A8 ?_
      refine Qm ?_
      refine Ju ?_
      refine KO.on rfl rfl rfl ?_;refine KO.ce (cp:=[]) rfl rfl rfl call92 rfl (PN w0 _ (.slice ad (AL x.1 (j:Int)).length cd) (AL x.1 (j:Int)) mi (fun w hw=>x9.FA (fun _=>rfl) bo hw) sq) ?_;rintro v' L' ⟨rfl,rfl⟩
      refine yD ?_
      refine Hc ?_
      by_cases Gg:mi∈AL x.1 (j:Int)
      ·refine K.dp rfl (by simp[Gg]) ?_
       refine qD ?_
       refine KQ.round (i+1,v9,o9) ⟨by dsimp only;omega,?_⟩ iK ⟨rfl,rfl,rfl,rfl,rfl,rfl,rfl,rfl,rfl,rfl,rfl,rfl,rfl,trivial⟩ (fun _ h=>h.all Y5)
       dsimp only
       rw[hts,bB,bE,if_neg (by simp[Gg]),List.filter_nil,List.append_nil]
       exact WT
      ·refine K.cV rfl (by simp[Gg]) ?_
       refine Z8 ?_
       refine Eo ?_
       refine KO.lY (z:=(Value.agg #[.int .i64 0,.int .i64 0,.string ⟨#[]⟩,.string ⟨#[]⟩,.int .i64 0])) (sz:=5) (dP:=56) rfl rfl underlying49 bH aQ aQ ai ai rfl ?_;intro b89
       refine KO.app (cf:=du) (z:=Value.agg #[.int .i64 0,.int .i64 0,.string ⟨#[]⟩,.string ⟨#[]⟩,.int .i64 0]) (sz:=5) (dP:=56) (xs:=o9) rfl rfl rfl bo .head underlying49 bH aQ ⟨mi,mp,mb,mq,mh⟩ rfl rfl rfl ae ai rfl ?_;intro ZS
       refine vz ?_
       refine KQ.round (i+1,ZS,o9++[⟨mi,mp,mb,mq,mh⟩]) ⟨by dsimp only;omega,?_⟩ iK ⟨rfl,rfl,rfl,rfl,rfl,rfl,rfl,rfl,rfl,rfl,rfl,rfl,rfl,trivial⟩ (fun _ h=>h.all Y5)
       dsimp only
       rw[hts,bB,bE,if_pos (by simp[Gg]),List.filter_nil,<-aH]
       exact WT.append_right _
    ·have qm:i=(fJ x.1 (j:Int)).length:=by omega
     subst qm
     rw[List.take_length,<-hlW]at WT
     refine Z73 ?_
     refine Rp ?_
     refine KQ.round (j+1,v9,o9) ⟨by dsimp only;omega,?_⟩ iK ⟨rfl,rfl,rfl,rfl,rfl,rfl,rfl,rfl,trivial⟩ (fun _ h=>h.all Y5)
     dsimp only
     rw[c8,<-aH]
     exact WT
  ·have Kn:j=4:=by omega
   subst Kn
   refine Z73 ?_
   refine Rp ?_
   refine KQ.round (k+1,v6,o6) ⟨by dsimp only;omega,?_⟩ iK ⟨rfl,rfl,rfl,rfl,rfl,trivial⟩ (fun _ h=>h.all nH)
   dsimp only
   rw[List.range_succ,List.flatMap_append]
   simp only[aR,List.flatMap_nil,List.append_nil]
   rw[show wB W k=jY x.1++(List.range 4).flatMap (iu W k)by unfold wB;rw[eH],<-aH]
   exact Zi
 ·have np:k=W.hs.length:=by omega
  subst np
  have Ki:=hlK _ (aD W.hs.length)
  have afn:=ho.length_eq
  refine xr ?_
  refine KO.cl (cp:=[]) rfl rfl rfl call125 rfl (KC.qv bZ (OQ _ v3 o3 ae (fun m hm=>Oy hB hc m (ho.mem_iff.1 hm)))) ?_;rintro v' L' ⟨rfl,ys,UW,Bh,rfl⟩
  refine G4 ?_
  refine jH ?_
  refine KQ.bG rfl rfl (fun w' aX=>⟨_,_,rfl,⟨ys,UW.trans ho,Bh,rfl⟩,?_⟩)
  exact(dH (W:=W) ⟨.slice (some ⟨g1,0,none⟩) W.hs.length c1,dv,wv,ps⟩ hV (aX.all (M:=oi bw ⟨.slice (some ⟨g1,0,none⟩) W.hs.length c1,dv,wv,ps⟩ W (SL 44 5 du v3 ys::L)) Y3)).gJ
theorem Lq{l:List Ms}(h:l.Pairwise fun a b=>a.id<=b.id)(hn:(l.map (·.id)).Nodup):l.Pairwise fun a b=>a.id<b.id:=by
 rw[List.nodup_iff_pairwise_ne,List.pairwise_map]at hn
 exact(h.and hn).imp fun⟨a,b⟩=>by omega
theorem RL(w0:World)(L:List HP)(bt bw c kb:Nat)(hd:Bf)(S:nS)(hS:nD c kb S)(hc:c<=120)(OQ:JO w0):
 KC prog 24 #[bA bt] w0 (ll bt bw S::jJ bw hd S.W::L) (fun v M=>v=.bool true/\M=ll bt bw S::jJ bw hd S.W::L):=by
 have O5:=hS.Kc
 obtain⟨np,W6⟩:=hS.keys
 refine KC.mk (n:=67) func24 rfl ntmps24 aj ?_
 refine qq ?_
 refine K.cx (fun _ h=>fA h) ?_
 rintro⟨⟨us,vs,os,mT,mO⟩,hV⟩
 dsimp only
 refine dR ?_
 refine xC ?_
 refine Uq ?_
 refine KO.ld rfl rfl isAgg55 bZ aQ rfl ?_
 refine KO.cl (cp:=[]) rfl rfl rfl call48 rfl (KC.qv bo (VH w0 _ bw c kb hd S.W hS.B ae OQ)) ?_;rintro v' L' ⟨out,hp,aeZ,rfl⟩
 refine lK ?_
 have hT:out.Perm (S.T.map (·.2)):=hp.trans O5
 have nM:(out.map (·.id)).Nodup:=by rw[(hT.map _).nodup_iff,<-W6];exact np
 have dS:=Lq aeZ nM
 have hlen:out.length=S.T.length:=by rw[hT.length_eq,bj]
 have afk:maxLen<=9223372036854775807:=by decide
 refine K.fact (fun _ hs=>aY (hs.pick (A:=SL 44 5 du v' out) bZ)) ?_
 rintro⟨a1,c1,rfl,rb⟩
 refine K.fact (p:=out.length<=9223372036854775807) (fun _ hs=>?_) ?_
 ·rcases Nat.eq_zero_or_pos out.length with h0|h0
  ·omega
  ·obtain⟨g,rfl⟩:=rb h0
   obtain⟨-,h2,h3,-⟩:=gF (hs.pick (A:=SL 44 5 du (.slice (some ⟨g,0,none⟩) out.length c1) out) bZ)
   omega
 intro hal
 refine Z8 ?_
 refine Bc ?_
 refine mA ?_
 refine Zy ?_
 refine KO.aeF rfl rfl underlying56 bo rfl ?_;rw[show(Bp S.T).length=out.length by rw[RN,hlen]]
 refine xA ?_
 refine Hf ?_
 refine xB ?_
 refine Z7 ?_
 refine K8 ?_
 refine K.loop (fun k:Nat=>[(0,bA bt),(3,.slice a1 out.length c1),(4,.int .i64 (k:Nat))]) (fun k=>SL 44 5 du (.slice a1 out.length c1) out::vH bt bw ⟨us,vs,os,mT,mO⟩ S (jJ bw hd S.W::L)) (fun k=>k<=out.length) (fun k=>out.length-k) 0 (aV _) ⟨rfl,rfl,rfl,trivial⟩ (fun w' aX=>aX.all Y7) ?_
 intro k hk
 refine sy ?_
 refine Bc ?_
 refine rD ?_
 refine K.bz rfl (fun h5=>?_) (fun h5=>?_)
 ·obtain⟨m,hm⟩:∃e,out[k]? =some e:=⟨out[k],ao ae⟩
  obtain⟨g1,rfl⟩:=rb ae
  have hf:=hS.find (m:=m) (hT.mem_iff.1 (ax hm))
  have DR:eI (Bp S.T) m.id=some (.agg (du m).toArray):=by rw[Dd,hf];rfl
  have IV:out[k]? =some ⟨m.id,m.pri,m.body,m.queue,m.cq⟩:=hm
  refine HU ?_
  refine K.draw [.pure,.pure,.pure,.read,.pure,.pure,.pure,.pure,.read,.read,.pure,.pure,.pure,.dm,.write,.pure] [0,1,2,3,4,5,6,7,8,9,10,11,12,13,14,15] bH bH ?_
  refine mA ?_
  refine Zy ?_
  refine nB ?_
  refine KO.eX (i:=k) rfl rfl runUnderlying49 sizeOf44 rfl ae rfl ?_
  refine Ye ?_
  refine KO.iw (i:=k) (sz:=5) (cf:=du) (e:=m) rfl rfl isAgg3 bZ (fun _=>rfl) hm aj aQ rfl ?_
  refine KO.Ci jX m.id rfl rfl rfl underlying56 underlying3 zeroValue44 bo rfl ?_;rw[DR]
  refine G3 ?_
  refine KO.alloc rfl zeroValue44 aQ rfl ?_;intro b5
  refine K7 ?_
  refine lK ?_
  have hbk:∀j:Nat,j<k->∃m':Ms,out[j]? =some m'/\m'.id<m.id:=fun j hj=>by
   refine⟨_,ao (show j<out.length by omega),?_⟩
   have :=List.pairwise_iff_getElem.1 dS j k ae ae hj
   rw[(au.1 hm).2]at this
   exact this
  rcases Nat.eq_zero_or_pos k with h0|h0
  ·subst h0
   refine acP ?_
   refine qp ?_
   refine Z1 ?_
   refine KO.on rfl rfl rfl ?_;refine KO.uS (cs:=du m) rfl rfl isAgg44 sizeOf44 bZ aQ rfl ?_
   refine rA ?_
   refine A2 ?_
   refine KO.on rfl rfl rfl ?_;refine KO.eX (i:=0) rfl rfl runUnderlying49 sizeOf44 rfl ae rfl ?_
   refine KO.on rfl rfl rfl ?_;refine KO.wC (i:=0) (sz:=5) (cf:=du) rfl rfl isAgg44 sizeOf44 bo (fun _=>rfl) IV rfl ?_
   refine KO.on rfl rfl rfl ?_;refine KO.neA (b:=decide (m=m)) rfl rfl bH (Om m m) rfl ?_
   refine rB ?_
   refine Z1 ?_
   refine G5 ?_
   refine Z1 ?_
   refine G5 ?_
   refine vC ?_
   refine G5 ?_
   refine Em ?_
   refine EJ ?_
   refine EJ ?_
   refine EJ ?_
   refine EJ ?_
   refine G5 ?_
   refine KO.nd rfl ?_ rfl rfl ?_
   (focus rfl)
   refine KO.nd rfl Y80 rfl rfl ?_
   refine Hf ?_
   refine JB ?_
   refine KQ.round 1 ae ae ⟨rfl,rfl,rfl,trivial⟩ (fun w' aX=>aX.all Y5)
  ·obtain⟨m',tt,Tb⟩:=hbk (k-1) ae
   have k9:((k:Nat):Int)-1=((k-1:Nat):Int):=by omega
   refine acP ?_
   refine qp ?_
   refine Z1 ?_
   refine KO.on rfl rfl rfl ?_;refine KO.uS (cs:=du m) rfl rfl isAgg44 sizeOf44 bZ aQ rfl ?_
   refine rA ?_
   refine A2 ?_
   refine KO.on rfl rfl rfl ?_;refine KO.eX (i:=k) rfl rfl runUnderlying49 sizeOf44 rfl ae rfl ?_
   refine KO.on rfl rfl rfl ?_;refine KO.wC (i:=k) (sz:=5) (cf:=du) rfl rfl isAgg44 sizeOf44 bo (fun _=>rfl) IV rfl ?_
   refine KO.on rfl rfl rfl ?_;refine KO.neA (b:=decide (m=m)) rfl rfl bH (Om m m) rfl ?_
   refine rB ?_
   refine Z1 ?_
   refine G5 ?_
   refine Z1 ?_
   refine G5 ?_
   refine vC ?_
   refine G5 ?_
   refine tN ?_
   refine A1 ?_
   refine Hd ?_
   refine KO.on rfl rfl ga ?_;refine KO.eX (i:=k-1) rfl rfl runUnderlying49 sizeOf44 k9 ae rfl ?_
   refine lL ?_
   refine Ye ?_
   refine KO.on rfl rfl ga ?_;refine KO.iw (i:=k-1) (sz:=5) (cf:=du) (e:=m') rfl rfl isAgg3 bo (fun _=>rfl) tt aj aQ rfl ?_
   refine lL ?_
   refine A1 ?_
   refine Z1 ?_
   refine KO.on rfl rfl ga ?_;refine KO.eX (i:=k) rfl rfl runUnderlying49 sizeOf44 rfl ae rfl ?_
   refine lL ?_
   refine Ye ?_
   refine KO.on rfl rfl ga ?_;refine KO.iw (i:=k) (sz:=5) (cf:=du) (e:=m) rfl rfl isAgg3 bo (fun _=>rfl) hm aj aQ rfl ?_
   refine lL ?_
   refine vO ?_
   refine G5 ?_
   refine KO.uD rfl ?_ rfl rfl ?_
   (focus(simp only[decide_eq_true_eq,decide_eq_false_iff_not,Bool.not_eq_true,Bool.not_true,Bool.not_false,ne_eq];omega))
   refine KO.nd rfl Y80 rfl rfl ?_
   refine Z2 ?_
   refine K.dp rfl ga ?_
   refine JB ?_
   refine KQ.round (k+1) ae ae ⟨rfl,rfl,rfl,trivial⟩ (fun w' aX=>aX.all Y5)
 ·refine Jy ?_
  refine KQ.bG rfl rfl (fun w' aX=>⟨_,_,rfl,⟨rfl,rfl⟩,dZ ⟨us,vs,os,mT,mO⟩ hV (aX.all Y5)⟩)
end Go.Proofs.YtjhogocabcdjbabGreatDoor
namespace Go.Proofs
open Tryz
open Go.Shelf
def Tryz.Ib:Go.Shelf.Ren:=⟨fun|6=>125|15=>163|14=>208|28=>262|29=>263|20=>299|21=>300|22=>301|23=>302|24=>303|25=>304|26=>305|27=>306|46=>366|47=>355|48=>356|49=>367|50=>368|57=>397|n=>n,fun|22=>49|24=>44|25=>216|3=>3|39=>73|0=>0|53=>227|55=>224|4=>4|46=>337|45=>336|50=>239|5=>5|9=>9|66=>404|70=>407|76=>429|77=>430|n=>n,fun|n=>n⟩
theorem Tryz.NN:Go.Proofs.SlLaysF0.n6 prog Tryz.Ib:={
 mixed:=by kernel_rfl
 f6:=⟨Tryz.f125.name,by decide,func125.trans (congrArg some bH)⟩
 f14:=⟨Tryz.f208.name,by decide,func208.trans (congrArg some bH)⟩
 f15:=func163.trans (congrArg some bH)
 f20:=⟨Tryz.f299.name,by decide,func299.trans (congrArg some bH)⟩
 f21:=⟨Tryz.f300.name,by decide,func300.trans (congrArg some bH)⟩
 f22:=⟨Tryz.f301.name,by decide,func301.trans (congrArg some bH)⟩
 f23:=⟨Tryz.f302.name,by decide,func302.trans (congrArg some bH)⟩
 f24:=⟨Tryz.f303.name,by decide,func303.trans (congrArg some bH)⟩
 f25:=⟨Tryz.f304.name,by decide,func304.trans (congrArg some bH)⟩
 f26:=⟨Tryz.f305.name,by decide,func305.trans (congrArg some bH)⟩
 f27:=⟨Tryz.f306.name,by decide,func306.trans (congrArg some bH)⟩
 f28:=func262.trans (congrArg some bH)
 f29:=func263.trans (congrArg some bH)
 f46:=⟨Tryz.f366.name,by decide,func366.trans (congrArg some bH)⟩
 f47:=func355.trans (congrArg some bH)
 f48:=func356.trans (congrArg some bH)
 f49:=⟨Tryz.f367.name,by decide,func367.trans (congrArg some bH)⟩
 f50:=⟨Tryz.f368.name,by decide,func368.trans (congrArg some bH)⟩
 f57:=⟨Tryz.f397.name,by decide,func397.trans (congrArg some bH)⟩
 t0:=underlying0
 a0:=isAgg0
 z0:=sizeOf0
 v0:=zeroValue0
 t3:=underlying3
 a3:=isAgg3
 z3:=sizeOf3
 v3:=zeroValue3
 t4:=underlying4
 a4:=isAgg4
 z4:=sizeOf4
 v4:=zeroValue4
 t5:=underlying5
 a5:=isAgg5
 z5:=sizeOf5
 v5:=zeroValue5
 t9:=underlying9
 a9:=isAgg9
 z9:=sizeOf9
 v9:=zeroValue9
 t22:=underlying49
 a22:=isAgg49
 z22:=sizeOf49
 v22:=zeroValue49
 t25:=underlying216
 a25:=isAgg216
 z25:=sizeOf216
 v25:=zeroValue216
 t39:=underlying73
 a39:=isAgg73
 z39:=sizeOf73
 v39:=zeroValue73
 t45:=underlying336
 a45:=isAgg336
 z45:=sizeOf336
 v45:=zeroValue336
 t46:=underlying337
 a46:=isAgg337
 z46:=sizeOf337
 v46:=zeroValue337
 t50:=underlying239
 a50:=isAgg239
 z50:=sizeOf239
 v50:=zeroValue239
 t53:=underlying227
 a53:=isAgg227
 z53:=sizeOf227
 v53:=zeroValue227
 t55:=underlying224
 a55:=isAgg224
 z55:=sizeOf224
 v55:=zeroValue224
 t66:=underlying404
 a66:=isAgg404
 z66:=sizeOf404
 v66:=zeroValue404
 t70:=underlying407
 a70:=isAgg407
 z70:=sizeOf407
 v70:=zeroValue407
 t76:=underlying429
 a76:=isAgg429
 z76:=sizeOf429
 v76:=zeroValue429
 t77:=underlying430
 a77:=isAgg430
 z77:=sizeOf430
 v77:=zeroValue430}
end Go.Proofs
namespace Go.Proofs.YtjhogocabcdjbabGreatDoor
open Tryz
open Go Go.RowKit WB Go.Shelf Go.Lib Go.Sort
abbrev YQ:={m:Ms//0<=m.id/\m.id<=1099511627776}
instance:Inhabited YQ:=⟨⟨⟨0,0,⟨#[]⟩,⟨#[]⟩,0⟩,by decide⟩⟩
def M8 (m:YQ):List Value:=du m.1
def Ix (x y:YQ):Int:=x.1.id-y.1.id
theorem J9(x y:YQ):ltOf Ix x y=decide (x.1.id<y.1.id):=by
 unfold ltOf Ix
 exact decide_eq_decide.2 ae
theorem Wf:SWO (ltOf Ix):={
 irrefl:=fun x=>by rw[J9];simp
 trans:=fun x y z h1 h2=>by rw[J9]at *;simp at *;omega
 ntrans:=fun x y z h1 h2=>by rw[J9]at *;simp at *;omega}
theorem aeI(x y:YQ)(W:World):Calls prog 126 #[.agg (M8 x).toArray,.agg (M8 y).toArray] W fun e w'=>e=.returned (.int .i64 (Ix x y))/\∃q os',w'=grow (W.drewN q) os':=by
 obtain⟨⟨xi,xp,xb,xq,xh⟩,hx⟩:=x
 obtain⟨⟨yi,yp,yb,yq,yh⟩,hy⟩:=y
 dsimp only at hx hy
 have hwr:IntKind.i64.wrap (xi-yi)=xi-yi:=by simp[IntKind.wrap,IntKind.bits,IntKind.signed];omega
 unfold M8 Ix du
 dsimp only
 go_enter func126,ntmps126
 go_wp2
 go_ret
 exact⟨rfl,0,_,by rw[alloc_eq_grow,alloc_eq_grow,grow_grow];rfl⟩
theorem Wc(w0:World):JO w0:=fun L v xs hl hid w hw=>by
 obtain⟨zs,rfl⟩:∃zs:List YQ,zs.map Subtype.val=xs:=⟨xs.attach.map fun m=>⟨m.1,hid m.1 m.2⟩,by simp⟩
 have key:∀(u:Value) (ys:List YQ),SL 44 5 du u (ys.map Subtype.val)=SL 44 5 M8 u ys:=fun u ys=>by
  unfold SL;rw[bj,List.flatMap_map];rfl
 rw[bj]at hl
 rw[key]at hw
 have h1:∀x,∀v∈M8 x,v.oneCell'=true:=fun x v hv=>by
  unfold M8 du at hv
  simp at hv
  rcases hv with rfl|rfl|rfl|rfl|rfl<;>rfl
 rcases Be hw with⟨rfl,rfl⟩|⟨g,cap,rfl⟩
 ·refine(AnyF.slices_SortFunc_none Tryz.NN none 0 _ w).mono ?_
  rintro e w' ⟨rfl,rfl⟩
  exact⟨_,_,rfl,⟨rfl,[],.refl _,.nil,rfl⟩,hw⟩
 ·have hH:=Cs (cf:=M8) (k:=5) (fun _=>rfl) hw
  obtain⟨-,-,-,cur,-,-,h6⟩:=gF hw
  have hc:=AnyQ.slices_SortFunc Tryz.NN 5 isAgg44 sizeOf44 M8 (fun _=>rfl) h1 Ix Wf 126 #[] g 0 cap zs.toArray w call126 (fun _ _ _ _ x y=>aeI x y _) hH h6.lt ga
  have mI:Calls prog 125 #[.slice (some ⟨g,0,none⟩) zs.length cap,.func (.func 126) #[] #[]] w fun e w'=>e=.returned (.tuple #[])/\∃d' n os,PermIn 0 zs.toArray.size zs.toArray d'/\SortedIn (ltOf Ix) 0 zs.toArray.size d'/\w'=sortWorldK M8 5 w g 0 n d' os:=by
   exact hc
  refine mI.mono ?_
  rintro e w' ⟨rfl,d',q,os,⟨EE,-,hp⟩,Bh,rfl⟩
  have tU:d'.toList.length=zs.length:=by simpa using EE
  refine⟨_,_,rfl,⟨rfl,d'.toList.map Subtype.val,?_,?_,rfl⟩,?_⟩
  ·have e1:(d'.extract 0 zs.toArray.size).toList=d'.toList:=by rw[<-EE];simp
   have e2:(zs.toArray.extract 0 zs.toArray.size).toList=zs:=by simp
   rw[e1,e2]at hp;exact hp.map _
  ·rw[List.pairwise_map,List.pairwise_iff_getElem]
   intro p q hp hq Q5
   have :=Bh p q (aV _) Q5 (by rw[tU]at hq;simpa using hq)
   simp only[Array.length_toList]at hp hq
   rw[getElem!_pos d' q hq,getElem!_pos d' p hp,J9]at this
   simp at this
   simpa using this
  ·rw[key]
   have e:sortWorldK M8 5 w g 0 q d' os=Sort.grow (putRowK M8 5 (Sort.ahead w q) g 0 d') os:=by
    rfl
   rw[e]
   have :=St.sorted (cf:=M8) (k:=5) (ys:=d'.toList) (fun _=>rfl) hw tU q os
   simpa using this
end Go.Proofs.YtjhogocabcdjbabGreatDoor
namespace WB
open Go
def Te:ak:=⟨#[104,105]⟩
def sv:Ms:=⟨0,5,Te,eV,1⟩
def q0:Qu:=⟨[],0⟩
def cnA:List Nm:=[⟨eF,eV,1⟩,⟨eV,⟨#[]⟩,-1⟩,⟨hI,⟨#[]⟩,-1⟩]
def cnB:List Nm:=[⟨eF,eV,0⟩,⟨eV,⟨#[]⟩,-1⟩,⟨hI,⟨#[]⟩,-1⟩]
def uE:pg:=⟨[],[]⟩
def cA (used:Nat) (next:Int) (cR:Qu) (u0:pg) (bt:List Int) (sn:Int):Ho:=⟨0,used,false,-1,next,cnA,[(cL,q0),(eV,q0),(hI,q0)],[q0,cR,q0,q0],[u0,uE,uE,uE,uE],[[],bt,[],[]],[0,sn,0,0],[0,0,0,0]⟩
def cB (used:Nat) (q:Qu) (av:Int):Ho:=⟨1,used,false,-1,0,cnB,[(cL,q0),(eV,q),(hI,q0)],[q0,q0,q0,q0],[uE,uE,uE,uE,uE],[[],[],[],[]],[0,0,0,0],[av,0,0,0]⟩
def KZ:Ho:=cA 3 0 q0 uE [] 0
def EH:Ho:=cA 3 1 ⟨[⟨sv,0,0,-1⟩],1⟩ ⟨[(sv,1)],[]⟩ [] 0
def qo:Ho:=cA 4 1 ⟨[⟨sv,1,-1,-1⟩],2⟩ uE [] 0
def CZ:Ho:=cA 5 1 ⟨[⟨sv,1,-1,-1⟩],2⟩ uE [0] 1
def GR:Ho:=cA 6 1 ⟨[],2⟩ uE [] 1
def my:Ho:=cB 3 q0 0
def y7:Ho:=cB 4 ⟨[⟨sv,0,-1,-1⟩],1⟩ 1
theorem XV:cD 0 1=KZ:=rfl
theorem XU:cD 1 0=my:=rfl
theorem y6:jn KZ 0 eF 5 Te=0/\fl KZ 0 eF 5 Te=EH:=⟨by decide+kernel,by kernel_rfl⟩
theorem Oa{D:Dk}(h:D.cut=false):lX D=0:=by
 unfold lX lE;rw[h];rfl
theorem zX{H:Ho}{D:Dk}(h:D.cut=false)(hr:fU H=0):c7 H D=0:=by
 unfold c7
 rw[if_neg (by simp[hr])]
 exact Oa h
theorem Ka{H:Ho}{D:Dk}(h:D.cut=false)(hr:fU H=0):dc H D={H with used:=H.used+1}:=by
 unfold dc
 rw[if_neg (by simp[hr]),if_neg (by simp[Oa h])]
theorem zZ(H:Ho)(D:Dk)(s:ak):(gU H D s).cut=D.cut:=by
 unfold gU;split
 ·rfl
 ·exact x6
theorem H5{H:Ho}{D:Dk}(h:D.cut=false)(hr:fU H=0)(s:ak):lM H D s=(ck {H with used:=H.used+1} s).1:=by
 unfold lM
 rw[if_pos (zX h hr),Ka h hr]
theorem KW{D:Dk}(h:D.cut=false):vj EH D 0=0/\la EH D 0=qo:=by
 have h0:kP EH 0=0:=by decide
 have hr:fU EH=0:=by decide
 refine⟨?_,?_⟩
 ·unfold vj;rw[if_neg (by simp[h0])];exact zX h hr
 ·unfold la
  rw[if_neg (by simp[h0]),if_neg (by simp[zX h hr]),Ka h hr]
  kernel_rfl
theorem XR{D:Dk}(h:D.cut=false):tX qo D 1=0/\gR qo D 1=CZ/\(lF qo D 1).cut=false/\Jl qo D 1=1/\y8 qo D 1=[sv]:=by
 have hr:fU qo=0:=by decide
 have hp:kR qo 1=0:=by decide+kernel
 have hn:dQ qo 1=true:=by decide+kernel
 have e1:tX qo D 1=0:=by unfold tX;rw[if_neg (by simp[hp]),if_pos hn];exact zX h hr
 have e2:gR qo D 1=CZ:=by unfold gR;rw[if_pos hn,H5 h hr];kernel_rfl
 refine⟨e1,e2,by unfold lF;rw[if_pos hn,zZ];exact h,?_,?_⟩
 ·unfold Jl;rw[if_pos e1,e2];decide+kernel
 ·unfold y8;rw[if_pos e1,e2];kernel_rfl
theorem XS{D:Dk}(h:D.cut=false):D7 my D 0 1 [sv]=0/\lb my D 0 1 [sv]=y7/\(oe my D 0 1 [sv]).cut=false/\rz my D 0 1 [sv]=1:=by
 have hr:fU my=0:=by decide
 have hp:ry my 0 1 [sv]=0:=by decide+kernel
 have hn:xg my 0 1 [sv]=true:=by decide+kernel
 have e1:D7 my D 0 1 [sv]=0:=by unfold D7;rw[if_neg (by simp[hp]),if_pos hn];exact zX h hr
 have e2:lb my D 0 1 [sv]=y7:=by unfold lb;rw[if_pos hn,H5 h hr];kernel_rfl
 refine⟨e1,e2,by unfold oe;rw[if_pos hn,zZ];exact h,?_⟩
 unfold rz;rw[if_pos e1,e2];decide+kernel
theorem XQ{D:Dk}(h:D.cut=false):r9 CZ D 1 1=GR/\(AT CZ D 1 1).cut=false:=by
 have hr:fU CZ=0:=by decide
 have hp:iT CZ 1 1=0:=by decide+kernel
 refine⟨by unfold r9;rw[if_neg (by simp[hp]),H5 h hr];kernel_rfl,by unfold AT;rw[if_neg (by simp[hp]),zZ];exact h⟩
theorem AO{W:Wo}{k d:Nat}(hk:k<W.hs.length)(hd:d<W.hs.length)(h:kR (W.H k) (d:Int)≠0):mr W k d=W:=by
 have h1:W.is (k:Int)=true:=by unfold Wo.is;rw[decide_eq_true_eq];omega
 have h2:W.is (d:Int)=true:=by unfold Wo.is;rw[decide_eq_true_eq];omega
 have hs:Dj W k d≠0:=by unfold Dj;rw[if_pos ⟨h1,h2⟩,aA];unfold tX;rw[if_pos h];exact h
 have hn:dQ (W.H k) (d:Int)=false:=by unfold dQ;rw[decide_eq_false_iff_not];exact fun x=>h x.1
 unfold mr
 rw[if_neg hs]
 unfold yf
 rw[if_pos ⟨h1,h2⟩,if_neg hs]
 unfold l8 gR lF
 rw[aA,if_neg (by simp[hn]),if_neg (by simp[hn])]
 exact kE hk
def cW (x:Ho×Dk) (y:Ho×Dk) (cR:List Gm):Wo:=⟨[x,y],cR,0⟩
theorem PX{D E:Dk}(h:D.cut=false):∃D1,D1.cut=false/\Dj (cW (qo,D) (my,E) []) 0 1=0/\yf (cW (qo,D) (my,E) []) 0 1=cW (CZ,D1) (my,E) [⟨1,⟨0,1,false⟩,[sv]⟩]:=by
 obtain⟨a1,a2,a3,a4,a5⟩:=XR h
 have hs:Dj (cW (qo,D) (my,E) []) 0 1=0:=a1
 have ho:okF ⟨0,1,false⟩ [sv]:=by decide+kernel
 refine⟨lF qo D 1,a3,hs,?_⟩
 unfold yf
 rw[if_pos ⟨rfl,rfl⟩,if_pos hs]
 show fm (cW (gR qo D 1,lF qo D 1) (my,E) []) 1 ⟨0,Jl qo D 1,false⟩ (y8 qo D 1)=_
 rw[a2,a4,a5]
 unfold fm
 rw[if_pos ho]
 rfl
theorem XP{D E:Dk}(h:D.cut=false)(hE:E.cut=false):∃D1 E1,lS (cW (CZ,D) (my,E) [⟨1,⟨0,1,false⟩,[sv]⟩])=cW (GR,D1) (y7,E1) []:=by
 obtain⟨b1,b2,b3,b4⟩:=XS hE
 obtain⟨c1,c2⟩:=XQ h
 have ho:okF ⟨1,1,true⟩ ([]:List Ms):=by decide+kernel
 refine⟨AT CZ D 1 1,oe my E 0 1 [sv],?_⟩
 rw[r5 (by simp[cW])]
 have e1:tW (cW (CZ,D) (my,E) [⟨1,⟨0,1,false⟩,[sv]⟩]) 0=cW (CZ,D) (y7,oe my E 0 1 [sv]) [⟨0,⟨1,1,true⟩,[]⟩]:=by
  unfold tW
  rw[if_pos (by unfold Hu;exact if_pos ⟨by omega,by simp[cW]⟩)]
  show vL (cW (CZ,D) (my,E) []) ⟨1,⟨0,1,false⟩,[sv]⟩=_
  unfold vL
  rw[if_neg ai]
  rw[if_pos (show D7 ((cW (CZ,D) (my,E) []).H (1:Int).toNat) ((cW (CZ,D) (my,E) []).D (1:Int).toNat) 0 1 [sv]=0 from b1)]
  show fm (cW (CZ,D) (lb my E 0 1 [sv],oe my E 0 1 [sv]) []) 0 ⟨1,rz my E 0 1 [sv],true⟩ []=_
  rw[b2,b4]
  unfold fm
  rw[if_pos ho]
  rfl
 rw[e1,r5 (by simp[cW])]
 have e2:tW (cW (CZ,D) (y7,oe my E 0 1 [sv]) [⟨0,⟨1,1,true⟩,[]⟩]) 0=cW (GR,AT CZ D 1 1) (y7,oe my E 0 1 [sv]) []:=by
  unfold tW
  rw[if_pos (by unfold Hu;exact if_pos ⟨by omega,by simp[cW]⟩)]
  show vL (cW (CZ,D) (y7,oe my E 0 1 [sv]) []) ⟨0,⟨1,1,true⟩,[]⟩=_
  unfold vL
  rw[if_pos rfl]
  show cW (r9 CZ D 1 1,AT CZ D 1 1) (y7,oe my E 0 1 [sv]) []=_
  rw[c1]
 rw[e2]
 exact rj rfl
theorem rK{α:Type}(f:α->Nat->α)(a:α):(List.range 2).foldl f a=f (f a 0) 1:=rfl
theorem TS{W:Wo}(h:W.hs.length=2):oA W=mr (mr (mr (mr (tD W) 0 0) 0 1) 1 0) 1 1:=by
 unfold oA
 rw[h,rK]
 unfold vn
 rw[rK,rK]
theorem TR{W:Wo}(h:W.hs.length=2):tD W=lS (jt (jt W 0) 1):=by
 unfold tD
 rw[h,rK]
theorem PY(D E:Dk):∃D1 E1,calm 1 (cW (qo,D) (my,E) [])=cW (GR,D1) (y7,E1) []:=by
 have hd:∀D:Dk,(cu D (-1)).cut=false:=fun D=>rfl
 obtain⟨D1,g1,g2,g3⟩:=PX (D:=cu D (-1)) (E:=cu E (-1)) (hd D)
 obtain⟨D2,E2,g4⟩:=XP g1 (hd E)
 refine⟨D2,E2,?_⟩
 rw[AS]
 have e0:tD (cW (qo,D) (my,E) [])=cW (qo,cu D (-1)) (my,cu E (-1)) []:=by
  rw[TR rfl]
  have a1:jt (cW (qo,D) (my,E) []) 0=cW (qo,cu D (-1)) (my,E) []:=by
   unfold jt;rw[if_neg (show ¬((cW (qo,D) (my,E) []).H 0).down=true from Bool.false_ne_true)];rfl
  have a2:jt (cW (qo,cu D (-1)) (my,E) []) 1=cW (qo,cu D (-1)) (my,cu E (-1)) []:=by
   unfold jt;rw[if_neg (show ¬((cW (qo,cu D (-1)) (my,E) []).H 1).down=true from Bool.false_ne_true)];rfl
  rw[a1,a2]
  exact rj rfl
 rw[TS rfl,e0]
 rw[AO (W:=cW (qo,cu D (-1)) (my,cu E (-1)) []) (k:=0) (d:=0) (show 0<2 by decide) (show 0<2 by decide) (by show kR qo 0≠0;decide)]
 have e1:mr (cW (qo,cu D (-1)) (my,cu E (-1)) []) 0 1=cW (GR,D2) (y7,E2) []:=by
  unfold mr
  rw[if_pos (show Dj (cW (qo,cu D (-1)) (my,cu E (-1)) []) ((0:Nat):Int) ((1:Nat):Int)=0 from g2)]
  rw[show yf (cW (qo,cu D (-1)) (my,cu E (-1)) []) ((0:Nat):Int) ((1:Nat):Int)=_ from g3]
  exact g4
 rw[e1]
 rw[AO (W:=cW (GR,D2) (y7,E2) []) (k:=1) (d:=0) (show 1<2 by decide) (show 0<2 by decide) (by show kR y7 0≠0;decide+kernel)]
 rw[AO (W:=cW (GR,D2) (y7,E2) []) (k:=1) (d:=1) (show 1<2 by decide) (show 1<2 by decide) (by show kR y7 1≠0;decide+kernel)]
theorem CX:ie y7 eV=0/\jL y7 eV=[sv]:=⟨by decide+kernel,by kernel_rfl⟩
def nF (n i:Nat):Wo:=⟨(List.range n).map fun k:Nat=>if k<i then fP (((k:Int)+1)%n) (bX (k:Int),bN) 3 else(bX (k:Int),bN),[],0⟩
theorem EW(n:Nat):nF n 0=zk n:=by
 unfold nF zk
 congr 1
theorem iM(n i:Nat):(nF n i).hs.length=n:=by unfold nF;simp
theorem vS{n i k:Nat}(hk:k<n):(nF n i).hs[k]? =some (if k<i then fP (((k:Int)+1)%n) (bX (k:Int),bN) 3 else(bX (k:Int),bN)):=by
 unfold nF
 rw[aG,List.getElem?_range hk];rfl
theorem EX{n i:Nat}(hi:i<n):(nF n i).bU i (fP (((i:Int)+1)%n) (bX (i:Int),bN) 3)=nF n (i+1):=by
 have :(nF n i).hs.set i (fP (((i:Int)+1)%n) (bX (i:Int),bN) 3)=(nF n (i+1)).hs:=by
  apply List.ext_getElem?
  intro k
  rw[List.getElem?_set,iM]
  by_cases hk:k<n
  ·rw[vS hk,vS hk]
   by_cases e:i=k
   ·subst e
    rw[if_pos rfl,if_pos hi,if_pos (Nat.lt_succ_self i)]
   ·rw[if_neg e]
    by_cases h1:k<i
    ·rw[if_pos h1,if_pos ae]
    ·rw[if_neg h1,if_neg ae]
  ·rw[if_neg ae,br (by rw[iM];omega),br (by rw[iM];omega)]
 unfold Wo.bU
 rw[this];rfl
def E7 (n:Nat):nS:=⟨n,nF n n,[],List.replicate 20 [],List.replicate 20 [],[],[],true⟩
theorem uU(id j:Int):hv (cD id j)=[]:=by kernel_rfl
theorem vq(id j:Int)(d:Nat):bm (cD id j) d=[]:=by
 unfold bm cD dC
 dsimp only
 rw[aq,List.getElem?_replicate]
 split<;>rfl
theorem HI.start{k:Nat}{j:Int}(hk:k<4)(hj:0<=j/\j<4):HI k (cD k j) (fP j (bX k,bN) 3).2 (cD k j):=by
 obtain⟨-,hH,hD,hl,-⟩:=jB (k:Int) j hj
 have IL:=uU (k:Int) j
 have wJ:WB.hk (cD k j)=[]:=by unfold WB.hk;rw[IL];rfl
 refine⟨rfl,⟨Iw j,hD,Dw k j hj,rfl⟩,rfl,rfl,rfl,rfl,rfl,⟨0,rfl⟩,fun e he=>?_,by rw[wJ,IL];exact .refl _,by rw[IL];exact .nil,fun e he=>?_,fun e he=>?_,fun e he=>?_,Int.le_refl _,fun u x hx=>?_,fun d i hi=>?_⟩
 ·rw[IL]at he;cases he
 ·rw[IL]at he;cases he
 ·rw[IL]at he;cases he
 ·rw[IL]at he;cases he
 ·have :x=⟨[],[]⟩:=List.eq_of_mem_replicate (ax hx)
  subst this
  exact UJ.nil _ _
 ·rw[vq]at hi;cases hi
theorem nD.start{n:Nat}(hn:2<=n/\n<=4):nD 0 3 (E7 n):=by
 have hj:∀k:Nat,0<=((k:Int)+1)%n/\((k:Int)+1)%n<4:=fun k=>⟨Int.emod_nonneg _ ae,by have :=Int.emod_lt_of_pos ((k:Int)+1) (show(0:Int)<n by omega);omega⟩
 have Ph:∀(k:Nat) x,(nF n n).hs[k]? =some x->k<n/\x=(cD k (((k:Int)+1)%n),(fP (((k:Int)+1)%n) (bX (k:Int),bN) 3).2):=fun k x hx=>by
  have hk:k<n:=by have :=(au.1 hx).1;rw[iM]at this;exact this
  rw[vS hk,if_pos hk]at hx
  simp only[az]at hx
  obtain⟨-,hH,-,-,-⟩:=jB (k:Int) _ (hj k)
  refine⟨hk,?_⟩
  rw[<-hx,<-hH]
 have gY:∀k,((nF n n).H k).aB=List.replicate 5 ⟨[],[]⟩:=fun k=>by
  by_cases hk:k<n
  ·obtain⟨x,hx,e1,-⟩:=fS (W:=nF n n) (j:=k) (by rw[iM];exact hk)
   rw[e1,(Ph k x hx).2];rfl
  ·have :(nF n n).H k=bX 0:=by unfold Wo.H Wo.at';rw[aq,br (by rw[iM];omega)];rfl
   rw[this];rfl
 refine⟨hn,⟨by show 1<=(nF n n).hs.length/\(nF n n).hs.length<=4;rw[iM];omega,fun k x hx=>?_,(fun g hg=>by cases hg),aV _,by show(0:Int)<=0/\(0:Int)<=3;omega⟩,⟨fun k=>cD k (((k:Int)+1)%n),⟨iM n n,fun k x hx=>?_,?_,fun k x hx u y hy p hp=>?_,fun k x hx=>?_⟩⟩,(fun x hx=>by cases hx),fun k y hy=>?_,⟨rfl,fun k u hk hu=>?_⟩,⟨rfl,fun k u hk hu=>?_⟩,rfl⟩
 ·obtain⟨hk,rfl⟩:=Ph k x hx
  obtain⟨-,hH,hD,hl,-⟩:=jB (k:Int) _ (hj k)
  have hB:cK 13 (cD k (((k:Int)+1)%n)):=by rw[<-hH];exact Dv (id:=(k:Int)) ⟨by omega,by omega⟩ _ 3
  have kZ:=hD.ok (by rw[hl];decide)
  refine⟨rfl,hB.le ae,kZ.len,by dsimp only;rw[hl];omega,kZ.size,kZ.oj,fun u hu=>?_,fun q hq=>?_,by show 3<=2+3;omega⟩
  ·have :u=⟨[],[]⟩:=List.eq_of_mem_replicate hu
   subst this
   exact⟨⟨(fun p hp=>by cases hp),(fun p hp=>by cases hp),by decide⟩,aV _⟩
  ·have :q=⟨[],0⟩:=List.eq_of_mem_replicate hq
   rw[this]
   exact fun e he=>by cases he
 ·obtain⟨hk,rfl⟩:=Ph k x hx
  exact HI.start ae (hj k)
 ·have xZ:∀k:Nat,(CC (fun k:Nat=>cD k (((k:Int)+1)%n)) k).bg=[]:=fun k=>by
   show(hv (cD k (((k:Int)+1)%n))).map pV=[]
   rw[uU];rfl
  have sI:∀k d:Nat,(CC (fun k:Nat=>cD k (((k:Int)+1)%n)) k).bt d=[]:=fun k d=>vq _ _ d
  have Cn:∀k d:Nat,(CC (fun k:Nat=>cD k (((k:Int)+1)%n)) k).sn d=0:=fun k d=>by
   show bD (cD k (((k:Int)+1)%n)) d=0
   unfold bD cD dC
   dsimp only
   rw[aq,List.getElem?_replicate];split<;>rfl
  have x4:∀k d:Nat,(CC (fun k:Nat=>cD k (((k:Int)+1)%n)) k).av d=0:=fun k d=>by
   show bY (cD k (((k:Int)+1)%n)) d=0
   unfold bY cD dC
   dsimp only
   rw[aq,List.getElem?_replicate];split<;>rfl
  refine⟨?_,.nil,(fun m hm=>by cases hm),fun k _=>by rw[xZ];exact .nil,(fun k _ d i hi=>by rw[sI]at hi;cases hi),fun k d _ _ _=>by rw[x4,Cn];exact⟨Int.le_refl _,by omega,fun _=>rfl⟩,(fun g hg=>by cases hg)⟩
  have :yo n (CC fun k:Nat=>cD k (((k:Int)+1)%n))=[]:=by
   unfold yo view
   rw[List.flatMap_eq_nil_iff]
   intro k _
   rw[xZ];rfl
  show(yo n (CC fun k:Nat=>cD k (((k:Int)+1)%n))).Perm []
  rw[this]
 ·have h1:=gY k
  have hk:=(Ph k x hx).1
  obtain⟨x',Kg,e1,-⟩:=fS (W:=nF n n) (j:=k) (by rw[iM];exact hk)
  have :x=x':=by
   have hx:(nF n n).hs[k]? =some x:=hx
   rw[Kg]at hx;exact(Option.some.inj hx).symm
  rw[this,<-e1,h1]at hy
  have :=List.eq_of_mem_replicate (ax hy)
  subst this;cases hp
 ·obtain⟨hk,rfl⟩:=Ph k x hx
  rfl
 ·have hy:y∈((nF n n).H k).aB:=hy
  rw[gY k]at hy
  have :=List.eq_of_mem_replicate hy
  subst this;exact aV _
 ·show(List.replicate 20 [])[ix k u]? =_
  rw[List.getElem?_replicate,if_pos (by unfold ix;omega)]
  show _=some ((((nF n n).H k).eP u).aM.map (·.1))
  rw[rJ (gY k)];rfl
 ·show(List.replicate 20 [])[ix k u]? =_
  rw[List.getElem?_replicate,if_pos (by unfold ix;omega)]
  show _=some ((((nF n n).H k).eP u).bu.map (·.1))
  rw[rJ (gY k)];rfl
theorem Da:nF 2 2=cW (KZ,(fP 1 (bX 0,bN) 3).2) (my,(fP 0 (bX 1,bN) 3).2) []:=by
 obtain⟨-,hA,-⟩:=jB 0 1 ai
 obtain⟨-,hB,-⟩:=jB 1 0 ai
 have e1:fP 1 (bX 0,bN) 3=(KZ,(fP 1 (bX 0,bN) 3).2):=by rw[<-XV,<-hA]
 have e2:fP 0 (bX 1,bN) 3=(my,(fP 0 (bX 1,bN) 3).2):=by rw[<-XU,<-hB]
 rw[<-e1,<-e2]
 rfl
theorem Cd(id j:Int)(hj:0<=j/\j<4):(fP j (bX id,bN) 3).2.cut=false:=(jB id j hj).2.2.2.2
theorem PZ:c6 0 3 (nF 2 2):=(nD.start (n:=2) ai).B
theorem XT:c6 1 4 (cW (qo,od EH (fP 1 (bX 0,bN) 3).2 0) (my,(fP 0 (bX 1,bN) 3).2) []):=by
 have h0:=PZ
 rw[Da]at h0
 have hx:=h0.hs 0 (KZ,(fP 1 (bX 0,bN) 3).2) rfl
 have gY:∀y∈KZ.aB,y.aM.length+y.bu.length<=600:=fun y hy=>by
  have :y=uE:=List.eq_of_mem_replicate (n:=5) hy
  subst this;decide
 have h1:=hx.put 0 eF 5 Te gY
 rw[y6.2]at h1
 have h2:=h1.cm ai (u:=0) ai
 dsimp only at h2
 rw[show((0:Nat):Int)=0 from rfl,(KW (Cd 0 1 ai)).2]at h2
 exact(h0.mono (aV 1) (by decide:3<=4)).set (k:=0) h2
end WB
namespace Go.Proofs.YtjhogocabcdjbabGreatDoor
open Tryz
open Go Go.RowKit WB
theorem RP(w0:World)(L:List HP)(a:Int)(hT:qH w0)(hM:qK w0):
 KC prog 22 #[.int .i64 a] w0 L (fun u M=> ∃c:Nat×Nat×Bf,c.2.2.2.2=none/\u=bA c.1/\M=ll c.1 c.2.1 (E7 (2+(pk a 3).toNat))::jJ c.2.1 c.2.2 (E7 (2+(pk a 3).toNat)).W::L):=by
 have Gb:=gW a (n:=3) ai
 obtain⟨m,hm,hm3⟩:∃m:Nat,pk a 3=(m:Nat)/\m<3:=⟨(pk a 3).toNat,by omega,by omega⟩
 rw[show(pk a 3).toNat=m by omega]
 obtain⟨n,ob,hn⟩:∃n:Nat,n=2+m/\2<=n/\n<=4:=⟨2+m,rfl,by omega,by omega⟩
 rw[<-ob]
 refine KC.mk (n:=65) func22 rfl ntmps22 aj ?_
 refine qE ?_
 refine KO.ce (cp:=[]) rfl rfl rfl call13 rfl (m_ w0 _ a 3 ai ai) ?_;rintro v' L' ⟨rfl,hLL⟩;rw[hm,hLL];clear hLL
 refine KO.add rfl rfl rfl ae rfl ?_;rw[show(2:Int)+(m:Nat)=(n:Nat)by rw[ob];push_cast;rfl]
 refine KO.mkm (Value.int .i64) rfl rfl (fun Ro=>?_)
 refine KO.mkm (Value.int .i64) rfl rfl (fun K4=>?_)
 refine KO.xe (pl:=[(0,1),(1,1),(2,1),(3,20),(23,20),(43,1),(44,1)]) rfl zeroValue62 runUnderlying62 (by intro w;simp[sizeOf3,sizeOf4,sizeOf55,sizeOf56,sizeOf58,sizeOf59,sizeOf60]) aQ rfl ?_
 refine KO.box rfl rfl aQ rfl ?_;intro P6
 refine lK ?_
 refine K.conv (L':=bP P6 (.cells (Value.pointer none::(sf 0 ⟨List.replicate 20 dI,List.replicate 20 dI,[],Ro,K4⟩ n).tail).toArray 62 (0,0))::cg (Value.int .i64) Ro []::cg (Value.int .i64) K4 []::L) (fun w h=>h.all Y7) ?_
 refine kp ?_
 refine Z70 ?_
 refine tL ?_
 refine KO.cl (cp:=[]) rfl rfl rfl call42 rfl (Nt w0 _ n hT hM ae) ?_;rintro v' L' ⟨⟨bw,hd⟩,hN,rfl,rfl⟩;dsimp only at hN ⊢
 refine Ei ?_
 refine KO.AF rfl underlying55 rfl ?_
 refine Eg ?_
 refine o8 ?_
 refine Uq ?_
 refine KO.gT (b:=P6) (i:=0) rfl rfl rfl aQ (by exact sizeOf55) rfl bo rfl aj ?_
 refine Z0 ?_
 refine K.conv (L':=jJ bw hd (nF n 0)::bP P6 (.cells (sf bw ⟨List.replicate 20 dI,List.replicate 20 dI,[],Ro,K4⟩ n).toArray 62 (0,0))::cg (Value.int .i64) Ro []::cg (Value.int .i64) K4 []::L) (fun w h=>by rw[EW];exact h.all Y7) ?_
 refine dR ?_
 refine Z7 ?_
 refine K8 ?_
 refine K.loop (fun k:Nat=>[(3,bA P6),(4,bA bw),(6,.int .i64 (k:Nat))]) (fun k=>jJ bw hd (nF n k)::bP P6 (.cells (sf bw ⟨List.replicate 20 dI,List.replicate 20 dI,[],Ro,K4⟩ n).toArray 62 (0,0))::cg (Value.int .i64) Ro []::cg (Value.int .i64) K4 []::L) (fun k=>k<=n) (fun k=>n-k) 0 (aV _) ⟨rfl,rfl,rfl,trivial⟩ (fun _ h=>h) ?_
 intro k hk
 refine jI ?_
 refine A6 ?_
 refine vy ?_
 refine rD ?_
 refine K.bz rfl (fun h7=>?_) (fun h7=>?_)
 ·have np:k<n:=by omega
  have hln:=iM n k
  refine K.cx (fun _ h=>dM h) ?_
  rintro⟨⟨hv,dv,wv,ps⟩,hV,e8,e9⟩
  dsimp only at hV e8 e9 ⊢
  obtain⟨p,hp⟩:∃e,ps[k]? =some e:=⟨_,ao (show k<ps.length by omega)⟩
  have hx:(nF n k).hs[k]? =some (bX (k:Int),bN):=by rw[vS np,if_neg (Nat.lt_irrefl k)]
  refine HU ?_
  refine ji ?_
  refine KO.ce (cp:=[]) rfl rfl rfl call26 rfl (lh w0 _ bw ⟨hv,dv,wv,ps⟩ (nF n k) k p hV hp) ?_;rintro v' L' ⟨rfl,rfl⟩
  refine Ei ?_
  refine KO.AF rfl underlying29 rfl ?_
  refine BK ?_
  refine MS ?_
  refine lJ ?_
  refine rA ?_
  refine Z70 ?_
  refine rA ?_
  refine vy ?_
  refine KO.on rfl rfl (by rfl) ?_;refine KO.cl (cp:=[]) rfl rfl rfl call12 rfl (KC.nO (φ:=fun u=>u=.bool true) (y:=(fP (((k:Int)+1)%(n:Nat)) (bX (k:Int),bN) 3)) hp hx bo (fun L=>KC.hd (y:=(fP (((k:Int)+1)%(n:Nat)) (bX (k:Int),bN) 3)) (J7 w0 L p.1 p.2 (k:Int) (k:Int) (n:Nat) hT hM ae ae ae))) ?_;rintro v' L' ⟨rfl,rfl⟩
  refine yD ?_
  refine rB ?_
  refine GZ ?_
  refine Z21 ?_
  refine K.conv (fun w hw=>dH (hd:=hd) (W:=(nF n k).bU k (fP (((k:Int)+1)%(n:Nat)) (bX (k:Int),bN) 3)) ⟨hv,dv,wv,ps⟩ (by rw[fx];exact hV) (hw.all (M:=oi bw ⟨hv,dv,wv,ps⟩ ((nF n k).bU k (fP (((k:Int)+1)%(n:Nat)) (bX (k:Int),bN) 3)) (bP P6 (.cells (sf bw ⟨List.replicate 20 dI,List.replicate 20 dI,[],Ro,K4⟩ n).toArray 62 (0,0))::cg (Value.int .i64) Ro []::cg (Value.int .i64) K4 []::L)) Y7) e8 e9) ?_
  rw[EX np]
  refine He ?_
  refine KQ.round (k+1) ae ae ⟨rfl,rfl,rfl,trivial⟩ (fun w' aX=>aX)
 ·obtain rfl:k=n:=by omega
  refine xr ?_
  refine jH ?_
  refine KQ.bG rfl rfl (fun w' aX=>⟨_,_,rfl,⟨(P6,bw,hd),hN,rfl,rfl⟩,?_⟩)
  dsimp only
  have h1:=rk (f:=Bg) (p:=dI) (x:=[]) (fun L h=>cM h) 20 (rk (f:=gV) (p:=dI) (x:=[]) (fun L h=>cM h) 20 aX)
  have h2:St w0 (cr gV ([]:List Value) []::_) w':=wV (f:=gV) (ps:=[]) (xs:=[]) h1
  exact dZ ⟨List.replicate 20 dI,List.replicate 20 dI,[],Ro,K4⟩ ⟨rfl,rfl,rfl⟩ (h2.all Y7)
theorem MJ(w0:World)(L:List HP)(hT:qH w0)(hM:qK w0):KC prog 21 #[] w0 L (fun u M=>u=.bool true/\M=L):=by
 refine KC.mk (n:=104) func21 rfl ntmps21 aj ?_
 refine Z3 ?_
 refine mB ?_
 refine KO.cl (cp:=[]) rfl rfl rfl call42 rfl (Nt w0 L 2 hT hM ai) ?_;rintro v' L' ⟨⟨bw,hd⟩,hN,rfl,rfl⟩;dsimp only at hN ⊢;rw[<-EW]
 refine Ei ?_
 refine KO.AF rfl underlying55 rfl ?_
 refine Eg ?_
 refine dR ?_
 refine Z7 ?_
 refine K8 ?_
 refine K.loop (fun k:Nat=>[(1,bA bw),(3,.int .i64 (k:Nat))]) (fun k=>jJ bw hd (nF 2 k)::L) (fun k=>k<=2) (fun k=>2-k) 0 (aV _) ⟨rfl,rfl,trivial⟩ (fun _ h=>h) ?_
 intro k hk
 refine jI ?_
 refine rD ?_
 refine K.bz rfl (fun h7=>?_) (fun h7=>?_)
 ·have np:k<2:=by omega
  have hln:=iM 2 k
  refine K.cx (fun _ h=>dM h) ?_
  rintro⟨⟨hv,dv,wv,ps⟩,hV,e8,e9⟩
  dsimp only at hV e8 e9 ⊢
  obtain⟨p,hp⟩:∃e,ps[k]? =some e:=⟨_,ao (show k<ps.length by omega)⟩
  have hx:(nF 2 k).hs[k]? =some (bX (k:Int),bN):=by rw[vS np,if_neg (Nat.lt_irrefl k)]
  refine HU ?_
  refine ji ?_
  refine KO.ce (cp:=[]) rfl rfl rfl call26 rfl (lh w0 _ bw ⟨hv,dv,wv,ps⟩ (nF 2 k) k p hV hp) ?_;rintro v' L' ⟨rfl,rfl⟩
  refine Ei ?_
  refine KO.AF rfl underlying29 rfl ?_
  refine BK ?_
  refine Z1 ?_
  refine KO.on rfl rfl (by rfl) ?_;refine KO.cl (cp:=[]) rfl rfl rfl call12 rfl (KC.nO (φ:=fun u=>u=.bool true) (y:=(fP (((k:Int)+1)%(2:Nat)) (bX (k:Int),bN) 3)) hp hx bo (fun L=>KC.hd (y:=(fP (((k:Int)+1)%(2:Nat)) (bX (k:Int),bN) 3)) (J7 w0 L p.1 p.2 (k:Int) (k:Int) (2:Nat) hT hM ae ae ai))) ?_;rintro v' L' ⟨rfl,rfl⟩
  refine yD ?_
  refine rB ?_
  refine GZ ?_
  refine Z21 ?_
  refine K.conv (fun w hw=>dH (hd:=hd) (W:=(nF 2 k).bU k (fP (((k:Int)+1)%(2:Nat)) (bX (k:Int),bN) 3)) ⟨hv,dv,wv,ps⟩ (by rw[fx];exact hV) (hw.all (M:=oi bw ⟨hv,dv,wv,ps⟩ ((nF 2 k).bU k (fP (((k:Int)+1)%(2:Nat)) (bX (k:Int),bN) 3)) L) Y7) e8 e9) ?_
  rw[EX np]
  refine He ?_
  refine KQ.round (k+1) ae ae ⟨rfl,rfl,trivial⟩ (fun w' aX=>aX)
 obtain rfl:k=2:=by omega
 rw[Da]
 refine K.cx (fun _ h=>dM h) ?_
 rintro⟨⟨hv,dv,wv,ps⟩,hV,e8,e9⟩
 dsimp only at hV e8 e9 ⊢
 match ps,hV,e9 with
 |[p0,p1],hV,e9=>
 have hcut:=Cd 0 1 ai
 have abm:=KW hcut
 have tV:=XT
 obtain⟨D2,E2,Va⟩:=PY (od EH (fP 1 (bX 0,bN) 3).2 0) (fP 0 (bX 1,bN) 3).2
 have Vi:c6 1 10004 (calm 1 (cW (qo,od EH (fP 1 (bX 0,bN) 3).2 0) (my,(fP 0 (bX 1,bN) 3).2) [])):=by rw[AS];exact tV.oA ai
 rw[Va]at Vi
 have hBA:=(Vi.hs 0 (GR,D2) rfl).B
 have hBB:=(Vi.hs 1 (y7,E2) rfl).B
 have qQ:=PZ
 rw[Da]at qQ
 have hx0:=qQ.hs 0 (KZ,(fP 1 (bX 0,bN) 3).2) rfl
 have gY:∀y∈KZ.aB,y.aM.length<=600:=fun y hy=>by
  have :y=uE:=List.eq_of_mem_replicate (n:=5) hy
  subst this;decide
 have uT:=hx0.put 0 eF 5 Te (fun y hy=>by
  have :y=uE:=List.eq_of_mem_replicate (n:=5) hy
  subst this;decide)
 rw[y6.2]at uT
 have hle: -((3:Nat):Int)<=(fP 1 (bX 0,bN) 3).2.left/\(fP 1 (bX 0,bN) 3).2.left<=1000000000:=uT.left
 refine xr ?_
 refine KO.ce (cp:=[]) rfl rfl rfl call26 rfl (lh w0 _ bw ⟨hv,dv,wv,[p0,p1]⟩ _ 0 p0 hV rfl) ?_;rintro v' L' ⟨rfl,rfl⟩
 refine ky ?_
 refine KO.ce (cp:=[]) rfl rfl rfl call26 rfl (lh w0 _ bw ⟨hv,dv,wv,[p0,p1]⟩ _ 1 p1 hV rfl) ?_;rintro v' L' ⟨rfl,rfl⟩
 refine ky ?_
 refine KO.cl (cp:=[]) rfl rfl rfl call14 rfl (KC.nO (f:=vJ) (ps:=[p0,p1]) (p:=p0) (x:=(KZ,(fP 1 (bX 0,bN) 3).2)) (i:=0) (y:=(fl KZ 0 eF 5 Te,(fP 1 (bX 0,bN) 3).2)) (φ:=fun v=>v=.tuple #[.int .i64 (zK KZ 0 eF 5 Te),cS 70 (jn KZ 0 eF 5 Te)]) rfl rfl bo (fun L=>KC.hdH (fun L=>OT w0 L p0.1 p0.2 75420 KZ 0 eF 5 Te (hx0.B.le ai) ae ai ai (fun z hz=>by have :=gY z hz;omega)))) ?_;rintro v' L' ⟨rfl,rfl⟩;rw[y6.1,y6.2]
 refine ky ?_
 refine A4 ?_
 refine A2 ?_
 refine KO.on rfl rfl (by rfl) ?_;refine KO.cl (cp:=[]) rfl rfl rfl call16 rfl (KC.nO (f:=vJ) (ps:=[p0,p1]) (p:=p0) (x:=(EH,(fP 1 (bX 0,bN) 3).2)) (i:=0) (y:=(la EH (fP 1 (bX 0,bN) 3).2 0,od EH (fP 1 (bX 0,bN) 3).2 0)) (φ:=fun v=>v=cS 70 (vj EH (fP 1 (bX 0,bN) 3).2 0)) rfl rfl bZ (fun L=>KC.hd (y:=(la EH (fP 1 (bX 0,bN) 3).2 0,od EH (fP 1 (bX 0,bN) 3).2 0)) (Cy w0 L p0.1 p0.2 75420 EH (fP 1 (bX 0,bN) 3).2 0 hT hM (uT.B.le ai) ae (fun z hz=>(uT.aB z hz).1) uT.len ⟨by omega,by omega⟩))) ?_;rintro v' L' ⟨rfl,rfl⟩;rw[abm.1,abm.2]
 refine rA ?_
 refine A4 ?_
 refine rB ?_
 refine GZ ?_
 refine K.conv (fun w hw=>dH (hd:=(hv,dv,some [p0,p1])) (W:=cW (qo,od EH (fP 1 (bX 0,bN) 3).2 0) (my,(fP 0 (bX 1,bN) 3).2) []) ⟨hv,dv,wv,[p0,p1]⟩ rfl (hw.all (M:=oi bw ⟨hv,dv,wv,[p0,p1]⟩ (cW (qo,od EH (fP 1 (bX 0,bN) 3).2 0) (my,(fP 0 (bX 1,bN) 3).2) []) L) Y7) rfl ⟨rfl,fun l hl=>by cases hl;rfl⟩) ?_
 have nM:∀k,((cW (qo,od EH (fP 1 (bX 0,bN) 3).2 0) (my,(fP 0 (bX 1,bN) 3).2) []).H k).down=false:=fun k=>by
  match k with
  |0=>rfl
  |1=>rfl
  |k+2=>rfl
 refine xv ?_
 refine KO.cl (cp:=[]) rfl rfl rfl call25 rfl (KC.qv bZ (C8 w0 _ bw 1 4 1 _ _ (.inr ⟨rfl,nM⟩) hT hM tV ai ai ai)) ?_;rintro v' L' ⟨rfl,rfl⟩;rw[Va]
 refine Z0 ?_
 refine K.cx (fun _ h=>dM h) ?_
 rintro⟨⟨rY,Zw,UB,Ex⟩,Rb,e8',e9'⟩
 dsimp only at Rb e8' e9' ⊢
 obtain rfl:Ex=[p0,p1]:=e9'.2 _ rfl
 refine K.conv (fun w hw=>dD (f:=vJ) (ps:=[p0,p1]) (xs:=(cW (GR,D2) (y7,E2) []).hs) (i:=1) (p:=p1) (x:=(y7,E2)) rfl rfl (hw.pick (A:=cr vJ [p0,p1] (cW (GR,D2) (y7,E2) []).hs) bo)) ?_
 refine K.conv (fun w hw=>hw.split) ?_
 refine Z8 ?_
 refine KO.cl (cp:=[]) rfl rfl rfl call28 rfl (KC.qv (A:=dL p1.1 p1.2 y7) bZ (F1 w0 _ p1.1 p1.2 79000 y7 eV (hBB.le (show 300+1+250*4<=79000 by decide)) ae)) ?_;rintro v' L' ⟨vl,rfl,rfl⟩;rw[CX.1,CX.2]
 refine qc ?_
 refine K.conv (fun w hw=>dD (f:=vJ) (ps:=[p0,p1].eraseIdx 1) (xs:=(cW (GR,D2) (y7,E2) []).hs.eraseIdx 1) (i:=0) (p:=p0) (x:=(GR,D2)) rfl rfl (hw.pick (A:=cr vJ ([p0,p1].eraseIdx 1) ((cW (GR,D2) (y7,E2) []).hs.eraseIdx 1)) bo)) ?_
 refine K.conv (fun w hw=>hw.split) ?_
 have qj:ug GR 1=0:=by decide+kernel
 have rX:fJ GR 1=[]:=by kernel_rfl
 refine Z8 ?_
 refine KO.cl (cp:=[]) rfl rfl rfl call27 rfl (KC.qv (A:=dL p0.1 p0.2 GR) bZ (Ag w0 _ p0.1 p0.2 79000 GR 1 (hBA.le (show 300+1+250*6<=79000 by decide)) ae)) ?_;rintro v' L' ⟨vw,rfl,rfl⟩;rw[qj,rX]
 refine qc ?_
 refine K.fact (fun _ hs=>aY (hs.pick (A:=SL 44 5 du vl [sv]) bo)) ?_
 rintro⟨a1,c1,rfl,rb⟩
 obtain⟨g1,rfl⟩:=rb ai
 refine K.fact (fun _ hs=>aY (hs.pick (A:=SL 44 5 du vw []) bZ)) ?_
 rintro⟨a2,c2,rfl,-⟩
 refine Z8 ?_
 refine KO.Zu rfl bH rfl ?_
 refine MS ?_
 refine KO.Zu rfl bH rfl ?_
 refine yx ?_
 refine A2 ?_
 refine KO.on rfl rfl (by rfl) ?_;refine KO.len rfl underlying49 rfl ?_
 refine BG ?_
 refine yx ?_
 refine A2 ?_
 refine KO.on rfl rfl (by rfl) ?_;refine KO.eX (i:=0) rfl rfl runUnderlying49 sizeOf44 rfl ai rfl ?_
 refine rA ?_
 refine MX ?_
 refine KO.on rfl rfl (by rfl) ?_;refine KO.ldE (i:=0) (j:=2) (sz:=5) (cf:=du) (xs:=[sv]) (e:=sv) rfl rfl isAgg9 bo (fun _=>rfl) rfl aQ aQ rfl ?_
 refine rA ?_
 refine A5 ?_
 refine yx ?_
 refine A2 ?_
 refine KO.on rfl rfl (by rfl) ?_;refine KO.len rfl underlying49 rfl ?_
 refine BG ?_
 refine yx ?_
 refine jH ?_
 refine KQ.bG rfl rfl (fun w' aX=>⟨_,_,rfl,⟨rfl,rfl⟩,?_⟩)
 exact aX.all (by repeat(first|exact gP.refl|apply gP.drop))
end Go.Proofs.YtjhogocabcdjbabGreatDoor
namespace WB
open Go
def LS (q:Qu):Prop:=(q.l.Pairwise fun a b=>iY a b<0)/\∀e∈q.l,e.line<q.next
def nn (l:List Ms) (m:Ms):List Ms:=(l.filter fun x=>decide (m.pri<=x.pri))++m::l.filter fun x=> !decide (m.pri<=x.pri)
def eu (p:Int) (m:Ms):Bool:=decide (m.pri=p)
theorem KM{e:It}{q:Qu}{m:Ms}{u:Int}(he:e.line<q.next):iY e (er q m u)<0↔m.pri<=e.m.pri:=by
 unfold iY vf er
 dsimp only
 split<;>omega
theorem LS.push{q:Qu}(h:LS q)(m:Ms)(u:Int):LS (db q m u)/\(db q m u).l=(q.l.filter fun e=>decide (m.pri<=e.m.pri))++er q m u::q.l.filter fun e=> !decide (m.pri<=e.m.pri):=by
 obtain⟨h1,h2⟩:=h
 have key:∀l:List It,(l.Pairwise fun a b=>iY a b<0)->(∀e∈l,e.line<q.next)->l.take (kD l (er q m u))=(l.filter fun e=>decide (m.pri<=e.m.pri))/\l.drop (kD l (er q m u))=l.filter fun e=> !decide (m.pri<=e.m.pri):=by
  intro l
  induction l with
  |nil=>intro _ _;exact⟨rfl,rfl⟩
  |cons a l ih=>
   intro hp hl
   rw[List.pairwise_cons]at hp
   have ha:=KM (m:=m) (u:=u) (hl a aj)
   by_cases hc:m.pri<=a.m.pri
   ·obtain⟨i1,i2⟩:=ih hp.2 fun e he=>hl e (by simp[he])
    have hs:kD (a::l) (er q m u)=kD l (er q m u)+1:=by
     unfold kD
     rw[List.takeWhile_cons,if_pos (by simpa using ha.2 hc)];rfl
    rw[hs,List.take_succ_cons,List.drop_succ_cons,bE,bE,if_pos ZK,if_neg ZK,i1,i2]
    exact⟨rfl,rfl⟩
   ·have hs:kD (a::l) (er q m u)=0:=by
     unfold kD
     rw[List.takeWhile_cons,if_neg (by simpa using fun h=>hc (ha.1 h))];rfl
    have fw:∀e∈a::l,¬m.pri<=e.m.pri:=fun e he=>by
     rcases aF.1 he with rfl|he
     ·exact hc
     ·have :=hp.1 e he
      unfold iY vf at this
      split at this <;>omega
    rw[hs,List.take_zero,List.drop_zero]
    constructor
    ·rw[eq_comm,List.filter_eq_nil_iff];intro e he;simpa using fw e he
    ·rw[eq_comm,aT];intro e he;simpa using fw e he
 obtain⟨k1,k2⟩:=key q.l h1 h2
 have hl:(db q m u).l=(q.l.filter fun e=>decide (m.pri<=e.m.pri))++er q m u::q.l.filter fun e=> !decide (m.pri<=e.m.pri):=by
  unfold db
  dsimp only
  rw[k1,k2]
 refine⟨⟨?_,?_⟩,hl⟩
 ·rw[hl,List.pairwise_append]
  refine⟨h1.filter _,?_,fun a ha b hb=>?_⟩
  ·rw[List.pairwise_cons]
   refine⟨fun b hb=>?_,h1.filter _⟩
   obtain⟨jG,jF⟩:=aC.1 hb
   simp only[Bool.not_eq_true',decide_eq_false_iff_not]at jF
   unfold iY vf er
   dsimp only
   split<;>omega
  ·obtain⟨Xn,Xm⟩:=aC.1 ha
   simp only[decide_eq_true_eq]at Xm
   have hal:=h2 a Xn
   rcases aF.1 hb with rfl|hb
   ·exact(KM hal).2 Xm
   ·obtain⟨jG,jF⟩:=aC.1 hb
    simp only[Bool.not_eq_true',decide_eq_false_iff_not]at jF
    unfold iY vf
    split<;>omega
 ·intro e he
  show e.line<q.next+1
  rw[hl]at he
  rcases aN.1 he with h3|h3
  ·have :=h2 e (aC.1 h3).1;omega
  ·rcases aF.1 h3 with rfl|h3
   ·show q.next<q.next+1;omega
   ·have :=h2 e (aC.1 h3).1;omega
theorem LS.sub{q:Qu}(h:LS q){l:List It}(hl:l.Sublist q.l):LS ⟨l,q.next⟩:=⟨h.1.sublist hl,fun e he=>h.2 e (hl.subset he)⟩
theorem LS.take{q:Qu}(h:LS q)(id:Int):LS (eA q id):=by
 unfold eA
 split
 ·exact h
 ·exact h.sub (List.eraseIdx_sublist _ _)
theorem LS.E5:∀(b:List Int) {q:Qu},LS q->LS (cN q b)
 |[],_,h=>h
 |i::b,q,h=>LS.E5 b (h.take i)
theorem LS.ends{q:Qu}(h:LS q)(u:Int):LS (eK q u true):=by
 unfold eK
 split
 ·exact h
 ·refine⟨?_,fun e he=>?_⟩
  ·rw[List.pairwise_map]
   exact(h.1.filter _).imp fun {a b} vK=>vK
  ·obtain⟨e0,h1,rfl⟩:=ay.1 he
   exact h.2 e0 (aC.1 h1).1
theorem LS.nil(n:Int):LS ⟨[],n⟩:=⟨.nil,fun e he=>by cases he⟩
theorem Ck{q:Qu}(h:LS q)(m:Ms):aW (db q m (-1))=nn (aW q) m:=by
 unfold aW nn
 rw[(h.push m (-1)).2,bB,aZ,bE,if_pos (by unfold er;simp),aL]
 rw[List.filter_map,List.filter_map,bp,bp,bp,bp]
 congr 1
 ·congr 1
  apply List.filter_congr
  intro e _
  rw[Bool.and_comm];rfl
 ·congr 1
  congr 1
  apply List.filter_congr
  intro e _
  rw[Bool.and_comm];rfl
theorem IB{q:Qu}(h:LS q)(m:Ms){u:Int}(hu:0<=u):aW (db q m u)=aW q:=by
 have hs:∃a b,q.l=a++b/\(db q m u).l=a++er q m u::b:=⟨_,_,(List.take_append_drop _ _).symm,rfl⟩
 obtain⟨a,b,e1,e2⟩:=hs
 unfold aW
 rw[e1,e2,bB,bB,bE,if_neg (by unfold er;simp;omega)]
theorem L6(q:Qu){u:Int}(hu:0<=u):aW (eK q u true)=aW q:=by
 unfold eK
 rw[if_neg ae]
 unfold aW
 dsimp only
 rw[List.filter_map,List.map_map,bp]
 rw[show((fun x:It=>x.m)∘nt u)=(fun x:It=>x.m)from rfl]
 congr 1
 apply List.filter_congr
 intro e _
 unfold p9 nt
 dsimp only[Function.comp]
 by_cases h1:e.put=u
 ·have :¬e.put<0:=by omega
  simp[h1];omega
 ·simp[h1]
theorem L4{q:Qu}(hn:(q.l.map fun e=>e.m.id).Nodup)(id:Int)(hk:∀e∈q.l,e.m.id=id->e.put<0):aW (eA q id)=(aW q).filter fun m=> !decide (m.id=id):=by
 have key:∀l:List It,(l.map fun e=>e.m.id).Nodup->∀k,l.findIdx? (DJ id)=some k->l.eraseIdx k=l.filter fun e=> !decide (e.m.id=id):=by
  intro l
  induction l with
  |nil=>intro _ k h;cases h
  |cons a l ih=>
   intro hn k h
   rw[aL,bI]at hn
   rw[List.findIdx?_cons]at h
   by_cases e:a.m.id=id
   ·have :DJ id a=true:=by unfold DJ;simpa using e
    rw[this]at h
    simp only[if_true,az]at h
    subst h
    rw[List.eraseIdx_zero,List.tail_cons,bE,if_neg Uw,aT.2]
    intro x hx
    have :x.m.id≠id:=fun e2=>hn.1 (by rw[e,<-e2];exact List.mem_map_of_mem (f:=fun e:It=>e.m.id) hx)
    simpa using this
   ·have :DJ id a=false:=by unfold DJ;simpa using e
    rw[this]at h
    simp only[Bool.false_eq_true,if_false]at h
    obtain⟨j,hj,rfl⟩:=Option.map_eq_some_iff.1 h
    rw[List.eraseIdx_cons_succ,bE,if_pos Uw,ih hn.2 j hj]
 unfold eA om
 cases hf:q.l.findIdx? (DJ id)with
 |none=>
  dsimp only
  rw[eq_comm,aT]
  intro m hm
  unfold aW at hm
  obtain⟨e,he,rfl⟩:=ay.1 hm
  rw[List.findIdx?_eq_none_iff]at hf
  have :=hf e (aC.1 he).1
  unfold DJ at this
  simpa using this
 |some k=>
  dsimp only
  unfold aW
  dsimp only
  rw[key _ hn k hf,List.filter_map,bp,bp]
  congr 1
  apply List.filter_congr
  intro e _
  rw[Bool.and_comm];rfl
theorem NF{q:Qu}(id:Int):(eA q id).l.Sublist q.l:=by
 unfold eA;split
 ·exact .refl _
 ·exact List.eraseIdx_sublist _ _
theorem Aa:∀(b:List Int) {q:Qu},(q.l.map fun e=>e.m.id).Nodup->(∀e∈q.l,e.m.id∈b->e.put<0)->aW (cN q b)=(aW q).filter fun m=> !decide (m.id∈b)
 |[],q,_,_=>by rw[show cN q []=q from rfl,aT.2 (fun _ _=>by simp)]
 |i::b,q,hn,hk=>by
  show aW (cN (eA q i) b)=_
  rw[Aa b (hn.sublist ((NF i).map _)) (fun e he hb=>hk e ((NF i).subset he) (by simp[hb])),L4 hn i (fun e he hi=>hk e he (by simp[hi])),bp]
  apply List.filter_congr
  intro m _
  by_cases h1:m.id=i<;>by_cases h2:m.id∈b<;>simp[h1,h2]
theorem SG(l:List Ms)(m:Ms)(p:Int):(nn l m).filter (eu p)=l.filter (eu p)++[m].filter (eu p):=by
 unfold nn
 rw[bB,bE,bp,bp]
 by_cases h1:m.pri=p
 ·have e1:(l.filter fun a=>eu p a&&decide (m.pri<=a.pri))=l.filter (eu p):=by
   apply List.filter_congr
   intro x _
   unfold eu
   by_cases h2:x.pri=p
   ·have :m.pri<=x.pri:=by omega
    simp[h2];omega
   ·simp[h2]
  have e2:(l.filter fun a=>eu p a&& !decide (m.pri<=a.pri))=[]:=by
   rw[List.filter_eq_nil_iff]
   intro x _
   unfold eu
   by_cases h2:x.pri=p
   ·simp[h2];omega
   ·simp[h2]
  rw[e1,e2,if_pos (by unfold eu;simpa using h1)]
  simp[eu,h1]
 ·rw[if_neg (by unfold eu;simpa using h1)]
  have e3:[m].filter (eu p)=[]:=by simp[eu,h1]
  rw[e3,List.append_nil]
  by_cases h3:m.pri<=p
  ·have e1:(l.filter fun a=>eu p a&&decide (m.pri<=a.pri))=l.filter (eu p):=by
    apply List.filter_congr
    intro x _
    unfold eu
    by_cases h2:x.pri=p
    ·simp[h2];omega
    ·simp[h2]
   have e2:(l.filter fun a=>eu p a&& !decide (m.pri<=a.pri))=[]:=by
    rw[List.filter_eq_nil_iff]
    intro x _
    unfold eu
    by_cases h2:x.pri=p
    ·simp[h2];omega
    ·simp[h2]
   rw[e1,e2,List.append_nil]
  ·have e1:(l.filter fun a=>eu p a&&decide (m.pri<=a.pri))=[]:=by
    rw[List.filter_eq_nil_iff]
    intro x _
    unfold eu
    by_cases h2:x.pri=p
    ·simp[h2];omega
    ·simp[h2]
   have e2:(l.filter fun a=>eu p a&& !decide (m.pri<=a.pri))=l.filter (eu p):=by
    apply List.filter_congr
    intro x _
    unfold eu
    by_cases h2:x.pri=p
    ·simp[h2];omega
    ·simp[h2]
   rw[e1,e2,List.nil_append]
theorem Ae(p:Int):∀(ms l:List Ms),(ms.foldl nn l).filter (eu p)=l.filter (eu p)++ms.filter (eu p)
 |[],l=>by simp
 |m::ms,l=>by
  rw[List.foldl_cons,Ae p ms,SG,aH]
  congr 1
  rw[<-bB];rfl
theorem SI(l:List Ms)(m:Ms):(nn l m).length=l.length+1:=by
 have h:=(List.filter_append_perm (fun x:Ms=>decide (m.pri<=x.pri)) l).length_eq
 rw[aP]at h
 unfold nn
 rw[aP,List.length_cons];omega
theorem Af:∀(ms l:List Ms),(ms.foldl nn l).length=l.length+ms.length
 |[],l=>by simp
 |m::ms,l=>by rw[List.foldl_cons,Af ms,SI];simp;omega
theorem SH{l:List Ms}{m x:Ms}:x∈nn l m↔x=m\/x∈l:=by
 unfold nn
 rw[aN,aF,aC,aC]
 by_cases h:m.pri<=x.pri<;>simp[h,or_comm]
theorem FU{x:Ms}:∀(ms l:List Ms),x∈ms.foldl nn l↔x∈ms\/x∈l
 |[],l=>by simp
 |m::ms,l=>by rw[List.foldl_cons,FU ms,SH,aF];simp[or_assoc,or_left_comm]
def LA (H:Ho):Prop:= ∀j,LS (H.dY j)
theorem p_{H H':Ho}{j:Nat}{q:Qu}(h:H'.all=H.all.set j q)(hj:j<H.all.length)(i:Nat):H'.dY i=if i=j then q else H.dY i:=by
 unfold Ho.dY
 rw[h,aq,aq,List.getElem?_set]
 by_cases e:j=i
 ·rw[if_pos e,if_pos hj,if_pos e.symm];rfl
 ·rw[if_neg e,if_neg fun e2=>e e2.symm]
theorem vx{H H':Ho}(h:H'.all=H.all)(i:Nat):H'.dY i=H.dY i:=by unfold Ho.dY;rw[h]
theorem LA.set{H H':Ho}(hL:LA H){j:Nat}{q:Qu}(h:H'.all=H.all.set j q)(hj:j<H.all.length)(hq:LS q):LA H':=fun i=>by
 rw[p_ h hj]
 split
 ·exact hq
 ·exact hL i
section
variable {n:Nat} {H H0:Ho}
theorem LG(hB:cK n H){m:Ms}(hr:bT m=true)(hq:m.cq=H.id->∃i,H.qI m.queue=some i)(hL:LA H){H1:Ho}(h1:fM H m=some H1):
 LA H1/\∀j,aW (H1.dY j)=if j=nG H m then nn (aW (H.dY j)) m else aW (H.dY j):=by
 have key:∃q,H1.all=H.all.set (nG H m) (db q m (-1))/\H.dY (nG H m)=q/\nG H m<H.all.length:=by
  unfold fM at h1
  dsimp only at h1
  unfold nG
  split at h1
  ·rename_i hh
   simp only[az]at h1
   subst h1
   obtain⟨-,-,-,-,-,-,m7,m8⟩:=bV hr
   have h4:m.cq.toNat<4:=by omega
   rw[if_pos hh]
   refine⟨H.dy m.cq.toNat,?_,kB hB.ways h4,by rw[g_ hB.ways];omega⟩
   exact km (H:={H with next:=max H.next (m.id/4+1)}) (by rw[show({H with next:=max H.next (m.id/4+1)}:Ho).ways=H.ways from rfl,hB.ways];exact h4) _
  ·rename_i hh
   obtain⟨i,hi⟩:=hq (by simpa using hh)
   rw[if_neg hh,hi]
   rw[hi]at h1
   dsimp only at h1
   simp only[az]at h1
   subst h1
   have qn:=(ik hi).1
   exact⟨H.ec i,ko (H:={H with next:=max H.next (m.id/4+1)}) hB.ways i _,GY hB.ways qn,by show 4+i<_;rw[g_ hB.ways];omega⟩
 obtain⟨q,e1,e2,e3⟩:=key
 have hq:=hL (nG H m)
 rw[e2]at hq
 refine⟨hL.set e1 e3 (hq.push m (-1)).1,fun j=>?_⟩
 rw[p_ e1 e3]
 split
 ·rename_i e;rw[e,e2];exact Ck hq m
 ·rfl
theorem wh:∀(l:List Ms) {n:Nat} {H:Ho},cK n H->(∀m∈l,bT m=true/\(m.cq=H.id->∃i,H.qI m.queue=some i))->LA H->
 LA (ef H l).1/\∀j,aW ((ef H l).1.dY j)=(l.filter fun m=>decide (nG H m=j)).foldl nn (aW (H.dY j))
 |[],_,H,_,_,hL=>⟨hL,fun _=>rfl⟩
 |m::l,n,H,hB,h,hL=>by
  obtain⟨hr,hm⟩:=h m aj
  obtain⟨H1,e1,-,k1,-,-,s1⟩:=B7 hB hr hm
  obtain⟨hL1,k9⟩:=LG hB hr hm hL e1
  have h_:=hB.Sc hr e1
  obtain⟨a,b⟩:=wh l h_ (fun m' tt=>by
   obtain⟨a,b⟩:=h m' (by simp[tt])
   exact⟨a,fun hh=>by rw[cG k1];exact b (by rw[hh,s1.id])⟩) hL1
  rw[ef,e1]
  refine⟨a,fun j=>?_⟩
  rw[b j,k9 j]
  have :(l.filter fun m=>decide (nG H1 m=j))=l.filter fun m=>decide (nG H m=j):=List.filter_congr fun m _=>by rw[fF k1 s1.id]
  rw[this,bE]
  by_cases e:nG H m=j
  ·rw[if_pos e.symm,if_pos Uw,List.foldl_cons]
  ·rw[if_neg (fun e2=>e e2.symm),if_neg Uw]
theorem tB:∀(l:List (Ms×ak)) {n:Nat} {H:Ho},cK n H->(∀x∈l,((0<=x.1.pri/\x.1.pri<=9)/\0<=x.1.id/\x.1.id<=1099511627776)/\∃i,H.qI x.2=some i)->LA H->
 LA (dO H l).1/\∀j,aW ((dO H l).1.dY j)=((l.filter fun x=>decide (4+(H.qI x.2).getD 0=j)).map (·.1)).foldl nn (aW (H.dY j))
 |[],_,H,_,_,hL=>⟨hL,fun _=>rfl⟩
 |(m,t)::l,n,H,hB,h,hL=>by
  obtain⟨hm,i,hi⟩:=h (m,t) aj
  have qn:=(ik hi).1
  have h_:=(hB.le (Nat.le_succ n)).fB ((hB.qa qn).sY hm.1 hm.2 (-1)) i
  have k1:cb (H.fB i (db (H.ec i) m (-1)))=cb H:=by unfold cb;exact jN i _
  have e1:=ko (H:=H) hB.ways i (db (H.ec i) m (-1))
  have e3:4+i<H.all.length:=by rw[g_ hB.ways];omega
  have hq:=hL (4+i)
  rw[GY hB.ways qn]at hq
  obtain⟨a,b⟩:=tB l h_ (fun x hx=>by
   obtain⟨a,j,b⟩:=h x yK
   exact⟨a,j,by rw[cG k1];exact b⟩) (hL.set e1 e3 (hq.push m (-1)).1)
  rw[dO,hi]
  refine⟨a,fun j=>?_⟩
  dsimp only
  rw[b j,p_ e1 e3]
  have :(l.filter fun x=>decide (4+((H.fB i (db (H.ec i) m (-1))).qI x.2).getD 0=j))=l.filter fun x=>decide (4+(H.qI x.2).getD 0=j):=List.filter_congr fun x _=>by rw[cG k1]
  rw[this,bE]
  dsimp only
  rw[hi,Option.getD_some]
  by_cases e:4+i=j
  ·rw[if_pos e.symm,if_pos Uw,aL,List.foldl_cons,Ck hq,<-e,GY hB.ways qn]
  ·rw[if_neg (fun e2=>e e2.symm),if_neg Uw]
theorem z_(hB:cK n H)(hL:LA H)(hn:((hv H).map eO).Nodup){a:Nat}(ha:a<4){b:List Int}(hb:∀e∈hv H,eO e∈b->e.put<0):
 LA (H.gK a (cN (H.dy a) b))/\∀j,aW ((H.gK a (cN (H.dy a) b)).dY j)=if j=a then(aW (H.dY j)).filter (fun m=> !decide (m.id∈b))else aW (H.dY j):=by
 have e1:=km (H:=H) (j:=a) (by rw[hB.ways];exact ha) (cN (H.dy a) b)
 have e3:a<H.all.length:=by rw[g_ hB.ways];omega
 have hq:=hL a
 rw[kB hB.ways ha]at hq
 have lC:∀e∈(H.dy a).l,gE a e∈hv H:=fun e he=>fH.2 ⟨H.dy a,iH hB.ways ha,e,he,rfl⟩
 have nM:((H.dy a).l.map fun e=>e.m.id).Nodup:=by
  have h1:=(mU (iH hB.ways ha)).map eO
  have h2:=h1.nodup_iff.1 hn
  rw[aZ,List.nodup_append]at h2
  have h3:=h2.1
  unfold Jd at h3
  rw[List.map_map]at h3
  exact h3
 refine⟨hL.set e1 e3 (hq.E5 b),fun j=>?_⟩
 rw[p_ e1 e3]
 split
 ·rename_i e
  rw[e,kB hB.ways ha]
  exact Aa b nM fun e he hm=>hb (gE a e) (lC e he) hm
 ·rfl
theorem KH(hL:LA H)(u:Int):LA (cE H u):=fun j=>by
 unfold Ho.dY
 rw[oW,aq,aG]
 cases hj:H.all[j]? with
 |none=>exact LS.nil 0
 |some q=>
  have :=hL j
  unfold Ho.dY at this
  rw[aq,hj]at this
  exact this.ends u
theorem CO{u:Int}(hu:0<=u)(j:Nat):aW ((cE H u).dY j)=aW (H.dY j):=by
 unfold Ho.dY
 rw[oW,aq,aq,aG]
 cases hj:H.all[j]? with
 |none=>rfl
 |some q=>exact L6 q hu
end
def nx (n k:Nat):Nat:=(k+1)%n
theorem lU{n k:Nat}(hn:2<=n):nx n k<n:=Nat.mod_lt _ ae
theorem xO{n k:Nat}(hn:2<=n/\n<=4)(hk:k<n):nx n k≠k:=by
 unfold nx
 have gO:n=2\/n=3\/n=4:=by omega
 rcases gO with rfl|rfl|rfl<;>omega
theorem Ob(n k:Nat):((nx n k:Nat):Int)=((k:Int)+1)%(n:Int):=by unfold nx;push_cast;rfl
structure HO (n k:Nat) (H H0:Ho):Prop where
 ls:LA H
 Sy:LA H0
 kq:∀j,aW (H.dY j)=aW (H0.dY j)
 iS:∀e∈hv H,e.iS<0
 wo:∀j,j<4->j≠nx n k->(H.dy j).l=[]
 SF:∀e∈hv H,4<=e.j->e.put<0
 ks:cb H=[cL,eV,hI]
 un:∀y∈H.aB,y.bu=[]/\∀p∈y.aM,p.1.cq=((nx n k:Nat):Int)/\p.1.queue=eV/\0<=p.1.pri/\p.1.pri<3
 so:∀d,d≠nx n k->bD H d=0
section
variable {c kb k n m:Nat} {H H0:Ho} {D:Dk}
theorem HI.yV(h:HI k H D H0)(he:c7 H D=0){s:ak}(hs:s.size<=700000)(hb:qx 124 s)(jg:fO 250 s){H3:Ho}(hp:ck H0 s=(H3,true)):bK (k:Int) (gU H D s)={H3 with used:=H0.used+1}:=by
 obtain⟨R,r1,r2,r3⟩:=h.R9
 obtain⟨-,eD,hu,ho⟩:=dA he s
 have hd:iZ (gU H D s) (R++[s]):=by
  rw[eD,r3]
  exact r1.Xw hs hb jg ho (by rw[<-r3];exact hu)
 exact s8 hd (r2.snoc hp)
theorem WC{H H':Ho}(h:H'.all=H.all):hv H'=hv H:=by unfold hv;rw[h]
theorem HO.upd(o:HO n k H H0){H':Ho}(e1:H'.aI=H.aI)(e2:H'.ways=H.ways)(e3:H'.aB=H.aB)(e4:H'.bW=H.bW):HO n k H' H0:=by
 have ea:H'.all=H.all:=by unfold Ho.all;rw[e1,e2]
 have eh:=WC ea
 refine⟨fun j=>by rw[vx ea];exact o.ls j,o.Sy,fun j=>by rw[vx ea];exact o.kq j,by rw[eh];exact o.iS,fun j h1 h2=>by unfold Ho.dy;rw[e2];exact o.wo j h1 h2,by rw[eh];exact o.SF,by unfold cb;rw[e1];exact o.ks,by rw[e3];exact o.un,fun d hd=>by unfold bD;rw[e4];exact o.so d hd⟩
theorem Wi(H:Ho)(D:Dk):(dc H D).aI=H.aI/\(dc H D).ways=H.ways/\(dc H D).aB=H.aB/\(dc H D).bW=H.bW:=by
 have h:=kH H D
 exact⟨h.2.2.2.1,h.2.2.2.2.1,h.2.1,h.2.2.2.2.2.2.1⟩
theorem HO.log(o:HO n k H H0)(D:Dk):HO n k (dc H D) H0:=by
 obtain⟨a,b,c,d⟩:=Wi H D
 exact o.upd a b c d
theorem HO.Ij(o:HO n k H H0)(h:HI k H D H0)(hB:cK m H)(qQ:cK c H0):HO n k H0 H0:=by
 refine⟨o.Sy,o.Sy,fun _=>rfl,fun e he=>by rw[(h.nu e he).2];decide,fun j h1 h2=>?_,fun e he _=>by rw[(h.nu e he).1];decide,by rw[h.keys];exact o.ks,fun y hy=>?_,fun d hd=>by unfold bD;rw[h.sn];exact o.so d hd⟩
 ·have h3:=o.kq j
  rw[kB hB.ways h1,kB qQ.ways h1]at h3
  have h4:aW (H.dy j)=[]:=by unfold aW;rw[o.wo j h1 h2];rfl
  rw[h4]at h3
  cases hl:(H0.dy j).l with
  |nil=>rfl
  |cons a r=>
   have ha:gE j a∈hv H0:=fH.2 ⟨H0.dy j,iH qQ.ways h1,a,by rw[hl];simp,rfl⟩
   have h5:=(h.nu _ ha).1
   have :a.m∈aW (H0.dy j):=by
    unfold aW
    exact List.mem_map_of_mem (f:=fun e:It=>e.m) (aC.2 ⟨by rw[hl];simp,by rw[show a.put= -1 from h5];rfl⟩)
   rw[<-h3]at this;cases this
 ·rw[h.H9]at hy
  have :=List.eq_of_mem_replicate hy
  subst this
  exact⟨rfl,fun p hp=>by cases hp⟩
theorem RB{H H':Ho}(h4:H.ways.length=4)(h4':H'.ways.length=4){j i:Nat}{q:Qu}(h:H'.all=H.all.set j q)(hj:j<H.all.length)(hi:i<4)(gN:i≠j):H'.dy i=H.dy i:=by
 rw[<-kB h4' hi,<-kB h4 hi,p_ h hj,if_neg gN]
theorem HO.put(o:HO n k H H0)(h:HI k H D H0)(hB:cK m H)(hn:2<=n/\n<=4)(hk:k<n)(ob:H.names=Sr k n){u:Nat}(hu:u<5){pri:Int}(hp:0<=pri/\pri<3)(he:jn H u eF pri xS=0):HO n k (fl H u eF pri xS) H0:=by
 obtain⟨ku,Br,EB,-⟩:=Im he
 have qk:=Od h.hid hk hn ob (j:=2)
 rw[show v7 2=eF from rfl,if_pos rfl]at qk
 have tT:=Ob n k
 have nL:nx n k<4:=by have :=lU (n:=n) (k:=k) hn.1;omega
 have afb:mY H eF=nx n k:=by
  unfold mY
  rw[qk]
  dsimp only
  rw[if_neg ae,<-tT,aA]
 have hm:fk H eF pri xS=⟨H.next *4+H.id,pri,xS,eV,((nx n k:Nat):Int)⟩:=by
  unfold fk
  rw[qk]
  dsimp only
  rw[if_neg ae,tT]
 have kN:=gu hB hu
 generalize hx:H.eP u=x at kN
 have e1:fl H u eF pri xS=cQ {H.fj (nx n k) (db (H.dY (nx n k)) (fk H eF pri xS) u)with next:=H.next+1} u ⟨x.aM++[(fk H eF pri xS,(jU H eF).2.1)],x.bu⟩:=by
  unfold fl
  rw[if_pos he]
  unfold pM
  rw[if_pos Br,aA,hx,afb]
 rw[e1,hm]
 generalize hM:(⟨H.next *4+H.id,pri,xS,eV,((nx n k:Nat):Int)⟩:Ms)=mm
 generalize p6:cQ {H.fj (nx n k) (db (H.dY (nx n k)) mm u)with next:=H.next+1} u ⟨x.aM++[(mm,(jU H eF).2.1)],x.bu⟩=H'
 have ea:H'.all=H.all.set (nx n k) (db (H.dY (nx n k)) mm u):=by
  rw[<-AZ hB.ways,<-p6];rfl
 have hj:nx n k<H.all.length:=by rw[g_ hB.ways];omega
 have h4':H'.ways.length=4:=by rw[<-p6];exact(B1 _ _).trans hB.ways
 have rY:(hv H').Perm (⟨nx n k,mm,(u:Int),-1⟩::hv H):=by
  unfold hv
  rw[ea]
  have :=uh mm u (vu hj)
  rw[show max (u:Int) (-1)=u by omega]at this
  exact this
 refine⟨o.ls.set ea hj ((o.ls _).push mm u).1,o.Sy,fun j=>?_,fun e fQ=>?_,fun j h1 h2=>?_,fun e fQ h5=>?_,?_,fun y hy=>?_,fun d hd=>?_⟩
 ·rw[p_ ea hj]
  split
  ·rename_i e;rw[e,IB (o.ls _) mm ae];exact o.kq _
  ·exact o.kq j
 ·rcases aF.1 (rY.mem_iff.1 fQ)with rfl|Nf
  ·dsimp only;decide
  ·exact o.iS e Nf
 ·rw[RB hB.ways h4' ea hj h1 h2];exact o.wo j h1 h2
 ·rcases aF.1 (rY.mem_iff.1 fQ)with rfl|Nf
  ·dsimp only at h5;omega
  ·exact o.SF e Nf h5
 ·rw[<-p6];exact(uw _ _).trans o.ks
 ·have gY:H'.aB=H.aB.set u ⟨x.aM++[(mm,(jU H eF).2.1)],x.bu⟩:=by rw[<-p6];unfold cQ;dsimp only;rw[gy]
  rw[gY]at hy
  rcases a_ hy with h1|rfl
  ·exact o.un y h1
  ·obtain⟨a,b⟩:=o.un x (ax kN)
   refine⟨a,fun p ku=>?_⟩
   rcases aN.1 ku with h3|h3
   ·exact b p h3
   ·simp at h3;subst h3
    rw[<-hM]
    exact⟨rfl,rfl,hp⟩
 ·have :H'.bW=H.bW:=by rw[<-p6];exact oI _ _
  unfold bD;rw[this];exact o.so d hd
theorem HO.back(o:HO n k H H0)(hB:cK m H){u:Nat}(he:Bz H u=0):HO n k (ou H u) H0:=by
 have e1:ou H u=cQ (cE H u) u cC:=by unfold ou;rw[if_pos he,aA]
 rw[e1]
 have ea:(cQ (cE H u) u cC).all=(cE H u).all:=rfl
 have rY:hv (cQ (cE H u) u cC)=((hv H).filter fun e=> !decide (e.put=(u:Int))).map (fN u):=u6 H ae
 refine⟨fun j=>by rw[vx ea];exact KH o.ls _ j,o.Sy,fun j=>by rw[vx ea,CO ae];exact o.kq j,fun e fQ=>?_,fun j h1 h2=>?_,fun e fQ h5=>?_,?_,fun y hy=>?_,o.so⟩
 ·rw[rY]at fQ
  obtain⟨e',h1,rfl⟩:=ay.1 fQ
  have :=o.iS e' (aC.1 h1).1
  unfold fN;dsimp only;split<;>omega
 ·show((cE H u).dy j).l=[]
  unfold cE Ho.dy
  dsimp only
  rw[aq,aG]
  have h3:=o.wo j h1 h2
  unfold Ho.dy at h3
  rw[aq]at h3
  cases hj:H.ways[j]? with
  |none=>rfl
  |some q=>
   rw[hj]at h3
   have h3:q.l=[]:=h3
   show(eK q u true).l=[]
   unfold eK
   split
   ·exact h3
   ·dsimp only;rw[h3];rfl
 ·rw[rY]at fQ
  obtain⟨e',h1,rfl⟩:=ay.1 fQ
  have :=o.SF e' (aC.1 h1).1 h5
  unfold fN;dsimp only;split<;>omega
 ·rw[<-o.ks];unfold cb cQ cE;simp
 ·have hy:y∈H.aB.set u cC:=hy
  rcases a_ hy with h1|rfl
  ·exact o.un y h1
  ·exact⟨rfl,fun p hp=>by cases hp⟩
theorem HO.kO(o:HO n k H H0)(h:HI k H D H0)(hb:lf c kb k (H,D))(lV:k<4)(hK:kb<=1000000000000)(hc:c<=250)(hn:2<=n/\n<=4)(hk:k<n){u:Nat}(hu:u<5)(he:vj H D u=0):
 HO n k (la H D u) (bK (k:Int) (od H D u))/\(∀j,aW ((bK (k:Int) (od H D u)).dY j)=if j=nx n k then((H.eP u).aM.map (·.1)).foldl nn (aW (H0.dY j))else aW (H0.dY j)):=by
 obtain⟨h1,h2⟩:=r8 he
 have hB:=hb.B
 have qQ:=(h.B0 hb lV hK).1
 have kN:=gu hB hu
 have gY:=kQ (H:=H) (D:=D) (u:Int)
 rw[if_pos he,aA]at gY
 unfold od
 unfold la at gY ⊢
 rw[if_neg (show ¬kP H (u:Int)≠0 by simpa using h1),if_neg (show ¬c7 H D≠0 by simpa using h2),aA]at gY
 rw[if_neg (show ¬kP H (u:Int)≠0 by simpa using h1),if_neg (show ¬c7 H D≠0 by simpa using h2),if_neg (show ¬kP H (u:Int)≠0 by simpa using h1),aA]
 dsimp only at kN hB
 generalize hx:H.eP u=x at kN gY ⊢
 obtain⟨Aj,U2⟩:=hb.aB x (ax kN)
 have S2:=sU Aj
 obtain⟨eL,-,-,-⟩:=dA h2 (oK x)
 rw[eL]at gY ⊢
 have ui:=h.unit u x kN
 obtain⟨og,op⟩:=o.un x (ax kN)
 have hid:H0.id=H.id:=by rw[h.OM,h.hid]
 have gN:=xO hn hk
 have eZ:∀G:Ho,cK (300+c+250*G.used) G->(∀p∈x.aM,bT p.1=true/\(p.1.cq=G.id->∃i,G.qI p.1.queue=some i))->eZ G (qu x)=((ef G (x.aM.map (·.1))).1,true):=fun G hG hp=>by
  obtain⟨G1,e1,-⟩:=rO (x.aM.map (·.1)) hG fun m hm=>by
   obtain⟨p,Cq,rfl⟩:=ay.1 hm
   exact hp p Cq
  unfold WB.eZ
  have S5:=Aj.read
  rw[Aj.cut]at S5 ⊢
  dsimp only at S5 ⊢
  rw[if_neg aj,S5]
  dsimp only
  rw[e1]
  dsimp only
  rw[if_neg aj,og]
  rfl
 have IZ:∀p∈x.aM,p.1.cq≠(k:Int):=fun p hp=>by
  rw[(op p hp).1]
  exact fun e=>gN ae
 have h_:cK (300+c+250*(H.used+1)) (cQ (cE {H with used:=H.used+1} u) u cC):=by
  have :=hB.log (D:=D)
  rw[eL]at this
  exact((this.cE _).cQ _ _).le ae
 have c1:∀p∈x.aM,bT p.1=true/\(p.1.cq=(cQ (cE {H with used:=H.used+1} u) u cC).id->∃i,(cQ (cE {H with used:=H.used+1} u) u cC).qI p.1.queue=some i):=fun p hp=>⟨Aj.aM p hp,fun e=>absurd (e.trans h.hid) (IZ p hp)⟩
 have c0:∀p∈x.aM,bT p.1=true/\(p.1.cq=H0.id->∃i,H0.qI p.1.queue=some i):=fun p hp=>⟨Aj.aM p hp,fun e=>absurd (e.trans h.OM) (IZ p hp)⟩
 have eh1:=eZ (cQ (cE {H with used:=H.used+1} u) u cC) h_ c1
 have eh0:=eZ H0 qQ c0
 rw[eh1]at gY ⊢
 dsimp only at gY ⊢
 have ep:∀j,(cQ (cE {H with used:=H.used+1} u) u cC).dY j=(cE {H with used:=H.used+1} u).dY j:=fun j=>rfl
 have eq2:∀j,({H with used:=H.used+1}:Ho).dY j=H.dY j:=fun j=>rfl
 have eq3:∀j,({(ef H0 (x.aM.map (·.1))).1 with used:=H0.used+1}:Ho).dY j=(ef H0 (x.aM.map (·.1))).1.dY j:=fun j=>rfl
 have aga:LA (cQ (cE {H with used:=H.used+1} u) u cC):=fun j=>by
  rw[ep]
  exact KH (H:={H with used:=H.used+1}) (fun j=>by rw[eq2];exact o.ls j) u j
 have k9:∀j,aW ((cQ (cE {H with used:=H.used+1} u) u cC).dY j)=aW (H.dY j):=fun j=>by
  rw[ep,CO ae,eq2]
 have O3:∀m∈x.aM.map (·.1),bT m=true/\(m.cq=(cQ (cE {H with used:=H.used+1} u) u cC).id->∃i,(cQ (cE {H with used:=H.used+1} u) u cC).qI m.queue=some i):=fun m hm=>by
  obtain⟨p,hp,rfl⟩:=ay.1 hm;exact c1 p hp
 have hm0:∀m∈x.aM.map (·.1),bT m=true/\(m.cq=H0.id->∃i,H0.qI m.queue=some i):=fun m hm=>by
  obtain⟨p,hp,rfl⟩:=ay.1 hm;exact c0 p hp
 obtain⟨l1,q1⟩:=wh (x.aM.map (·.1)) h_ O3 aga
 obtain⟨l0,q0⟩:=wh (x.aM.map (·.1)) qQ hm0 o.Sy
 have hj:∀(G:Ho),G.id=(k:Int)->∀m∈x.aM.map (·.1),nG G m=nx n k:=fun G hG m hm=>by
  obtain⟨p,hp,rfl⟩:=ay.1 hm
  unfold nG
  rw[if_pos (by rw[hG];exact IZ p hp),(op p hp).1,aA]
 have Pb:∀(G:Ho),G.id=(k:Int)->∀j,((x.aM.map (·.1)).filter fun m=>decide (nG G m=j))=if j=nx n k then x.aM.map (·.1)else[]:=fun G hG j=>by
  split
  ·rename_i e
   rw[aT]
   intro m hm
   rw[hj G hG m hm,e];simp
  ·rename_i e
   rw[List.filter_eq_nil_iff]
   intro m hm
   rw[hj G hG m hm]
   simp;exact fun e2=>e e2.symm
 have hop:bK (k:Int) (gU H D (oK x))={(ef H0 (x.aM.map (·.1))).1 with used:=H0.used+1}:=h.yV h2 S2 (y_ Aj) (Aj.VZ ae) (by rw[xW];exact eh0)
 rw[hop]
 have abd:(cQ (cE {H with used:=H.used+1} u) u cC).id=(k:Int):=h.hid
 have q0':∀j,aW ((({(ef H0 (x.aM.map (·.1))).1 with used:=H0.used+1}:Ho)).dY j)=if j=nx n k then(x.aM.map (·.1)).foldl nn (aW (H0.dY j))else aW (H0.dY j):=fun j=>by
  rw[eq3,q0 j,Pb H0 h.OM]
  split<;>rfl
 obtain⟨G1,eg1,pg1,kg1,-,sg1,-⟩:=rO (x.aM.map (·.1)) h_ O3
 have eG:(ef (cQ (cE {H with used:=H.used+1} u) u cC) (x.aM.map (·.1))).1=G1:=by rw[eg1]
 have Me:hv (cQ (cE {H with used:=H.used+1} u) u cC)=((hv H).filter fun e=> !decide (e.put=(u:Int))).map (fN u):=u6 {H with used:=H.used+1} ae
 have kA:∀e∈hv G1,(e.j=nx n k/\e.put= -1/\e.iS= -1)\/∃e'∈hv H,e=fN u e':=fun e fQ=>by
  rcases aN.1 (pg1.mem_iff.1 fQ)with h3|h3
  ·obtain⟨m,hm,rfl⟩:=ay.1 h3
   exact .inl ⟨hj _ abd m hm,rfl,rfl⟩
  ·rw[Me]at h3
   obtain⟨e',h4,rfl⟩:=ay.1 h3
   exact .inr ⟨e',(aC.1 h4).1,rfl⟩
 have tV:=h_.aM (x.aM.map (·.1)) fun m hm=>(O3 m hm).1
 refine⟨⟨l1,fun j=>by rw[eq3];exact l0 j,fun j=>?_,fun e fQ=>?_,fun j h3 h4=>?_,fun e fQ h5=>?_,?_,fun y hy=>?_,fun d hd=>?_⟩,q0'⟩
 ·rw[q0' j,q1 j,Pb _ abd,k9,o.kq j]
  split<;>rfl
 ·rw[eG]at fQ
  rcases kA e fQ with⟨-,-,h3⟩|⟨e',h3,rfl⟩
  ·omega
  ·have :=o.iS e' h3
   unfold fN;dsimp only;split<;>omega
 ·cases hl:((ef (cQ (cE {H with used:=H.used+1} u) u cC) (x.aM.map (·.1))).1.dy j).l with
  |nil=>rfl
  |cons a r=>
   rw[eG]at hl tV
   have ha:gE j a∈hv G1:=fH.2 ⟨G1.dy j,iH tV.ways h3,a,by rw[hl];simp,rfl⟩
   rcases kA _ ha with⟨h5,-⟩|⟨e',h5,h6⟩
   ·exact absurd h5 h4
   ·exfalso
    obtain⟨q,h7,z,h8,h9⟩:=fH.1 h5
    have hej:e'.j=j:=by
     have :=congrArg En.j h6
     exact this.symm
    rw[hej,iH hB.ways h3]at h7
    simp only[az]at h7
    rw[<-h7,o.wo j h3 h4]at h8
    cases h8
 ·rw[eG]at fQ
  rcases kA e fQ with⟨-,h3,-⟩|⟨e',h3,rfl⟩
  ·omega
  ·have :=o.SF e' h3 h5
   unfold fN;dsimp only;split<;>omega
 ·rw[eG,kg1,<-o.ks];unfold cb cQ cE;simp
 ·rw[gY]at hy
  rcases a_ hy with h3|rfl
  ·exact o.un y h3
  ·exact⟨rfl,fun p hp=>by cases hp⟩
 ·rw[eG]
  unfold bD
  rw[sg1.bW]
  exact o.so d hd
end
section
variable {c kb k n m:Nat} {H H0:Ho} {D:Dk}
theorem zn{H:Ho}(h4:cK m H)(hg:∀e∈hv H,e.iS<0){j:Nat}(hj:j<4):dF (H.dy j)=aW (H.dy j):=by
 unfold dF aW
 congr 1
 apply List.filter_congr
 intro e he
 have :=hg (gE j e) (fH.2 ⟨H.dy j,iH h4.ways hj,e,he,rfl⟩)
 unfold f_
 have h2:e.iS<0:=this
 simp[h2]
theorem Nu(o:HO n k H H0)(hB:cK m H){j:Nat}(hj:j<4):cP H j=((aW (H0.dY j)).take 3).map (·.id):=by
 unfold cP
 rw[zn hB o.iS hj,<-kB hB.ways hj,o.kq j]
theorem HO.made(o:HO n k H H0)(h:HI k H D H0)(hb:lf c kb k (H,D))(hn:2<=n/\n<=4){a:Int}(hN:dQ H a=true)(he:c7 H D=0):
 a.toNat=nx n k/\HO n k (gR H D a) (bK (k:Int) (lF H D a))/\(∀j,aW ((bK (k:Int) (lF H D a)).dY j)=aW (H0.dY j)):=by
 obtain⟨h1,-,h3,h4⟩:=fh hN
 have hr:=bM.1 h1
 have hB:=hb.B
 dsimp only at hB
 have hj:a.toNat<4:=by omega
 have aaW:a.toNat=nx n k:=by
  refine Decidable.byContradiction fun e=>h4 ?_
  unfold dF
  rw[o.wo a.toNat hj e];rfl
 have gN:cP H a.toNat≠[]:=by
  unfold cP
  intro h5
  rw[List.map_eq_nil_iff,List.take_eq_nil_iff]at h5
  rcases h5 with h5|h5
  ·cases h5
  ·exact h4 h5
 have hint:∀i∈cP H a.toNat,oR i:=fun i hi=>by
  unfold cP at hi
  obtain⟨m,hm,rfl⟩:=ay.1 hi
  have h5:=List.mem_of_mem_take hm
  unfold dF at h5
  obtain⟨e,he,rfl⟩:=ay.1 h5
  have :=(hB.w hj).ids e (aC.1 he).1
  exact⟨by omega,by omega⟩
 have hlen:(cP H a.toNat).length<=3:=by unfold cP;simp;omega
 have dK:(iU a (cP H a.toNat)).size<=700000:=by
  have :=(lp (k:=a) ⟨hr.1,hr.2.1⟩ hlen hint).size;omega
 have jg:fO 250 (iU a (cP H a.toNat)):=(lp (k:=a) ⟨hr.1,hr.2.1⟩ hlen hint).mono ae
 have e0:H0.id=H.id:=by rw[h.OM,h.hid]
 obtain⟨eL,-,-,-⟩:=dA he (iU a (cP H a.toNat))
 unfold gR lF
 rw[if_pos hN,if_pos hN]
 unfold lM
 rw[if_pos he,eL]
 obtain⟨i,r,Q9⟩:=List.exists_cons_of_ne_nil gN
 have p1:ck {H with used:=H.used+1} (iU a (cP H a.toNat))=({H with used:=H.used+1,batch:=H.batch.set a.toNat (cP H a.toNat),bW:=H.bW.set a.toNat (bD H a.toNat+1)},true):=by
  rw[Q9]
  exact n_ (H:={H with used:=H.used+1}) h1 Y43
 have p0:ck H0 (iU a (cP H a.toNat))=({H0 with batch:=H0.batch.set a.toNat (cP H a.toNat),bW:=H0.bW.set a.toNat (bD H0 a.toNat+1)},true):=by
  rw[Q9]
  exact n_ (H:=H0) ZN Y43
 rw[p1,h.yV he dK (D6 _ _) jg p0]
 dsimp only
 refine⟨aaW,⟨fun j=>o.ls j,fun j=>o.Sy j,fun j=>o.kq j,o.iS,o.wo,o.SF,o.ks,o.un,fun d hd=>?_⟩,fun j=>rfl⟩
 unfold bD
 rw[show({H with used:=H.used+1,batch:=H.batch.set a.toNat (cP H a.toNat),bW:=H.bW.set a.toNat (H.bW.getD a.toNat 0+1)}:Ho).bW=H.bW.set a.toNat (H.bW.getD a.toNat 0+1)from rfl,dx (by rw[hB.bW];exact hj),if_neg (by rw[aaW];exact hd)]
 exact o.so d hd
theorem HO.known(o:HO n k H H0)(h:HI k H D H0)(hb:lf c kb k (H,D))(hk:k<4)(hK:kb<=1000000000000){a num:Int}(hp:iT H a num=0)(he:c7 H D=0):
 HO n k (r9 H D a num) (bK (k:Int) (AT H D a num))/\(∀j,aW ((bK (k:Int) (AT H D a num)).dY j)=if j=a.toNat then(aW (H0.dY j)).filter (fun m=> !decide (m.id∈bm H0 a.toNat))else aW (H0.dY j)):=by
 obtain⟨h1,-,h3,h4⟩:=nz hp
 have hr:=bM.1 h1
 have hB:=hb.B
 dsimp only at hB
 have qQ:=(h.B0 hb hk hK).1
 have hj:a.toNat<4:=by omega
 have e0:H0.id=H.id:=by rw[h.OM,h.hid]
 have Zv:bm H0 a.toNat=bm H a.toNat:=by unfold bm;rw[h.bt]
 obtain⟨eL,-,-,-⟩:=dA he (qW a)
 have jg:fO 250 (qW a):=(uB (k:=a) ⟨hr.1,hr.2.1⟩).mono ae
 have dK:(qW a).size<=700000:=by have :=jg.size;omega
 have qm:∀e∈hv H,eO e∈bm H a.toNat->e.put<0:=fun e he hm=>by
  obtain⟨y,hy,a1,a2⟩:=h.bin _ _ hm
  obtain⟨e',Xe,rfl⟩:=ay.1 hy
  obtain⟨b1,b2⟩:=aC.1 Xe
  have :e=e':=gQ h.oy he b1 a2.symm
  rw[this]
  unfold iW at b2;simpa using b2
 unfold r9 AT
 rw[if_neg (show ¬iT H a num≠0 by simpa using hp),if_neg (show ¬iT H a num≠0 by simpa using hp)]
 unfold lM
 rw[if_pos he,eL,me (H:={H with used:=H.used+1}) h1]
 have q0:=me (H:=H0) (k:=a) ZN
 rw[h.yV he dK (K1 _) jg q0]
 dsimp only
 obtain⟨l1,k1⟩:=z_ hB o.ls h.oy hj qm
 obtain⟨l0,k0⟩:=z_ qQ o.Sy h.OL hj (b:=bm H0 a.toNat) fun e he _=>by rw[(h.nu e he).1];decide
 have v1:=km (H:=H) (j:=a.toNat) (by rw[hB.ways];exact hj) (cN (H.dy a.toNat) (bm H a.toNat))
 have F2:∀e∈hv (H.gK a.toNat (cN (H.dy a.toNat) (bm H a.toNat))),e∈hv H:=fun e he=>by
  unfold hv at he ⊢
  rw[v1]at he
  obtain⟨q,a1,z,a2,a3⟩:=fH.1 he
  rw[List.getElem?_set]at a1
  split at a1
  ·rename_i ej
   split at a1
   ·simp only[az]at a1
    rw[<-a1]at a2
    exact fH.2 ⟨H.dy a.toNat,by rw[<-ej];exact iH hB.ways hj,z,pL _ _ a2,a3⟩
   ·cases a1
  ·exact fH.2 ⟨q,a1,z,a2,a3⟩
 refine⟨⟨fun j=>l1 j,fun j=>l0 j,fun j=>?_,fun e he=>o.iS e (F2 e he),fun j g1 g2=>?_,fun e he=>o.SF e (F2 e he),o.ks,o.un,o.so⟩,fun j=>k0 j⟩
 ·refine(k1 j).trans (Eq.trans ?_ (k0 j).symm)
  rw[o.kq j,Zv]
 ·show((H.gK a.toNat (cN (H.dy a.toNat) (bm H a.toNat))).dy j).l=[]
  have h5:(H.gK a.toNat (cN (H.dy a.toNat) (bm H a.toNat))).dy j=if j=a.toNat then cN (H.dy a.toNat) (bm H a.toNat)else H.dy j:=by
   rw[<-kB (H:=H.gK a.toNat (cN (H.dy a.toNat) (bm H a.toNat))) (by simp[Ho.gK,hB.ways]) g1,p_ v1 (by rw[g_ hB.ways];omega),kB hB.ways g1]
  rw[h5]
  split
  ·rename_i e
   rw[<-e]
   cases hl:(cN (H.dy j) (bm H j)).l with
   |nil=>rfl
   |cons z r=>
    have :=pL (e:=z) (bm H j) (H.dy j) JK
    rw[o.wo j g1 g2]at this;cases this
  ·exact o.wo j g1 g2
theorem GX{i:Nat}(hq:H.qI eV=some i)(hl:fq H.names eV=true):∀(l:List Ms) (r:List (ak×Int)) (c:Nat),J1 r eV=(c:Int)->(H.ec i).l.length+c+l.length<=20->(∀m∈l,m.queue=eV)->dq H l r=l.map fun _=>eV
 |[],_,_,_,_,_=>rfl
 |m::l,r,c,hr,hlen,hm=>by
  have hmq:=hm m aj
  have hd:toDead H m r=false:=by
   unfold toDead
   rw[hmq,hq]
   dsimp only
   rw[hl,hr]
   simp only[List.length_cons]at hlen
   have :¬(20<=((H.ec i).l.length:Int)+(c:Int)):=by omega
   simp[this]
  unfold dq
  rw[hd,if_neg aj,hmq,GX hq hl l _ (c+1) (by rw[J0,if_pos rfl,hr];push_cast;rfl) (by simp only[List.length_cons]at hlen;omega) fun m' tt=>hm m' (by simp[tt])]
  rfl
theorem FW{k n:Nat}(hk:k<n)(hn:2<=n/\n<=4)(ob:H.names=Sr k n):fq H.names eV=true:=by
 rw[ob]
 have lV:k=0\/k=1\/k=2\/k=3:=by omega
 have gO:n=2\/n=3\/n=4:=by omega
 rcases gO with rfl|rfl|rfl<;>rcases lV with rfl|rfl|rfl|rfl<;>first|(exact absurd hk ai)|decide+kernel
theorem Wr(o:HO n k H H0):H.qI eV=some 1:=by
 rw[pN]
 have :=o.ks
 unfold cb at this
 rw[this]
 decide+kernel
theorem Ws(o:HO n k H H0)(hB:cK m H):(H.ec 1).l.length=(aW (H.dY 5)).length:=by
 have dS:=(ik (Wr o)).1
 rw[show 5=4+1 from rfl,GY hB.ways dS]
 unfold aW
 rw[bj,aT.2]
 intro e he
 have :e.put<0:=o.SF (gE 5 e) (fH.2 ⟨H.ec 1,lI hB.ways dS,e,he,rfl⟩) (show 4<=5 by decide)
 simpa using this
theorem HO.yw(o:HO n k H H0)(h:HI k H D H0)(hb:lf c kb k (H,D))(lV:k<4)(hK:kb<=1000000000000)(hn:2<=n/\n<=4)(hk:k<n)(ob:H.names=Sr k n){a num:Int}{l:List Ms}(hl:l.length<=250)(hw:xg H a num l=true)(he:c7 H D=0)(hq:∀m∈l,m.queue=eV)(jE:(aW (H0.dY 5)).length+l.length<=20):
 HO n k (lb H D a num l) (bK (k:Int) (oe H D a num l))/\(∀j,aW ((bK (k:Int) (oe H D a num l)).dY j)=if j=5 then l.foldl nn (aW (H0.dY j))else aW (H0.dY j)):=by
 obtain⟨h1,-,h3,h4,h5,h6⟩:=mR hw
 have hr:=bM.1 h1
 have hB:=hb.B
 dsimp only at hB
 have qQ:=(h.B0 hb lV hK).1
 have hj:a.toNat<4:=by omega
 have e0:H0.id=H.id:=by rw[h.OM,h.hid]
 have Q7:=dG h4
 have F0:=kS (H:=H) Q7 []
 have IN:=kT H l []
 have yY:=Wr o
 have Xf:dq H l []=l.map fun _=>eV:=GX yY (FW hk hn ob) l [] 0 rfl (by rw[Ws o hB,o.kq 5];omega) hq
 obtain⟨eL,-,-,-⟩:=dA he (nA H a l)
 obtain⟨jg,dK⟩:=uA (k:=a) ⟨hr.1,hr.2.1⟩ h4 hl F0 IN
 have Br:H0.qI eV=some 1:=by rw[cG h.keys];exact yY
 have hz:∀(G:Ho),G.qI eV=some 1->∀x∈l.zip (dq H l []),((0<=x.1.pri/\x.1.pri<=9)/\0<=x.1.id/\x.1.id<=1099511627776)/\∃i,G.qI x.2=some i:=fun G hG x hx=>by
  obtain⟨x1,x2⟩:=x
  have h7:=List.of_mem_zip hx
  obtain⟨m1,m2,m3,m4,-⟩:=bV (Q7 _ h7.1)
  have h8:=h7.2
  rw[Xf]at h8
  obtain⟨_,-,rfl⟩:=ay.1 h8
  exact⟨⟨⟨m3,m4⟩,m1,m2⟩,1,hG⟩
 have Zr:cK (300+c+250*H.used) {H with used:=H.used+1}:=by
  have :=hB.log (D:=D)
  rw[eL]at this;exact this
 obtain⟨H2,e2,p2,-,-,-,s2,-⟩:=mP (l.zip (dq H l [])) Zr (hz _ yY)
 obtain⟨H3,e3,-,-,-,-,-,-⟩:=mP (l.zip (dq H l [])) qQ (hz _ Br)
 obtain⟨l2,k2⟩:=tB (l.zip (dq H l [])) Zr (hz _ yY) (fun j=>o.ls j)
 obtain⟨l3,k3⟩:=tB (l.zip (dq H l [])) qQ (hz _ Br) o.Sy
 rw[e2]at l2 k2
 rw[e3]at l3 k3
 dsimp only at l2 k2 l3 k3
 have Pb:∀(G:Ho),G.qI eV=some 1->∀j,((l.zip (dq H l [])).filter fun x=>decide (4+(G.qI x.2).getD 0=j)).map (·.1)=if j=5 then l else[]:=fun G hG j=>by
  rw[Xf]
  have afC:(l.zip (l.map fun _=>eV)).map (·.1)=l:=List.map_fst_zip aj
  have fw:∀x∈l.zip (l.map fun _=>eV),4+(G.qI x.2).getD 0=5:=fun x hx=>by
   obtain⟨x1,x2⟩:=x
   obtain⟨_,-,rfl⟩:=ay.1 (List.of_mem_zip hx).2
   rw[hG];rfl
  split
  ·rename_i e
   rw[aT.2,afC]
   intro x hx
   rw[fw x hx,e];rfl
  ·rename_i e
   rw[List.filter_eq_nil_iff.2]
   ·rfl
   ·intro x hx
    rw[fw x hx]
    simp;exact fun e2=>e e2.symm
 have q0:ck H0 (nA H a l)=({H3 with aK:=H0.aK.set a.toNat (bY H0 a.toNat+1)},true):=oa ZN h4 F0 IN e3
 have q1:ck {H with used:=H.used+1} (nA H a l)=({H2 with aK:=H.aK.set a.toNat (bY H a.toNat+1)},true):=oa (H:={H with used:=H.used+1}) h1 h4 F0 IN e2
 unfold lb oe
 rw[if_pos hw,if_pos hw]
 unfold lM
 rw[if_pos he,eL,q1,h.yV (s:=nA H a l) he (Nat.le_trans dK ai) (K0 _ Q7 F0) jg q0]
 dsimp only
 have W8:∀j,aW (H3.dY j)=if j=5 then l.foldl nn (aW (H0.dY j))else aW (H0.dY j):=fun j=>by
  rw[k3 j,Pb _ Br];split<;>rfl
 have kA:∀e∈hv H2,(e.j=5/\e.put= -1/\e.iS= -1)\/e∈hv H:=fun e he=>by
  rcases aN.1 (p2.mem_iff.1 he)with g1|g1
  ·obtain⟨x,hx,rfl⟩:=ay.1 g1
   left
   refine⟨?_,rfl,rfl⟩
   rw[Xf]at hx
   obtain⟨x1,x2⟩:=x
   obtain⟨_,-,rfl⟩:=ay.1 (List.of_mem_zip hx).2
   show 4+(H.qI eV).getD 0=5
   rw[yY];rfl
  ·exact .inr g1
 have tV:cK (300+c+250*H.used+(l.zip (dq H l [])).length) H2:=by
  have :=Zr.comes (l.zip (dq H l [])) fun x hx=>(hz _ yY x hx).1
  rw[e2]at this
  exact this
 refine⟨⟨fun j=>l2 j,fun j=>l3 j,fun j=>?_,fun e he=>?_,fun j g1 g2=>?_,fun e he g5=>?_,?_,fun y hy=>?_,fun d hd=>?_⟩,fun j=>W8 j⟩
 ·refine(k2 j).trans (Eq.trans ?_ (W8 j).symm)
  rw[show(((l.zip (dq H l [])).filter fun x=>decide (4+(({H with used:=H.used+1}:Ho).qI x.2).getD 0=j)).map (·.1))=if j=5 then l else[]from Pb _ yY j]
  have h8:aW (({H with used:=H.used+1}:Ho).dY j)=aW (H0.dY j):=o.kq j
  rw[h8]
  split<;>rfl
 ·rcases kA e he with g1|g1
  ·omega
  ·exact o.iS e g1
 ·cases EC:(H2.dy j).l with
  |nil=>exact EC
  |cons z r=>
   have ha:gE j z∈hv H2:=fH.2 ⟨H2.dy j,iH tV.ways g1,z,by rw[EC];simp,rfl⟩
   rcases kA _ ha with g3|g3
   ·have :j=5:=g3.1
    omega
   ·exfalso
    obtain⟨q,h7,z',h8,h9⟩:=fH.1 g3
    rw[show(gE j z).j=j from rfl,iH hB.ways g1]at h7
    simp only[az]at h7
    rw[<-h7,o.wo j g1 g2]at h8
    cases h8
 ·rcases kA e he with g1|g1
  ·omega
  ·exact o.SF e g1 g5
 ·rw[<-o.ks]
  have :=mP (l.zip (dq H l [])) Zr (hz _ yY)
  obtain⟨H4,e4,-,k4,-⟩:=this
  rw[e2]at e4
  have :H2=H4:=(Prod.mk.inj e4).1
  rw[this];exact k4
 ·have hy:y∈H2.aB:=hy
  rw[s2.aB]at hy
  exact o.un y hy
 ·show bD H2 d=0
  unfold bD
  rw[s2.bW]
  exact o.so d hd
theorem HO.FJ(o:HO n k H H0){a:Int}(hN:dQ H a=false\/c7 H D≠0):HO n k (gR H D a) H0:=by
 unfold gR
 split
 ·rename_i h1
  have hN:c7 H D≠0:=by
   rcases hN with h|h
   ·rw[h]at h1;cases h1
   ·exact h
  unfold lM
  rw[if_neg hN]
  exact o.log D
 ·exact o
theorem HO.DE(o:HO n k H H0){a num:Int}(hp:iT H a num≠0\/c7 H D≠0):HO n k (r9 H D a num) H0:=by
 unfold r9
 by_cases h1:iT H a num≠0
 ·rw[if_pos h1];exact o
 ·rw[if_neg h1]
  unfold lM
  rw[if_neg (hp.resolve_left h1)]
  exact o.log D
theorem HO.KX(o:HO n k H H0){a num:Int}{l:List Ms}(hp:xg H a num l=false\/c7 H D≠0):HO n k (lb H D a num l) H0:=by
 unfold lb
 split
 ·rename_i h1
  have hN:c7 H D≠0:=by
   rcases hp with h|h
   ·rw[h]at h1;cases h1
   ·exact h
  unfold lM
  rw[if_neg hN]
  exact o.log D
 ·exact o
theorem HO.mo(o:HO n k H H0){u:Int}(he:vj H D u≠0):HO n k (la H D u) H0:=by
 unfold vj at he
 unfold la
 by_cases h1:kP H u≠0
 ·rw[if_pos h1];exact o
 ·rw[if_neg h1]at he ⊢
  rw[if_pos he]
  exact o.log D
end
end WB
