import Derived.Test.YtjhogocabcdjbabGreatDoorB4
set_option linter.unusedSimpArgs false
set_option linter.unusedVariables false
set_option maxRecDepth 100000
set_option maxHeartbeats 8000000
namespace Go.Proofs.YtjhogocabcdjbabGreatDoor
open Tryz
open Go Go.RowKit WB
def nR:List Value:=List.replicate 14 (.slice none 0 0)++List.replicate 8 (.int .i64 0)
def nC (id:Int) (bd mb:Nat) (ps:List Nat):List Value:=
 [.int .i64 id,bN bd,.int .i64 0,.bool false,.int .i64 (-1),.int .i64 0,.slice none 0 0,.map (some mb)]++(ps.map bN++(List.replicate (4-ps.length) (.pointer none)++nR))
theorem OI{id:Int}{bd mb:Nat}{ps:List Nat}(p:Nat)(h:ps.length<4):(nC id bd mb ps).set (8+ps.length) (bN p)=nC id bd mb (ps++[p])/\(nC id bd mb ps).length=34:=by
 match ps,h with
 |[],_=>exact⟨rfl,rfl⟩
 |[a],_=>exact⟨rfl,rfl⟩
 |[a,b],_=>exact⟨rfl,rfl⟩
 |[a,b,c],_=>exact⟨rfl,rfl⟩
theorem SV{w0 w:World}{L:List HP}{id:Int}{bh bd mb p0:Nat}{ps:List Nat}(h4:ps.length=4)(h:St w0 (bA bh (.cells (nC id bd mb ps).toArray 133 (0,0))::bI jv ps (List.replicate 4 ⟨[],0⟩)::jv p0 ⟨[],0⟩::bP Value.string mb [(cr,bN p0)]::L) w):St w0 (dt bh bd (gx id)::L) w:=by
 have h1:=po (f:=jv) (ps:=ps) (xs:=List.replicate 4 ⟨[],0⟩) (p:=p0) (x:=⟨[],0⟩) (by simpa using h4) (h.all (M:=jv p0 ⟨[],0⟩::bI jv ps (List.replicate 4 ⟨[],0⟩)::bA bh (.cells (nC id bd mb ps).toArray 133 (0,0))::bP Value.string mb [(cr,bN p0)]::L) Y2);have h2:=rC (f:=cX) (p:=.slice none 0 0) (x:=[]) (fun L h=>cw (E:=142) (sz:=6) (cf:=D5) h) 5 h1;have h3:=rC (f:=cV) (p:=.slice none 0 0) (x:=[]) (fun L h=>cw (E:=146) (sz:=2) (cf:=Ex) h) 5 h2;have h5:=rC (f:=dU) (p:=.slice none 0 0) (x:=[]) (fun L h=>Kv h) 4 h3;have h6:=cw (E:=75) (sz:=3) (cf:=Nm.cells) h5;refine bM ⟨.slice none 0 0,mb,ps++[p0],List.replicate 5 (.slice none 0 0,.slice none 0 0),List.replicate 4 (.slice none 0 0)⟩ ⟨by simp[gx,h4],rfl,rfl,rfl,rfl,rfl,rfl,rfl⟩ ?_
 match ps,h4 with
 |[a,b,c,d],_=>exact h6.all Y7
theorem K7(w0:World)(L:List HP)(bd:Nat)(id:Int)(D:Dk)(hT:ym w0)(hM:xg w0)(hid:0<=id/\id<4)(hD:E4 D):
 KC prog 11 #[.int .i64 id,bN bd] w0 (ga bd D::L) (fun u M=> ∃bh,u=.tuple #[bN bh,.nilIface]/\M=dt bh bd (ij id D)::ga bd D::L):=by
 have hlen:=hD.len;refine KC.mk (n:=79) func11 rfl ntmps11 ai ?_;refine iz ?_;refine Hd ?_;refine Qo ?_;refine Fb ?_;refine qV ?_;refine K.ct rfl Kf ?_;refine m_ ?_;refine KO.Ay rfl underlying25 rfl ?_;refine qV ?_;refine oI ?_;refine TJ ?_;refine gY ?_;refine KO.ZZ (Value.string) rfl rfl ?_;intro Zg;refine XZ ?_;refine KO.box rfl rfl aN rfl ?_;intro Xr;refine KO.ins dD cr rfl rfl rfl rfl underlying123 underlying9 aQ ?_;refine Z1 ?_;refine KO.AR (pl:=[(0,1),(1,1),(2,1),(3,1),(4,1),(5,1),(6,1),(7,1),(8,4),(12,10),(22,4),(26,4),(30,4)]) rfl zeroValue133 runUnderlying133 (by intro w;simp[sizeOf3,sizeOf4,sizeOf25,sizeOf94,sizeOf95,sizeOf123,sizeOf125,sizeOf126,sizeOf131]) aN rfl ?_;refine KO.box rfl rfl aN rfl ?_;intro Lw;refine jo ?_;refine QG ?_;refine K.loop (fun k:List Nat=>[(1,bN bd),(6,bN Lw),(30,.int .i64 (k.length:Nat))])
  (fun k=>bA Lw (.cells (nC id bd Zg k).toArray 133 (0,0))::bI jv k (List.replicate k.length ⟨[],0⟩)::jv Xr ⟨[],0⟩::bP Value.string Zg [(cr,bN Xr)]::ga bd D::L) (fun k=>k.length<=4) (fun k=>4-k.length) []
  ai ⟨rfl,rfl,rfl,trivial⟩ (fun w h=>?_) ?_
 ·have h1:=cw (E:=243) (sz:=8) (cf:=nV) h;have h2:St w0 (jv Xr ⟨[],0⟩::bA Lw (.cells (nC id bd Zg []).toArray 133 (0,0))::bP Value.string Zg [(cr,bN Xr)]::ga bd D::L) w:=kQ (h1.all Y7);exact(Lh (f:=jv) h2).all Y7
 rintro ps hk;refine lW ?_;refine K.bn rfl (fun h7=>?_) (fun h7=>?_)
 ·have qC:ps.length<4:=by omega
  refine sy ?_;refine xc ?_;refine XZ ?_;refine KO.box rfl rfl aN rfl ?_;intro Zf;refine QI ?_;refine KO.jd (i:=ps.length) rfl rfl runUnderlying126 sizeOf119 rfl ae rfl ?_;refine KO.fu (b:=Lw) (i:=8+ps.length) rfl rfl rfl aN (by exact sizeOf119) rfl aQ yY (by rw[(OI 0 qC).2];omega) ?_;rw[show Value.pointer (some ⟨Zf,0,none⟩)=bN Zf from rfl,(OI Zf qC).1];refine pE ?_;refine KQ.round (ps++[Zf]) ez ez ⟨rfl,rfl,by simp[cB],trivial⟩ (fun w h=>?_);have h1:=cw (E:=243) (sz:=8) (cf:=nV) h;have h2:St w0 (jv Zf ⟨[],0⟩::bI jv ps (List.replicate ps.length ⟨[],0⟩)::bA Lw (.cells (nC id bd Zg (ps++[Zf])).toArray 133 (0,0))::jv Xr ⟨[],0⟩::bP Value.string Zg [(cr,bN Xr)]::ga bd D::L) w:=kQ (h1.all Y7);have h3:=po ai h2;rw[aW,List.length_singleton,List.replicate_succ'];exact h3.all Y2
 have qC:ps.length=4:=by omega
 repeat(first|(with_reducible refine K.seq ?_)|(with_reducible refine KQ.next ?_)|(with_reducible refine KQ.iE ?_)|(with_reducible refine KQ.kj ?_)|(with_reducible refine K.exit ?_)|(with_reducible refine K.block ?_))
 refine K.conv (L':=dt Lw bd (gx id)::ga bd D::L) (fun w h=>SV qC (by rw[qC]at h;exact h)) ?_
 refine K.loop (fun p:Nat×Ho=>[(1,bN bd),(6,bN Lw)]) (fun p=>dt Lw bd p.2::ga bd D::L) (fun p=>p.1<=300/\p.2.used=p.1/\cx (10+250*p.1) p.2/\iM D (300-p.1) p.2=ij id D) (fun p=>300-p.1) (0,gx id)
  ⟨aH _,rfl,Jt hid,rfl⟩ ⟨rfl,rfl,trivial⟩ (fun _ h=>h) ?_
 rintro⟨j,H⟩ ⟨hj,S3,hB,hop⟩;dsimp only at hj S3 hB hop ⊢;have fin:∀w',St w0 (dt Lw bd (ij id D)::ga bd D::L) w'->∃v L',Ending.returned (.tuple #[bN Lw,.nilIface])=Ending.returned v/\(∃bh,v=.tuple #[bN bh,.nilIface]/\L'=dt bh bd (ij id D)::ga bd D::L)/\St w0 L' w':=fun w' aM=>⟨_,_,rfl,⟨Lw,rfl,rfl⟩,aM⟩
 refine K.bV (fun _ h=>cn (h.pick br)) ?_;rintro⟨V,hV⟩;dsimp only;refine m_ ?_;refine Np ?_;refine qo ?_;refine K.bn rfl (fun Ao=>?_) (fun Ao=>?_)
 ·have hj3:j<300:=by omega
  obtain⟨t,ht⟩:∃t,D.places[H.used]? =some t:=⟨_,ak ae⟩;have htz:=hD.size t (ax ht);have eM:=MY ht;have hg:D.places.getD H.used ⟨#[]⟩=t:=by rw[au,ht];rfl
  obtain⟨f,hf⟩:∃f,300-j=f+1:=⟨299-j,by omega⟩;rw[hf,iM,hg]at hop;refine Zh ?_;refine K.draw [.pure,.pure,.pure,.read,.pure,.pure,.pure,.pure,.read,.pure,.pure,.pure,.read,.ef,.pure,.pure,.pure,.pure,.pure] [0,1,2,3,4,5,6,7,8,9,10,11,12,13,14,15,16,17,18] bC bC ?_;refine Z1 ?_;refine Np ?_;refine gZ ?_;refine Np ?_;refine iD ?_;refine KO.fG (off:=0) rfl runUnderlying28 rfl rfl sizeOf26 rfl ?_;refine KO.jd (i:=H.used) rfl rfl runUnderlying26 sizeOf9 rfl ae rfl ?_;refine KO.bO (b:=bd) (cs:=Ez D) (i:=H.used) rfl rfl isAgg9 (.tail (.tail (.tail (.tail (.tail (.tail (.tail .head))))))) yY eM rfl ?_;refine KO.ce (cp:=[]) rfl rfl rfl call52 rfl (Oz w0 _ (H.used:Nat) t ⟨by omega,by omega⟩ htz hT hM) ?_;rintro v' L' ⟨rfl,rfl⟩;refine rJ ?_;refine K.conv (L':=dt Lw bd H::ga bd D::L) (fun w h=>bM V hV (h.all Nv)) ?_
  cases C4:gU (H.used:Nat) t with
  |none=>
   rw[C4]at hop
   replace hop:H=ij id D:=hop
   refine cW ?_;refine pC ?_;refine vJ ?_;refine EV ?_;refine Ym ?_;rw[hop];refine cW ?_;refine nP ?_;refine KQ.dG rfl rfl rfl (fun w' aM=>fin w' aM)
  |some s=>
   rw[C4]at hop;have hr:=hD.nT _ t s ht C4;have Bm:=(hB.KK hr ae).le (show 10+250*j+250<=10+250*(j+1)by omega);have MB:=gm H s;refine tZ ?_;refine Z1 ?_;refine KO.on rfl rfl rfl ?_;refine KO.cl (cp:=[]) rfl rfl rfl call53 rfl (KC.jN br (Gp w0 _ Lw bd (10+250*j) 250 H s hT hM hB hr ae)) ?_;rintro v' L' ⟨rfl,rfl⟩;refine pD ?_;refine ua ?_;cases so:(hplays H s).2 with
   |false=>
    simp only[so,if_true]at hop;refine xa ?_;refine Ym ?_;rw[hop];refine cW ?_;refine nP ?_;refine KQ.dG rfl rfl rfl (fun w' aM=>fin w' (aM.all Nv))
   |true=>
    simp only[so,Bool.true_eq_false,if_false]at hop;refine oI ?_;generalize hH2:(hplays H s).1=H2 at hop Bm MB;refine Nb ?_;refine K.bV (fun _ h=>cn (h.pick br)) ?_;rintro⟨V2,lI⟩;dsimp only;have hu2:H2.used=H.used:=MB.used;refine cW ?_;refine Np ?_;refine vO ?_;refine Zi ?_;refine KO.fu (i:=2) rfl rfl rfl aN uc rfl br rfl (by rw[r8 lI];omega) ?_;rw[show(fe bd V2 H2).set 2 (.int .i64 ((H2.used:Nat)+1:Int))=fe bd V2 {H2 with used:=H2.used+1}from rfl];refine Xw ?_;refine KQ.round (j+1,{H2 with used:=H2.used+1}) ⟨by dsimp only;omega,by dsimp only;omega,(Bm.Uo ae),?_⟩ fZ ⟨rfl,rfl,trivial⟩ (fun w h=>?_)
    ·dsimp only;rw[show 300-(j+1)=f by omega,hu2];exact hop
    ·exact bM V2 ⟨lI.ps,lI.us,lI.bs,lI.ways,lI.ay,lI.batch,lI.bT,lI.aC⟩ (h.all ft)
 ·have hj3:j=300:=by omega
  subst hj3;rw[Nat.sub_self,iM]at hop;refine Z9 ?_;refine K.conv (L':=dt Lw bd H::ga bd D::L) (fun w h=>bM V hV (h.all Nv)) ?_
  rw[hop];refine cW ?_;refine nP ?_;refine KQ.dG rfl rfl rfl (fun w' aM=>fin w' aM)
theorem SN(w0:World)(L:List HP)(bh bd:Nat)(H:Ho)(n:Int):KC prog 19 #[bN bh,.int .i64 n] w0 (dt bh bd H::L) (fun u M=>u=.tuple #[]/\M=dt bh bd {H with dC:=n}::L):=by
 refine KC.mk (n:=8) func19 rfl ntmps19 ai ?_;refine K.bV (fun _ h=>cn h) ?_;rintro⟨V,hV⟩;dsimp only;refine JO ?_;refine KO.fG (off:=4) rfl runUnderlying133 rfl rfl sizeOf3 rfl ?_;refine KO.fu (i:=4) rfl rfl rfl aN uc rfl br rfl Rp ?_;rw[show(fe bd V H).set 4 (.int .i64 n)=fe bd V {H with dC:=n}from rfl];refine jk ?_;refine KQ.wV rfl (fun w' aM=>⟨_,_,rfl,⟨rfl,rfl⟩,bM V ⟨hV.ps,hV.us,hV.bs,hV.ways,hV.ay,hV.batch,hV.bT,hV.aC⟩ (aM.all ft)⟩)
theorem yI(w0:World)(L R:List HP)(bh bd:Nat)(H:Ho)(hp:bB L (dt bh bd H) R):KE prog 51 #[bN bh] w0 L (fun u M=>u=.int .i64 (H.used:Nat)/\M=L):=by
 refine KE.mk (n:=7) func51 rfl ntmps51 ai ?_;intro w hw;obtain⟨V,hV,hc⟩:=mT hw hp;have jg:=hc 2 _ rfl;refine lg ?_;refine Zi ?_;refine KO.sl rfl rfl isAgg3 jg rfl ?_;refine kq ?_;refine KQ.aU rfl rfl (fun w' hs=>⟨_,_,rfl,⟨rfl,rfl⟩,hw.aA hs.below,hs.below⟩)
theorem OO{V:uo}{H:Ho}(hV:jA V H){r:Nat}{x:aj×Qu}(hx:H.aI[r]? =some x):∃v,(dI V H).getD r default=(x.1,v):=by
 have ku:=hV.ps;have hr:=(aw.1 hx).1;obtain⟨p,hp⟩:∃e,V.ps[4+r]? =some e:=⟨_,ak ae⟩;refine⟨bN p,?_⟩;unfold dI tE;rw[au,List.getElem?_zipWith,hx,List.getElem?_drop,hp];rfl
theorem Wz(N M:Nat)(hNM:M *N<=900000000)(hM1:M<=800000)(hN1:N<=800000)(w0:World)(L:List HP)(bh bd n:Nat)(H:Ho)(hB:cx n H)(hn:n<=N)(Bf:H.aI.length<=M):
 KC prog 20 #[bN bh] w0 (dt bh bd H::L) (fun u M=> ∃ns:List aj,ns.Perm (H.aI.map (·.1))/\M=SL 44 5 dy u ((cS ns).flatMap (iV H))::dt bh bd H::L):=by
 have Ik:=hB.oV;refine KC.mk (n:=40) func20 rfl ntmps20 ai ?_;refine kO ?_;refine K.bV (fun _ h=>cn h) ?_;rintro⟨V,hV⟩;dsimp only;have ku:=hV.ps;refine di ?_;refine BZ ?_;refine iD ?_;refine XO ?_;refine KO.YC rfl rfl underlying123 aQ rfl ?_;intro Uu;refine QG ?_;refine K.loop (fun p:List Nat×List Nat×Value×Option (aj×Value)=>[(0,bN bh),(3,p.2.2.1),(12,.pointer (some ⟨Uu,0,none⟩))])
  (fun p=>SL 9 1 Ir p.2.2.1 (p.2.1.map fun r=>(H.aI.getD r (⟨#[]⟩,default)).1)::CY Value.string V.mb Uu (dI V H) (p.1.map fun r=>(dI V H).getD r default) p.2.2.2::bA bh (.cells (fe bd V H).toArray 133 (0,0))::fb V.nv H.names::bI jv V.ps H.all::bI cX (V.us.map (·.1)) (H.ay.map (·.aT))::bI cV (V.us.map (·.2)) (H.ay.map (·.aY))::bI dU V.bs H.batch::L)
  (fun p=>(p.2.1++p.1).Perm (List.range H.aI.length)) (fun p=>p.1.length) (List.range H.aI.length,[],.slice none 0 0,none)
  ai ⟨rfl,rfl,rfl,trivial⟩ (fun _ h=>?_) ?_
 ·have h1:=cw (E:=9) (sz:=1) (cf:=Ir) h;have e1:(List.range H.aI.length).map (fun r=>(dI V H).getD r default)=dI V H:=by
   have hl:(dI V H).length=H.aI.length:=by unfold dI tE;rw[List.length_zipWith,bf];omega
   rw[<-hl];apply List.ext_getElem
   ·simp
   ·intro i h1 h2;simp[au,ak h2]
  dsimp only;rw[e1];exact h1.all ft
 rintro⟨rest,done,v,cur⟩ dQ;dsimp only at dQ ⊢;have o_:done.length<=M:=by have :=dQ.length_eq;simp at this;omega
 refine Z2 ?_;refine KO.BD rfl rfl aQ rfl (fun h0=>?_) (fun i e he=>?_);refine x9 ?_;have iO:rest=[]:=by simpa using h0
 subst iO;rw[List.append_nil]at dQ;have BI:(done.map fun r=>(H.aI.getD r (⟨#[]⟩,default)).1).Perm (H.aI.map (·.1)):=by
  refine(dQ.map _).trans ?_;have :(List.range H.aI.length).map (fun r=>(H.aI.getD r (⟨#[]⟩,default)).1)=H.aI.map (·.1):=by
   apply List.ext_getElem
   ·simp
   ·intro i h1 h2;simp only[aX]at h2;simp[au,ak h2]
  rw[this]
 generalize WG:(done.map fun r=>(H.aI.getD r (⟨#[]⟩,default)).1)=ns at BI;have ae6:ns.length<=M:=by rw[<-WG,aX];exact o_
 have hsl:(cS ns).length=ns.length:=(nj ns).length_eq;have MB:∀s∈cS ns,∃i,H.qI s=some i:=fun s hs=>by
  have h1:s∈H.aI.map (·.1):=BI.mem_iff.1 ((nj ns).mem_iff.1 hs);cases hq:H.qI s with
  |some i=>exact⟨i,rfl⟩
  |none=>
   rw[oC,List.findIdx?_eq_none_iff]at hq;have :=hq s h1;simp at this
 refine oI ?_;refine Ba ?_;refine KO.cl (cp:=[]) rfl rfl rfl call66 rfl (KC.jN (.tail .head) (Cm (E:=9) Tryz.slices_Sort_string_none Tryz.slices_Sort_string w0 _ v ns ae)) ?_;rintro v' L' ⟨rfl,rfl⟩;refine Z0 ?_;refine K.fact (fun w hw=>bo (E:=9) (sz:=1) (cf:=Ir) (hw.pick .head)) ?_;rintro⟨ad,cap,rfl,had⟩;refine di ?_;refine jo ?_;refine TL ?_;refine K.loop (fun p:Nat×Value=>[(0,bN bh),(5,p.2),(23,.slice ad (cS ns).length cap),(24,.int .i64 ((cS ns).length:Nat)),(25,.int .i64 (p.1:Nat))])
  (fun p=>SL 44 5 dy p.2 (((cS ns).take p.1).flatMap (iV H))::SL 9 1 Ir (.slice ad (cS ns).length cap) (cS ns)::bP Value.string V.mb (dI V H)::bA bh (.cells (fe bd V H).toArray 133 (0,0))::fb V.nv H.names::bI jv V.ps H.all::bI cX (V.us.map (·.1)) (H.ay.map (·.aT))::bI cV (V.us.map (·.2)) (H.ay.map (·.aY))::bI dU V.bs H.batch::L) (fun p=>p.1<=(cS ns).length/\(((cS ns).take p.1).flatMap (iV H)).length<=p.1 *N) (fun p=>(cS ns).length-p.1) (0,.slice none 0 0)
  ⟨aH _,by simp⟩ ⟨rfl,rfl,rfl,rfl,rfl,trivial⟩ (fun _ h=>?_) ?_
 ·have h1:=cw (E:=44) (sz:=5) (cf:=dy) h;exact h1.all ft
 rintro⟨k,v5⟩ ⟨hk,mV⟩;dsimp only at hk mV ⊢;refine lW ?_;refine K.bn rfl (fun h9=>?_) (fun h9=>?_)
 ·obtain⟨s,hs⟩:∃e,(cS ns)[k]? =some e:=⟨(cS ns)[k],ak ae⟩;obtain⟨ag,rfl⟩:=had ae;obtain⟨i,hi⟩:=MB s (ax hs);have kD:=(fC hi).1;have hg:=lG hV s;obtain⟨p,hp⟩:∃p,V.ps[4+i]? =some p:=⟨_,ak ae⟩;rw[hi]at hg;simp only[Option.bind_some,hp,Option.map_some]at hg;have ND:iV H s=ig (H.dZ i):=by unfold iV;rw[hi]
  have NA:=(hB.qa kD).len;have hkn:(ig (H.dZ i)).length<=N:=by
   unfold ig;have :=List.length_filter_le (fun e:It=>decide (e.put<0)) (H.dZ i).l;rw[aX];omega
  have hk3:k *N+N<=900000000:=by have :=Nat.mul_le_mul_right N (show k+1<=M by omega);rw[Nat.succ_mul]at this;omega
  refine T_ ?_;refine KO.j7 rfl rfl isAgg9 aQ (fun _=>rfl) sE aN aN rfl ?_;refine xc ?_;refine iD ?_;refine T3 ?_;refine KO.bO (i:=7) rfl rfl isAgg123 aQ rfl rfl rfl ?_;refine Z1 ?_;refine KO.zW dD s rfl rfl rfl underlying123 underlying9 zeroValue119 aQ rfl ?_;rw[hg];refine KO.ce (cp:=[]) rfl rfl rfl call67 rfl (KE.GQ (A:=fun v=>SL 44 5 dy v (ig (H.dZ i))) (φ:=fun _=>True) hp (l9 hV.ways kD) aQ (fun L=>(I7 w0 _ L p (H.dZ i) .head ae).DQ (by rintro v M rfl;exact⟨_,⟨trivial,rfl⟩,fun _ h=>h⟩))) ?_;rintro vk L' ⟨-,rfl⟩;refine KO.rH (cf:=dy) (z:=Value.agg #[.int .i64 0,.int .i64 0,.string ⟨#[]⟩,.string ⟨#[]⟩,.int .i64 0]) (sz:=5) (fk:=56) (xs:=((cS ns).take k).flatMap (iV H)) (ys:=ig (H.dZ i)) rfl rfl rfl (.tail (.tail .head)) (fun w hw=>Src.of (E:=44) (sz:=5) (cf:=dy) .head w hw) underlying49 bC rfl (fun _=>rfl) (fun _=>rfl) ae ah rfl ?_;intro v37;refine qq ?_;refine KQ.round (k+1,v37) ⟨by dsimp only;omega,?_⟩ fZ ⟨rfl,rfl,rfl,rfl,rfl,trivial⟩ (fun _ h=>?_)
  ·dsimp only;rw[a_ hs,List.flatMap_append,aW];simp only[bj,List.flatMap_nil,List.append_nil,ND,Nat.succ_mul];omega
  ·dsimp only;rw[a_ hs,List.flatMap_append];simp only[bj,List.flatMap_nil,List.append_nil,ND];exact h.all Y4
 have Es:k=(cS ns).length:=by omega
 subst Es;rw[List.take_length];refine Hy ?_;refine KQ.aU rfl rfl (fun w' aM=>⟨_,_,rfl,⟨ns,BI,rfl⟩,?_⟩);exact(bM V hV (aM.all (M:=Bh bh bd V H (SL 44 5 dy v5 ((cS ns).flatMap (iV H))::L)) Y1)).all Y2;obtain⟨r,hr,rfl⟩:∃r,rest[i]? =some r/\(dI V H).getD r default=e:=by
  rw[aG]at he;cases hr:rest[i]? with
  |none=>rw[hr]at he;cases he
  |some r=>rw[hr]at he;exact⟨r,rfl,by simpa using he⟩
 have Ad:r<H.aI.length:=by
  have :r∈List.range H.aI.length:=dQ.mem_iff.1 (List.mem_append_right _ (ax hr));simpa using this
 obtain⟨x,hx⟩:∃e,H.aI[r]? =some e:=⟨_,ak Ad⟩;have V9:(H.aI.getD r (⟨#[]⟩,default)).1=x.1:=by rw[au,hx];rfl
 obtain⟨pv,lP⟩:=OO hV hx;rw[lP];refine x9 ?_;refine xa ?_;refine si ?_;refine Ng ?_;refine xc ?_;refine KO.sw (z:=(Value.string ⟨#[]⟩)) (sz:=1) (fk:=16) rfl rfl underlying115 bC aN aN ah ah rfl ?_;intro b19;refine KO.app (cf:=Ir) (z:=Value.string ⟨#[]⟩) (sz:=1) (fk:=16) (xs:=done.map fun r=>(H.aI.getD r (⟨#[]⟩,default)).1) rfl rfl rfl (.tail (.tail .head)) .head underlying115 nh rfl x.1 rfl rfl rfl ez ah rfl ?_;intro v20;refine He ?_;refine KQ.round (rest.eraseIdx i,done++[r],v20,some (x.1,pv)) ?_ ?_ ⟨rfl,rfl,rfl,trivial⟩ (fun _ h=>?_)
 ·dsimp only;refine List.Perm.trans ?_ dQ;rw[aR];refine(List.Perm.refl done).append ?_;obtain⟨hi,rfl⟩:=aw.1 hr;exact p6 hi
 ·dsimp only;have hi:=(aw.1 hr).1;rw[List.length_eraseIdx,if_pos hi];omega
 ·dsimp only;rw[aZ,<-oY,aJ,List.map_nil,V9];exact h.all ft
theorem vu(w0:World)(L:List HP)(bh bd n:Nat)(H:Ho)(hB:cx n H)(hn:n<=80000)(Bf:H.aI.length<=1000):
 KC prog 20 #[bN bh] w0 (dt bh bd H::L) (fun u M=> ∃ns:List aj,ns.Perm (H.aI.map (·.1))/\M=SL 44 5 dy u ((cS ns).flatMap (iV H))::dt bh bd H::L):=
 Wz 80000 1000 ah ah ah w0 L bh bd n H hB hn Bf
theorem Pa(w0:World)(L:List HP)(bh bd n:Nat)(H:Ho)(s:aj)(hB:cx n H)(hn:n<=80000):
 KC prog 28 #[bN bh,.string s] w0 (dt bh bd H::L) (fun u M=> ∃v,u=.tuple #[v,dj 70 (iQ H s)]/\M=SL 44 5 dy v (lQ H s)::dt bh bd H::L):=by
 have xU:=hB.fT;have C4:=hB.sorted;have ends:iQ H s=7->∀w',St w0 (dt bh bd H::L) w'->∃v L',Ending.returned (.tuple #[.slice none 0 0,dj 70 7])=Ending.returned v/\(∃u,v=.tuple #[u,dj 70 (iQ H s)]/\L'=SL 44 5 dy u (lQ H s)::dt bh bd H::L)/\St w0 L' w':=fun he w' aM=>by
  refine⟨_,_,rfl,⟨_,by rw[he],rfl⟩,?_⟩;unfold lQ;rw[if_neg (by rw[he];decide)];exact cw aM
 refine KC.mk (n:=34) func28 rfl ntmps28 ai ?_;refine kO ?_;refine K.bV (fun _ h=>cn h) ?_;rintro⟨V,hV⟩;dsimp only;have ku:=hV.ps;have hg:=lG hV s;refine di ?_;refine Z8 ?_;refine jL ?_;cases hq:H.qI s with
 |none=>
  have he:iQ H s=7:=by unfold iQ;rw[hq]
  rw[hq]at hg;refine Hj ?_;refine KO.KV dD s rfl rfl rfl underlying123 underlying9 zeroValue119 aQ rfl ?_;rw[hg];refine qQ ?_;refine pC ?_;refine B_ ?_;refine NN ?_;refine NN ?_;refine Nf ?_;refine uk ?_;refine Z3 ?_;refine K.bW rfl ai ?_;refine yd ?_;refine KQ.dG rfl rfl rfl (fun w' aM=>ends he w' (bM V hV (aM.all Nv)))
 |some i=>
 have kD:=(fC hq).1;obtain⟨p,hp⟩:∃p,V.ps[4+i]? =some p:=⟨_,ak ae⟩;rw[hq]at hg;simp only[Option.bind_some,hp,Option.map_some]at hg;have heq:iQ H s=if s≠cr/\cP H.names s=false then 7 else 0:=by unfold iQ;rw[hq]
 refine Hj ?_;refine KO.KV dD s rfl rfl rfl underlying123 underlying9 zeroValue119 aQ rfl ?_;rw[hg];refine rJ ?_;refine K.cut (fun _:Unit=>[(0,bN bh),(6,bN p),(30,.bool (decide (s≠cr/\cP H.names s=false)))]) (fun _=>Bh bh bd V H L) (fun _=>True) ?_ ?_
 ·by_cases K6:s=cr
  ·have vn:s=⟨#[100,101,97,100]⟩:=K6;have Wf:(!decide (s=⟨#[100,101,97,100]⟩))=false:=by rw[vn];rfl
   clear K6;refine tZ ?_;refine Hg ?_;refine A2 ?_;refine B8 ?_;refine B8 ?_;refine KO.no rfl rfl Wf rfl ?_;refine KO.no rfl rfl sE rfl ?_;refine lX ?_;refine KO.lB rfl ?_ rfl rfl ?_
   (focus assumption)
   refine tW ?_;refine jk ?_;exact KQ.kT () trivial ⟨rfl,rfl,by simp[vn,cr,cB],trivial⟩ (fun w' aM=>aM)
  ·have vn:¬s=⟨#[100,101,97,100]⟩:=K6;refine tZ ?_;refine Hg ?_;refine A2 ?_;refine BR ?_;refine Z1 ?_;refine BR ?_;refine iD ?_;refine BR ?_;refine Uf ?_;refine BR ?_;refine Z1 ?_;refine KO.on rfl rfl (by simp[vn]) ?_;refine KO.ce (cp:=[]) rfl rfl rfl call57 rfl (u_ w0 _ _ _ bh 6 (fe bd V H) 133 V.nv H.names s br br rfl ae C4) ?_;rintro v' L' ⟨rfl,rfl⟩;refine BR ?_;refine pC ?_;refine lX ?_;refine KO.oW rfl ?_ rfl rfl ?_
   (focus(simp_all;done))
   refine tW ?_;refine jk ?_;exact KQ.kT () trivial ⟨rfl,rfl,by simp[K6,cB],trivial⟩ (fun w' aM=>aM)
 rintro⟨⟩-;refine K.bn rfl (fun h4=>?_) (fun h4=>?_)
 ·have he:iQ H s=7:=by rw[heq,if_pos h4]
  refine yd ?_;refine KQ.dG rfl rfl rfl (fun w' aM=>ends he w' (bM V hV aM))
 have he:iQ H s=0:=by rw[heq,if_neg h4]
 have Ik:=(hB.qa kD).len;have xy:lQ H s=eX (H.dZ i):=by unfold lQ;rw[if_pos he,hq];rfl
 refine qp ?_;refine KO.ce (cp:=[]) rfl rfl rfl call80 rfl (KE.GQ (A:=fun v=>SL 44 5 dy v (eX (H.dZ i))) (φ:=fun _=>True) hp (l9 hV.ways kD) aQ (fun L=>(Kr w0 _ L p (H.dZ i) .head ae).DQ (by rintro v M rfl;exact⟨_,⟨trivial,rfl⟩,fun _ h=>h⟩))) ?_;rintro vk L' ⟨-,rfl⟩;refine nP ?_;refine KQ.dG rfl rfl rfl (fun w' aM=>⟨_,_,rfl,⟨vk,by rw[he];rfl,rfl⟩,?_⟩);rw[xy];exact(bM V hV (aM.all (M:=Bh bh bd V H (SL 44 5 dy vk (eX (H.dZ i))::L)) Y2)).all Y2
theorem yN(w0:World)(L R:List HP)(bh bd:Nat)(H:Ho)(hp:bB L (dt bh bd H) R):KE prog 76 #[bN bh] w0 L (fun u M=>u=.bool H.down/\M=L):=by
 refine KE.mk (n:=7) func76 rfl ntmps76 ai ?_;intro w hw;obtain⟨V,hV,hc⟩:=mT hw hp;have Jr:=hc 3 _ rfl;refine lg ?_;refine XA ?_;refine kq ?_;refine KQ.aU rfl rfl (fun w' hs=>⟨_,_,rfl,⟨rfl,rfl⟩,hw.aA hs.below,hs.below⟩)
theorem vt(w0:World)(L:List HP)(bh bd:Nat)(H:Ho)(hl:H.names.length<=20):KC prog 107 #[bN bh] w0 (dt bh bd H::L) (fun u M=>M=fb u H.names::dt bh bd H::L):=by
 refine KC.mk (n:=7) func107 rfl ntmps107 ai ?_;refine kO ?_;refine K.bV (fun _ h=>cn h) ?_;rintro⟨V,hV⟩;dsimp only;refine di ?_;refine jo ?_;refine Hr ?_;refine KO.ce (cp:=[]) rfl rfl rfl call169 rfl (IZ w0 _ _ _ bh 6 (fe bd V H) 133 V.nv H.names br br rfl ae) ?_;rintro va L' rfl;refine kq ?_;refine KQ.aU rfl rfl (fun w' aM=>⟨_,_,rfl,rfl,?_⟩);have h1:=bM V hV (L:=fb va H.names::L) (aM.all Y7);exact h1.all Y2
def Km (H:Ho) (k:Int):Int:=if cb H k=true then 0 else 2
def Fh (H:Ho) (k:Int):List Ms:=if cb H k=true then ig (H.iY k.toNat)else[]
theorem O_(w0:World)(L:List HP)(bh bd n:Nat)(H:Ho)(k:Int)(hB:cx n H)(hn:n<=80000):
 KC prog 27 #[bN bh,.int .i64 k] w0 (dt bh bd H::L) (fun u M=> ∃v,u=.tuple #[v,dj 70 (Km H k)]/\M=SL 44 5 dy v (Fh H k)::dt bh bd H::L):=by
 unfold Km Fh;refine KC.mk (n:=18) func27 rfl ntmps27 ai ?_;refine iz ?_;refine jL ?_;cases hk:cb H k with
 |false=>
  refine gY ?_;refine KO.ce (cp:=[]) rfl rfl rfl call79 rfl (eI w0 _ _ bh bd H k br) ?_;rintro v' L' ⟨rfl,rfl⟩;rw[hk];refine A4 ?_;refine yd ?_;refine KQ.dG rfl rfl rfl (fun w' aM=>⟨_,_,rfl,⟨_,rfl,rfl⟩,cw aM⟩)
 |true=>
  obtain⟨xV,qC,-⟩:=b_.1 hk;obtain⟨j,rfl⟩:∃j:Nat,k=(j:Int):=⟨k.toNat,by omega⟩;have hj:j<4:=by omega
  refine gY ?_;refine KO.ce (cp:=[]) rfl rfl rfl call79 rfl (eI w0 _ _ bh bd H (j:Int) br) ?_;rintro v' L' ⟨rfl,rfl⟩;rw[hk];refine BX ?_;refine K.bV (fun _ h=>cn h) ?_;rintro⟨V,hV⟩;dsimp only;have ku:=hV.ps;obtain⟨p,hp⟩:∃p,V.ps[j]? =some p:=⟨_,ak ae⟩;have hw:=qg (bd:=bd) hV hj hp;have cU:=pB hV.ways hj;have Ik:=(hB.w hj).len;refine gY ?_;refine Ua ?_;refine KO.bO (i:=8+j) rfl rfl isAgg119 br yY hw rfl ?_;refine KO.ce (cp:=[]) rfl rfl rfl call67 rfl (KE.GQ (A:=fun v=>oN v (ig (H.iY j))) (φ:=fun _=>True) hp cU aQ (fun L=>KE.mono (I7 w0 _ _ p (H.iY j) .head ae) (fun v M h=>⟨trivial,h⟩))) ?_;rintro va L' ⟨-,rfl⟩;refine nP ?_;refine KQ.dG rfl rfl rfl (fun w' aM=>⟨_,_,rfl,⟨_,rfl,rfl⟩,?_⟩);have h1:=bM V hV (L:=oN va (ig (H.iY j))::L) (aM.all Y7);exact h1.all Y7
def TD (H:Ho) (k:Int):Int:=if cb H k=true then 0 else 2
def jj (H:Ho) (k:Int):Int:=if cb H k=true then fv H k.toNat else 0
theorem Js(w0:World)(L R:List HP)(bh bd:Nat)(H:Ho)(k:Int)(hp:bB L (dt bh bd H) R):
 KE prog 111 #[bN bh,.int .i64 k] w0 L (fun u M=>u=.tuple #[.int .i64 (jj H k),dj 70 (TD H k)]/\M=L):=by
 unfold TD jj;refine KE.mk (n:=17) func111 rfl ntmps111 ai ?_;intro w hw;have hri:=eI w0 L R bh bd H k hp;obtain⟨V,hV,hc⟩:=mT hw hp;refine iz ?_;refine jL ?_;cases hk:cb H k with
 |false=>
  rw[hk]at hri;refine gY ?_;refine KO.ce (cp:=[]) rfl rfl rfl call79 rfl (hri.kP hw) ?_;rintro v' L' ⟨rfl,rfl⟩;refine A4 ?_;refine yd ?_;refine KQ.dG rfl rfl rfl (fun w' hs=>⟨_,_,rfl,⟨rfl,rfl⟩,hw.aA hs.below,hs.below⟩)
 |true=>
  rw[hk]at hri;obtain⟨xV,qC,-⟩:=b_.1 hk;obtain⟨j,rfl⟩:∃j:Nat,k=(j:Int):=⟨k.toNat,by omega⟩;have hj:j<4:=by omega
  have hcj:=hc (30+j) _ (yK (bd:=bd) hV hj).1;have afv:w.cell? ((⟨bh,30,none⟩:Addr).add (j *1))=some (.int .i64 (fv H j)):=by rw[Addr.add_lit,Nat.mul_one];exact hcj
  refine gY ?_;refine KO.ce (cp:=[]) rfl rfl rfl call79 rfl (hri.kP hw) ?_;rintro v' L' ⟨rfl,rfl⟩;refine BX ?_;refine gY ?_;refine J_ ?_;refine Iv ?_;refine KO.sl rfl rfl isAgg3 afv rfl ?_;refine nP ?_;refine KQ.dG rfl rfl rfl (fun w' hs=>⟨_,_,rfl,⟨rfl,rfl⟩,hw.aA hs.below,hs.below⟩)
theorem VQ{w0 w w':World}{L:List HP}{e:TypeId}{sz n:Nat}{v:Value}{xs:List Value}(hw:St w0 L w)(hb:Below w.heap.size w w')(ho:w'.ownsRow w.heap.size e sz v n xs):St w0 (lE e sz v n xs::L) w':=by
 obtain⟨hl,⟨rfl,rfl⟩|⟨g,cap,cur,rfl,hg,hh,h1,h2,h3,h4⟩⟩:=ho
 ·have :xs=[]:=List.eq_nil_of_length_eq_zero (by simpa using hl);subst this;exact(hw.aA hb).D9
 ·have hs:St w [bA g (.cells cur e (0,0))] w':=by
   refine⟨hb.os,hb.tape,hb.output,hb.size,hb.block,⟨fun k=>if k=g then some (.cells cur e (0,0))else none,fun k o hk=>?_,?_⟩⟩
   ·dsimp only at hk;split at hk
    ·rename_i e1;subst e1;simp only[az]at hk;subst hk;exact⟨hg,hh⟩
    ·cases hk
   ·refine⟨fun k=>if k=g then some (.cells cur e (0,0))else none,fun _=>none,fun k=>.inr rfl,?_,⟨if_pos rfl,fun k hk=>if_neg hk⟩,fun _=>rfl⟩;funext k;unfold qw;split<;>simp_all
  have h5:=(hw.stack hs).nz (n:=n) (size:=sz) (xs:=xs) h1 h2 h3 h4;exact h5
theorem Tt(w0:World)(L R:List HP)(v:Value)(l:List Int)(hl:0<l.length)(Bj:l.length<=1000000)(hp:bB L (dU v l) R):KE prog 195 #[v] w0 L (fun u M=>M=SL 3 1 kB u l::L):=fun w hw=>by
 obtain⟨⟨⟨g,off,cs,cap⟩,hv,kE⟩,hs⟩:=Fz hl (hw.pick hp);dsimp only at hv kE hs;subst hv;refine(Tryz.slices_Clone_int g off l.length cap l w (aP _) ae (fun j hj=>?_)).mono ?_
 ·rw[World.cell?,hs.look.2];have :=kE j (l.getD j 0) (by rw[au,ak hj];rfl);simpa using this
 ·rintro e w' ⟨v',rfl,ho,-,hb⟩;refine⟨v',_,rfl,rfl,?_,hb⟩;rw[List.take_length]at ho;have h8:∀l:List Int,l.map (Value.int .i64)=l.flatMap kB:=fun l=>by
   induction l with
   |nil=>rfl
   |cons x l ih=>rw[bj,<-ih];rfl
  rw[h8]at ho;exact VQ hw hb ho
def dbE (H:Ho) (k:Int):Int:=if cb H k=true then 0 else 2
def dbN (H:Ho) (k:Int):Int:=if cb H k=true then(if(cJ H k.toNat).length=0 then 0 else gD H k.toNat)else 0
def dbL (H:Ho) (k:Int):List Int:=if cb H k=true then cJ H k.toNat else[]
theorem Pu(w0:World)(L:List HP)(bh bd n:Nat)(H:Ho)(k:Int)(hB:cx n H):
 KC prog 110 #[bN bh,.int .i64 k] w0 (dt bh bd H::L) (fun u M=> ∃v,u=.tuple #[.int .i64 (dbN H k),v,dj 70 (dbE H k)]/\M=SL 3 1 kB v (dbL H k)::dt bh bd H::L):=by
 unfold dbE dbN dbL;refine KC.mk (n:=33) func110 rfl ntmps110 ai ?_;refine iz ?_;refine Z8 ?_;refine jL ?_;cases hk:cb H k with
 |false=>
  refine gY ?_;refine KO.ce (cp:=[]) rfl rfl rfl call79 rfl (eI w0 _ _ bh bd H k br) ?_;rintro v' L' ⟨rfl,rfl⟩;rw[hk];refine A4 ?_;refine Iu ?_;refine Z8 ?_;refine xe ?_;refine KQ.rj rfl rfl rfl rfl (fun w' aM=>⟨_,_,rfl,⟨_,rfl,rfl⟩,cw aM⟩)
 |true=>
  obtain⟨xV,qC,-⟩:=b_.1 hk;obtain⟨j,rfl⟩:∃j:Nat,k=(j:Int):=⟨k.toNat,by omega⟩;have hj:j<4:=by omega
  refine gY ?_;refine KO.ce (cp:=[]) rfl rfl rfl call79 rfl (eI w0 _ _ bh bd H (j:Int) br) ?_;rintro v' L' ⟨rfl,rfl⟩;rw[hk];refine BX ?_;refine K.bV (fun _ h=>cn h) ?_;rintro⟨V,hV⟩;dsimp only;have NG:=hV.bs;have Pz:=hV.batch;obtain⟨bv,Df⟩:∃e,V.bs[j]? =some e:=⟨_,ak ae⟩;obtain⟨bl,wT⟩:∃e,H.batch[j]? =some e:=⟨_,ak ae⟩;have Te:cJ H j=bl:=by unfold cJ;rw[au,wT];rfl
  have aa3:=hB.ext.Xo bl (ax wT);rw[aE];rw[Te];obtain⟨c1,c2⟩:=r9 (bd:=bd) hV Df;obtain⟨d1,d2⟩:=yJ (bd:=bd) hV hj;refine T7 ?_;refine K.fact (fun w hw=>ra (hw.pick (A:=dU bv bl) .head)) ?_;rintro⟨ba,bc,rfl⟩;have back:∀{w':World} {M:List HP},St w0 (dU (.slice ba bl.length bc) bl::bI dU (V.bs.eraseIdx j) (H.batch.eraseIdx j)::bA bh (.cells (fe bd V H).toArray 133 (0,0))::fb V.nv H.names::bP Value.string V.mb (dI V H)::bI jv V.ps H.all::bI cX (V.us.map (·.1)) (H.ay.map (·.aT))::bI cV (V.us.map (·.2)) (H.ay.map (·.aY))::M) w'->St w0 (dt bh bd H::M) w':=fun h=>bM V hV ((fY Df wT h).all Y7)
  refine gY ?_;refine EX ?_;refine Ns ?_;refine ub ?_;refine mM ?_;refine K.bn rfl (fun h0=>?_) (fun h0=>?_)
  ·have PG:bl.length=0:=by omega
   have SZ:bl=[]:=List.length_eq_zero_iff.1 PG;refine iz ?_;refine xe ?_;refine KQ.rj rfl rfl rfl rfl (fun w' aM=>⟨_,_,rfl,⟨_,by rw[if_pos rfl,if_pos PG,if_pos rfl];rfl,rfl⟩,?_⟩);rw[if_pos rfl];have h1:=back (aM.all ft);subst SZ;exact cw h1
  ·have PG:¬bl.length=0:=by omega
   refine Z6 ?_;refine K.draw [.pure,.pure,.pure,.pure,.pure,.read,.pure,.pure,.pure,.pure,.pure,.read,.ef,.pure,.pure,.pure] [0,1,2,3,4,5,6,7,8,9,10,11,12,13,14,15] bC bC ?_;refine EK ?_;refine QD ?_;refine Iv ?_;refine KO.bO (i:=26+j) rfl rfl isAgg3 aQ yY d1 rfl ?_;refine gZ ?_;refine EX ?_;refine Ns ?_;refine KO.ce (cp:=[]) rfl rfl rfl call195 rfl (Tt w0 _ _ _ bl ae ae br) ?_;rintro va L' rfl;refine Z8 ?_;refine nP ?_;refine KQ.rj rfl rfl rfl rfl (fun w' aM=>⟨_,_,rfl,⟨_,by rw[if_pos rfl,if_neg PG,if_pos rfl];rfl,rfl⟩,?_⟩);rw[if_pos rfl];have h1:=back (M:=SL 3 1 kB va bl::L) (aM.all Y7);exact h1.all Y7
end Go.Proofs.YtjhogocabcdjbabGreatDoor
namespace WB
open Go
theorem n_{c:UInt8}(h:c≠58)(s:aj):cZ 58 (bZ c++bZ 58++s)=(bZ c,s,true):=cutB_hit (d_ h) s
theorem oa{c:UInt8}(h:c≠58)(h1:c≠117)(h2:c≠114){s:aj}(hs:s.size<=79000):fp 1 (bZ c++bZ 58++s):=by
 have e1:(bZ c).size=1:=rfl;have e2:(bZ 58).size=1:=rfl;have e3:∀d,bZ c=bZ d->c=d:=fun d e=>by
  have :=congrArg (·.data.toList) e;simpa[bZ]using this
 refine⟨by simp only[aV];omega,fun hk=>?_,fun hk=>?_⟩
 ·rw[n_ h]at hk;exact absurd (e3 _ hk) h1
 ·rw[n_ h]at hk;exact absurd (e3 _ hk) h2
def tt (s:aj):aj:=bZ 100++bZ 58++s
def oy (H:Ho) (s:aj):Int:=if H.names.any (fun x=>decide (x.name=s))=true then 0 else 7
def Vu (H:Ho) (D:Dk) (s:aj):Int:=if oy H s≠0 then oy H s else ec H D
def QT (H:Ho) (D:Dk) (s:aj):Ho:=if oy H s≠0 then H else nZ H D (tt s)
def Up (H:Ho) (D:Dk) (s:aj):Dk:=if oy H s≠0 then D else gg H D (tt s)
def sk (k:Int):aj:=bZ 97++bZ 58++ck k
def mJ (H:Ho) (k n:Int):Int:=if cb H k=false then 2 else if H.down=true then 6 else if cJ H k.toNat=[]\/n≠gD H k.toNat then 8 else 0
def Xk (H:Ho) (D:Dk) (k n:Int):Int:=if mJ H k n≠0 then mJ H k n else ec H D
def G8 (H:Ho) (D:Dk) (k n:Int):Ho:=if mJ H k n≠0 then H else nZ H D (sk k)
def JG (H:Ho) (D:Dk) (k n:Int):Dk:=if mJ H k n≠0 then D else gg H D (sk k)
def ic (k:Int) (l:List Int):aj:=bZ 98++bZ 58++cY ((k::l).map ck) sp
def cG (H:Ho) (k:Nat):List Int:=((eX (H.iY k)).take 3).map (·.id)
def tT (H:Ho) (k:Int):Int:=if cb H k=false then 2 else if H.down=true then 6 else if cJ H k.toNat=[]/\eX (H.iY k.toNat)=[]then 8 else 0
def gJ (H:Ho) (k:Int):Bool:=decide (tT H k=0/\cJ H k.toNat=[])
def AO (H:Ho) (D:Dk) (k:Int):Int:=if tT H k≠0 then tT H k else if gJ H k=true then ec H D else 0
def qE (H:Ho) (D:Dk) (k:Int):Ho:=if gJ H k=true then nZ H D (ic k (cG H k.toNat))else H
def xY (H:Ho) (D:Dk) (k:Int):Dk:=if gJ H k=true then gg H D (ic k (cG H k.toNat))else D
def O6 (l:List Int) (m:Ms):Bool:=decide (m.id∈l)
def Rj (H:Ho) (D:Dk) (k:Int):List Ms:=if AO H D k=0 then(ig ((qE H D k).iY k.toNat)).filter (O6 (cJ (qE H D k) k.toNat))else[]
def Rg (H:Ho) (D:Dk) (k:Int):Int:=if AO H D k=0 then gD (qE H D k) k.toNat else 0
theorem uV{k:Int}(hk:0<=k/\k<4):fp 1 (sk k):=oa ah ah ah (by have :=cL (n:=k) ⟨by omega,by omega⟩;omega)
theorem zF{k:Int}{l:List Int}(hk:0<=k/\k<4)(hl:l.length<=3)(hi:∀x∈l,o5 x):(cY ((k::l).map ck) sp).size<=1000:=by
 have h1:=jx sp 30 ((k::l).map ck) (fun x hx=>by
  obtain⟨n,hn,rfl⟩:=aB.1 hx;have hb:o5 n:=by
   rcases aK.1 hn with rfl|hn
   ·exact⟨by omega,by omega⟩
   ·exact hi n hn
  have :=cL hb;omega)
 have h2:sp.size=1:=rfl;rw[h2,aX,List.length_cons]at h1;omega
theorem lx{k:Int}{l:List Int}(hk:0<=k/\k<4)(hl:l.length<=3)(hi:∀x∈l,o5 x):fp 1 (ic k l):=oa ah ah ah (by have :=zF hk hl hi;omega)
end WB
namespace Go.Proofs.YtjhogocabcdjbabGreatDoor
open Tryz
open Go Go.RowKit WB
theorem V7(w0:World)(L:List HP)(v:Value)(xs:List Nm)(f:FuncId)(cp:List Value)(pf:Nm->Bool)(hr:∀w,St w0 L w->qX w 3 Nm.cells v xs)(hlen:xs.length<1000000)(fI:∀args w,(callFunc f args).run prog w=.ok (.enter f args) w)(qT:∀e,e∈xs->KE prog f ([]++([Value.agg e.cells.toArray]++cp)).toArray w0 L (fun v L'=>v=.bool (pf e)/\L'=L)):
 KE prog 270 #[v,.func (.func f) [].toArray cp.toArray] w0 L (fun v L'=>v=.int .i64 (oH pf xs)/\L'=L):=by
 refine KE.mk (n:=19) func270 rfl ntmps270 ai ?_;intro w hw;obtain⟨a,cap,rfl,hc⟩:=hr w hw;refine lg ?_;refine yj ?_;refine oL ?_;refine K.loop (fun k:Nat=>[(0,.slice a xs.length cap),(1,.func (.func f) [].toArray cp.toArray),(7,.int .i64 (xs.length:Nat)),(8,.int .i64 (k:Nat))]) (fun _=>[]) (fun k=>k<=xs.length/\∀(j:Nat) (u:Nm),j<k->xs[j]? =some u->pf u=false) (fun k=>xs.length-k) 0 ⟨by omega,fun j u h=>by omega⟩ ⟨rfl,rfl,rfl,rfl,trivial⟩ (fun _ h=>h) ?_;rintro k ⟨hk,mU⟩;refine lW ?_;refine K.bn rfl (fun h=>?_) (fun h=>?_)
 ·have dN:k<xs.length:=by omega
  obtain⟨e,he⟩:∃e,xs[k]? =some e:=⟨xs[k],ak dN⟩;obtain⟨ad,rfl,hh⟩:=hc k e he;refine sy ?_;refine jo ?_;refine gZ ?_;refine T2 ?_;refine KO.vf (cs:=e.cells.toArray) rfl rfl isAgg75 sizeOf75 rfl hh rfl ?_;refine KO.ce rfl rfl rfl fI rfl ((qT e (ax he)).kP hw) ?_;rintro v L' ⟨rfl,rfl⟩;refine Z3 ?_;refine K.cond rfl (fun h1=>?_) (fun h1=>?_)
  ·refine m_ ?_;refine nX ?_;refine KQ.aU rfl rfl (fun w' hs=>⟨_,_,rfl,⟨?_,rfl⟩,hw.aA hs.below,hs.below⟩);rw[rB he h1 mU]
  ·refine lY ?_;refine KQ.round (k+1) ⟨by omega,fun j u hj hu=>?_⟩ ae ⟨rfl,rfl,rfl,rfl,trivial⟩ (fun _ h=>h);by_cases Bk:j=k
   ·subst Bk;rw[he]at hu;simp only[az]at hu;rw[<-hu];exact h1
   ·exact mU j u ae hu
 ·refine yc ?_;refine KQ.aU rfl rfl (fun w' hs=>⟨_,_,rfl,⟨?_,rfl⟩,hw.aA hs.below,hs.below⟩);rw[ph fun j u hu=>mU j u Y15 hu]
theorem Xf(w0:World)(L:List HP)(v:Value)(xs:List Nm)(f:FuncId)(cp:List Value)(pf:Nm->Bool)(hr:∀w,St w0 L w->qX w 3 Nm.cells v xs)(hlen:xs.length<1000000)(fI:∀args w,(callFunc f args).run prog w=.ok (.enter f args) w)(qT:∀e,e∈xs->KE prog f ([]++([Value.agg e.cells.toArray]++cp)).toArray w0 L (fun v L'=>v=.bool (pf e)/\L'=L)):
 KE prog 178 #[v,.func (.func f) [].toArray cp.toArray] w0 L (fun v L'=>v=.bool (xs.any pf)/\L'=L):=by
 refine KE.mk (n:=9) func178 rfl ntmps178 ai ?_;intro w hw;refine yb ?_;refine KO.ce rfl rfl rfl call270 rfl ((V7 w0 L v xs f cp pf hr hlen fI qT).kP hw) ?_;rintro v L' ⟨rfl,rfl⟩;refine qG ?_;refine kq ?_;refine KQ.aU rfl rfl (fun w' hs=>⟨_,_,rfl,⟨?_,rfl⟩,hw.aA hs.below,hs.below⟩);rw[nJ]
theorem Zw(w0:World)(L R:List HP)(e:Nm)(b:Nat)(s:aj)(E:TypeId)(hp:bB L (bA b (.cells [Value.string s].toArray E (0,0))) R):
 KE prog 179 #[.agg e.cells.toArray,.pointer (some ⟨b,0,none⟩)] w0 L (fun v L'=>v=.bool (decide (e.name=s))/\L'=L):=by
 obtain⟨en,et,eh⟩:=e;refine KE.mk (n:=8) func179 rfl ntmps179 ai ?_;intro w hw;have hw:=hw.pick hp;refine Z2 ?_;refine KO.box rfl rfl aN rfl ?_;intro b2;refine oK ?_;refine A3 ?_;refine KO.ldb hw rfl rfl isAgg9 br aN rfl ?_;refine B6 ?_;refine kq ?_;refine KQ.aU rfl rfl (fun w' hs=>⟨_,_,rfl,⟨rfl,rfl⟩,(hw.vR hp).aA hs.below,hs.below⟩)
theorem C3(w0:World)(L:List HP)(bh bd n:Nat)(H:Ho)(D:Dk)(s:aj)(hT:ym w0)(hM:xg w0)(hB:cx n H)(hn:n+1<=90000)(h3:D.places.length=300)(hd: -4000000000000000000<=D.left/\D.left<=9223372036854775807):
 KC prog 94 #[bN bh,.string s] w0 (dt bh bd H::ga bd D::L) (fun u M=>u=dj 70 (Vu H D s)/\M=dt bh bd (QT H D s)::ga bd (Up H D s)::L):=by
 have xU:=hB.fT;have hrt:=hB.right;unfold Vu QT Up;refine KC.mk (n:=17) func94 rfl ntmps94 ai ?_;refine kO ?_;refine K.bV (fun _ h=>cn h) ?_;rintro⟨V,hV⟩;dsimp only;refine di ?_;refine KO.box rfl rfl aN rfl ?_;intro b3;refine jo ?_;refine Hr ?_;refine KO.ce (cp:=[]) rfl rfl rfl call169 rfl (IZ w0 _ _ _ bh 6 (fe bd V H) 133 V.nv H.names aQ aQ rfl ae) ?_;rintro va L' rfl;refine Hh ?_;refine KO.ce rfl rfl rfl call178 rfl (Xf w0 _ va H.names 179 [.pointer (some ⟨b3,0,none⟩)] (fun x=>decide (x.name=s)) (fun w' hw'=>qX.FX (E:=75) (sz:=3) (cf:=Nm.cells) (fun _=>rfl) .head hw') ae call179 (fun e _=>Zw _ _ _ e b3 s _ aQ)) ?_;rintro v' L' ⟨rfl,rfl⟩;refine oJ ?_;have back:∀{w':World},St w0 (fb va H.names::bA b3 (.cells [Value.string s].toArray 9 (0,0))::bA bh (.cells (fe bd V H).toArray 133 (0,0))::fb V.nv H.names::bP Value.string V.mb (dI V H)::bI jv V.ps H.all::bI cX (V.us.map (·.1)) (H.ay.map (·.aT))::bI cV (V.us.map (·.2)) (H.ay.map (·.aY))::bI dU V.bs H.batch::ga bd D::L) w'->St w0 (dt bh bd H::ga bd D::L) w':=fun h=>bM V hV (h.all Y4)
 cases ha:H.names.any (fun x=>decide (x.name=s))with
 |false=>
  have he:oy H s=7:=by unfold oy;rw[ha];rfl
  rw[he];refine xa ?_;refine Iu ?_;refine AZ ?_;refine KQ.aU rfl rfl (fun w' aM=>⟨_,_,rfl,⟨rfl,rfl⟩,bM V hV (aM.all Y4)⟩)
 |true=>
  have he:oy H s=0:=by unfold oy;rw[ha];rfl
  obtain⟨x,hx,tG⟩:=List.any_eq_true.1 ha;have tG:x.name=s:=by simpa using tG
  have dM:=(uM (hrt x hx)).1;rw[tG]at dM;have lH:fp 1 (tt s):=oa ah ah ah ae;rw[he];refine Lz ?_;refine K.conv (L':=dt bh bd H::ga bd D::bA b3 (.cells [Value.string s].toArray 9 (0,0))::L) (fun w' aM=>bM V hV (aM.all Y4)) ?_
  refine cW ?_;refine pG ?_;refine KO.cat rfl rfl (by have :(⟨#[100,58]⟩:aj).size=2:=rfl;omega) rfl ?_;rw[show(⟨#[100,58]⟩++s:aj)=tt s from by unfold tt;rw[show(⟨#[100,58]⟩:aj)=bZ 100++bZ 58 by decide]];refine KO.cl (cp:=[]) rfl rfl rfl call84 rfl (KC.yC br br (o6 w0 _ bh bd n 1 H D (tt s) hT hM hB lH ae h3 hd)) ?_;rintro v' L' ⟨rfl,rfl⟩;refine kq ?_;refine KQ.aU rfl rfl (fun w' aM=>⟨_,_,rfl,⟨rfl,rfl⟩,aM.all Y4⟩)
theorem yP(w0:World)(L:List HP)(bh bd n:Nat)(H:Ho)(D:Dk)(k m:Int)(hT:ym w0)(hM:xg w0)(hB:cx n H)(hn:n+1<=90000)(h3:D.places.length=300)(hd: -4000000000000000000<=D.left/\D.left<=9223372036854775807):
 KC prog 100 #[bN bh,.int .i64 k,.int .i64 m] w0 (dt bh bd H::ga bd D::L) (fun u M=>u=dj 70 (Xk H D k m)/\M=dt bh bd (G8 H D k m)::ga bd (JG H D k m)::L):=by
 unfold Xk G8 JG;refine KC.mk (n:=44) func100 rfl ntmps100 ai ?_;refine iz ?_;refine Vc ?_;cases hk:cb H k with
 |false=>
  have he:mJ H k m=2:=by unfold mJ;rw[if_pos hk]
  rw[he];refine gY ?_;refine KO.ce (cp:=[]) rfl rfl rfl call79 rfl (eI w0 _ _ bh bd H k br) ?_;rintro v' L' ⟨rfl,rfl⟩;rw[hk];refine pC ?_;refine Z8 ?_;refine Br ?_;refine ya ?_;refine KQ.aU rfl rfl (fun w' aM=>⟨_,_,rfl,⟨rfl,rfl⟩,aM⟩)
 |true=>
 obtain⟨xV,qC,-⟩:=b_.1 hk;obtain⟨j,rfl⟩:∃j:Nat,k=(j:Int):=⟨k.toNat,by omega⟩;have hj:j<4:=by omega
 refine gY ?_;refine KO.ce (cp:=[]) rfl rfl rfl call79 rfl (eI w0 _ _ bh bd H (j:Int) br) ?_;rintro v' L' ⟨rfl,rfl⟩;rw[hk];refine pC ?_;refine qV ?_;refine oI ?_;refine kO ?_;refine K.bV (fun _ h=>cn h) ?_;rintro⟨V,hV⟩;dsimp only;cases vx:H.down with
 |true=>
  have he:mJ H (j:Int) m=6:=by unfold mJ;rw[if_neg Zn,if_pos vx]
  rw[he];refine Hq ?_;refine qV ?_;refine K.bW rfl vx ?_;refine ya ?_;refine KQ.aU rfl rfl (fun w' aM=>⟨_,_,rfl,⟨rfl,rfl⟩,bM V hV aM⟩)
 |false=>
 refine Hq ?_;refine qV ?_;refine K.ct rfl vx ?_;refine kO ?_;have NG:=hV.bs;have Pz:=hV.batch;obtain⟨bv,Df⟩:∃e,V.bs[j]? =some e:=⟨_,ak ae⟩;obtain⟨bl,wT⟩:∃e,H.batch[j]? =some e:=⟨_,ak ae⟩;have Te:cJ H j=bl:=by unfold cJ;rw[au,wT];rfl
 obtain⟨c1,c2⟩:=r9 (bd:=bd) hV Df;obtain⟨d1,d2⟩:=yJ (bd:=bd) hV hj;have he:mJ H (j:Int) m=if bl=[]\/m≠gD H j then 8 else 0:=by unfold mJ;rw[if_neg Zn,if_neg (by simp[vx]),aE,Te]
 refine T7 ?_;refine K.fact (fun w hw=>ra (hw.pick (A:=dU bv bl) .head)) ?_;rintro⟨ba,bc,rfl⟩;have back:∀{w':World} {M:List HP},St w0 (dU (.slice ba bl.length bc) bl::bI dU (V.bs.eraseIdx j) (H.batch.eraseIdx j)::bA bh (.cells (fe bd V H).toArray 133 (0,0))::fb V.nv H.names::bP Value.string V.mb (dI V H)::bI jv V.ps H.all::bI cX (V.us.map (·.1)) (H.ay.map (·.aT))::bI cV (V.us.map (·.2)) (H.ay.map (·.aY))::M) w'->St w0 (dt bh bd H::M) w':=fun h=>bM V hV ((fY Df wT h).all Y7)
 refine K.cut (fun b:Bool=>[(0,bN bh),(1,.int .i64 (j:Nat)),(19,.bool b)]) (fun _=>dt bh bd H::ga bd D::L) (fun b=>b=decide (bl=[]\/m≠gD H j)) ?_ ?_
 ·by_cases h0:bl=[]
  ·have PG:(bl.length:Int)=0:=by rw[h0];rfl
   refine gY ?_;refine EX ?_;refine Ns ?_;refine ub ?_;refine EF ?_;refine B1 ?_;refine Vd ?_;refine sx ?_;refine rL ?_;exact KQ.kT true (by simp[h0]) ⟨rfl,rfl,rfl,trivial⟩ (fun w' aM=>back (aM.all ft))
  ·have PG:¬(bl.length:Int)=0:=by
    have :bl.length≠0:=fun e=>h0 (List.length_eq_zero_iff.1 e)
    omega
   refine gY ?_;refine EX ?_;refine Ns ?_;refine ub ?_;refine EF ?_;refine sC ?_;refine sC ?_;refine BU ?_;refine QD ?_;refine KO.on rfl rfl (decide_eq_false PG) ?_;refine KO.jd (i:=j) rfl rfl runUnderlying95 sizeOf3 rfl ae rfl ?_;refine KO.on rfl rfl (decide_eq_false PG) ?_;refine KO.bO (i:=26+j) rfl rfl isAgg3 aQ yY d1 rfl ?_;refine sh ?_;refine Na ?_;refine Fb ?_;refine rL ?_;exact KQ.kT (decide (m≠gD H j)) (by simp[h0]) ⟨rfl,rfl,rfl,trivial⟩ (fun w' aM=>back (aM.all ft))
 ·rintro b hb;rw[hb];refine K.bn rfl (fun h6=>?_) (fun h6=>?_)
  ·rw[if_pos h6]at he;rw[he];refine ya ?_;refine KQ.aU rfl rfl (fun w' aM=>⟨_,_,rfl,⟨rfl,rfl⟩,aM⟩)
  ·rw[if_neg h6]at he;rw[he];have lH:=uV (k:=(j:Int)) ⟨by omega,by omega⟩;have his:=cL (n:=(j:Int)) ⟨by omega,by omega⟩;refine Yg ?_;refine lO ?_;refine KO.ce (cp:=[]) rfl rfl rfl call59 rfl (nF w0 _ (j:Int) hT ⟨by omega,by omega⟩) ?_;rintro v' L' ⟨rfl,rfl⟩;refine KO.cat rfl rfl (by have :(⟨#[97,58]⟩:aj).size=2:=rfl;omega) rfl ?_;rw[show(⟨#[97,58]⟩++ck (j:Int):aj)=sk (j:Int)from by unfold sk;rw[show(⟨#[97,58]⟩:aj)=bZ 97++bZ 58 by decide]];refine KO.cl (cp:=[]) rfl rfl rfl call84 rfl (KC.yC br br (o6 w0 _ bh bd n 1 H D (sk (j:Int)) hT hM hB lH ae h3 hd)) ?_;rintro v' L' ⟨rfl,rfl⟩;refine kq ?_;refine KQ.aU rfl rfl (fun w' aM=>⟨_,_,rfl,⟨rfl,rfl⟩,aM.all ft⟩)
theorem V8(w0:World)(L:List HP)(v:Value)(xs:List Int)(x:Int)(hr:∀w,St w0 L w->qX w 1 kB v xs)(hlen:xs.length<1000000):
 KE prog 176 #[v,.int .i64 x] w0 L (fun v L'=>v=.int .i64 (oH (fun y=>decide (x=y)) xs)/\L'=L):=by
 refine KE.mk (n:=19) func176 rfl ntmps176 ai ?_;intro w hw;obtain⟨a,cap,rfl,hc⟩:=hr w hw;refine lg ?_;refine JY ?_;refine K.loop (fun k:Nat=>[(0,.slice a xs.length cap),(1,.int .i64 x),(7,.int .i64 (xs.length:Nat)),(8,.int .i64 (k:Nat))]) (fun _=>[]) (fun k=>k<=xs.length/\∀(j:Nat) (u:Int),j<k->xs[j]? =some u->(fun y=>decide (x=y)) u=false) (fun k=>xs.length-k) 0 ⟨by omega,fun j u h=>by omega⟩ ⟨rfl,rfl,rfl,rfl,trivial⟩ (fun _ h=>h) ?_;rintro k ⟨hk,mU⟩;refine lW ?_;refine K.bn rfl (fun h=>?_) (fun h=>?_)
 ·have dN:k<xs.length:=by omega
  obtain⟨e,he⟩:∃e,xs[k]? =some e:=⟨xs[k],ak dN⟩;obtain⟨ad,rfl,hh⟩:=hc k e he;have hh2:w.cell? (ad.add (k *1))=some (.int .i64 e):=by
   have :=hh 0 _ rfl
   rwa [Addr.add_add,Nat.add_zero]at this
  refine sy ?_;refine jo ?_;refine gZ ?_;refine KO.My rfl rfl runUnderlying23 sizeOf3 aN ae rfl ?_;refine KO.sl rfl rfl isAgg3 hh2 rfl ?_;refine mM ?_;refine K.bn rfl (fun h1=>?_) (fun h1=>?_)
  ·refine m_ ?_;refine nX ?_;refine KQ.aU rfl rfl (fun w' hs=>⟨_,_,rfl,⟨?_,rfl⟩,hw.aA hs.below,hs.below⟩);rw[rB he (p:=fun y=>decide (x=y)) Yp mU]
  ·refine lY ?_;refine KQ.round (k+1) ⟨by omega,fun j u hj hu=>?_⟩ ae ⟨rfl,rfl,rfl,rfl,trivial⟩ (fun _ h=>h);by_cases Bk:j=k
   ·subst Bk;rw[he]at hu;simp only[az]at hu;rw[<-hu];simpa using h1
   ·exact mU j u ae hu
 ·refine yc ?_;refine KQ.aU rfl rfl (fun w' hs=>⟨_,_,rfl,⟨?_,rfl⟩,hw.aA hs.below,hs.below⟩);rw[ph fun j u hu=>mU j u Y15 hu]
theorem Xg(w0:World)(L:List HP)(v:Value)(xs:List Int)(x:Int)(hr:∀w,St w0 L w->qX w 1 kB v xs)(hlen:xs.length<1000000):
 KE prog 92 #[v,.int .i64 x] w0 L (fun v L'=>v=.bool (decide (x∈xs))/\L'=L):=by
 refine KE.mk (n:=9) func92 rfl ntmps92 ai ?_;intro w hw;refine yb ?_;refine KO.ce (cp:=[]) rfl rfl rfl call176 rfl ((V8 w0 L v xs x hr hlen).kP hw) ?_;rintro v L' ⟨rfl,rfl⟩;refine qG ?_;refine kq ?_;refine KQ.aU rfl rfl (fun w' hs=>⟨_,_,rfl,⟨?_,rfl⟩,hw.aA hs.below,hs.below⟩);rw[nJ];congr 1;rw[List.any_eq];simp
theorem PF(w0:World)(L:List HP)(bh bd n:Nat)(H:Ho)(D:Dk)(k:Int)(hT:ym w0)(hM:xg w0)(hB:cx n H)(hn:n+1<=80000)(h3:D.places.length=300)(hd: -4000000000000000000<=D.left/\D.left<=9223372036854775807):
 KC prog 35 #[bN bh,.int .i64 k] w0 (dt bh bd H::ga bd D::L) (fun u M=> ∃v,u=.tuple #[.int .i64 (Rg H D k),v,dj 70 (AO H D k)]/\M=SL 44 5 dy v (Rj H D k)::dt bh bd (qE H D k)::ga bd (xY H D k)::L):=by
 have hid:∀j,j<4->∀m∈eX (H.iY j),o5 m.id:=fun j hj m hm=>by
  unfold eX at hm;obtain⟨e,he,rfl⟩:=aB.1 hm;have :=(hB.w hj).ids e (aF.1 he).1;exact⟨by omega,by omega⟩
 have hBb:cx (n+1) (qE H D k):=by
  unfold qE;split
  ·rename_i sq;have Aj:cb H k=true:=by
    unfold gJ tT at sq;cases hk:cb H k with
    |true=>rfl
    |false=>rw[hk]at sq;simp at sq
   obtain⟨xV,qC,-⟩:=b_.1 Aj;unfold nZ;split
   ·exact(hB.log (D:=D)).KK (lx ⟨xV,qC⟩ (by unfold cG;simp;omega) (fun x hx=>by
     obtain⟨m,hm,rfl⟩:=aB.1 hx
     exact hid _ ae m (List.mem_of_mem_take hm))) ae
   ·exact(hB.log (D:=D)).le ae
  ·exact hB.le ae
 have early:∀e:Int,e≠0->AO H D k=e->gJ H k=false->∀w',St w0 (dt bh bd H::ga bd D::L) w'->∃v L',Ending.returned (.tuple #[.int .i64 0,.slice none 0 0,dj 70 e])=Ending.returned v/\(∃u,v=.tuple #[.int .i64 (Rg H D k),u,dj 70 (AO H D k)]/\L'=SL 44 5 dy u (Rj H D k)::dt bh bd (qE H D k)::ga bd (xY H D k)::L)/\St w0 L' w':=fun e he hb sq w' aM=>by
  refine⟨_,_,rfl,⟨.slice none 0 0,?_,rfl⟩,?_⟩
  ·unfold Rg;rw[hb,if_neg he]
  ·unfold Rj qE xY;rw[hb,if_neg he,sq];exact cw aM
 refine KC.mk (n:=105) func35 rfl ntmps35 ai ?_;refine iz ?_;refine Z8 ?_;refine jL ?_;cases hk:cb H k with
 |false=>
  have he:tT H k=2:=by unfold tT;rw[if_pos hk]
  have fX:AO H D k=2:=by unfold AO;rw[he];rfl
  have sq:gJ H k=false:=by unfold gJ;rw[he];rfl
  refine gY ?_;refine KO.ce (cp:=[]) rfl rfl rfl call79 rfl (eI w0 _ _ bh bd H k br) ?_;rintro v' L' ⟨rfl,rfl⟩;rw[hk];refine A4 ?_;refine Iu ?_;refine Z8 ?_;refine xe ?_;refine KQ.rj rfl rfl rfl rfl (fun w' aM=>early 2 ah fX sq w' aM)
 |true=>
 obtain⟨xV,qC,-⟩:=b_.1 hk;obtain⟨j,rfl⟩:∃j:Nat,k=(j:Int):=⟨k.toNat,by omega⟩;have hj:j<4:=by omega
 refine gY ?_;refine KO.ce (cp:=[]) rfl rfl rfl call79 rfl (eI w0 _ _ bh bd H (j:Int) br) ?_;rintro v' L' ⟨rfl,rfl⟩;rw[hk];refine BX ?_;refine K.bV (fun _ h=>cn h) ?_;rintro⟨V,hV⟩;dsimp only;cases vx:H.down with
 |true=>
  have he:tT H (j:Int)=6:=by unfold tT;rw[if_neg Zn,if_pos vx]
  have fX:AO H D (j:Int)=6:=by unfold AO;rw[he];rfl
  have sq:gJ H (j:Int)=false:=by unfold gJ;rw[he];rfl
  refine Hq ?_;refine Z3 ?_;refine K.bW rfl vx ?_;refine Iu ?_;refine Z8 ?_;refine xe ?_;refine KQ.rj rfl rfl rfl rfl (fun w' aM=>early 6 ah fX sq w' (bM V hV aM))
 |false=>
 refine Hq ?_;refine Z3 ?_;refine K.ct rfl vx ?_;refine Z6 ?_;have NG:=hV.bs;have Pz:=hV.batch;have ku:=hV.ps;obtain⟨bv,Df⟩:∃e,V.bs[j]? =some e:=⟨_,ak ae⟩;obtain⟨bl,wT⟩:∃e,H.batch[j]? =some e:=⟨_,ak ae⟩;have Te:cJ H j=bl:=by unfold cJ;rw[au,wT];rfl
 obtain⟨c1,c2⟩:=r9 (bd:=bd) hV Df;obtain⟨p,hp⟩:∃p,V.ps[j]? =some p:=⟨_,ak ae⟩;have hw:=qg (bd:=bd) hV hj hp;have cU:=pB hV.ways hj;have Ik:=(hB.w hj).len;have qf:tT H (j:Int)=if bl=[]/\eX (H.iY j)=[]then 8 else 0:=by unfold tT;rw[if_neg Zn,if_neg (by simp[vx]),aE,Te]
 refine T7 ?_;refine K.fact (fun w hw=>ra (hw.pick (A:=dU bv bl) .head)) ?_;rintro⟨ba,bc,rfl⟩;have back:∀{w':World} {M:List HP},St w0 (dU (.slice ba bl.length bc) bl::bI dU (V.bs.eraseIdx j) (H.batch.eraseIdx j)::bA bh (.cells (fe bd V H).toArray 133 (0,0))::fb V.nv H.names::bP Value.string V.mb (dI V H)::bI jv V.ps H.all::bI cX (V.us.map (·.1)) (H.ay.map (·.aT))::bI cV (V.us.map (·.2)) (H.ay.map (·.aY))::M) w'->St w0 (dt bh bd H::M) w':=fun h=>bM V hV ((fY Df wT h).all Y7)
 refine gY ?_;refine EX ?_;refine Ns ?_;refine ub ?_;refine mM ?_;refine K.cut (fun _:Unit=>[(0,bN bh),(1,.int .i64 (j:Nat))]) (fun _=>dt bh bd (qE H D (j:Int))::ga bd (xY H D (j:Int))::L) (fun _=>AO H D (j:Int)=0) ?_ ?_
 ·refine K.bn rfl (fun h0=>?_) (fun h0=>?_)
  ·have SZ:bl=[]:=List.length_eq_zero_iff.1 ae;refine lO ?_;refine Ua ?_;refine KO.bO (i:=8+j) rfl rfl isAgg119 aQ yY hw rfl ?_;refine KO.ce (cp:=[]) rfl rfl rfl call80 rfl (KE.GQ (A:=fun v=>oN v (eX (H.iY j))) (φ:=fun _=>True) hp cU aQ (fun L=>KE.mono (Kr w0 _ _ p (H.iY j) .head ae) (fun v M h=>⟨trivial,h⟩))) ?_;rintro va L' ⟨-,rfl⟩;refine jL ?_;have ry:=hid j hj;have xy:(eX (H.iY j)).length<=n:=by unfold eX;rw[aX];exact Nat.le_trans (List.length_filter_le _ _) Ik
   have UP:cG H j=((eX (H.iY j)).take 3).map (·.id):=rfl;generalize htq:eX (H.iY j)=tl at ry xy UP qf ⊢;refine K.fact (fun w hw=>bo (hw.pick (A:=oN va tl) .head)) ?_;rintro⟨ta,tc,rfl,YO⟩;refine cW ?_;refine Is ?_;refine mM ?_;refine K.bn rfl (fun h7=>?_) (fun h7=>?_)
   ·have htn:tl=[]:=List.length_eq_zero_iff.1 ae;rw[if_pos ⟨SZ,htn⟩]at qf;have fX:AO H D (j:Int)=8:=by unfold AO;rw[qf];rfl
    have sq:gJ H (j:Int)=false:=by unfold gJ;rw[qf];rfl
    refine Iu ?_;refine Z8 ?_;refine xe ?_;refine KQ.rj rfl rfl rfl rfl (fun w' aM=>early 8 ah fX sq w' ?_);have h1:=back (M:=ga bd D::L) (aM.all Y4);exact h1
   ·have htn:tl≠[]:=fun e=>h7 (by rw[e];rfl)
    rw[if_neg (fun e=>htn e.2)]at qf;have sq:gJ H (j:Int)=true:=by unfold gJ;rw[qf,aE,Te,SZ];rfl
    obtain⟨g,rfl⟩:=YO (by have :tl.length≠0:=fun e=>h7 ae
                          omega)
    have hjt:(j:Int).toNat=j:=aE j
    have lH:=lx (k:=(j:Int)) (l:=cG H j) ⟨by omega,by omega⟩ (by rw[UP];simp;omega) (fun x hx=>by
     rw[UP]at hx;obtain⟨m,hm,rfl⟩:=aB.1 hx
     exact ry m (List.mem_of_mem_take hm))
    have SQ:=zF (k:=(j:Int)) (l:=cG H j) ⟨by omega,by omega⟩ (by rw[UP];simp;omega) (fun x hx=>by
     rw[UP]at hx;obtain⟨m,hm,rfl⟩:=aB.1 hx
     exact ry m (List.mem_of_mem_take hm))
    refine K.fact (fun w hw=>(EZ (hw.pick (A:=oN (.slice (some ⟨g,0,none⟩) tl.length tc) tl) br)).2) ?_;intro htc;generalize kD:cG H j=il at lH SQ UP;have afh:il.length=min tl.length 3:=by rw[UP,aX,bu];omega
    have ae9:(min (tl.length:Int) 3)=((min tl.length 3:Nat):Int):=by omega
    refine qp ?_;refine KO.ce (cp:=[]) rfl rfl rfl call59 rfl (nF w0 _ (j:Int) hT ⟨by omega,by omega⟩) ?_;rintro v' L' ⟨rfl,rfl⟩;refine KO.sw (z:=(Value.string ⟨#[]⟩)) (sz:=1) (fk:=16) rfl rfl underlying115 bC aN aN ah ah rfl ?_;intro b46;refine jL ?_;refine K.conv (fun w' hw'=>Cj (b:=b46) (vs:=[.string (ck (j:Int))]) (xs:=[ck (j:Int)]) (k:=1) (hw'.pick br) rfl rfl ae) ?_
    refine gY ?_;refine Is ?_;refine KO.min2 rfl rfl ae9 rfl ?_;refine KO.vD (hi:=min tl.length 3) rfl rfl underlying49 sizeOf44 rfl ae rfl ?_;refine BY ?_;refine K.loop (fun q:Nat×Value=>[(0,bN bh),(1,.int .i64 (j:Nat)),(8,q.2),(51,.slice (some ⟨g,0,none⟩) (min tl.length 3) tc),(52,.int .i64 ((min tl.length 3:Nat):Int)),(53,.int .i64 (q.1:Nat))])
     (fun q=>ni q.2 (((j:Int)::il.take q.1).map ck)::oN (.slice (some ⟨g,0,none⟩) tl.length tc) tl::dU (.slice ba bl.length bc) bl::bI dU (V.bs.eraseIdx j) (H.batch.eraseIdx j)::bA bh (.cells (fe bd V H).toArray 133 (0,0))::fb V.nv H.names::bP Value.string V.mb (dI V H)::bI jv V.ps H.all::bI cX (V.us.map (·.1)) (H.ay.map (·.aT))::bI cV (V.us.map (·.2)) (H.ay.map (·.aY))::ga bd D::L)
     (fun q=>q.1<=min tl.length 3) (fun q=>min tl.length 3-q.1) (0,.slice (some ⟨b46,0,none⟩) 1 1) (aH _) ⟨rfl,rfl,rfl,rfl,rfl,rfl,trivial⟩ (fun w' aM=>aM.all Y7) ?_
    rintro⟨i,v8⟩ hi;dsimp only at hi ⊢;refine lW ?_;refine K.bn rfl (fun Ao=>?_) (fun Ao=>?_)
    ·obtain⟨m,hm⟩:∃e,tl[i]? =some e:=⟨tl[i],ak ae⟩;have Pj:=ry m (ax hm);have hit:il[i]? =some m.id:=by rw[UP,aG,List.getElem?_take,if_pos ae,hm];rfl
     obtain⟨mi,mp,mb,mq,mh⟩:=m;dsimp only at Pj hit;refine si ?_;refine XT ?_;refine KO.BE rfl rfl isAgg44 sizeOf44 aQ (fun _=>rfl) sE rfl ?_;refine KO.alloc rfl zeroValue44 aN rfl ?_;intro TC;refine TH ?_;refine Z3 ?_;refine cW ?_;refine Nj ?_;refine KO.ld (v:=.int .i64 mi) rfl rfl isAgg3 br aN rfl ?_;refine KO.ce (cp:=[]) rfl rfl rfl call59 rfl (nF w0 _ mi hT Pj) ?_;rintro v' L' ⟨rfl,rfl⟩;refine KO.sw (z:=(Value.string ⟨#[]⟩)) (sz:=1) (fk:=16) rfl rfl underlying115 bC aN aN ah ah rfl ?_;intro b61;refine KO.app (cf:=mf) (z:=Value.string ⟨#[]⟩) (sz:=1) (fk:=16) (xs:=((j:Int)::il.take i).map ck) rfl rfl rfl (.tail (.tail .head)) .head underlying115 nh rfl (ck mi) rfl rfl rfl ez ah rfl ?_;intro v62;refine qq ?_;refine KQ.round (i+1,v62) fZ fZ ⟨rfl,rfl,rfl,rfl,rfl,rfl,trivial⟩ (fun w' aM=>?_);dsimp only;rw[a_ hit,<-bz,aZ];exact aM.all Y4
    obtain rfl:i=min tl.length 3:=by omega
    rw[<-afh,List.take_length];have hbe:AO H D (j:Int)=ec H D:=by unfold AO;rw[qf,sq];rfl
    have hbH:qE H D (j:Int)=nZ H D (ic (j:Int) il):=by unfold qE;rw[sq,hjt,kD];rfl
    have hbD:xY H D (j:Int)=gg H D (ic (j:Int) il):=by unfold xY;rw[sq,hjt,kD];rfl
    refine Z9 ?_;refine K.conv (L':=dt bh bd H::ga bd D::ni v8 (((j:Int)::il).map ck)::L) (fun w' aM=>?_) ?_
    ·have h1:=back (M:=ni v8 (((j:Int)::il).map ck)::ga bd D::L) (aM.all Y4);exact h1.all Y2
    refine gY ?_;refine KO.ce (cp:=[]) rfl rfl rfl call62 rfl (zZ w0 _ _ v8 (((j:Int)::il).map ck) sp aQ ez ae) ?_;rintro v' L' ⟨rfl,rfl⟩;refine KO.cat rfl rfl (by have :(⟨#[98,58]⟩:aj).size=2:=rfl;omega) rfl ?_;rw[show(⟨#[98,58]⟩++cY (((j:Int)::il).map ck) sp:aj)=ic (j:Int) il from by unfold ic;rw[show(⟨#[98,58]⟩:aj)=bZ 98++bZ 58 by decide]];refine KO.cl (cp:=[]) rfl rfl rfl call84 rfl (KC.yC br br (o6 w0 _ bh bd n 1 H D (ic (j:Int) il) hT hM hB lH ae h3 hd)) ?_;rintro v' L' ⟨rfl,rfl⟩;refine yf ?_;refine K.bn rfl (fun UX=>?_) (fun UX=>?_)
    ·refine m_ ?_;refine Z8 ?_;refine xe ?_;refine KQ.rj rfl rfl rfl rfl (fun w' aM=>⟨_,_,rfl,⟨.slice none 0 0,?_,rfl⟩,?_⟩)
     ·unfold Rg;rw[hbe,if_neg UX]
     ·unfold Rj;rw[hbe,if_neg UX,hbH,hbD];exact cw (aM.all Y1)
    ·refine B3 ?_;have af1:ec H D=0:=by simpa using UX
     exact KQ.kT () (by rw[hbe];exact af1) ⟨rfl,rfl,trivial⟩ (fun w' aM=>by rw[hbH,hbD];exact aM.all Y1)
  ·have xU:bl≠[]:=fun e=>h0 (by rw[e];rfl)
   rw[if_neg (fun e=>xU e.1)]at qf;have sq:gJ H (j:Int)=false:=by unfold gJ;rw[qf,aE,Te];simp[xU]
   have fX:AO H D (j:Int)=0:=by unfold AO;rw[qf,sq];rfl
   have hbH:qE H D (j:Int)=H:=by unfold qE;rw[sq];rfl
   have hbD:xY H D (j:Int)=D:=by unfold xY;rw[sq];rfl
   rw[hbH,hbD];refine B3 ?_;exact KQ.kT () fX ⟨rfl,rfl,trivial⟩ (fun w' aM=>back (aM.all ft))
 ·rintro⟨⟩ ML;have hbN:Rg H D (j:Int)=gD (qE H D (j:Int)) j:=by unfold Rg;rw[if_pos ML,aE]
  have hbL:Rj H D (j:Int)=(ig ((qE H D (j:Int)).iY j)).filter (O6 (cJ (qE H D (j:Int)) j)):=by unfold Rj;rw[if_pos ML,aE]
  rw[hbN,hbL,ML];generalize qE H D (j:Int)=H2 at hBb ⊢;generalize xY H D (j:Int)=D2;clear back early;refine K.bV (fun _ h=>cn h) ?_;rintro⟨V2,lI⟩;dsimp only;have akd:=lI.bs;have akc:=lI.batch;have SU:=lI.ps;obtain⟨bv2,WM⟩:∃e,V2.bs[j]? =some e:=⟨_,ak ae⟩;obtain⟨Fa,Tc⟩:∃e,H2.batch[j]? =some e:=⟨_,ak ae⟩;have afz:cJ H2 j=Fa:=by unfold cJ;rw[au,Tc];rfl
  have aa3:=hBb.ext.Xo Fa (ax Tc);rw[afz];obtain⟨c3,-⟩:=r9 (bd:=bd) lI WM;obtain⟨d3,-⟩:=yJ (bd:=bd) lI hj;obtain⟨p2,iq⟩:∃p,V2.ps[j]? =some p:=⟨_,ak ae⟩;have SI:=qg (bd:=bd) lI hj iq;have PA:=pB lI.ways hj;have ae2:=(hBb.w hj).len;have afG:(ig (H2.iY j)).length<=n+1:=by unfold ig;rw[aX];exact Nat.le_trans (List.length_filter_le _ _) ae2
  refine K.conv (fun w hw=>cM WM Tc (hw.pick (A:=bI dU V2.bs H2.batch) aQ)) ?_
  refine K.fact (fun w hw=>ra (hw.pick (A:=dU bv2 Fa) .head)) ?_;rintro⟨ba2,bc2,rfl⟩;have abI:∀{w':World} {M:List HP},St w0 (dU (.slice ba2 Fa.length bc2) Fa::bI dU (V2.bs.eraseIdx j) (H2.batch.eraseIdx j)::bA bh (.cells (fe bd V2 H2).toArray 133 (0,0))::fb V2.nv H2.names::bP Value.string V2.mb (dI V2 H2)::bI jv V2.ps H2.all::bI cX (V2.us.map (·.1)) (H2.ay.map (·.aT))::bI cV (V2.us.map (·.2)) (H2.ay.map (·.aY))::M) w'->St w0 (dt bh bd H2::M) w':=fun h=>bM V2 lI ((fY WM Tc h).all Y7)
  refine yb ?_;refine Ua ?_;refine KO.bO (i:=8+j) rfl rfl isAgg119 aQ yY SI rfl ?_;refine KO.ce (cp:=[]) rfl rfl rfl call67 rfl (KE.GQ (A:=fun v=>oN v (ig (H2.iY j))) (φ:=fun _=>True) iq PA aQ (fun L=>KE.mono (I7 w0 _ _ p2 (H2.iY j) .head ae) (fun v M h=>⟨trivial,h⟩))) ?_;rintro va L' ⟨-,rfl⟩;refine KO.fact (fun w hw=>bo (hw.pick (A:=oN va (ig (H2.iY j))) .head)) ?_;rintro⟨aa,ac,rfl,hag⟩;refine BY ?_;generalize ig (H2.iY j)=al at afG hag ⊢;refine K.loop (fun q:Nat×Value=>[(0,bN bh),(1,.int .i64 (j:Nat)),(12,q.2),(78,.slice aa al.length ac),(79,.int .i64 (al.length:Nat)),(80,.int .i64 (q.1:Nat))])
   (fun q=>SL 44 5 dy q.2 ((al.take q.1).filter (O6 Fa))::oN (.slice aa al.length ac) al::dU (.slice ba2 Fa.length bc2) Fa::bI dU (V2.bs.eraseIdx j) (H2.batch.eraseIdx j)::bA bh (.cells (fe bd V2 H2).toArray 133 (0,0))::fb V2.nv H2.names::bP Value.string V2.mb (dI V2 H2)::bI jv V2.ps H2.all::bI cX (V2.us.map (·.1)) (H2.ay.map (·.aT))::bI cV (V2.us.map (·.2)) (H2.ay.map (·.aY))::ga bd D2::L)
   (fun q=>q.1<=al.length) (fun q=>al.length-q.1) (0,.slice none 0 0) (aH _) ⟨rfl,rfl,rfl,rfl,rfl,rfl,trivial⟩ (fun w' aM=>?_) ?_
  ·have h1:=cw (E:=44) (sz:=5) (cf:=dy) aM;exact h1.all Y7
  rintro⟨i,v12⟩ hi;dsimp only at hi ⊢;refine lW ?_;refine K.bn rfl (fun NK=>?_) (fun NK=>?_)
  ·obtain⟨m,hm⟩:∃e,al[i]? =some e:=⟨al[i],ak ae⟩;obtain⟨g2,rfl⟩:=hag ae;have SO:(al.take (i+1)).filter (O6 Fa)=(al.take i).filter (O6 Fa)++if m.id∈Fa then[m]else[]:=by
    rw[a_ hm,bY];congr 1;rw[c_];unfold O6;by_cases hb:m.id∈Fa<;>simp[hb]
   have MJ:((al.take i).filter (O6 Fa)).length<=al.length:=Nat.le_trans (List.length_filter_le _ _) ez;obtain⟨mi,mp,mb,mq,mh⟩:=m;dsimp only at SO;refine si ?_;refine Ye ?_;refine KO.alloc rfl zeroValue44 aN rfl ?_;intro b14;refine tX ?_;refine K.draw [.pure,.pure,.pure,.pure,.pure,.read,.pure,.read,.ef] [0,1,2,3,4,5,6,7,8] bC bC ?_;refine gZ ?_;refine EX ?_;refine Zl ?_;refine KO.bO (i:=22+j) rfl rfl isAgg23 aQ yY c3 rfl ?_;refine Nj ?_;refine KO.ld (v:=.int .i64 mi) rfl rfl isAgg3 br aN rfl ?_;refine KO.ce (cp:=[]) rfl rfl rfl call92 rfl (Xg w0 _ _ Fa mi (fun w' hw'=>VH (hw'.pick (A:=dU (.slice ba2 Fa.length bc2) Fa) aQ)) ae) ?_;rintro v' L' ⟨rfl,rfl⟩;refine Z3 ?_;refine K.bn rfl (fun hb=>?_) (fun hb=>?_)
   ·rw[if_pos hb]at SO;refine cW ?_;refine yl ?_;refine KO.sw (z:=(Value.agg #[.int .i64 0,.int .i64 0,.string ⟨#[]⟩,.string ⟨#[]⟩,.int .i64 0])) (sz:=5) (fk:=56) rfl rfl underlying49 bC aN aN ah ah rfl ?_;intro b95;refine KO.app (cf:=dy) (z:=Value.agg #[.int .i64 0,.int .i64 0,.string ⟨#[]⟩,.string ⟨#[]⟩,.int .i64 0]) (sz:=5) (fk:=56) (xs:=(al.take i).filter (O6 Fa)) rfl rfl rfl aQ .head underlying49 bC aN ⟨mi,mp,mb,mq,mh⟩ rfl rfl rfl ae ah rfl ?_;intro v96;refine qq ?_;refine KQ.round (i+1,v96) fZ fZ ⟨rfl,rfl,rfl,rfl,rfl,rfl,trivial⟩ (fun w' aM=>?_);dsimp only;rw[SO];exact aM.all Y4
   ·rw[if_neg hb,List.append_nil]at SO;refine lY ?_;refine KQ.round (i+1,v12) fZ fZ ⟨rfl,rfl,rfl,rfl,rfl,rfl,trivial⟩ (fun w' aM=>?_);dsimp only;rw[SO];exact aM.all Y4
  ·obtain rfl:i=al.length:=by omega
   rw[List.take_length];refine Z9 ?_;refine JO ?_;refine QD ?_;refine Iv ?_;refine KO.bO (i:=26+j) rfl rfl isAgg3 aQ yY d3 rfl ?_;refine Z1 ?_;refine Z8 ?_;refine nP ?_;refine KQ.rj rfl rfl rfl rfl (fun w' aM=>⟨_,_,rfl,⟨v12,rfl,rfl⟩,?_⟩);have h1:=abI (M:=SL 44 5 dy v12 (al.filter (O6 Fa))::ga bd D2::L) (aM.all Y4);exact h1.all Y2
end Go.Proofs.YtjhogocabcdjbabGreatDoor
namespace WB
open Go
def VI (r:List (aj×Int)):List (aj×Value):=r.map fun x=>(x.1,.int .i64 x.2)
def FB (r:List (aj×Int)) (s:aj):Int:=(gj r s).getD 0
theorem Kw(r:List (aj×Int))(s:aj):(gj (VI r) s).getD (.int .i64 0)=.int .i64 (FB r s):=by
 unfold VI FB
 induction r with
 |nil=>rfl
 |cons x r ih=>
  rw[aJ,gj,gj];dsimp only;by_cases h:x.1=s
  ·rw[if_pos h,if_pos h];rfl
  ·rw[if_neg h,if_neg h,ih]
theorem RN(r:List (aj×Int))(s:aj)(v:Int):iU (VI r) s (.int .i64 v)=VI (iU r s v):=by
 unfold VI
 induction r with
 |nil=>rfl
 |cons x r ih=>
  rw[aJ,iU,iU];dsimp only;by_cases h:x.1=s
  ·rw[if_pos h,if_pos h];rfl
  ·rw[if_neg h,if_neg h,ih];rfl
theorem Kx(r:List (aj×Int))(s t:aj)(v:Int):FB (iU r s v) t=if s=t then v else FB r t:=by
 unfold FB;rw[sb];split<;>rfl
def toDead (H:Ho) (m:Ms) (r:List (aj×Int)):Bool:=match H.qI m.queue with
 |none=>true
 |some i=> !cP H.names m.queue||decide (20<=((H.dZ i).l.length:Int)+FB r m.queue)
def dh (H:Ho):List Ms->List (aj×Int)->List aj
 |[],_=>[]
 |m::l,r=>if toDead H m r=true then cr::dh H l r else m.queue::dh H l (iU r m.queue (FB r m.queue+1))
theorem lf(H:Ho):∀(l:List Ms) (r:List (aj×Int)),(dh H l r).length=l.length
 |[],_=>rfl
 |m::l,r=>by
  unfold dh;split<;>simp[lf H l]
theorem w_(H:Ho):∀(l:List Ms) (r:List (aj×Int)),∀t∈dh H l r,t=cr\/∃m∈l,t=m.queue
 |[],_,t,h=>by cases h
 |m::l,r,t,h=>by
  unfold dh at h;split at h
  ·rcases aK.1 h with rfl|h
   ·exact .inl rfl
   ·rcases w_ H l r t h with h|⟨x,hx,h⟩
    ·exact .inl h
    ·exact .inr ⟨x,by simp[hx],h⟩
  ·rcases aK.1 h with rfl|h
   ·exact .inr ⟨m,by simp,rfl⟩
   ·rcases w_ H l _ t h with h|⟨x,hx,h⟩
    ·exact .inl h
    ·exact .inr ⟨x,by simp[hx],h⟩
def jw (H:Ho) (m:Ms):Bool:=decide (m.bF≠H.id)||decide (m.id%4=H.id)
def sV (m x:Ms):Bool:=decide (x.id=m.id)
def Bx (H:Ho) (l:List Ms) (i:Nat) (m:Ms):Bool:=(l.take i).any (sV m)||H.aI.any fun x=>tu x.2 m.id
def AX (H:Ho) (l:List Ms):Bool:=l.zipIdx.any fun x=>Bx H l x.2 x.1
def tj (k:Int) (l:List Ms) (t:List aj):aj:=bZ 114++bZ 58++(ck k++bZ 47++(cK l++bZ 47++cY t plus))
def qn (H:Ho) (k n:Int) (l:List Ms):Int:=
 if cb H k=false then 2 else if H.down=true then 6 else if n<=fv H k.toNat then 0 else if fv H k.toNat+1<n then 10 else if jM l≠none\/l.any (jw H)=true then 1 else if AX H l=true then 9 else 0
def DH (H:Ho) (k n:Int) (l:List Ms):Bool:=decide (qn H k n l=0/\fv H k.toNat<n)
def EE (H:Ho) (D:Dk) (k n:Int) (l:List Ms):Int:=if qn H k n l≠0 then qn H k n l else if DH H k n l=true then ec H D else 0
def lN (H:Ho) (k:Int) (l:List Ms):aj:=tj k l (dh H l [])
def vF (H:Ho) (D:Dk) (k n:Int) (l:List Ms):Ho:=if DH H k n l=true then nZ H D (lN H k l)else H
def Bq (H:Ho) (D:Dk) (k n:Int) (l:List Ms):Dk:=if DH H k n l=true then gg H D (lN H k l)else D
def xZ (H:Ho) (D:Dk) (k n:Int) (l:List Ms):Int:=if EE H D k n l=0 then fv (vF H D k n l) k.toNat else 0
theorem ux{c:UInt8}(h2:isLet c=false){s:aj}(h:cH s=true):p7 c s:=fun b hb e=>by
 subst e;have h:=i_ h;unfold gB at h;rw[aL]at h;rw[h b hb]at h2;cases h2
theorem AG:cH cr=true:=by decide+kernel
theorem lb{H:Ho}{l:List Ms}(h:∀m∈l,bD m=true)(r:List (aj×Int)):∀t∈dh H l r,cH t=true:=fun t ht=>by
 rcases w_ H l r t ht with rfl|⟨m,hm,rfl⟩
 ·exact AG
 ·obtain⟨-,-,-,-,-,h6,-,-⟩:=bG (h m hm);exact h6
theorem wC{c:UInt8}{sep:aj}(hs:p7 c sep){l:List aj}(h:∀x∈l,p7 c x):p7 c (cY l sep):=fun b hb=>by
 rcases mQ hb with hb|⟨y,hy,hb⟩
 ·exact hs b hb
 ·exact h y hy b hb
theorem CO{l:List aj}(hl:l≠[])(h:∀t∈l,cH t=true):dH 43 (cY l plus)=l:=by
 have :∀{l:List aj},l≠[]->(∀p∈l,p7 43 p)->dH 43 (cY l (bZ 43))=l:=by
  intro l
  induction l with
  |nil=>intro h;exact absurd rfl h
  |cons p l ih=>
   intro _ h;cases l with
   |nil=>rw[kX];exact lC (h p ai)
   |cons q l=>rw[gl,jn (h p ai),ih ai fun x hx=>h x vP]
 exact this hl fun t ht=>ux ah (h t ht)
theorem zD{k:Int}{l:List Ms}{t:List aj}(h:∀m∈l,bD m=true)(ht:∀x∈t,cH x=true):dH 47 (cZ 58 (tj k l t)).2.1=[ck k,cK l,cY t plus]:=by
 unfold tj;rw[n_ ah];dsimp only;rw[jn (fV _ ah),jn (rX ah ah ah h),lC];exact wC (fun b hb=>by simp[plus]at hb;subst hb;decide) fun x hx=>ux ah (ht x hx)
theorem uU{k:Int}{l:List Ms}{t:List aj}(hk:0<=k/\k<4)(h:jM l=none)(hl:l.length<=250)(ht:∀x∈t,cH x=true)(dN:t.length=l.length):fp 250 (tj k l t)/\(tj k l t).size<=40000:=by
 have hr:=eV h;have h1:(cK l).size<=250*101:=by
  have :=jx plus 100 (l.map rq) (fun x hx=>by
   obtain⟨m,hm,rfl⟩:=aB.1 hx
   exact CS (hr m hm))
  have h2:plus.size=1:=rfl;rw[h2,aX]at this;unfold cK;have h3:=Nat.mul_le_mul_right (100+1) hl;omega
 have h4:(cY t plus).size<=250*9:=by
  have :=jx plus 8 t (fun x hx=>(hP (ht x hx)).2);have h2:plus.size=1:=rfl;rw[h2,dN]at this;have h3:=Nat.mul_le_mul_right (8+1) hl;omega
 have h5:=cL (n:=k) ⟨by omega,by omega⟩;have e1:(bZ 114).size=1:=rfl;have e2:(bZ 58).size=1:=rfl;have e3:(bZ 47).size=1:=rfl;have hs:(tj k l t).size<=40000:=by unfold tj;simp only[aV];omega
 refine⟨⟨by omega,fun hk=>?_,fun _ a b c l' h6 h7=>?_⟩,hs⟩
 ·unfold tj at hk;rw[n_ ah]at hk;exact absurd (show bZ 114=bZ 117 from hk) ah
 ·rw[zD hr ht]at h6;simp only[List.cons.injEq,and_true]at h6;obtain⟨-,rfl,rfl⟩:=h6;rw[wq h]at h7;simp only[az]at h7;subst h7;refine⟨hl,?_⟩;by_cases h0:t=[]
  ·subst h0;simp at dN;omega
  ·rw[CO h0 ht];omega
end WB
namespace Go.Proofs.YtjhogocabcdjbabGreatDoor
open Tryz
open Go Go.RowKit WB
theorem P0(w0:World)(L:List HP)(v:Value)(xs:List Ms)(f:FuncId)(cp:List Value)(pf:Ms->Bool)(hr:∀w,St w0 L w->qX w 5 dy v xs)(hlen:xs.length<1000000)(fI:∀args w,(callFunc f args).run prog w=.ok (.enter f args) w)(qT:∀e,e∈xs->KE prog f ([]++([Value.agg (dy e).toArray]++cp)).toArray w0 L (fun v L'=>v=.bool (pf e)/\L'=L)):
 KE prog 189 #[v,.func (.func f) [].toArray cp.toArray] w0 L (fun v L'=>v=.bool (xs.any pf)/\L'=L):=by
 refine KE.mk (n:=9) func189 rfl ntmps189 ai ?_;intro w hw;refine yb ?_;refine KO.ce rfl rfl rfl call153 rfl ((O7 w0 L v xs f cp pf hr hlen fI qT).kP hw) ?_;rintro v L' ⟨rfl,rfl⟩;refine qG ?_;refine kq ?_;refine KQ.aU rfl rfl (fun w' hs=>⟨_,_,rfl,⟨?_,rfl⟩,hw.aA hs.below,hs.below⟩);rw[nJ]
theorem abN(w0:World)(L R R2:List HP)(m:Ms)(b bh bd:Nat)(H:Ho)(E:TypeId)(hp:bB L (bA b (.cells [bN bh].toArray E (0,0))) R)(hq:bB L (dt bh bd H) R2)(hm:0<=m.id):
 KE prog 190 #[.agg (dy m).toArray,.pointer (some ⟨b,0,none⟩)] w0 L (fun v L'=>v=.bool (jw H m)/\L'=L):=by
 obtain⟨mi,mp,mb,mq,mh⟩:=m;dsimp only at hm;refine KE.mk (n:=21) func190 rfl ntmps190 ai ?_;intro w hw;obtain⟨V,hV,hc⟩:=mT hw hq;have WL:w.cell? ⟨bh,0,none⟩=some (.int .i64 H.id):=hc 0 _ rfl;have UT:w.cell? ⟨b,0,none⟩=some (bN bh):=by rw[World.cell?,(hw.pick hp).look.2];rfl
 refine Z2 ?_;refine KO.box rfl rfl aN rfl ?_;intro b2;refine jL ?_;by_cases h1:mh=H.id
 ·refine acy ?_;refine sP ?_;refine KO.sl rfl rfl isAgg29 UT rfl ?_;refine iD ?_;refine H7 ?_;refine KO.sl rfl rfl isAgg3 WL rfl ?_;refine Na ?_;refine TK ?_;refine KO.on rfl rfl Bt ?_;refine KO.ld (v:=.int .i64 mi) rfl rfl isAgg3 br aN rfl ?_;refine KO.on rfl rfl Bt ?_;refine KO.rem rfl rfl ae hm rfl ?_;refine KO.on rfl rfl Bt ?_;refine KO.sl rfl rfl isAgg29 UT rfl ?_;refine sh ?_;refine BU ?_;refine H7 ?_;refine KO.on rfl rfl Bt ?_;refine KO.sl rfl rfl isAgg3 WL rfl ?_;refine sh ?_;refine EF ?_;refine Fb ?_;refine kq ?_;refine KQ.aU rfl rfl (fun w' hs=>⟨_,_,rfl,⟨?_,rfl⟩,hw.aA hs.below,hs.below⟩);unfold jw;simp[h1]
 ·refine acy ?_;refine sP ?_;refine KO.sl rfl rfl isAgg29 UT rfl ?_;refine iD ?_;refine H7 ?_;refine KO.sl rfl rfl isAgg3 WL rfl ?_;refine Na ?_;refine B1 ?_;refine Vd ?_;refine sx ?_;refine kq ?_;refine KQ.aU rfl rfl (fun w' hs=>⟨_,_,rfl,⟨?_,rfl⟩,hw.aA hs.below,hs.below⟩);unfold jw;simp[h1]
theorem abM(w0:World)(L R:List HP)(x m:Ms)(b:Nat)(E:TypeId)(hp:bB L (bA b (.cells (dy m).toArray E (0,0))) R):
 KE prog 191 #[.agg (dy x).toArray,.pointer (some ⟨b,0,none⟩)] w0 L (fun v L'=>v=.bool (sV m x)/\L'=L):=by
 obtain⟨mi,mp,mb,mq,mh⟩:=m;obtain⟨xi,xp,xb,xq,xh⟩:=x;refine KE.mk (n:=9) func191 rfl ntmps191 ai ?_;intro w hw;have hw:=hw.pick hp;refine Z2 ?_;refine KO.box rfl rfl aN rfl ?_;intro b2;refine oK ?_;refine HW ?_;refine Nj ?_;refine XD ?_;refine kq ?_;refine KQ.aU rfl rfl (fun w' hs=>⟨_,_,rfl,⟨rfl,rfl⟩,(hw.vR hp).aA hs.below,hs.below⟩)
theorem Rq{α:Type}(f:Nat->α->Bool)(l:List α):l.zipIdx.any (fun x=>f x.2 x.1)=false↔ ∀i x,l[i]? =some x->f i x=false:=by
 rw[List.any_eq_false];constructor
 ·intro h i x hx;have :=h (x,i) (List.mem_zipIdx_iff_getElem?.2 hx);simpa using this
 ·rintro h ⟨x,i⟩ hx;have :=h i x (List.mem_zipIdx_iff_getElem?.1 hx);simpa using this
theorem Jw(w0:World)(L:List HP)(A:HP)(bh bd n:Nat)(H:Ho)(D:Dk)(k m:Int)(a:Option Addr)(cap:Nat)(l:List Ms)(hT:ym w0)(hM:xg w0)(hB:cx n H)(hn:n+250<=80000)(h3:D.places.length=300)(hd: -4000000000000000000<=D.left/\D.left<=9223372036854775807)(hA:∀w R,St w0 (A::R) w->qX w 5 dy (.slice a l.length cap) l)(xW:l.length<=cap)(hl:l.length<=250)(dM:∀m∈l,m.body.size<=maxLen/\m.queue.size<=maxLen):
 KC prog 103 #[bN bh,.int .i64 k,.int .i64 m,.slice a l.length cap] w0 (dt bh bd H::ga bd D::A::L) (fun u M=>u=.tuple #[.int .i64 (xZ H D k m l),dj 70 (EE H D k m l)]/\M=dt bh bd (vF H D k m l)::ga bd (Bq H D k m l)::A::L):=by
 have early:∀e:Int,e≠0->qn H k m l=e->∀w',St w0 (dt bh bd H::ga bd D::A::L) w'->∃v L',Ending.returned (.tuple #[.int .i64 0,dj 70 e])=Ending.returned v/\(v=.tuple #[.int .i64 (xZ H D k m l),dj 70 (EE H D k m l)]/\L'=dt bh bd (vF H D k m l)::ga bd (Bq H D k m l)::A::L)/\St w0 L' w':=fun e he hb w' aM=>by
  have sq:DH H k m l=false:=by unfold DH;rw[hb];simp[he]
  have UW:EE H D k m l=e:=by unfold EE;rw[hb,if_pos he]
  refine⟨_,_,rfl,⟨?_,rfl⟩,?_⟩
  ·unfold xZ;rw[UW,if_neg he]
  ·unfold vF Bq;rw[sq];exact aM
 refine KC.mk (n:=175) func103 rfl ntmps103 ai ?_;refine Z2 ?_;refine KO.box rfl rfl aN rfl ?_;intro b4;refine A_ ?_;refine Vc ?_;cases hk:cb H k with
 |false=>
  have he:qn H k m l=2:=by unfold qn;rw[if_pos hk]
  refine di ?_;refine KO.ld rfl rfl isAgg29 br aN rfl ?_;refine Z1 ?_;refine KO.ce (cp:=[]) rfl rfl rfl call79 rfl (eI w0 _ _ bh bd H k aQ) ?_;rintro v' L' ⟨rfl,rfl⟩;rw[hk];refine pC ?_;refine Z8 ?_;refine Br ?_;refine JP ?_;refine KQ.dG rfl rfl rfl (fun w' aM=>early 2 ah he w' (aM.all Y1))
 |true=>
 obtain⟨xV,qC,-⟩:=b_.1 hk;obtain⟨j,rfl⟩:∃j:Nat,k=(j:Int):=⟨k.toNat,by omega⟩;have hj:j<4:=by omega
 refine di ?_;refine KO.ld rfl rfl isAgg29 br aN rfl ?_;refine Z1 ?_;refine KO.ce (cp:=[]) rfl rfl rfl call79 rfl (eI w0 _ _ bh bd H (j:Int) aQ) ?_;rintro v' L' ⟨rfl,rfl⟩;rw[hk];refine pC ?_;refine qV ?_;refine oI ?_;refine kO ?_;refine K.bV (fun _ h=>cn (h.pick aQ)) ?_;rintro⟨V,hV⟩;dsimp only;have ku:=hV.ps;have xU:=hB.fT;have C4:=hB.sorted;cases vx:H.down with
 |true=>
  have he:qn H (j:Int) m l=6:=by unfold qn;rw[if_neg Zn,if_pos vx]
  refine di ?_;refine Qk ?_;refine Yn ?_;refine qV ?_;refine K.bW rfl vx ?_;refine JP ?_;refine KQ.dG rfl rfl rfl (fun w' aM=>early 6 ah he w' (bM V hV (aM.all Y4)))
 |false=>
 refine di ?_;refine Qk ?_;refine Yn ?_;refine qV ?_;refine K.ct rfl vx ?_;refine kO ?_;obtain⟨d1,-⟩:=yK (bd:=bd) hV hj;obtain⟨MP,ha9⟩:0<=fv H j/\fv H j<=(n:Int):=pb hB.ext.arr;have qf:qn H (j:Int) m l=if m<=fv H j then 0 else if fv H j+1<m then 10 else if jM l≠none\/l.any (jw H)=true then 1 else if AX H l=true then 9 else 0:=by unfold qn;rw[if_neg Zn,if_neg (by simp[vx]),aE]
 refine cW ?_;refine Qk ?_;refine Z1 ?_;refine J_ ?_;refine T4 ?_;refine KO.leq rfl rfl rfl ?_;refine qV ?_;refine K.bn rfl (fun h5=>?_) (fun h5=>?_)
 ·rw[if_pos h5]at qf;have sq:DH H (j:Int) m l=false:=by unfold DH;rw[aE];simp;omega
  have UW:EE H D (j:Int) m l=0:=by unfold EE;rw[qf,sq];rfl
  refine Z2 ?_;refine Qk ?_;refine Z1 ?_;refine J_ ?_;refine T4 ?_;refine J3 ?_;refine KQ.dG rfl rfl rfl (fun w' aM=>⟨_,_,rfl,⟨?_,rfl⟩,?_⟩)
  ·unfold xZ vF;rw[UW,sq,if_pos rfl,aE];rfl
  ·unfold vF Bq;rw[sq];exact bM V hV (aM.all Y4)
 rw[if_neg h5]at qf;refine m_ ?_;refine Qk ?_;refine Z1 ?_;refine J_ ?_;refine T4 ?_;refine vO ?_;refine JN ?_;refine qV ?_;refine K.bn rfl (fun h7=>?_) (fun h7=>?_)
 ·rw[if_pos ae]at qf;refine JP ?_;refine KQ.dG rfl rfl rfl (fun w' aM=>early 10 ah qf w' (bM V hV (aM.all Y4)))
 rw[if_neg ae]at qf;refine TJ ?_;refine K.conv (L':=dt bh bd H::ga bd D::A::bA b4 (.cells [bN bh].toArray 29 (0,0))::L) (fun w' aM=>bM V hV (aM.all Y7)) ?_
 clear d1 ku hV V;cases oG:jM l with
 |some bi=>
  rw[oG,if_pos (.inl ai)]at qf;refine cW ?_;refine KO.ce (cp:=[]) rfl rfl rfl call60 rfl (oX w0 _ _ l (fun w' hw'=>hA w' _ (hw'.pick (A:=A) (.tail (.tail .head)))) hT dM ae) ?_;rintro v' L' hR;unfold Uj at hR;rw[oG]at hR;obtain⟨bx,rfl,rfl⟩:=hR;refine Qj ?_;refine B_ ?_;refine EV ?_;refine yd ?_;refine KQ.dG rfl rfl rfl (fun w' aM=>early 1 ah qf w' (aM.all Y4))
 |none=>
 have lV:∀m∈l,bD m=true:=eV oG;rw[oG]at qf;refine cW ?_;refine KO.ce (cp:=[]) rfl rfl rfl call60 rfl (oX w0 _ _ l (fun w' hw'=>hA w' _ (hw'.pick (A:=A) (.tail (.tail .head)))) hT dM ae) ?_;rintro v' L' hR;unfold Uj at hR;rw[oG]at hR;obtain⟨rfl,rfl⟩:=hR;refine JX ?_;refine BQ ?_;refine Hh ?_;refine KO.on rfl rfl rfl ?_;refine KO.ce rfl rfl rfl call189 rfl (P0 w0 _ _ l 190 [.pointer (some ⟨b4,0,none⟩)] (jw H) (fun w' hw'=>hA w' _ (hw'.pick (A:=A) (.tail (.tail .head)))) ae call190 (fun e he=>abN _ _ _ _ e b4 bh bd H _ aQ br (bG (lV e he)).1)) ?_;rintro v' L' ⟨rfl,rfl⟩;refine ua ?_;cases hnf:l.any (jw H)with
 |true=>
  rw[if_pos (.inr hnf)]at qf;refine xa ?_;refine yd ?_;refine KQ.dG rfl rfl rfl (fun w' aM=>early 1 ah qf w' (aM.all Y4))
 |false=>
 rw[if_neg (by rw[hnf];simp)]at qf;refine Lz ?_;refine cW ?_;refine Is ?_;refine Va ?_;refine KQ.next ?_
 have NJ:∀(i:Nat) x,l[i]? =some x->∀w R,St w0 (A::R) w->∃ad,a=some ad/\cz w (ad.add (i *5)) (dy x):=fun i x hx w R hw=>by
  obtain⟨a',c',e,hc⟩:=hA w R hw;simp only[Value.slice.injEq]at e;obtain⟨rfl,-,-⟩:=e;exact hc i x hx
 refine K.cut (fun _:Unit=>[(1,.int .i64 (j:Nat)),(3,.slice a l.length cap),(4,.pointer (some ⟨b4,0,none⟩)),(10,.string (cK l))]) (fun _=>dt bh bd H::ga bd D::A::bA b4 (.cells [bN bh].toArray 29 (0,0))::L) (fun _=>AX H l=false) ?_ ?_
 ·refine K.block ?_;refine K.loop (fun i:Nat=>(74,.slice a l.length cap)::(75,.int .i64 (l.length:Nat))::(76,.int .i64 (i:Nat))::[(1,.int .i64 (j:Nat)),(3,.slice a l.length cap),(4,.pointer (some ⟨b4,0,none⟩)),(10,.string (cK l))]) (fun _=>dt bh bd H::ga bd D::A::bA b4 (.cells [bN bh].toArray 29 (0,0))::L) (fun i=>i<=l.length/\∀i' x,i'<i->l[i']? =some x->Bx H l i' x=false) (fun i=>l.length-i) 0
   ⟨aH _,fun i' x h=>by omega⟩ ⟨rfl,rfl,rfl,rfl,rfl,rfl,rfl,trivial⟩ (fun w' aM=>aM.all Nv) ?_
  rintro i ⟨hi,mU⟩;refine lW ?_;refine K.bn rfl (fun h13=>?_) (fun h13=>?_)
  ·obtain⟨x,hx⟩:∃e,l[i]? =some e:=⟨l[i],ak ae⟩;refine K.fact (fun w hw=>by obtain⟨ad,h,-⟩:=NJ i x hx w _ (hw.pick (A:=A) (.tail (.tail .head)));exact(⟨ad,h⟩:∃ad,a=some ad)) ?_;rintro⟨ad,rfl⟩;refine sy ?_;refine QE ?_;refine KO.QW (cs:=(dy x).toArray) rfl rfl isAgg44 sizeOf44 rfl (fun w hw=>by obtain⟨ad2,h,hc⟩:=NJ i x hx w _ (hw.pick (A:=A) (.tail (.tail .head)));cases h;exact hc) rfl ?_;refine KO.alloc rfl zeroValue44 aN rfl ?_;intro b13;refine Z8 ?_;refine tX ?_;refine gY ?_;refine KO.vD (hi:=i) rfl rfl underlying49 sizeOf44 rfl ae rfl ?_;refine Hh ?_;refine KO.ce rfl rfl rfl call189 rfl (P0 w0 _ _ (l.take i) 191 [.pointer (some ⟨b13,0,none⟩)] (sV x) (fun w' hw'=>⟨_,_,by rw[bu,Nat.min_eq_left ae],fun i' y hy=>NJ i' y (by rw[List.getElem?_take]at hy;split at hy;exact hy;cases hy) w' _ (hw'.pick (A:=A) (.tail (.tail (.tail .head))))⟩) Y29 call191 (fun e he=>abM _ _ _ e x b13 _ br)) ?_;rintro v' L' ⟨rfl,rfl⟩;refine jL ?_;obtain⟨tw0,aar⟩:∃t,t=(l.take i).any (sV x):=⟨_,rfl⟩;rw[<-aar];refine K.bV (fun _ h=>cn (h.pick aQ)) ?_;rintro⟨V,hV⟩;dsimp only;have ku:=hV.ps;refine di ?_;refine TO ?_;refine iD ?_;refine XO ?_;refine KO.YC rfl rfl underlying123 aQ rfl ?_;intro r90;refine QG ?_
   refine K.loop (fun p:List Nat×List Nat×Bool×Option (aj×Value)=>(90,.pointer (some ⟨r90,0,none⟩))::(14,.bool p.2.2.1)::(13,.pointer (some ⟨b13,0,none⟩))::(74,.slice (some ad) l.length cap)::(75,.int .i64 (l.length:Nat))::(76,.int .i64 (i:Nat))::[(1,.int .i64 (j:Nat)),(3,.slice (some ad) l.length cap),(4,.pointer (some ⟨b4,0,none⟩)),(10,.string (cK l))])
    (fun p=>CY Value.string V.mb r90 (dI V H) (p.1.map fun r=>(dI V H).getD r default) p.2.2.2::bA bh (.cells (fe bd V H).toArray 133 (0,0))::fb V.nv H.names::bI jv V.ps H.all::bI cX (V.us.map (·.1)) (H.ay.map (·.aT))::bI cV (V.us.map (·.2)) (H.ay.map (·.aY))::bI dU V.bs H.batch::bA b13 (.cells (dy x).toArray 44 (0,0))::ga bd D::A::bA b4 (.cells [bN bh].toArray 29 (0,0))::L)
    (fun p=>(p.2.1++p.1).Perm (List.range H.aI.length)/\p.2.2.1=(tw0||p.2.1.any fun r=>tu (H.dZ r) x.id)) (fun p=>p.1.length) (List.range H.aI.length,[],tw0,none)
    ⟨by simp,by simp⟩ ⟨rfl,rfl,rfl,rfl,rfl,rfl,rfl,rfl,rfl,rfl,trivial⟩ (fun _ h=>?_) ?_
   ·have e1:(List.range H.aI.length).map (fun r=>(dI V H).getD r default)=dI V H:=by
     have Q6:(dI V H).length=H.aI.length:=by unfold dI tE;rw[List.length_zipWith,bf];omega
     rw[<-Q6];apply List.ext_getElem
     ·simp
     ·intro i h1 h2;simp[au,ak h2]
    dsimp only;rw[e1];exact h.all ft
   rintro⟨rest,done,tw,cur⟩ ⟨dQ,ug⟩;dsimp only at dQ ug ⊢;refine Z2 ?_;refine KO.BD rfl rfl br rfl (fun h0=>?_) (fun i2 e he=>?_);refine x9 ?_;have iO:rest=[]:=by simpa using h0
   subst iO;rw[List.append_nil]at dQ;have aaq:tw=Bx H l i x:=by
    rw[ug,aar];unfold Bx;congr 1;rw[Bool.eq_iff_iff,List.any_eq_true,List.any_eq_true];constructor
    ·rintro⟨r,hr,h⟩;have Ad:r<H.aI.length:=by have :=dQ.mem_iff.1 hr;simpa using this
     refine⟨H.aI[r],List.getElem_mem Ad,?_⟩;unfold Ho.dZ at h;rw[au,ak Ad]at h;exact h
    ·rintro⟨q,hq,h⟩;obtain⟨r,Ad,rfl⟩:=List.getElem_of_mem hq;refine⟨r,dQ.mem_iff.2 (by simpa using Ad),?_⟩;unfold Ho.dZ;rw[au,ak Ad];exact h
   refine oI ?_;refine Ba ?_;refine Z3 ?_;refine K.cond rfl (fun NK=>?_) (fun NK=>?_)
   ·have MN:AX H l=true:=by
     unfold AX;rw[List.any_eq_true];exact⟨(x,i),List.mem_zipIdx_iff_getElem?.2 hx,by dsimp only;rw[<-aaq];exact NK⟩
    rw[if_pos MN]at qf;refine JP ?_;refine KQ.dG rfl rfl rfl (fun w' aM=>early 9 ah qf w' ?_);exact bM V hV (aM.all Y4)
   ·refine lY ?_;refine KQ.round (i+1) ⟨by omega,fun i' y hi' hy=>?_⟩ ae ⟨rfl,rfl,rfl,rfl,rfl,rfl,rfl,trivial⟩ (fun w' aM=>?_)
    ·by_cases e:i'=i
     ·subst e;rw[hx]at hy;cases hy;rw[<-aaq];exact NK
     ·exact mU i' y ae hy
    ·exact bM V hV (aM.all Y4)
   obtain⟨r,hr,rfl⟩:∃r,rest[i2]? =some r/\(dI V H).getD r default=e:=by
    rw[aG]at he;cases hr:rest[i2]? with
    |none=>rw[hr]at he;cases he
    |some r=>rw[hr]at he;exact⟨r,rfl,by simpa using he⟩
   have Ad:r<H.aI.length:=by
    have :r∈List.range H.aI.length:=dQ.mem_iff.1 (List.mem_append_right _ (ax hr));simpa using this
   obtain⟨s,lP⟩:=KU hV Ad;rw[lP];refine x9 ?_;refine xa ?_;refine Zh ?_;have iq:V.ps[4+r]? =some (V.ps.getD (4+r) 0):=by rw[au,ak ae];rfl
   have ae1:=(hB.qa Ad).len;have hpr:((done++[r])++rest.eraseIdx i2).Perm (List.range H.aI.length):=by
    refine List.Perm.trans ?_ dQ;rw[aR];refine(List.Perm.refl done).append ?_;obtain⟨S5,rfl⟩:=aw.1 hr;exact p6 S5
   have hml:(rest.eraseIdx i2).length<rest.length:=by
    have S5:=(aw.1 hr).1;rw[List.length_eraseIdx,if_pos S5];omega
   refine di ?_;refine Ng ?_;refine qV ?_;cases tw with
   |true=>
    refine gY ?_;refine Kb ?_;refine Kb ?_;refine uk ?_;refine He ?_;refine KQ.round (rest.eraseIdx i2,done++[r],true,some (s,bN (V.ps.getD (4+r) 0))) ⟨hpr,?_⟩ hml ⟨rfl,rfl,rfl,rfl,rfl,rfl,rfl,rfl,rfl,rfl,trivial⟩ (fun _ h=>?_)
    ·dsimp only;rw[List.any_append,<-Bool.or_assoc,<-ug];rfl
    ·dsimp only;rw[<-oY];exact h.all ft
   |false=>
    refine cW ?_;refine BQ ?_;refine Nj ?_;refine KO.on rfl rfl rfl ?_;refine KO.ld (v:=.int .i64 x.id) rfl rfl isAgg3 aQ aN rfl ?_;refine KO.on rfl rfl rfl ?_;refine KO.ce (cp:=[]) rfl rfl rfl call146 rfl (KE.UZ (φ:=fun v=>v=.bool (tu (H.dZ r) x.id)) iq (l9 hV.ways Ad) aQ (fun L=>UU w0 _ _ (V.ps.getD (4+r) 0) (H.dZ r) x.id .head ae)) ?_;rintro v' L' ⟨rfl,rfl⟩;refine tW ?_;refine He ?_;refine KQ.round (rest.eraseIdx i2,done++[r],tu (H.dZ r) x.id,some (s,bN (V.ps.getD (4+r) 0))) ⟨hpr,?_⟩ hml ⟨rfl,rfl,rfl,rfl,rfl,rfl,rfl,rfl,rfl,rfl,trivial⟩ (fun _ h=>?_)
    ·dsimp only;rw[List.any_append,<-Bool.or_assoc,<-ug];simp
    ·dsimp only;rw[<-oY];exact h.all Y7
  ·have kD:i=l.length:=by omega
   refine U_ ?_
   exact KQ.kT () (by
    unfold AX;rw[Rq (f:=fun i x=>Bx H l i x)];intro i' y hy
    exact mU i' y (by have :=(aw.1 hy).1;omega) hy) ⟨rfl,rfl,rfl,rfl,trivial⟩ (fun w' aM=>aM.all Nv)
 ·rintro⟨⟩ aeQ;rw[aeQ]at qf;have aaA:qn H (j:Int) m l=0:=qf;have sq:DH H (j:Int) m l=true:=by unfold DH;rw[aaA,aE];simp;omega
  have UW:EE H D (j:Int) m l=ec H D:=by unfold EE;rw[aaA,sq];rfl
  have haH:vF H D (j:Int) m l=nZ H D (lN H (j:Int) l):=by unfold vF;rw[sq];rfl
  have haD:Bq H D (j:Int) m l=gg H D (lN H (j:Int) l):=by unfold Bq;rw[sq];rfl
  obtain⟨lH,SQ⟩:=uU (k:=(j:Int)) ⟨by omega,by omega⟩ oG hl (lb lV []) (lf H l []);have o_:=lf H l [];refine K.bV (fun _ h=>cn (h.pick br)) ?_;rintro⟨V,hV⟩;dsimp only;have ku:=hV.ps;refine Z2 ?_;refine KO.ZZ (Value.string) rfl rfl ?_;intro TB;refine BZ ?_;refine BY ?_;refine K.loop (fun q:Nat×Value×List (aj×Int)×List aj=>[(1,.int .i64 (j:Nat)),(4,.pointer (some ⟨b4,0,none⟩)),(10,.string (cK l)),(17,.map (some TB)),(18,q.2.1),(106,.slice a l.length cap),(107,.int .i64 (l.length:Nat)),(108,.int .i64 (q.1:Nat))])
   (fun q=>ni q.2.1 q.2.2.2::bP Value.string TB (VI q.2.2.1)::bA bh (.cells (fe bd V H).toArray 133 (0,0))::fb V.nv H.names::bP Value.string V.mb (dI V H)::bI jv V.ps H.all::bI cX (V.us.map (·.1)) (H.ay.map (·.aT))::bI cV (V.us.map (·.2)) (H.ay.map (·.aY))::bI dU V.bs H.batch::ga bd D::A::bA b4 (.cells [bN bh].toArray 29 (0,0))::L)
   (fun q=>q.1<=l.length/\dh H l []=q.2.2.2++dh H (l.drop q.1) q.2.2.1/\q.2.2.2.length=q.1/\∀s,0<=FB q.2.2.1 s/\FB q.2.2.1 s<=(q.1:Int)) (fun q=>l.length-q.1) (0,.slice none 0 0,[],[])
   ⟨aH _,rfl,rfl,fun s=>⟨Int.le_refl _,Int.le_refl _⟩⟩ ⟨rfl,rfl,rfl,rfl,rfl,rfl,rfl,rfl,trivial⟩ (fun w' aM=>?_) ?_
  ·have h1:=cw (E:=9) (sz:=1) (cf:=mf) aM;exact h1.all ft
  rintro⟨i,Un,room,ds⟩ ⟨hi,Bl,afs,nG⟩;dsimp only at hi Bl afs nG ⊢;refine lW ?_;refine K.bn rfl (fun h26=>?_) (fun h26=>?_)
  ·obtain⟨x,hx⟩:∃e,l[i]? =some e:=⟨l[i],ak ae⟩;have ot:l.drop i=x::l.drop (i+1):=by
    obtain⟨h1,rfl⟩:=aw.1 hx;exact List.drop_eq_getElem_cons h1
   rw[ot,dh]at Bl;refine K.fact (fun w hw=>by obtain⟨ad,h,-⟩:=NJ i x hx w _ (hw.pick (A:=A) aQ);exact(⟨ad,h⟩:∃ad,a=some ad)) ?_;rintro⟨ad,rfl⟩;refine si ?_;refine QE ?_;refine KO.QW (cs:=(dy x).toArray) rfl rfl isAgg44 sizeOf44 rfl (fun w hw=>by obtain⟨ad2,h,hc⟩:=NJ i x hx w _ (hw.pick (A:=A) aQ);cases h;exact hc) rfl ?_;refine KO.alloc rfl zeroValue44 aN rfl ?_;intro b20;refine tX ?_;have hg:=lG hV x.queue;obtain⟨zv,Jb⟩:∃zv,zv=(gj (dI V H) x.queue).getD (.pointer none):=⟨_,rfl⟩;refine K.draw [.read,.pure,.pure,.read,.pure,.read,.read,.pure] [0,1,2,3,4,5,6,7] bC bC ?_;refine TO ?_;refine iD ?_;refine T3 ?_;refine KO.bO (i:=7) rfl rfl isAgg123 aQ rfl rfl rfl ?_;refine XQ ?_;refine KO.zW dD x.queue rfl rfl rfl underlying123 underlying9 zeroValue119 aQ rfl ?_;rw[<-Jb];refine jL ?_;have aaY:toDead H x room=true->dh H l []=(ds++[cr])++dh H (l.drop (i+1)) room:=fun h=>by rw[Bl,if_pos h,aR];rfl
   have aaI:toDead H x room=false->dh H l []=(ds++[x.queue])++dh H (l.drop (i+1)) (iU room x.queue (FB room x.queue+1)):=fun h=>by rw[Bl,if_neg (by rw[h];simp),aR];rfl
   refine K.cut (fun b:Bool=>[(1,.int .i64 (j:Nat)),(4,.pointer (some ⟨b4,0,none⟩)),(10,.string (cK l)),(17,.map (some TB)),(18,Un),(20,.pointer (some ⟨b20,0,none⟩)),(139,.bool b),(106,.slice (some ad) l.length cap),(107,.int .i64 (l.length:Nat)),(108,.int .i64 (i:Nat))])
    (fun _=>ni Un ds::bP Value.string TB (VI room)::bA bh (.cells (fe bd V H).toArray 133 (0,0))::fb V.nv H.names::bP Value.string V.mb (dI V H)::bI jv V.ps H.all::bI cX (V.us.map (·.1)) (H.ay.map (·.aT))::bI cV (V.us.map (·.2)) (H.ay.map (·.aY))::bI dU V.bs H.batch::ga bd D::A::bA b4 (.cells [bN bh].toArray 29 (0,0))::bA b20 (.cells (dy x).toArray 44 (0,0))::L) (fun b=>b=toDead H x room) ?_ ?_
   ·cases hlb:cP H.names x.queue with
    |false=>
     have ht:toDead H x room=true:=by
      unfold toDead;split
      ·rfl
      ·rw[hlb];rfl
     refine acA ?_;refine Hr ?_;refine XQ ?_;refine KO.ce (cp:=[]) rfl rfl rfl call57 rfl (u_ w0 _ _ _ bh 6 (fe bd V H) 133 V.nv H.names x.queue aQ aQ rfl ae C4) ?_;rintro v' L' ⟨rfl,rfl⟩;rw[hlb];refine pC ?_;refine pF ?_;refine uk ?_;refine BW ?_;refine Kb ?_;refine uk ?_;refine jk ?_;exact KQ.kT true ht.symm ⟨rfl,rfl,rfl,rfl,rfl,rfl,rfl,rfl,rfl,rfl,trivial⟩ (fun w' aM=>aM.all Y7)
    |true=>
     obtain⟨q,hq⟩:=u9 hB hlb;have YR:=(fC hq).1;have ae1:=(hB.qa YR).len;obtain⟨p,hp⟩:∃p,V.ps[4+q]? =some p:=⟨_,ak ae⟩;rw[hq]at hg;simp only[Option.bind_some,hp,Option.map_some]at hg;rw[hg]at Jb;subst Jb;have hrm:=nG x.queue;have ht:toDead H x room=decide (20<=((H.dZ q).l.length:Int)+FB room x.queue):=by unfold toDead;rw[hq];dsimp only;rw[hlb];rfl
     refine acA ?_;refine Hr ?_;refine XQ ?_;refine KO.ce (cp:=[]) rfl rfl rfl call57 rfl (u_ w0 _ _ _ bh 6 (fe bd V H) 133 V.nv H.names x.queue aQ aQ rfl ae C4) ?_;rintro v' L' ⟨rfl,rfl⟩;rw[hlb];refine pC ?_;refine A1 ?_;refine KO.on rfl rfl rfl ?_;refine KO.Ay rfl underlying119 rfl ?_;refine Nn ?_;refine qW ?_;refine JM ?_;refine KO.on rfl rfl rfl ?_;refine KO.ld (v:=.string x.queue) rfl rfl isAgg9 br aN rfl ?_;refine KO.on rfl rfl rfl ?_;refine KO.zW dD x.queue rfl rfl rfl underlying282 underlying9 zeroValue3 aQ rfl ?_;rw[Kw];refine KO.on rfl rfl rfl ?_;refine KO.ce (cp:=[]) rfl rfl rfl call192 rfl (KE.UZ (φ:=fun v=>v=.int .i64 ((H.dZ q).l.length:Nat)) hp (l9 hV.ways YR) aQ (fun L=>VY w0 _ _ p (H.dZ q) .head)) ?_;rintro v' L' ⟨rfl,rfl⟩;refine KO.on rfl rfl rfl ?_;refine KO.add rfl rfl rfl ae rfl ?_;refine KO.on rfl rfl rfl ?_;refine KO.geq rfl rfl rfl ?_;refine tW ?_;refine jk ?_;exact KQ.kT (decide (((H.dZ q).l.length:Int)+FB room x.queue>=20)) (by rw[ht]) ⟨rfl,rfl,rfl,rfl,rfl,rfl,rfl,rfl,rfl,rfl,trivial⟩ (fun w' aM=>aM.all Y7)
   ·rintro b hb;refine K.cond rfl (fun Pz=>?_) (fun hbf=>?_)
    ·have h1:=aaY (by rw[<-hb];exact Pz);refine m_ ?_;refine KO.sw (z:=Value.string ⟨#[]⟩) (sz:=1) (fk:=16) rfl rfl underlying115 nh aN aN ah ah rfl ?_;intro ak3;refine KO.app (cf:=mf) (z:=Value.string ⟨#[]⟩) (sz:=1) (fk:=16) (xs:=ds) rfl rfl rfl (.tail .head) .head underlying115 nh rfl cr rfl rfl rfl ae ah rfl ?_;intro ad8;refine rL ?_;refine Qi ?_;refine TG ?_;refine KQ.round (i+1,ad8,room,ds++[cr]) ⟨by dsimp only;omega,h1,by dsimp only;simp;omega,fun s=>?_⟩ fZ ⟨rfl,rfl,rfl,rfl,rfl,rfl,rfl,rfl,trivial⟩ (fun w' aM=>aM.all Y4);have :=nG s;dsimp only;push_cast;omega
    ·have h1:=aaI (by rw[<-hb];exact hbf);have hrm:=nG x.queue;refine Nb ?_;refine m_ ?_;refine JM ?_;refine KO.ld (v:=.string x.queue) rfl rfl isAgg9 aQ aN rfl ?_;refine KO.zW dD x.queue rfl rfl rfl underlying282 underlying9 zeroValue3 aQ rfl ?_;rw[Kw];refine vO ?_;refine KO.Yz dD x.queue rfl rfl rfl rfl underlying282 underlying9 aQ ?_;rw[RN];refine Z3 ?_;refine cW ?_;refine JM ?_;refine KO.ld (v:=.string x.queue) rfl rfl isAgg9 aQ aN rfl ?_;refine KO.sw (z:=(Value.string ⟨#[]⟩)) (sz:=1) (fk:=16) rfl rfl underlying115 bC aN aN ah ah rfl ?_;intro ak2;refine KO.app (cf:=mf) (z:=Value.string ⟨#[]⟩) (sz:=1) (fk:=16) (xs:=ds) rfl rfl rfl (.tail (.tail .head)) .head underlying115 nh rfl x.queue rfl rfl rfl ae ah rfl ?_;intro v152;refine qq ?_;refine KQ.round (i+1,v152,iU room x.queue (FB room x.queue+1),ds++[x.queue]) ⟨by dsimp only;omega,h1,by dsimp only;simp;omega,fun s=>?_⟩ fZ ⟨rfl,rfl,rfl,rfl,rfl,rfl,rfl,rfl,trivial⟩ (fun w' aM=>aM.all Y4);dsimp only;rw[Kx];have :=nG s;split<;>push_cast<;>omega
  ·obtain rfl:i=l.length:=by omega
   rw[List.drop_length,dh,List.append_nil]at Bl;subst Bl;have his:=cL (n:=(j:Int)) ⟨by omega,by omega⟩;have aax:(tj (j:Int) l (dh H l [])).size=(⟨#[114,58]⟩++ck (j:Int)++⟨#[47]⟩++cK l++⟨#[47]⟩++cY (dh H l []) plus:aj).size/\(⟨#[114,58]⟩++ck (j:Int)++⟨#[47]⟩++cK l++⟨#[47]⟩++cY (dh H l []) plus:aj)=lN H (j:Int) l:=by
    have e:(⟨#[114,58]⟩++ck (j:Int)++⟨#[47]⟩++cK l++⟨#[47]⟩++cY (dh H l []) plus:aj)=tj (j:Int) l (dh H l []):=by
     unfold tj;rw[show(⟨#[114,58]⟩:aj)=bZ 114++bZ 58 by decide,show(⟨#[47]⟩:aj)=bZ 47 from rfl];simp only[ByteArray.append_assoc]
    exact⟨by rw[e],e⟩
   have hz:=aax.1;rw[hz]at SQ;simp only[aV]at SQ;refine Z9 ?_;refine K.conv (L':=dt bh bd H::ga bd D::ni Un (dh H l [])::A::bA b4 (.cells [bN bh].toArray 29 (0,0))::L) (fun w' aM=>bM V hV (aM.all Y4)) ?_
   refine K.draw [.read,.pure,.ef,.pure,.pure,.pure,.pure,.pure,.pure,.ef,.pure,.write,.pure] [0,1,5,8,2,3,4,6,7,9,10,11,12] bC bC ?_;refine TO ?_;refine gZ ?_;refine Z1 ?_;refine KO.ce (cp:=[]) rfl rfl rfl call59 rfl (nF w0 _ (j:Int) hT ⟨by omega,by omega⟩) ?_;rintro v' L' ⟨rfl,rfl⟩;refine rM ?_;refine KO.cat rfl rfl Y22 rfl ?_;refine KO.cat rfl rfl Y22 rfl ?_;refine KO.cat rfl rfl Y22 rfl ?_;refine KO.ce (cp:=[]) rfl rfl rfl call62 rfl (zZ w0 _ _ Un (dh H l []) plus aQ ae ae) ?_;rintro v' L' ⟨rfl,rfl⟩;refine KO.cat rfl rfl Y22 rfl ?_;rw[aax.2];refine KO.cl (cp:=[]) rfl rfl rfl call84 rfl (KC.yC br br (o6 w0 _ bh bd n 250 H D (lN H (j:Int) l) hT hM hB lH ae h3 hd)) ?_;rintro v' L' ⟨rfl,rfl⟩;refine yf ?_;refine K.bn rfl (fun h35=>?_) (fun h35=>?_)
   ·refine JR ?_;refine KQ.dG rfl rfl rfl (fun w' aM=>⟨_,_,rfl,⟨?_,rfl⟩,?_⟩)
    ·unfold xZ;rw[UW,if_neg h35]
    ·rw[haH,haD];exact aM.all Y1
   ·have abj:ec H D=0:=by simpa using h35
    refine Z6 ?_;generalize hH2:nZ H D (lN H (j:Int) l)=H2 at haH ⊢;refine K.bV (fun _ h=>cn (h.pick br)) ?_;rintro⟨V2,lI⟩;dsimp only;obtain⟨d2,-⟩:=yK (bd:=bd) lI hj;refine di ?_;refine TO ?_;refine Z1 ?_;refine J_ ?_;refine Iv ?_;refine KO.bO (i:=30+j) rfl rfl isAgg3 br yY d2 rfl ?_;refine nP ?_;refine KQ.dG rfl rfl rfl (fun w' aM=>⟨_,_,rfl,⟨?_,rfl⟩,?_⟩)
    ·unfold xZ;rw[UW,if_pos abj,haH,abj,aE];rfl
    ·rw[haH,haD];exact bM V2 lI (aM.all Y4)
theorem VU(a b:Nm)(w:World):(Op.equalIn 10000 75 (.agg a.cells.toArray) (.agg b.cells.toArray)).run prog w=.ok (decide (a=b)) w:=by
 rw[run_equalIn_agg w 9999 75 _ _ bC bC,<-OF];simp only[Program.fieldsOf,underlying75];refine yQ ah underlying9 (isAgg9 w) rfl rfl (yQ ah underlying9 (isAgg9 w) rfl rfl (yR ah underlying3 (isAgg3 w) rfl rfl Lj))
theorem yv(w0:World)(L:List HP)(v1 v2:Value)(xs ys:List Nm)(h1:∀w,St w0 L w->qX w 3 Nm.cells v1 xs)(h2:∀w,St w0 L w->qX w 3 Nm.cells v2 ys)(hx:xs.length<1000000)(hy:ys.length<1000000):
 KE prog 106 #[v1,v2] w0 L (fun u M=>u=.bool (decide (xs=ys))/\M=L):=by
 refine KE.mk (n:=26) func106 rfl ntmps106 ai ?_;intro w hw;obtain⟨a1,c1,rfl,nW⟩:=h1 w hw;obtain⟨a2,c2,rfl,jg⟩:=h2 w hw;have fin:∀(b:Bool) (w':World) (M:List HP),b=decide (xs=ys)->St w M w'->∃v L',Ending.returned (.bool b)=Ending.returned v/\(v=.bool (decide (xs=ys))/\L'=L)/\St w0 L' w'/\Below w.heap.size w w':=fun b w' M e hs=>⟨_,_,rfl,⟨by rw[e],rfl⟩,hw.aA hs.below,hs.below⟩
 refine lg ?_;refine yj ?_;refine Z1 ?_;refine yj ?_;refine tY ?_;refine K.bn rfl (fun h=>?_) (fun h=>?_)
 ·refine kr ?_;refine KQ.aU rfl rfl (fun w' hs=>fin _ w' _ Y13 hs)
 ·have hlen:xs.length=ys.length:=by omega
  refine qP ?_;refine Hf ?_;refine K.loop (fun k:Nat=>[(0,.slice a1 xs.length c1),(1,.slice a2 ys.length c2),(5,.int .i64 (k:Nat))]) (fun _=>[]) (fun k=>k<=xs.length/\xs.take k=ys.take k) (fun k=>xs.length-k) 0
   ⟨aH _,rfl⟩ ⟨rfl,rfl,rfl,trivial⟩ (fun _ h=>h) ?_
  rintro k ⟨hk,Es⟩;refine lO ?_;refine yj ?_;refine qo ?_;refine K.bn rfl (fun h3=>?_) (fun h3=>?_)
  ·obtain⟨e1,E6⟩:∃e,xs[k]? =some e:=⟨xs[k],ak ae⟩;obtain⟨e2,fX⟩:∃e,ys[k]? =some e:=⟨ys[k],ak ae⟩;obtain⟨d1,rfl,hd1⟩:=nW k e1 E6;obtain⟨d2,rfl,wQ⟩:=jg k e2 fX;refine Zh ?_;refine ab8 ?_;refine T2 ?_;refine KO.vf (cs:=e1.cells.toArray) rfl rfl isAgg75 sizeOf75 rfl hd1 rfl ?_;refine gZ ?_;refine T2 ?_;refine KO.vf (cs:=e2.cells.toArray) rfl rfl isAgg75 sizeOf75 rfl wQ rfl ?_;refine KO.neA rfl rfl bC (VU e1 e2) rfl ?_;refine Z3 ?_;refine K.cond rfl (fun h4=>?_) (fun h4=>?_)
   ·refine x7 ?_;refine KQ.aU rfl rfl (fun w' hs=>fin _ w' _ ?_ hs);rw[eq_comm,decide_eq_false_iff_not];rintro rfl;rw[E6]at fX;simp only[az]at fX;simp[fX]at h4
   ·have e12:e1=e2:=by simpa using h4
    refine Yg ?_;refine ES ?_;refine KQ.round (k+1) ⟨by omega,by rw[a_ E6,a_ fX,Es,e12]⟩ ae ⟨rfl,rfl,rfl,trivial⟩ (fun _ hs=>hs)
  ·have mV:k=xs.length:=by omega
   refine yc ?_;refine KQ.aU rfl rfl (fun w' hs=>fin _ w' _ ?_ hs);rw[eq_comm,decide_eq_true_eq];rw[mV,List.take_length,hlen,List.take_length]at Es;exact Es
end Go.Proofs.YtjhogocabcdjbabGreatDoor
namespace WB
open Go Go.RowKit
structure Ac where
 cR:Int
 k:Int
 n:Int
 m:Int
 nm:Nm
 body:aj
 list:List Ms
def qF (x:Ac) (lv:Value):List Value:=[.int .i64 x.cR,.int .i64 x.k,.int .i64 x.n,.int .i64 x.m,.string x.nm.name,.string x.nm.gK,.int .i64 x.nm.bF,.string x.body,lv]
def q8 (m:Ms):Bool:=decide (m.body.size<=60)&&decide (m.queue.size<=60)
def mj (l:List Ms):Bool:=decide (l.length<=60)&&l.all q8
def vz (x:Ac):Bool:=decide (x.nm.name.size<=60)&&(decide (x.nm.gK.size<=60)&&(decide (x.body.size<=60)&&(mj x.list&&decide (x.list.length<=6))))
theorem Au{x:Ac}(h:vz x=true):x.nm.name.size<=60/\x.nm.gK.size<=60/\x.body.size<=60/\x.list.length<=6/\∀m∈x.list,m.body.size<=60/\m.queue.size<=60:=by
 unfold vz mj q8 at h;simp only[bm,decide_eq_true_eq,aL]at h;exact⟨h.1,h.2.1,h.2.2.1,h.2.2.2.2,h.2.2.2.1.2⟩
def E_ (H:Ho) (D:Dk) (R:Rh) (x:Ac):Bool:=
 if x.cR=0 then decide (jG H D x.nm=ln R x.nm)
 else if x.cR=1 then decide (Vu H D x.nm.name=zx R x.nm.name)
 else if x.cR=2 then decide (gN H x.n x.nm.name x.m x.body=fO R x.n x.nm.name x.m x.body)&&decide (D4 H x.n x.nm.name x.m x.body=rf R x.n x.nm.name x.m x.body)
 else if x.cR=3 then decide (gX H x.n x.nm.name=gM R x.n x.nm.name)&&decide (getM H x.n x.nm.name=nr R x.n x.nm.name)
 else if x.cR=4 then decide (yS H D x.n=lT R x.n)
 else if x.cR=5 then decide (AS H x.n=oU R x.n)
 else if x.cR=7 then decide (Xk H D x.n x.m=sJ R x.n x.m)
 else if x.cR=8 then decide (EE H D x.n x.m x.list=nw R x.n x.m x.list)&&decide (xZ H D x.n x.m x.list=rh R x.n x.m x.list)
 else true
def Bp (H:Ho) (D:Dk) (x:Ac):Ho:=
 if x.cR=0 then jF H D x.nm else if x.cR=1 then QT H D x.nm.name
 else if x.cR=2 then lA H x.n x.nm.name x.m x.body else if x.cR=3 then kH H x.n x.nm.name
 else if x.cR=4 then uj H D x.n else if x.cR=5 then BP H x.n else if x.cR=7 then G8 H D x.n x.m
 else if x.cR=8 then vF H D x.n x.m x.list else H
def BM (H:Ho) (D:Dk) (x:Ac):Dk:=
 if x.cR=0 then jZ H D x.nm else if x.cR=1 then Up H D x.nm.name
 else if x.cR=4 then xX H D x.n else if x.cR=7 then JG H D x.n x.m
 else if x.cR=8 then Bq H D x.n x.m x.list else D
def Dt (R:Rh) (x:Ac):Rh:=
 if x.cR=0 then jt R x.nm else if x.cR=1 then DW R x.nm.name
 else if x.cR=2 then n7 R x.n x.nm.name x.m x.body else if x.cR=3 then nt R x.n x.nm.name
 else if x.cR=4 then qx R x.n else if x.cR=5 then xO R x.n else if x.cR=7 then uR R x.n x.m
 else if x.cR=8 then qJ R x.n x.m x.list else R
structure Alk (H:Ho) (R:Rh) (s:aj):Prop where
 te:iQ H s=jR R s
 tl:lQ H s=jm R s
 kl:(iT R).length<1000000000
 kp:(cS (H.aI.map (·.1))).flatMap (iV H)=iT R
 us:((H.used:Nat):Int)=R.used
 dn:H.down=R.down
 nm:iX H.names R.names
 id:H.id=R.id
 wl:∀j:Nat,j<4->(j:Int)≠R.id->ig (H.iY j)=iL (R.lq j)
 db:∀j:Nat,j<4->cJ H j=R.jJ j/\(R.jJ j≠[]->gD H j=R.md j)/\fv H j=R.ar j
structure Vk (I:Nat->Nat->Int->Ho->Dk->Rh->Prop):Prop where
 start:∀{id:Int},0<=id/\id<4->I 0 0 id (ij id qD) qD (CA id)
 bound:∀{i j id H D R},I i j id H D R->i<=100->j<=300->cx 79000 H/\(∀y∈H.ay,f_ y)/\E4 D/\(-4000000000000000000<=D.left/\D.left<=9223372036854775807)/\H.aI.length<=1000/\gd 79000 R
 alk:∀{i j id H D R},I i j id H D R->i<=100->j<=300->∀s,Alk H R s
 name:∀{j id H D R},I 0 j id H D R->j<300->∀x,jG H D x=ln R x/\I 0 (j+1) id (jF H D x) (jZ H D x) (jt R x)
 act:∀{i j id H D R},I i j id H D R->i<100->j<=300->∀x,vz x=true->x.cR≠6->x.cR≠9->x.cR≠10->E_ H D R x=true/\I (i+1) j id (Bp H D x) (BM H D x) (Dt R x)
 batch:∀{i j id H D R},I i j id H D R->i<100->j<=300->∀k,AO H D k=jU R k/\Rg H D k=uT R k/\Rj H D k=nu R k/\I (i+1) j id (qE H D k) (xY H D k) (jb R k)
 cut:∀{i j id H D R},I i j id H D R->∀n m,(-9223372036854775808<=n/\n<=9223372036854775807)->I (i+1) j id {H with dC:=m} (kN D n) (FE R n)
 opened:∀{i j id H D R},I i j id H D R->i<100->j<=300->I (i+1) j id (ij id D) D (dX R)
 Uv:∀{i j id H D R},I i j id H D R->i<100->j<=300->I (i+1) j id (ij id (kN D (-1))) (kN D (-1)) (dX {R with off:=false})
end WB
namespace Go.Proofs.YtjhogocabcdjbabGreatDoor
open Tryz
open Go Go.RowKit WB
theorem Fw(w0:World)(L:List HP)(v:Value)(l:List Ms)(yM:∀w,St w0 L w->qX w 5 dy v l):KE prog 88 #[v] w0 L (fun u M=>u=.bool (mj l)/\M=L):=by
 refine KE.mk (n:=19) func88 rfl ntmps88 ai ?_;intro w hw;obtain⟨sa,cap,rfl,hc⟩:=yM w hw;have fin:∀(b:Bool) (w':World) (M:List HP),b=mj l->St w M w'->∃v L',Ending.returned (.bool b)=Ending.returned v/\(v=.bool (mj l)/\L'=L)/\St w0 L' w'/\Below w.heap.size w w':=fun b w' M e hs=>⟨_,_,rfl,⟨by rw[e],rfl⟩,hw.aA hs.below,hs.below⟩
 refine lg ?_;refine Is ?_;refine JN ?_;refine Z3 ?_;refine K.bn rfl (fun h=>?_) (fun h=>?_)
 ·refine kr ?_;refine KQ.aU rfl rfl (fun w' hs=>fin false w' _ (by unfold mj;rw[decide_eq_false ae];rfl) hs)
 have hlen:l.length<=60:=by omega
 have e0:mj l=l.all q8:=by unfold mj;rw[decide_eq_true hlen,Bool.true_and]
 refine qP ?_;refine Hf ?_;refine K.loop (fun i:Nat=>[(0,.slice sa l.length cap),(3,.int .i64 (i:Nat))]) (fun _=>[]) (fun i=>i<=l.length/\(l.take i).all q8=true) (fun i=>l.length-i) 0 ⟨aH _,rfl⟩ ⟨rfl,rfl,trivial⟩ (fun _ h=>h) ?_;rintro i ⟨hi,cU⟩;by_cases h1:i<l.length
 ·obtain⟨x,hx⟩:∃e,l[i]? =some e:=⟨l[i],ak h1⟩;obtain⟨ad,rfl,eM⟩:=hc i x hx;have gP:(l.take (i+1)).all q8=q8 x:=by rw[a_ hx,List.all_append,cU];simp
  refine lO ?_;refine Is ?_;refine qo ?_;refine J2 ?_;refine gZ ?_;refine XJ ?_;refine KO.vf (cs:=(dy x).toArray) rfl rfl isAgg44 sizeOf44 rfl eM rfl ?_;refine KO.ce (cp:=[]) rfl rfl rfl call174 rfl (RD w _ x) ?_;rintro v' L' ⟨rfl,rfl⟩;refine oJ ?_;refine K.cond rfl (fun h2=>?_) (fun h2=>?_)
  ·refine x7 ?_;refine KQ.aU rfl rfl (fun w' hs=>fin false w' _ ?_ hs);rw[e0,eq_comm,List.all_eq_false];refine⟨x,ax hx,?_⟩;unfold q8;simp at h2 ⊢;omega
  ·refine Yg ?_;refine ES ?_;refine KQ.round (i+1) ⟨by omega,?_⟩ ae ⟨rfl,rfl,trivial⟩ (fun _ h=>h);rw[gP];unfold q8;simpa using h2
 ·obtain rfl:i=l.length:=by omega
  rw[List.take_length]at cU;refine lO ?_;refine Is ?_;refine qo ?_;refine HV ?_;refine yc ?_;refine KQ.aU rfl rfl (fun w' hs=>fin true w' _ (by rw[e0,cU]) hs)
theorem abu(w0:World)(L:List HP)(lv:Value)(x:Ac)(yM:∀w,St w0 L w->qX w 5 dy lv x.list):KE prog 33 #[.agg (qF x lv).toArray] w0 L (fun u M=>u=.bool (vz x)/\M=L):=by
 have hR:∀w,St w0 L w->qX w 5 dy lv x.list:=yM;refine KE.mk (n:=32) func33 rfl ntmps33 ai ?_;intro w hw;obtain⟨sa,cap,rfl,hc⟩:=yM w hw;have hR':∀(M:List HP) w',St w M w'->qX w' 5 dy (.slice sa x.list.length cap) x.list:=fun M w' hw'=>⟨sa,cap,rfl,fun i y hy=>by obtain⟨ad,h,hcc⟩:=hc i y hy;exact⟨ad,h,hcc.ext (Ext.bU hw'.below)⟩⟩
 have fin:∀(b:Bool) (w':World) (M:List HP),b=vz x->St w M w'->∃v L',Ending.returned (.bool b)=Ending.returned v/\(v=.bool (vz x)/\L'=L)/\St w0 L' w'/\Below w.heap.size w w':=fun b w' M e hs=>⟨_,_,rfl,⟨by rw[e],rfl⟩,hw.aA hs.below,hs.below⟩
 refine Z2 ?_;refine KO.box rfl rfl aN rfl ?_;intro b1;refine jL ?_;by_cases h1:(x.nm.name.size:Int)<=60
 ·by_cases h2:(x.nm.gK.size:Int)<=60
  ·by_cases h3:(x.body.size:Int)<=60
   ·cases h4:mj x.list with
    |true=>
     refine di ?_;refine Rn ?_;refine JU ?_;refine yW ?_;refine H6 ?_;refine T8 ?_;refine KO.on rfl rfl Bt ?_;refine KO.bO (cs:=qF x (.slice sa x.list.length cap)) (i:=5) rfl rfl isAgg9 br (by rfl) rfl rfl ?_;refine Hx ?_;refine t_ ?_;refine Qr ?_;refine KO.on rfl rfl (by simp[h1,h2]) ?_;refine KO.bO (cs:=qF x (.slice sa x.list.length cap)) (i:=7) rfl rfl isAgg9 br (by rfl) rfl rfl ?_;refine Hx ?_;refine t_ ?_;refine Qt ?_;refine KO.on rfl rfl (by simp[h1,h2,h3]) ?_;refine KO.bO (cs:=qF x (.slice sa x.list.length cap)) (i:=8) rfl rfl isAgg49 br (by rfl) rfl rfl ?_;refine KO.on rfl rfl (by simp[h1,h2,h3]) ?_;refine KO.ce (cp:=[]) rfl rfl rfl call88 rfl (Fw w _ _ x.list (fun w' hw'=>hR' _ w' hw')) ?_;rintro v' L' ⟨rfl,rfl⟩;rw[h4];refine sx ?_;refine qW ?_;refine Qt ?_;refine KO.on rfl rfl (by simp[h1,h2,h3,h4]) ?_;refine KO.bO (cs:=qF x (.slice sa x.list.length cap)) (i:=8) rfl rfl isAgg49 br (by rfl) rfl rfl ?_;refine lX ?_;refine Is ?_;refine lX ?_;refine KO.leq rfl rfl rfl ?_;refine ER ?_;refine KQ.aU rfl rfl (fun w' hs=>fin _ w' _ ?_ hs);unfold vz
     rw[h4,decide_eq_true (show x.nm.name.size<=60 by omega),decide_eq_true (show x.nm.gK.size<=60 by omega),decide_eq_true (show x.body.size<=60 by omega)];by_cases h6:x.list.length<=6
     ·rw[decide_eq_true h6];simp;omega
     ·rw[decide_eq_false h6];simp;omega
    |false=>
     refine di ?_;refine Rn ?_;refine JU ?_;refine yW ?_;refine H6 ?_;refine T8 ?_;refine KO.on rfl rfl Bt ?_;refine KO.bO (cs:=qF x (.slice sa x.list.length cap)) (i:=5) rfl rfl isAgg9 br (by rfl) rfl rfl ?_;refine Hx ?_;refine t_ ?_;refine Qr ?_;refine KO.on rfl rfl (by simp[h1,h2]) ?_;refine KO.bO (cs:=qF x (.slice sa x.list.length cap)) (i:=7) rfl rfl isAgg9 br (by rfl) rfl rfl ?_;refine Hx ?_;refine t_ ?_;refine Qt ?_;refine KO.on rfl rfl (by simp[h1,h2,h3]) ?_;refine KO.bO (cs:=qF x (.slice sa x.list.length cap)) (i:=8) rfl rfl isAgg49 br (by rfl) rfl rfl ?_;refine KO.on rfl rfl (by simp[h1,h2,h3]) ?_;refine KO.ce (cp:=[]) rfl rfl rfl call88 rfl (Fw w _ _ x.list (fun w' hw'=>hR' _ w' hw')) ?_;rintro v' L' ⟨rfl,rfl⟩;rw[h4];refine sx ?_;refine vJ ?_;refine vH ?_;refine KQ.aU rfl rfl (fun w' hs=>fin _ w' _ ?_ hs);unfold vz;simp[h4]
   ·refine di ?_;refine Rn ?_;refine JU ?_;refine yW ?_;refine H6 ?_;refine T8 ?_;refine KO.on rfl rfl Bt ?_;refine KO.bO (cs:=qF x (.slice sa x.list.length cap)) (i:=5) rfl rfl isAgg9 br (by rfl) rfl rfl ?_;refine Hx ?_;refine t_ ?_;refine Qr ?_;refine KO.on rfl rfl (by simp[h1,h2]) ?_;refine KO.bO (cs:=qF x (.slice sa x.list.length cap)) (i:=7) rfl rfl isAgg9 br (by rfl) rfl rfl ?_;refine Hx ?_;refine Kc ?_;refine ET ?_;refine vJ ?_;refine vH ?_;refine KQ.aU rfl rfl (fun w' hs=>fin _ w' _ ?_ hs);unfold vz;simp;omega
  ·refine di ?_;refine Rn ?_;refine JU ?_;refine yW ?_;refine H6 ?_;refine T8 ?_;refine KO.on rfl rfl Bt ?_;refine KO.bO (cs:=qF x (.slice sa x.list.length cap)) (i:=5) rfl rfl isAgg9 br (by rfl) rfl rfl ?_;refine Hx ?_;refine Kc ?_;refine Nl ?_;refine Fb ?_;refine vK ?_;refine vJ ?_;refine vH ?_;refine KQ.aU rfl rfl (fun w' hs=>fin _ w' _ ?_ hs);unfold vz;simp;omega
 ·refine di ?_;refine Rn ?_;refine JU ?_;refine Nl ?_;refine Nt ?_;refine vJ ?_;refine tW ?_;refine vK ?_;refine vJ ?_;refine vH ?_;refine KQ.aU rfl rfl (fun w' hs=>fin _ w' _ ?_ hs);unfold vz;simp;omega
theorem Xb(w0:World)(L:List HP)(A:HP)(bh bd b n m:Nat)(H:Ho)(D:Dk)(R:Rh)(x:Ac)(a:Option Addr)(cap:Nat)(hT:ym w0)(hM:xg w0)(hg:fM w0)(hB:cx n H)(hn:n+700<=80000)(hu:∀y∈H.ay,f_ y)(hD:E4 D)(hd: -4000000000000000000<=D.left/\D.left<=9223372036854775807)(hR:gd m R)(hm:m+250<=80000)(hx:vz x=true)(hA:∀w R,St w0 (A::R) w->qX w 5 dy (.slice a x.list.length cap) x.list)(xW:x.list.length<=cap):
 KC prog 39 #[bN bh,fK b,.agg (qF x (.slice a x.list.length cap)).toArray] w0 (dt bh bd H::ga bd D::gL b R::A::L)
  (fun u M=>u=.bool (E_ H D R x)/\M=dt bh bd (Bp H D x)::ga bd (BM H D x)::gL b (Dt R x)::A::L):=by
 obtain⟨r7,vp,SP,YQ,hs5⟩:=Au hx;have hmx:(60:Nat)<=maxLen:=by decide
 have Jj:x.nm.name.size<=maxLen:=by omega
 have YO:x.nm.gK.size<=maxLen:=by omega
 have hbd:x.body.size<=maxLen:=by omega
 have h3:=hD.len;have YM:∀y∈H.ay,y.aT.length<=90000/\y.aY.length<=90000/\y.aT.length+y.aY.length<=90000:=fun y hy=>by have :=(hu y hy).many;omega
 have fin:∀(e:Bool) (H':Ho) (D':Dk) (R':Rh) (w':World),e=E_ H D R x->H'=Bp H D x->D'=BM H D x->R'=Dt R x->St w0 (dt bh bd H'::ga bd D'::gL b R'::A::L) w'->∃v L',Ending.returned (.bool e)=Ending.returned v/\(v=.bool (E_ H D R x)/\L'=dt bh bd (Bp H D x)::ga bd (BM H D x)::gL b (Dt R x)::A::L)/\St w0 L' w':=fun e H' D' R' w' h1 h2 h3 h4 hs=>by
  subst h1 h2 h3 h4;exact⟨_,_,rfl,⟨rfl,rfl⟩,hs⟩
 refine KC.mk (n:=182) func39 rfl ntmps39 ai ?_;refine Z2 ?_;refine KO.box rfl rfl aN rfl ?_;intro b5;refine oK ?_;refine KO.fG (off:=0) rfl runUnderlying79 rfl rfl sizeOf3 rfl ?_;refine sP ?_;refine Vc ?_;by_cases h0:x.cR=0
 ·refine nY ?_;refine K.bW rfl (by simp[h0]) ?_;refine kO ?_;refine K.sO [.pure,.pure,.read,.write,.pure,.pure,.read,.write,.write,.pure] [(3,6)] [[0,1,2,4,5,3,6,7,8,9],[0,1,2,4,5,6,3,7,8,9]] bC bC bC ⟨?_,?_,trivial⟩
  focus
   show KO _ _ _ _ _ _ _ _ _ _
   refine Z1 ?_;refine H6 ?_
   (refine KO.I6 rfl rfl isAgg75 sizeOf75 br Y9 aN rfl ?_)
   refine Z1 ?_;refine H6 ?_;refine KO.cl (cp:=[]) rfl rfl rfl call31 rfl (KC.yC aQ aQ (yL w0 _ bh bd n H D x.nm hT hM hB ae h3 hd Jj YO)) ?_;rintro v' L' ⟨rfl,rfl⟩
   (refine KO.I6 rfl rfl isAgg75 sizeOf75 aQ Y9 aN rfl ?_)
   refine KO.cl (cp:=[]) rfl rfl rfl call32 rfl (KC.jN aQ (uO w0 _ b m R x.nm hR ae Jj YO)) ?_;rintro v' L' ⟨rfl,rfl⟩;refine KO.ce (cp:=[]) rfl rfl rfl call29 rfl (cF w0 _ _ _ hg) ?_;rintro v' L' ⟨rfl,rfl⟩;refine nX ?_
  rotate_left
  focus
   show KO _ _ _ _ _ _ _ _ _ _
   refine Z1 ?_;refine H6 ?_
   (refine KO.I6 rfl rfl isAgg75 sizeOf75 br Y9 aN rfl ?_)
   refine Z1 ?_;refine H6 ?_
   (refine KO.I6 rfl rfl isAgg75 sizeOf75 br Y9 aN rfl ?_)
   refine KO.cl (cp:=[]) rfl rfl rfl call31 rfl (KC.yC aQ aQ (yL w0 _ bh bd n H D x.nm hT hM hB ae h3 hd Jj YO)) ?_;rintro v' L' ⟨rfl,rfl⟩;refine KO.cl (cp:=[]) rfl rfl rfl call32 rfl (KC.jN aQ (uO w0 _ b m R x.nm hR ae Jj YO)) ?_;rintro v' L' ⟨rfl,rfl⟩;refine KO.ce (cp:=[]) rfl rfl rfl call29 rfl (cF w0 _ _ _ hg) ?_;rintro v' L' ⟨rfl,rfl⟩;refine nX ?_
  rotate_left
  all_goals (refine KQ.aU rfl rfl (fun w' aM=>fin _ _ _ _ w' ?_ ?_ ?_ ?_ (aM.all Y4))<;>first|(unfold E_;rw[if_pos h0])|(unfold Bp;rw[if_pos h0])|(unfold BM;rw[if_pos h0])|(unfold Dt;rw[if_pos h0]))
 refine nY ?_;refine K.ct rfl (by simp[h0]) ?_;refine kO ?_;by_cases h1:x.cR=1
 ·refine nY ?_;refine K.bW rfl Bt ?_;refine kO ?_;refine K.sO [.pure,.pure,.pure,.read,.write,.pure,.pure,.pure,.read,.write,.write,.pure] [(4,8)] [[0,1,2,3,5,6,7,4,8,9,10,11],[0,1,2,3,5,6,7,8,4,9,10,11]] bC bC bC ⟨?_,?_,trivial⟩
  focus
   show KO _ _ _ _ _ _ _ _ _ _
   refine Z1 ?_;refine QH ?_;refine Z1 ?_;refine Rn ?_;refine KO.cl (cp:=[]) rfl rfl rfl call94 rfl (KC.yC aQ aQ (C3 w0 _ bh bd n H D x.nm.name hT hM hB ae h3 hd)) ?_;rintro v' L' ⟨rfl,rfl⟩;refine X6 ?_;refine KO.cl (cp:=[]) rfl rfl rfl call95 rfl (KC.jN aQ (zu w0 _ b m R x.nm.name hR ae)) ?_;rintro v' L' ⟨rfl,rfl⟩;refine KO.ce (cp:=[]) rfl rfl rfl call29 rfl (cF w0 _ _ _ hg) ?_;rintro v' L' ⟨rfl,rfl⟩;refine nX ?_
  rotate_left
  focus
   show KO _ _ _ _ _ _ _ _ _ _
   refine Z1 ?_;refine QH ?_;refine Z1 ?_;refine QH ?_;refine KO.cl (cp:=[]) rfl rfl rfl call94 rfl (KC.yC aQ aQ (C3 w0 _ bh bd n H D x.nm.name hT hM hB ae h3 hd)) ?_;rintro v' L' ⟨rfl,rfl⟩;refine KO.cl (cp:=[]) rfl rfl rfl call95 rfl (KC.jN aQ (zu w0 _ b m R x.nm.name hR ae)) ?_;rintro v' L' ⟨rfl,rfl⟩;refine KO.ce (cp:=[]) rfl rfl rfl call29 rfl (cF w0 _ _ _ hg) ?_;rintro v' L' ⟨rfl,rfl⟩;refine nX ?_
  rotate_left
  all_goals (refine KQ.aU rfl rfl (fun w' aM=>fin _ _ _ _ w' ?_ ?_ ?_ ?_ (aM.all Y4))<;>first|(unfold E_;rw[if_neg h0,if_pos h1])|(unfold Bp;rw[if_neg h0,if_pos h1])|(unfold BM;rw[if_neg h0,if_pos h1])|(unfold Dt;rw[if_neg h0,if_pos h1]))
 refine nY ?_;refine K.ct rfl Bt ?_;refine kO ?_;by_cases h2:x.cR=2
 ·refine nY ?_;refine K.bW rfl Ug ?_;refine m_ ?_;refine Z25 ?_;refine QH ?_;refine Vb ?_;refine Qr ?_;refine KO.bO (b:=b5) (cs:=qF x (.slice a x.list.length cap)) (i:=7) rfl rfl isAgg9 br (by rfl) rfl rfl ?_;refine KO.cl (cp:=[]) rfl rfl rfl call96 rfl (KC.jN aQ (RP w0 _ b m R x.n x.nm.name x.m x.body hR ae hbd)) ?_;rintro v' L' ⟨rfl,rfl⟩;refine qQ ?_;refine TF ?_;refine Ke ?_;refine Rn ?_;refine X6 ?_;refine Qq ?_;refine Ub ?_;refine Qr ?_;refine KO.bO (b:=b5) (cs:=qF x (.slice a x.list.length cap)) (i:=7) rfl rfl isAgg9 aQ (by rfl) rfl rfl ?_;refine KO.cl (cp:=[]) rfl rfl rfl call14 rfl (KC.jN aQ (Wj w0 _ bh bd n H x.n x.nm.name x.m x.body hB ae Jj hbd (fun y hy=>(YM y hy).1))) ?_;rintro v' L' ⟨rfl,rfl⟩;refine rJ ?_;by_cases Da:gN H x.n x.nm.name x.m x.body=fO R x.n x.nm.name x.m x.body
  ·refine gY ?_;refine KO.ce (cp:=[]) rfl rfl rfl call29 rfl (cF w0 _ _ _ hg) ?_;rintro v' L' ⟨rfl,rfl⟩;rw[decide_eq_true Da];refine BQ ?_;refine qW ?_;refine EF ?_;refine uk ?_;refine nX ?_;refine KQ.aU rfl rfl (fun w' aM=>fin _ (lA H x.n x.nm.name x.m x.body) D (n7 R x.n x.nm.name x.m x.body) w' ?_ ?_ ?_ ?_ (aM.all Y4))
   ·unfold E_;rw[if_neg h0,if_neg h1,if_pos h2,decide_eq_true Da];rfl
   ·unfold Bp;rw[if_neg h0,if_neg h1,if_pos h2]
   ·unfold BM;rw[if_neg h0,if_neg h1,if_neg Zp,if_neg Zp,if_neg Zp]
   ·unfold Dt;rw[if_neg h0,if_neg h1,if_pos h2]
  ·refine gY ?_;refine KO.ce (cp:=[]) rfl rfl rfl call29 rfl (cF w0 _ _ _ hg) ?_;rintro v' L' ⟨rfl,rfl⟩;rw[decide_eq_false Da];refine vK ?_;refine nX ?_;refine KQ.aU rfl rfl (fun w' aM=>fin _ (lA H x.n x.nm.name x.m x.body) D (n7 R x.n x.nm.name x.m x.body) w' ?_ ?_ ?_ ?_ (aM.all Y4))
   ·unfold E_;rw[if_neg h0,if_neg h1,if_pos h2,decide_eq_false Da];rfl
   ·unfold Bp;rw[if_neg h0,if_neg h1,if_pos h2]
   ·unfold BM;rw[if_neg h0,if_neg h1,if_neg Zp,if_neg Zp,if_neg Zp]
   ·unfold Dt;rw[if_neg h0,if_neg h1,if_pos h2]
 refine nY ?_;refine K.ct rfl Ug ?_;refine kO ?_;by_cases vy:x.cR=3
 ·refine nY ?_;refine K.bW rfl (by simp[vy]) ?_;refine m_ ?_;refine Z25 ?_;refine QH ?_;refine KO.cl (cp:=[]) rfl rfl rfl call97 rfl (KC.jN aQ (RS w0 _ b m R x.n x.nm.name hR ae)) ?_;rintro v' L' ⟨rfl,rfl⟩;refine LB ?_;refine KO.alloc rfl zeroValue44 aN rfl ?_;intro Rm;refine TH ?_;refine jo ?_;refine TF ?_;refine Ke ?_;refine Rn ?_;refine X6 ?_;refine KO.cl (cp:=[]) rfl rfl rfl call15 rfl (KC.jN aQ (WH w0 _ bh bd n H x.n x.nm.name hB ae (fun y hy=>(YM y hy).2.1))) ?_;rintro v' L' ⟨rfl,rfl⟩;refine LB ?_;refine KO.alloc rfl zeroValue44 aN rfl ?_;intro b13;refine TH ?_;refine jL ?_;by_cases Da:gX H x.n x.nm.name=gM R x.n x.nm.name
  ·refine gY ?_;refine KO.ce (cp:=[]) rfl rfl rfl call29 rfl (cF w0 _ _ _ hg) ?_;rintro v' L' ⟨rfl,rfl⟩;rw[decide_eq_true Da];refine qW ?_;refine yl ?_;refine lX ?_;refine Qe ?_;refine KO.on rfl rfl rfl ?_;refine KO.eqA rfl rfl bC (Ux (getM H x.n x.nm.name) (nr R x.n x.nm.name)) rfl ?_;refine uk ?_;refine nX ?_;refine KQ.aU rfl rfl (fun w' aM=>fin _ (kH H x.n x.nm.name) D (nt R x.n x.nm.name) w' ?_ ?_ ?_ ?_ (aM.all Y4))
   ·unfold E_;rw[if_neg h0,if_neg h1,if_neg h2,if_pos vy,decide_eq_true Da];rfl
   ·unfold Bp;rw[if_neg h0,if_neg h1,if_neg h2,if_pos vy]
   ·unfold BM;rw[if_neg h0,if_neg h1,if_neg Zq,if_neg Zq,if_neg Zq]
   ·unfold Dt;rw[if_neg h0,if_neg h1,if_neg h2,if_pos vy]
  ·refine gY ?_;refine KO.ce (cp:=[]) rfl rfl rfl call29 rfl (cF w0 _ _ _ hg) ?_;rintro v' L' ⟨rfl,rfl⟩;rw[decide_eq_false Da];refine vK ?_;refine nX ?_;refine KQ.aU rfl rfl (fun w' aM=>fin _ (kH H x.n x.nm.name) D (nt R x.n x.nm.name) w' ?_ ?_ ?_ ?_ (aM.all Y4))
   ·unfold E_;rw[if_neg h0,if_neg h1,if_neg h2,if_pos vy,decide_eq_false Da];rfl
   ·unfold Bp;rw[if_neg h0,if_neg h1,if_neg h2,if_pos vy]
   ·unfold BM;rw[if_neg h0,if_neg h1,if_neg Zq,if_neg Zq,if_neg Zq]
   ·unfold Dt;rw[if_neg h0,if_neg h1,if_neg h2,if_pos vy]
 refine nY ?_;refine K.ct rfl (by simp[vy]) ?_;refine kO ?_;by_cases h4:x.cR=4
 ·refine nY ?_;refine K.bW rfl (by simp[h4]) ?_;refine kO ?_;refine K.sO [.pure,.pure,.read,.write,.pure,.pure,.read,.write,.write,.pure] [(3,6)] [[0,1,2,4,5,3,6,7,8,9],[0,1,2,4,5,6,3,7,8,9]] bC bC bC ⟨?_,?_,trivial⟩
  focus
   show KO _ _ _ _ _ _ _ _ _ _
   refine x5 ?_;refine Z1 ?_;refine TF ?_;refine KO.cl (cp:=[]) rfl rfl rfl call16 rfl (KC.yC aQ aQ (De w0 _ bh bd n H D x.n hT hM hB ae hu h3 hd)) ?_;rintro v' L' ⟨rfl,rfl⟩;refine Ke ?_;refine KO.cl (cp:=[]) rfl rfl rfl call98 rfl (KC.jN aQ (KA w0 _ b m R x.n hR ae)) ?_;rintro v' L' ⟨rfl,rfl⟩;refine KO.ce (cp:=[]) rfl rfl rfl call29 rfl (cF w0 _ _ _ hg) ?_;rintro v' L' ⟨rfl,rfl⟩;refine nX ?_
  rotate_left
  focus
   show KO _ _ _ _ _ _ _ _ _ _
   refine x5 ?_;refine x5 ?_;refine KO.cl (cp:=[]) rfl rfl rfl call16 rfl (KC.yC aQ aQ (De w0 _ bh bd n H D x.n hT hM hB ae hu h3 hd)) ?_;rintro v' L' ⟨rfl,rfl⟩;refine KO.cl (cp:=[]) rfl rfl rfl call98 rfl (KC.jN aQ (KA w0 _ b m R x.n hR ae)) ?_;rintro v' L' ⟨rfl,rfl⟩;refine KO.ce (cp:=[]) rfl rfl rfl call29 rfl (cF w0 _ _ _ hg) ?_;rintro v' L' ⟨rfl,rfl⟩;refine nX ?_
  rotate_left
  all_goals (refine KQ.aU rfl rfl (fun w' aM=>fin _ _ _ _ w' ?_ ?_ ?_ ?_ (aM.all Y4))<;>first|(unfold E_;rw[if_neg h0,if_neg h1,if_neg h2,if_neg vy,if_pos h4])|(unfold Bp;rw[if_neg h0,if_neg h1,if_neg h2,if_neg vy,if_pos h4])|(unfold BM;rw[if_neg h0,if_neg h1,if_pos h4])|(unfold Dt;rw[if_neg h0,if_neg h1,if_neg h2,if_neg vy,if_pos h4]))
 refine nY ?_;refine K.ct rfl (by simp[h4]) ?_;refine kO ?_;by_cases h5:x.cR=5
 ·refine nY ?_;refine K.bW rfl (by simp[h5]) ?_;refine kO ?_;refine K.sO [.pure,.pure,.read,.write,.pure,.pure,.read,.write,.write,.pure] [(3,6)] [[0,1,2,4,5,3,6,7,8,9],[0,1,2,4,5,6,3,7,8,9]] bC bC bC ⟨?_,?_,trivial⟩
  focus
   show KO _ _ _ _ _ _ _ _ _ _
   refine x5 ?_;refine Z1 ?_;refine TF ?_;refine KO.cl (cp:=[]) rfl rfl rfl call17 rfl (KC.jN aQ (La w0 _ bh bd n H x.n hB ae (fun y hy=>(YM y hy).2.2))) ?_;rintro v' L' ⟨rfl,rfl⟩;refine Ke ?_;refine KO.cl (cp:=[]) rfl rfl rfl call99 rfl (KC.jN aQ (FD w0 _ b m R x.n hR ae)) ?_;rintro v' L' ⟨rfl,rfl⟩;refine KO.ce (cp:=[]) rfl rfl rfl call29 rfl (cF w0 _ _ _ hg) ?_;rintro v' L' ⟨rfl,rfl⟩;refine nX ?_
  rotate_left
  focus
   show KO _ _ _ _ _ _ _ _ _ _
   refine x5 ?_;refine x5 ?_;refine KO.cl (cp:=[]) rfl rfl rfl call17 rfl (KC.jN aQ (La w0 _ bh bd n H x.n hB ae (fun y hy=>(YM y hy).2.2))) ?_;rintro v' L' ⟨rfl,rfl⟩;refine KO.cl (cp:=[]) rfl rfl rfl call99 rfl (KC.jN aQ (FD w0 _ b m R x.n hR ae)) ?_;rintro v' L' ⟨rfl,rfl⟩;refine KO.ce (cp:=[]) rfl rfl rfl call29 rfl (cF w0 _ _ _ hg) ?_;rintro v' L' ⟨rfl,rfl⟩;refine nX ?_
  rotate_left
  all_goals (refine KQ.aU rfl rfl (fun w' aM=>fin _ _ _ _ w' ?_ ?_ ?_ ?_ (aM.all Y4))<;>first|(unfold E_;rw[if_neg h0,if_neg h1,if_neg h2,if_neg vy,if_neg h4,if_pos h5])|(unfold Bp;rw[if_neg h0,if_neg h1,if_neg h2,if_neg vy,if_neg h4,if_pos h5])|(unfold BM;rw[if_neg h0,if_neg h1,if_neg h4,if_neg (by rw[h5];decide),if_neg (by rw[h5];decide)])|(unfold Dt;rw[if_neg h0,if_neg h1,if_neg h2,if_neg vy,if_neg h4,if_pos h5]))
 refine nY ?_;refine K.ct rfl (by simp[h5]) ?_;refine kO ?_;by_cases h7:x.cR=7
 ·refine nY ?_;refine K.bW rfl (by simp[h7]) ?_;refine kO ?_;refine K.sO [.pure,.pure,.read,.pure,.read,.write,.pure,.pure,.read,.pure,.read,.write,.write,.pure] [(5,8),(5,10)] [[0,1,2,3,4,6,7,9,5,8,10,11,12,13],[0,1,2,3,4,6,7,9,10,5,8,11,12,13],[0,1,2,3,4,6,7,8,9,5,10,11,12,13],[0,1,2,3,4,6,7,8,9,10,5,11,12,13]] bC bC bC ⟨?_,?_,?_,?_,trivial⟩
  focus
   show KO _ _ _ _ _ _ _ _ _ _
   refine x5 ?_;refine Vb ?_;refine Z1 ?_;refine TF ?_;refine Qq ?_;refine KO.cl (cp:=[]) rfl rfl rfl call100 rfl (KC.yC aQ aQ (yP w0 _ bh bd n H D x.n x.m hT hM hB ae h3 hd)) ?_;rintro v' L' ⟨rfl,rfl⟩;refine Ke ?_;refine Ub ?_;refine KO.cl (cp:=[]) rfl rfl rfl call101 rfl (KC.jN aQ (uQ w0 _ b m R x.n x.m hR ae)) ?_;rintro v' L' ⟨rfl,rfl⟩;refine KO.ce (cp:=[]) rfl rfl rfl call29 rfl (cF w0 _ _ _ hg) ?_;rintro v' L' ⟨rfl,rfl⟩;refine nX ?_
  rotate_left
  focus
   show KO _ _ _ _ _ _ _ _ _ _
   refine x5 ?_;refine Vb ?_;refine Z1 ?_;refine TF ?_;refine Vb ?_;refine KO.cl (cp:=[]) rfl rfl rfl call100 rfl (KC.yC aQ aQ (yP w0 _ bh bd n H D x.n x.m hT hM hB ae h3 hd)) ?_;rintro v' L' ⟨rfl,rfl⟩;refine Ke ?_;refine KO.cl (cp:=[]) rfl rfl rfl call101 rfl (KC.jN aQ (uQ w0 _ b m R x.n x.m hR ae)) ?_;rintro v' L' ⟨rfl,rfl⟩;refine KO.ce (cp:=[]) rfl rfl rfl call29 rfl (cF w0 _ _ _ hg) ?_;rintro v' L' ⟨rfl,rfl⟩;refine nX ?_
  rotate_left
  focus
   show KO _ _ _ _ _ _ _ _ _ _
   refine x5 ?_;refine Vb ?_;refine x5 ?_;refine Qq ?_;refine KO.cl (cp:=[]) rfl rfl rfl call100 rfl (KC.yC aQ aQ (yP w0 _ bh bd n H D x.n x.m hT hM hB ae h3 hd)) ?_;rintro v' L' ⟨rfl,rfl⟩;refine Ub ?_;refine KO.cl (cp:=[]) rfl rfl rfl call101 rfl (KC.jN aQ (uQ w0 _ b m R x.n x.m hR ae)) ?_;rintro v' L' ⟨rfl,rfl⟩;refine KO.ce (cp:=[]) rfl rfl rfl call29 rfl (cF w0 _ _ _ hg) ?_;rintro v' L' ⟨rfl,rfl⟩;refine nX ?_
  rotate_left
  focus
   show KO _ _ _ _ _ _ _ _ _ _
   refine x5 ?_;refine Vb ?_;refine x5 ?_;refine Vb ?_;refine KO.cl (cp:=[]) rfl rfl rfl call100 rfl (KC.yC aQ aQ (yP w0 _ bh bd n H D x.n x.m hT hM hB ae h3 hd)) ?_;rintro v' L' ⟨rfl,rfl⟩;refine KO.cl (cp:=[]) rfl rfl rfl call101 rfl (KC.jN aQ (uQ w0 _ b m R x.n x.m hR ae)) ?_;rintro v' L' ⟨rfl,rfl⟩;refine KO.ce (cp:=[]) rfl rfl rfl call29 rfl (cF w0 _ _ _ hg) ?_;rintro v' L' ⟨rfl,rfl⟩;refine nX ?_
  rotate_left
  all_goals (refine KQ.aU rfl rfl (fun w' aM=>fin _ _ _ _ w' ?_ ?_ ?_ ?_ (aM.all Y4))<;>first|(unfold E_;rw[if_neg h0,if_neg h1,if_neg h2,if_neg vy,if_neg h4,if_neg h5,if_pos h7])|(unfold Bp;rw[if_neg h0,if_neg h1,if_neg h2,if_neg vy,if_neg h4,if_neg h5,if_pos h7])|(unfold BM;rw[if_neg h0,if_neg h1,if_neg h4,if_pos h7])|(unfold Dt;rw[if_neg h0,if_neg h1,if_neg h2,if_neg vy,if_neg h4,if_neg h5,if_pos h7]))
 refine nY ?_;refine K.ct rfl (by simp[h7]) ?_;refine kO ?_;by_cases h8:x.cR=8
 ·refine nY ?_;refine K.bW rfl (by simp[h8]) ?_;refine kO ?_;have dM:∀y∈x.list,y.body.size<=maxLen/\y.queue.size<=maxLen:=fun y hy=>by have :=hs5 y hy;omega
  refine cW ?_;refine Z25 ?_;refine Vb ?_;refine Qt ?_;refine KO.bO (b:=b5) (cs:=qF x (.slice a x.list.length cap)) (i:=8) rfl rfl isAgg49 br (by rfl) rfl rfl ?_;refine KO.cl (cp:=[]) rfl rfl rfl call102 rfl (KC.yC aQ aQ (RU w0 _ A b m R x.n x.m a cap x.list hR ae hA ae dM)) ?_;rintro v' L' ⟨rfl,rfl⟩;refine rJ ?_;refine K.conv (L':=dt bh bd H::ga bd D::A::gL b (qJ R x.n x.m x.list)::bA b5 (.cells (qF x (.slice a x.list.length cap)).toArray 79 (0,0))::L) (fun w h=>h.all Y7) ?_
  refine cW ?_;refine TF ?_;refine Ke ?_;refine Qq ?_;refine Ub ?_;refine Qt ?_;refine KO.bO (b:=b5) (cs:=qF x (.slice a x.list.length cap)) (i:=8) rfl rfl isAgg49 aQ (by rfl) rfl rfl ?_;refine KO.cl (cp:=[]) rfl rfl rfl call103 rfl (Jw w0 _ A bh bd n H D x.n x.m a cap x.list hT hM hB ae h3 hd hA xW ae dM) ?_;rintro v' L' ⟨rfl,rfl⟩;refine rJ ?_;by_cases Da:EE H D x.n x.m x.list=nw R x.n x.m x.list
  ·refine gY ?_;refine KO.ce (cp:=[]) rfl rfl rfl call29 rfl (cF w0 _ _ _ hg) ?_;rintro v' L' ⟨rfl,rfl⟩;rw[decide_eq_true Da];refine BQ ?_;refine qW ?_;refine EF ?_;refine uk ?_;refine nX ?_;refine KQ.aU rfl rfl (fun w' aM=>fin _ (vF H D x.n x.m x.list) (Bq H D x.n x.m x.list) (qJ R x.n x.m x.list) w' ?_ ?_ ?_ ?_ (aM.all Y4))
   ·unfold E_;rw[if_neg h0,if_neg h1,if_neg h2,if_neg vy,if_neg h4,if_neg h5,if_neg h7,if_pos h8,decide_eq_true Da];rfl
   ·unfold Bp;rw[if_neg h0,if_neg h1,if_neg h2,if_neg vy,if_neg h4,if_neg h5,if_neg h7,if_pos h8]
   ·unfold BM;rw[if_neg h0,if_neg h1,if_neg h4,if_neg h7,if_pos h8]
   ·unfold Dt;rw[if_neg h0,if_neg h1,if_neg h2,if_neg vy,if_neg h4,if_neg h5,if_neg h7,if_pos h8]
  ·refine gY ?_;refine KO.ce (cp:=[]) rfl rfl rfl call29 rfl (cF w0 _ _ _ hg) ?_;rintro v' L' ⟨rfl,rfl⟩;rw[decide_eq_false Da];refine vK ?_;refine nX ?_;refine KQ.aU rfl rfl (fun w' aM=>fin _ (vF H D x.n x.m x.list) (Bq H D x.n x.m x.list) (qJ R x.n x.m x.list) w' ?_ ?_ ?_ ?_ (aM.all Y4))
   ·unfold E_;rw[if_neg h0,if_neg h1,if_neg h2,if_neg vy,if_neg h4,if_neg h5,if_neg h7,if_pos h8,decide_eq_false Da];rfl
   ·unfold Bp;rw[if_neg h0,if_neg h1,if_neg h2,if_neg vy,if_neg h4,if_neg h5,if_neg h7,if_pos h8]
   ·unfold BM;rw[if_neg h0,if_neg h1,if_neg h4,if_neg h7,if_pos h8]
   ·unfold Dt;rw[if_neg h0,if_neg h1,if_neg h2,if_neg vy,if_neg h4,if_neg h5,if_neg h7,if_pos h8]
 refine nY ?_;refine K.ct rfl (by simp[h8]) ?_;refine TJ ?_;refine xf ?_;refine KQ.aU rfl rfl (fun w' aM=>fin _ _ _ _ w' ?_ ?_ ?_ ?_ (aM.all Y4))<;>first|(unfold E_;rw[if_neg h0,if_neg h1,if_neg h2,if_neg vy,if_neg h4,if_neg h5,if_neg h7,if_neg h8])|(unfold Bp;rw[if_neg h0,if_neg h1,if_neg h2,if_neg vy,if_neg h4,if_neg h5,if_neg h7,if_neg h8])|(unfold BM;rw[if_neg h0,if_neg h1,if_neg h4,if_neg h7,if_neg h8])|(unfold Dt;rw[if_neg h0,if_neg h1,if_neg h2,if_neg vy,if_neg h4,if_neg h5,if_neg h7,if_neg h8])
theorem LV(l:List Ri):(eO l).length<=10*l.length:=by
 unfold eO;rw[aX];exact Nat.le_trans (List.length_filter_le _ _) (Ku l)
theorem gW{p:Prop}[Decidable p](h:p):(Value.bool (decide p))=.bool true:=by rw[decide_eq_true h]
theorem ob{L R:List HP}{w0:World}{v:Value}{l:List Nm}(hp:bB L (fb v l) R):∀w,St w0 L w->qX w 3 Nm.cells v l:=fun _ hw=>qX.FX (cf:=Nm.cells) (sz:=3) (E:=75) (fun _=>rfl) hp hw
theorem Ly(w0:World)(L:List HP)(bh bd b n m:Nat)(H:Ho)(R:Rh)(s:aj)(hg:fM w0)(hB:cx n H)(hn:n<=80000)(hq:H.aI.length<=1000)(hR:gd m R)(hm:m<=80000)(hA:Alk H R s):
 KC prog 40 #[bN bh,fK b,.string s] w0 (dt bh bd H::gL b R::L) (fun u M=>u=.bool true/\M=dt bh bd H::gL b R::L):=by
 have xU:=hR.fT;have aju:=hB.fT;refine KC.mk (n:=193) func40 rfl ntmps40 ai ?_;refine yb ?_;refine KO.cl (cp:=[]) rfl rfl rfl call104 rfl (KC.jN aQ (L2 w0 _ b m R s hR hm)) ?_;rintro v' L' ⟨v7,rfl,rfl⟩;refine qQ ?_;refine Z1 ?_;refine KO.cl (cp:=[]) rfl rfl rfl call28 rfl (KC.jN aQ (Pa w0 _ bh bd n H s hB hn)) ?_;rintro v' L' ⟨v9,rfl,rfl⟩;refine rJ ?_;have xy:(jm R s).length<1000000000:=by
  unfold jm;split
  ·simp
  ·rename_i q _;have h1:=(hR.lq q).1;have h2:=LV (R.lq q);omega
 refine K.cut (fun _:Unit=>[(0,bN bh),(1,fK b),(80,.bool false)]) (fun _=>dt bh bd H::gL b R::L) (fun _=>True) ?_ ?_
 ·refine K.sO [.pure,.pure,.write,.pure,.pure,.pure,.pure,.write,.pure,.pure,.pure,.pure,.write,.pure,.write,.write,.pure,.pure,.pure,.pure,.write,.pure,.pure,.pure,.read,.pure,.pure,.pure,.pure,.write,.pure,.pure,.pure,.read,.pure,.pure,.pure,.pure,.write,.pure,.pure,.pure,.write,.write,.pure,.pure] [(20,24),(29,33)] [[0,1,2,3,4,5,6,7,8,9,10,11,13,12,14,15,16,17,18,19,21,22,23,20,24,25,26,27,28,30,31,32,29,33,34,35,36,37,39,40,41,38,42,43,44,45],[0,1,2,3,4,5,6,7,8,9,10,11,13,12,14,15,16,17,18,19,21,22,23,20,24,25,26,27,28,30,31,32,33,29,34,35,36,37,39,40,41,38,42,43,44,45],[0,1,2,3,4,5,6,7,8,9,10,11,13,12,14,15,16,17,18,19,21,22,23,24,20,25,26,27,28,30,31,32,29,33,34,35,36,37,39,40,41,38,42,43,44,45],[0,1,2,3,4,5,6,7,8,9,10,11,13,12,14,15,16,17,18,19,21,22,23,24,20,25,26,27,28,30,31,32,33,29,34,35,36,37,39,40,41,38,42,43,44,45]] bC bC bC ⟨?_,?_,?_,?_,trivial⟩
  focus
   show KO _ _ _ _ _ _ _ _ _ _
   refine gZ ?_;refine KO.ce (cp:=[]) rfl rfl rfl call29 rfl (cF w0 _ _ _ hg) ?_;rintro v' L' ⟨rfl,rfl⟩;rw[gW hA.te];refine J5 ?_;refine Z1 ?_;refine KO.on rfl rfl (by rfl) ?_;refine KO.ce (cp:=[]) rfl rfl rfl call36 rfl (oz w0 _ v9 v7 (lQ H s) (jm R s) (oM.of (fun _=>rfl) br) (oM.of (fun _=>rfl) aQ) Y42 xy) ?_;rintro v' L' ⟨rfl,rfl⟩;rw[gW hA.tl];refine pD ?_;refine x8 ?_;refine KO.on rfl rfl (by rfl) ?_;refine KO.cl (cp:=[]) rfl rfl rfl call20 rfl (KC.jN aQ (vu w0 _ bh bd n H hB hn hq)) ?_;rintro v12 L' ⟨ns,BI,rfl⟩;rw[q7 BI,hA.kp];refine KO.on rfl rfl (by rfl) ?_;refine KO.cl (cp:=[]) rfl rfl rfl call105 rfl (KC.jN aQ (uP w0 _ b m R hR hm)) ?_;rintro Kp L' rfl;refine KO.on rfl rfl (by rfl) ?_;refine KO.ce (cp:=[]) rfl rfl rfl call36 rfl (oz w0 _ v12 Kp (iT R) (iT R) (oM.of (fun _=>rfl) aQ) (oM.of (fun _=>rfl) br) hA.kl hA.kl) ?_;rintro v' L' ⟨rfl,rfl⟩;rw[gW rfl];refine pD ?_;refine Nn ?_;refine Hw ?_;refine J8 ?_;refine KO.on rfl rfl (by rfl) ?_;refine KO.ce (cp:=[]) rfl rfl rfl call51 rfl (yI w0 _ _ bh bd H aQ) ?_;rintro v' L' ⟨rfl,rfl⟩;rw[hA.us]
   refine KO.on rfl rfl (by rfl) ?_;refine KO.Sy rfl rfl isAgg3 (fun w hw=>by obtain⟨V,hV,hc⟩:=iH (b:=b) (R:=R) hw aQ;exact hc 26 _ (jS hV 0)) rfl ?_;refine Ht ?_;refine Hp ?_;refine Nq ?_;refine KO.on rfl rfl ai ?_;refine KO.ce (cp:=[]) rfl rfl rfl call76 rfl (yN w0 _ _ bh bd H aQ) ?_;rintro v' L' ⟨rfl,rfl⟩;rw[hA.dn];refine KO.on rfl rfl ai ?_;refine KO.Sy rfl rfl isAgg4 (fun w hw=>by obtain⟨V,hV,hc⟩:=iH (b:=b) (R:=R) hw aQ;exact hc 27 _ (jS hV 1)) rfl ?_;refine TN ?_;refine A8 ?_;refine Hp ?_;refine LA ?_;refine KO.on rfl rfl ai ?_;refine KO.cl (cp:=[]) rfl rfl rfl call107 rfl (KC.jN aQ (vt w0 _ bh bd H ae)) ?_;rintro Vr L' rfl;refine KO.on rfl rfl ai ?_;refine KO.bV (fun _ h=>cI (b:=b) (R:=R) (h.pick aQ)) ?_;rintro⟨V,hV⟩;dsimp only;refine KO.ce (cp:=[]) rfl rfl rfl call108 rfl (DZ w0 _ _ _ b 1 (du V R) 97 V.nv R.names br br rfl ae) ?_;rintro Vq L' ⟨ys,om,iq,rfl⟩;obtain rfl:=hA.nm.all om iq;refine KO.on rfl rfl ai ?_;refine KO.ce (cp:=[]) rfl rfl rfl call106 rfl (yv w0 _ Vr Vq H.names H.names (ob aQ) (ob .head) ae ae) ?_;rintro v' L' ⟨rfl,rfl⟩;rw[gW rfl];refine B4 ?_;refine pC ?_;refine A8 ?_;refine jk ?_
  rotate_left
  focus
   show KO _ _ _ _ _ _ _ _ _ _
   refine gZ ?_;refine KO.ce (cp:=[]) rfl rfl rfl call29 rfl (cF w0 _ _ _ hg) ?_;rintro v' L' ⟨rfl,rfl⟩;rw[gW hA.te];refine J5 ?_;refine Z1 ?_;refine KO.on rfl rfl (by rfl) ?_;refine KO.ce (cp:=[]) rfl rfl rfl call36 rfl (oz w0 _ v9 v7 (lQ H s) (jm R s) (oM.of (fun _=>rfl) br) (oM.of (fun _=>rfl) aQ) Y42 xy) ?_;rintro v' L' ⟨rfl,rfl⟩;rw[gW hA.tl];refine pD ?_;refine x8 ?_;refine KO.on rfl rfl (by rfl) ?_;refine KO.cl (cp:=[]) rfl rfl rfl call20 rfl (KC.jN aQ (vu w0 _ bh bd n H hB hn hq)) ?_;rintro v12 L' ⟨ns,BI,rfl⟩;rw[q7 BI,hA.kp];refine KO.on rfl rfl (by rfl) ?_;refine KO.cl (cp:=[]) rfl rfl rfl call105 rfl (KC.jN aQ (uP w0 _ b m R hR hm)) ?_;rintro Kp L' rfl;refine KO.on rfl rfl (by rfl) ?_;refine KO.ce (cp:=[]) rfl rfl rfl call36 rfl (oz w0 _ v12 Kp (iT R) (iT R) (oM.of (fun _=>rfl) aQ) (oM.of (fun _=>rfl) br) hA.kl hA.kl) ?_;rintro v' L' ⟨rfl,rfl⟩;rw[gW rfl];refine pD ?_;refine Nn ?_;refine Hw ?_;refine J8 ?_;refine KO.on rfl rfl (by rfl) ?_;refine KO.ce (cp:=[]) rfl rfl rfl call51 rfl (yI w0 _ _ bh bd H aQ) ?_;rintro v' L' ⟨rfl,rfl⟩;rw[hA.us]
   refine KO.on rfl rfl (by rfl) ?_;refine KO.Sy rfl rfl isAgg3 (fun w hw=>by obtain⟨V,hV,hc⟩:=iH (b:=b) (R:=R) hw aQ;exact hc 26 _ (jS hV 0)) rfl ?_;refine Ht ?_;refine Hp ?_;refine Nq ?_;refine KO.on rfl rfl ai ?_;refine KO.Sy rfl rfl isAgg4 (fun w hw=>by obtain⟨V,hV,hc⟩:=iH (b:=b) (R:=R) hw aQ;exact hc 27 _ (jS hV 1)) rfl ?_;refine KO.on rfl rfl ai ?_;refine KO.ce (cp:=[]) rfl rfl rfl call76 rfl (yN w0 _ _ bh bd H aQ) ?_;rintro v' L' ⟨rfl,rfl⟩;rw[hA.dn];refine TN ?_;refine A8 ?_;refine Hp ?_;refine LA ?_;refine KO.on rfl rfl ai ?_;refine KO.cl (cp:=[]) rfl rfl rfl call107 rfl (KC.jN aQ (vt w0 _ bh bd H ae)) ?_;rintro Vr L' rfl;refine KO.on rfl rfl ai ?_;refine KO.bV (fun _ h=>cI (b:=b) (R:=R) (h.pick aQ)) ?_;rintro⟨V,hV⟩;dsimp only;refine KO.ce (cp:=[]) rfl rfl rfl call108 rfl (DZ w0 _ _ _ b 1 (du V R) 97 V.nv R.names br br rfl ae) ?_;rintro Vq L' ⟨ys,om,iq,rfl⟩;obtain rfl:=hA.nm.all om iq;refine KO.on rfl rfl ai ?_;refine KO.ce (cp:=[]) rfl rfl rfl call106 rfl (yv w0 _ Vr Vq H.names H.names (ob aQ) (ob .head) ae ae) ?_;rintro v' L' ⟨rfl,rfl⟩;rw[gW rfl];refine B4 ?_;refine pC ?_;refine A8 ?_;refine jk ?_
  rotate_left
  focus
   show KO _ _ _ _ _ _ _ _ _ _
   refine gZ ?_;refine KO.ce (cp:=[]) rfl rfl rfl call29 rfl (cF w0 _ _ _ hg) ?_;rintro v' L' ⟨rfl,rfl⟩;rw[gW hA.te];refine J5 ?_;refine Z1 ?_;refine KO.on rfl rfl (by rfl) ?_;refine KO.ce (cp:=[]) rfl rfl rfl call36 rfl (oz w0 _ v9 v7 (lQ H s) (jm R s) (oM.of (fun _=>rfl) br) (oM.of (fun _=>rfl) aQ) Y42 xy) ?_;rintro v' L' ⟨rfl,rfl⟩;rw[gW hA.tl];refine pD ?_;refine x8 ?_;refine KO.on rfl rfl (by rfl) ?_;refine KO.cl (cp:=[]) rfl rfl rfl call20 rfl (KC.jN aQ (vu w0 _ bh bd n H hB hn hq)) ?_;rintro v12 L' ⟨ns,BI,rfl⟩;rw[q7 BI,hA.kp];refine KO.on rfl rfl (by rfl) ?_;refine KO.cl (cp:=[]) rfl rfl rfl call105 rfl (KC.jN aQ (uP w0 _ b m R hR hm)) ?_;rintro Kp L' rfl;refine KO.on rfl rfl (by rfl) ?_;refine KO.ce (cp:=[]) rfl rfl rfl call36 rfl (oz w0 _ v12 Kp (iT R) (iT R) (oM.of (fun _=>rfl) aQ) (oM.of (fun _=>rfl) br) hA.kl hA.kl) ?_;rintro v' L' ⟨rfl,rfl⟩;rw[gW rfl];refine pD ?_;refine Nn ?_;refine Hw ?_;refine J8 ?_;refine KO.on rfl rfl (by rfl) ?_;refine KO.Sy rfl rfl isAgg3 (fun w hw=>by obtain⟨V,hV,hc⟩:=iH (b:=b) (R:=R) hw aQ;exact hc 26 _ (jS hV 0)) rfl ?_
   refine KO.on rfl rfl (by rfl) ?_;refine KO.ce (cp:=[]) rfl rfl rfl call51 rfl (yI w0 _ _ bh bd H aQ) ?_;rintro v' L' ⟨rfl,rfl⟩;rw[hA.us];refine Ht ?_;refine Hp ?_;refine Nq ?_;refine KO.on rfl rfl ai ?_;refine KO.ce (cp:=[]) rfl rfl rfl call76 rfl (yN w0 _ _ bh bd H aQ) ?_;rintro v' L' ⟨rfl,rfl⟩;rw[hA.dn];refine KO.on rfl rfl ai ?_;refine KO.Sy rfl rfl isAgg4 (fun w hw=>by obtain⟨V,hV,hc⟩:=iH (b:=b) (R:=R) hw aQ;exact hc 27 _ (jS hV 1)) rfl ?_;refine TN ?_;refine A8 ?_;refine Hp ?_;refine LA ?_;refine KO.on rfl rfl ai ?_;refine KO.cl (cp:=[]) rfl rfl rfl call107 rfl (KC.jN aQ (vt w0 _ bh bd H ae)) ?_;rintro Vr L' rfl;refine KO.on rfl rfl ai ?_;refine KO.bV (fun _ h=>cI (b:=b) (R:=R) (h.pick aQ)) ?_;rintro⟨V,hV⟩;dsimp only;refine KO.ce (cp:=[]) rfl rfl rfl call108 rfl (DZ w0 _ _ _ b 1 (du V R) 97 V.nv R.names br br rfl ae) ?_;rintro Vq L' ⟨ys,om,iq,rfl⟩;obtain rfl:=hA.nm.all om iq;refine KO.on rfl rfl ai ?_;refine KO.ce (cp:=[]) rfl rfl rfl call106 rfl (yv w0 _ Vr Vq H.names H.names (ob aQ) (ob .head) ae ae) ?_;rintro v' L' ⟨rfl,rfl⟩;rw[gW rfl];refine B4 ?_;refine pC ?_;refine A8 ?_;refine jk ?_
  rotate_left
  focus
   show KO _ _ _ _ _ _ _ _ _ _
   refine gZ ?_;refine KO.ce (cp:=[]) rfl rfl rfl call29 rfl (cF w0 _ _ _ hg) ?_;rintro v' L' ⟨rfl,rfl⟩;rw[gW hA.te];refine J5 ?_;refine Z1 ?_;refine KO.on rfl rfl (by rfl) ?_;refine KO.ce (cp:=[]) rfl rfl rfl call36 rfl (oz w0 _ v9 v7 (lQ H s) (jm R s) (oM.of (fun _=>rfl) br) (oM.of (fun _=>rfl) aQ) Y42 xy) ?_;rintro v' L' ⟨rfl,rfl⟩;rw[gW hA.tl];refine pD ?_;refine x8 ?_;refine KO.on rfl rfl (by rfl) ?_;refine KO.cl (cp:=[]) rfl rfl rfl call20 rfl (KC.jN aQ (vu w0 _ bh bd n H hB hn hq)) ?_;rintro v12 L' ⟨ns,BI,rfl⟩;rw[q7 BI,hA.kp];refine KO.on rfl rfl (by rfl) ?_;refine KO.cl (cp:=[]) rfl rfl rfl call105 rfl (KC.jN aQ (uP w0 _ b m R hR hm)) ?_;rintro Kp L' rfl;refine KO.on rfl rfl (by rfl) ?_;refine KO.ce (cp:=[]) rfl rfl rfl call36 rfl (oz w0 _ v12 Kp (iT R) (iT R) (oM.of (fun _=>rfl) aQ) (oM.of (fun _=>rfl) br) hA.kl hA.kl) ?_;rintro v' L' ⟨rfl,rfl⟩;rw[gW rfl];refine pD ?_;refine Nn ?_;refine Hw ?_;refine J8 ?_;refine KO.on rfl rfl (by rfl) ?_;refine KO.Sy rfl rfl isAgg3 (fun w hw=>by obtain⟨V,hV,hc⟩:=iH (b:=b) (R:=R) hw aQ;exact hc 26 _ (jS hV 0)) rfl ?_
   refine KO.on rfl rfl (by rfl) ?_;refine KO.ce (cp:=[]) rfl rfl rfl call51 rfl (yI w0 _ _ bh bd H aQ) ?_;rintro v' L' ⟨rfl,rfl⟩;rw[hA.us];refine Ht ?_;refine Hp ?_;refine Nq ?_;refine KO.on rfl rfl ai ?_;refine KO.Sy rfl rfl isAgg4 (fun w hw=>by obtain⟨V,hV,hc⟩:=iH (b:=b) (R:=R) hw aQ;exact hc 27 _ (jS hV 1)) rfl ?_;refine KO.on rfl rfl ai ?_;refine KO.ce (cp:=[]) rfl rfl rfl call76 rfl (yN w0 _ _ bh bd H aQ) ?_;rintro v' L' ⟨rfl,rfl⟩;rw[hA.dn];refine TN ?_;refine A8 ?_;refine Hp ?_;refine LA ?_;refine KO.on rfl rfl ai ?_;refine KO.cl (cp:=[]) rfl rfl rfl call107 rfl (KC.jN aQ (vt w0 _ bh bd H ae)) ?_;rintro Vr L' rfl;refine KO.on rfl rfl ai ?_;refine KO.bV (fun _ h=>cI (b:=b) (R:=R) (h.pick aQ)) ?_;rintro⟨V,hV⟩;dsimp only;refine KO.ce (cp:=[]) rfl rfl rfl call108 rfl (DZ w0 _ _ _ b 1 (du V R) 97 V.nv R.names br br rfl ae) ?_;rintro Vq L' ⟨ys,om,iq,rfl⟩;obtain rfl:=hA.nm.all om iq;refine KO.on rfl rfl ai ?_;refine KO.ce (cp:=[]) rfl rfl rfl call106 rfl (yv w0 _ Vr Vq H.names H.names (ob aQ) (ob .head) ae ae) ?_;rintro v' L' ⟨rfl,rfl⟩;rw[gW rfl];refine B4 ?_;refine pC ?_;refine A8 ?_;refine jk ?_
  rotate_left
  all_goals (exact KQ.kT () trivial ⟨rfl,rfl,by rfl,trivial⟩ (fun w h=>(bX V hV (h.all (M:=l4 b V R (dt bh bd H::L)) Y4)).all Y7))
 rintro⟨⟩-
 try dsimp only
 refine Lz ?_;refine di ?_;refine Hf ?_;have SR:∀k:Int,cb H k=dA R k:=fun k=>by
  unfold cb dA;rw[hA.id,Bool.eq_iff_iff];simp only[bm,decide_eq_true_eq];omega
 refine K.loop (fun q:Nat=>[(0,bN bh),(1,fK b),(11,.int .i64 ((q:Int)-1))]) (fun _=>dt bh bd H::gL b R::L) (fun q=>q<=6) (fun q=>6-q) 0 ah ⟨rfl,rfl,rfl,trivial⟩ (fun _ h=>h) ?_;intro q hq6;refine m_ ?_;refine KO.leq rfl rfl rfl ?_;refine Z3 ?_;refine K.bn rfl (fun h1=>?_) (fun h1=>?_)
 ·refine K.skip ?_;refine KQ.next ?_
  obtain⟨k,hk⟩:∃k:Int,k=(q:Int)-1:=⟨_,rfl⟩;rw[<-hk]at h1 ⊢;have hwe:Km H k=jl R k:=by unfold Km jl;rw[SR]
  have hde:dbE H k=jl R k:=by unfold dbE jl;rw[SR]
  have UW:TD H k=jl R k:=by unfold TD jl;rw[SR]
  have hwl:Fh H k=s_ R k:=by
   unfold Fh s_;rw[SR];cases ho:dA R k with
   |false=>rfl
   |true=>
    have Aj:0<=k/\k<=3/\k≠R.id:=by unfold dA at ho;simp at ho;omega
    rw[if_pos rfl,if_pos rfl];exact hA.wl k.toNat ae ae
  have hwn:(s_ R k).length<1000000000:=by
   unfold s_;split
   ·have h2:=(hR.lq k.toNat).1;have h3:=uL (R.lq k.toNat);omega
   ·simp
  refine K.kT (fun _:Unit=>[(0,bN bh),(1,fK b),(11,.int .i64 k)]) (fun _=>dt bh bd H::gL b R::L) (fun _=>True) ?_ ?_
  ·refine K.block ?_;refine lO ?_;refine KO.cl (cp:=[]) rfl rfl rfl call109 rfl (KC.jN aQ (L1 w0 _ b m R k hR hm)) ?_;rintro v' L' ⟨v12,rfl,rfl⟩;refine qQ ?_;refine Z1 ?_;refine KO.cl (cp:=[]) rfl rfl rfl call27 rfl (KC.jN aQ (O_ w0 _ bh bd n H k hB hn)) ?_;rintro v' L' ⟨Kp,rfl,rfl⟩;refine qQ ?_;refine Z1 ?_;refine KO.cl (cp:=[]) rfl rfl rfl call110 rfl (KC.jN aQ (Pu w0 _ bh bd n H k hB)) ?_;rintro v' L' ⟨v17,rfl,rfl⟩;refine Hv ?_;refine EJ ?_;refine KO.ce (cp:=[]) rfl rfl rfl call111 rfl (Js w0 _ _ bh bd H k aQ) ?_;rintro v' L' ⟨rfl,rfl⟩;refine qQ ?_;refine Z1 ?_;refine KO.ce (cp:=[]) rfl rfl rfl call29 rfl (cF w0 _ _ _ hg) ?_;rintro v' L' ⟨rfl,rfl⟩;rw[gW hwe];refine J5 ?_;refine Z1 ?_;refine KO.on rfl rfl (by rfl) ?_;refine KO.ce (cp:=[]) rfl rfl rfl call29 rfl (cF w0 _ _ _ hg) ?_;rintro v' L' ⟨rfl,rfl⟩;rw[gW hde];refine pD ?_;refine x8 ?_;refine KO.on rfl rfl (by rfl) ?_;refine KO.ce (cp:=[]) rfl rfl rfl call29 rfl (cF w0 _ _ _ hg) ?_;rintro v' L' ⟨rfl,rfl⟩;rw[gW UW];refine pD ?_;refine x8 ?_
   refine KO.on rfl rfl (by rfl) ?_;refine KO.ce (cp:=[]) rfl rfl rfl call36 rfl (oz w0 _ Kp v12 (Fh H k) (s_ R k) (oM.of (fun _=>rfl) aQ) (oM.of (fun _=>rfl) aQ) (by rw[hwl];exact hwn) hwn) ?_;rintro v' L' ⟨rfl,rfl⟩;rw[gW hwl];refine pD ?_;refine ua ?_;refine J4 ?_;cases ho:dA R k with
   |false=>
    have he:jl R k=2:=by unfold jl;rw[ho];rfl
    rw[he];refine cW ?_;refine Na ?_;refine Br ?_;refine U_ ?_;exact KQ.kT () trivial ⟨rfl,rfl,rfl,trivial⟩ (fun _ h=>h.all Y4)
   |true=>
   have he:jl R k=0:=by unfold jl;rw[ho];rfl
   rw[he];refine cW ?_;refine tY ?_;refine Lz ?_;have Aj:0<=k/\k<=3/\k≠R.id:=by unfold dA at ho;simp at ho;omega
   obtain⟨j,Bk⟩:∃j:Nat,k=(j:Int):=⟨k.toNat,by omega⟩;have hj:j<4:=by omega
   have hkj:k.toNat=j:=by omega
   obtain⟨kz,iw,hb3⟩:=hA.db j hj;have hdL:dbL H k=R.jJ j:=by unfold dbL;rw[SR,ho,if_pos rfl,hkj,kz]
   have hdN:dbN H k=if R.jJ j=[]then 0 else R.md j:=by
    unfold dbN;rw[SR,ho,if_pos rfl,hkj,kz];by_cases xD:R.jJ j=[]
    ·rw[xD];rfl
    ·rw[if_neg (by simpa using xD),if_neg xD,iw xD]
   have hNn:jj H k=R.ar j:=by unfold jj;rw[SR,ho,if_pos rfl,hkj,hb3]
   rw[hdL,hdN,hNn];have o_:=hR.jJ j;refine K.bV (fun _ h=>cI (b:=b) (R:=R) (h.pick aQ)) ?_;rintro⟨V,hV⟩;dsimp only;obtain⟨dv,Dc⟩:∃e,V.ds[j]? =some e:=⟨_,ak Y48⟩;have E7:=AH (R:=R) (k:=j) Y49;have P5:(du V R)[14+j]? =some dv:=by rw[vW hV hj];exact Dc
   have U4:(du V R)[18+j]? =some (.int .i64 (R.md j)):=DY hV hj;have Xl:(du V R)[22+j]? =some (.int .i64 (R.ar j)):=IM hV hj;generalize aj1:R.jJ j=ds at E7 o_ ⊢;refine K.conv (fun w hw=>cM (f:=ly) Dc E7 (hw.pick (A:=bI ly V.ds R.bQ) aQ)) ?_
   refine K.fact (fun w hw=>bo (E:=3) (sz:=1) (cf:=iC) (v:=dv) (xs:=ds) (hw.pick .head)) ?_;rintro⟨a1,k1,rfl,Al⟩;refine K.fact (fun w hw=>bo (E:=3) (sz:=1) (cf:=kB) (v:=v17) (xs:=ds) (hw.pick aQ)) ?_;rintro⟨a7,k7,rfl,hg7⟩;generalize hmd:R.md j=md at U4 ⊢;generalize Lb:R.ar j=ar at Xl ⊢;refine di ?_;refine jL ?_;refine K.conv (L':=ly (.slice a1 ds.length k1) ds::SL 3 1 kB (.slice a7 ds.length k7) ds::bI ly (V.ds.eraseIdx j) (R.bQ.eraseIdx j)::bA b (.cells (du V R).toArray 97 (0,0))::fb V.nv R.names::bP Value.string V.mb (eZ R.keys (V.ps.drop 4))::bI gR V.ps R.all::bI (mZ V.ps) V.us R.ay::dt bh bd H::L) (fun w h=>h.all Y4) ?_
   refine gY ?_;refine Z82 ?_;refine ach ?_;refine ub ?_;refine JN ?_;refine Z3 ?_;refine K.cut (fun _:Unit=>[(0,bN bh),(1,fK b),(11,.int .i64 k),(16,.int .i64 (if ds=[]then 0 else md)),(17,.slice a7 ds.length k7),(19,.int .i64 ar),(21,.int .i64 (if ds=[]then 0 else md))]) (fun _=>ly (.slice a1 ds.length k1) ds::SL 3 1 kB (.slice a7 ds.length k7) ds::bI ly (V.ds.eraseIdx j) (R.bQ.eraseIdx j)::bA b (.cells (du V R).toArray 97 (0,0))::fb V.nv R.names::bP Value.string V.mb (eZ R.keys (V.ps.drop 4))::bI gR V.ps R.all::bI (mZ V.ps) V.us R.ay::dt bh bd H::L) (fun _=>True) ?_ ?_
   ·by_cases xD:ds=[]
    ·refine K.ct rfl (by rw[xD];rfl) ?_;refine B3 ?_;exact KQ.kT () trivial ⟨rfl,rfl,rfl,rfl,rfl,rfl,by rw[if_pos xD];rfl,trivial⟩ (fun _ h=>h.all ft)
    ·refine K.bW rfl (by have :=List.length_pos_iff.2 xD;simp;omega) ?_;refine JO ?_;refine H9 ?_;refine KO.jd (i:=j) rfl rfl runUnderlying95 sizeOf3 Bk ae rfl ?_;refine TW ?_;refine rL ?_;exact KQ.kT () trivial ⟨rfl,rfl,rfl,rfl,rfl,rfl,by rw[if_neg xD];rfl,trivial⟩ (fun _ h=>h.all ft)
   rintro⟨⟩-
   try dsimp only
   generalize (if ds=[]then(0:Int)else md)=X;refine lO ?_;refine Na ?_;refine Z73 ?_;refine Z1 ?_;refine KO.on rfl rfl ai ?_;refine KO.len rfl underlying23 rfl ?_;refine B4 ?_;refine Qm ?_;refine XP ?_;refine KO.fG (off:=14) rfl runUnderlying97 rfl rfl sizeOf94 rfl ?_;refine KO.on rfl rfl ai ?_;refine KO.jd (i:=j) rfl rfl runUnderlying94 sizeOf23 Bk ae rfl ?_;refine KO.on rfl rfl ai ?_;refine KO.bO (b:=b) (i:=14+j) rfl rfl isAgg23 aQ xI P5 rfl ?_;refine KO.on rfl rfl ai ?_;refine KO.len rfl underlying23 rfl ?_;refine B4 ?_;refine Na ?_;refine A8 ?_;refine Qm ?_;refine Qm ?_;refine XP ?_;refine T1 ?_;refine KO.on rfl rfl ai ?_;refine KO.jd (i:=j) rfl rfl runUnderlying95 sizeOf3 Bk ae rfl ?_;refine KO.on rfl rfl ai ?_;refine KO.bO (b:=b) (i:=22+j) rfl rfl isAgg3 aQ xI Xl rfl ?_;refine B4 ?_;refine Na ?_;refine A8 ?_;refine Z3 ?_;refine HV ?_;refine qP ?_;refine Hf ?_
   refine K.loop (fun i:Nat=>[(0,bN bh),(1,fK b),(11,.int .i64 k),(17,.slice a7 ds.length k7),(22,.int .i64 (i:Nat))]) (fun _=>ly (.slice a1 ds.length k1) ds::SL 3 1 kB (.slice a7 ds.length k7) ds::bI ly (V.ds.eraseIdx j) (R.bQ.eraseIdx j)::bA b (.cells (du V R).toArray 97 (0,0))::fb V.nv R.names::bP Value.string V.mb (eZ R.keys (V.ps.drop 4))::bI gR V.ps R.all::bI (mZ V.ps) V.us R.ay::dt bh bd H::L) (fun i=>i<=ds.length) (fun i=>ds.length-i) 0 (aH _) ⟨rfl,rfl,rfl,rfl,rfl,trivial⟩ (fun _ h=>h) ?_;intro i hi;by_cases kD:i<ds.length
   ·obtain⟨x,hx⟩:∃e,ds[i]? =some e:=⟨ds[i],ak kD⟩;obtain⟨g1,rfl⟩:=Al ae;obtain⟨g7,rfl⟩:=hg7 ae;refine lO ?_;refine ub ?_;refine qo ?_;refine K.bW rfl Kf ?_;refine Zh ?_;refine K.draw [.pure,.pure,.pure,.read,.pure,.pure,.pure,.pure,.pure,.read,.pure,.pure,.read,.pure] [0,1,2,3,4,5,6,7,8,9,10,11,12,13] bC bC ?_;refine gZ ?_;refine XR ?_;refine KO.j7 (i:=i) (sz:=1) (cf:=kB) (e:=x) (xs:=ds) rfl rfl isAgg3 (.tail .head) (fun _=>rfl) hx aN aN rfl ?_;refine gZ ?_;refine Z82 ?_;refine ach ?_;refine Z1 ?_;refine XR ?_;refine KO.j7 (i:=i) (sz:=1) (cf:=iC) (e:=x) (xs:=ds) rfl rfl isAgg3 .head (fun _=>rfl) hx aN aN rfl ?_;refine tY ?_;refine HV ?_;refine Yg ?_;refine ES ?_;refine KQ.round (i+1) ae ae ⟨rfl,rfl,rfl,rfl,rfl,trivial⟩ (fun _ h=>h.all ft)
   obtain rfl:i=ds.length:=by omega
   refine lO ?_;refine ub ?_;refine qo ?_;refine acm ?_
   exact KQ.kT () trivial ⟨rfl,rfl,rfl,trivial⟩ (fun _ h=>by
    have h2:=fY (f:=ly) Dc E7 (h.ey (A:=ly (.slice a1 ds.length k1) ds) (B:=bI ly (V.ds.eraseIdx j) (R.bQ.eraseIdx j)) br aQ)
    exact(bX V hV (h2.all (M:=l4 b V R (dt bh bd H::L)) Y4)).all Y7)
  ·rintro⟨⟩-
   try dsimp only
   refine ES ?_;refine KQ.round (q+1) ae ae ⟨rfl,rfl,by rw[hk];push_cast;simp[cB],trivial⟩ (fun _ h=>h)
 ·refine yc ?_;refine KQ.aU rfl rfl (fun w' aM=>⟨_,_,rfl,⟨rfl,rfl⟩,aM⟩)
theorem Ji(w0:World)(L:List HP)(bd:Nat)(id:Int)(hid:¬(0<=id/\id<4)):
 KC prog 11 #[.int .i64 id,bN bd] w0 L (fun u M=>u=.tuple #[.pointer none,dj 70 2]/\M=L):=by
 refine KC.mk (n:=79) func11 rfl ntmps11 ai ?_;refine iz ?_;refine Hd ?_;by_cases h:id<0
 ·refine JW ?_;refine sx ?_;refine qV ?_;refine K.bW rfl Ve ?_;refine JP ?_;refine KQ.dG rfl rfl rfl (fun w' aM=>⟨_,_,rfl,⟨rfl,rfl⟩,aM.all ft⟩)
 ·have h2:id>=4:=by omega
  refine Qo ?_;refine Fb ?_;refine qV ?_;refine K.bW rfl (by simp[h,h2]) ?_;refine JP ?_;refine KQ.dG rfl rfl rfl (fun w' aM=>⟨_,_,rfl,⟨rfl,rfl⟩,aM.all ft⟩)
theorem Ae(w0:World)(L:List HP):
 KC prog 11 #[.int .i64 0,.pointer none] w0 L (fun u M=>u=.tuple #[.pointer none,dj 70 7]/\M=L):=by
 refine KC.mk (n:=79) func11 rfl ntmps11 ai ?_;refine iz ?_;refine Hd ?_;refine HZ ?_;refine BQ ?_;refine qG ?_;refine tW ?_;refine qV ?_;refine K.ct rfl (by rfl) ?_;refine m_ ?_;refine KO.BL rfl underlying25 rfl ?_;refine Z8 ?_;refine Br ?_;refine JP ?_;refine KQ.dG rfl rfl rfl (fun w' aM=>⟨_,_,rfl,⟨rfl,rfl⟩,aM.all ft⟩)
end Go.Proofs.YtjhogocabcdjbabGreatDoor
namespace WB
open Go Go.RowKit
variable {P:Program} {ops:Array Oper} {d:Bool} {Q:Exit->Act->World->Prop} {n:Nat} {D:List Deferred} {w0:World} {G:Env} {L R:List HP} {l:List (Kd×Oper)} {k:Kd}
 {t:Nat} {ty T T' E:TypeId} {pos:String} {af:Array Edge} {x y:Operand} {a c:Int}
theorem KO.ZX(hx:ev G x=some (.pointer none))(hT:P.underlying T=some (.pointer E))(ht:Nat.blt t n=true)(h:KO P ops d Q n D w0 ((t,.bool false)::G) L l):
 KO P ops d Q n D w0 G L ((k,⟨some t,.binOp .neq T x (.const (.pointer none)) T',ty,pos,af,none⟩)::l):=
 KO.val (fun a w ha=>by
  simp only[execOp,ha.eval hx,show a.eval (.const (.pointer none))=.pointer none from rfl]
  simp[go_sem,hT]) ht h
theorem KO.i2w(hx:ev G x=some (.int .i64 a))(hs:(P.underlying T).isSome=true)(hd:P.underlying T'=some (.int .u64))(ht:Nat.blt t n=true)(h:KO P ops d Q n D w0 ((t,.int .u64 (a%18446744073709551616))::G) L l):
 KO P ops d Q n D w0 G L ((k,⟨some t,.convert T T' x,ty,pos,af,none⟩)::l):=
 KO.val (fun a' w ha=>by
  have :=run_convert_int (P:=P) w T T' .i64 a hs Y26;simp[Program.intKind,hd,show IntKind.u64.wrap a=a%18446744073709551616 from rfl]at this
  simp[execOp,ha.eval hx,this]) ht h
theorem KO.aeq(hx:ev G x=some (.int .u64 a))(hy:ev G y=some (.int .u64 c))(hc:0<c)(MP:0<=a)(ht:Nat.blt t n=true)(h:KO P ops d Q n D w0 ((t,.int .u64 (a%c))::G) L l):
 KO P ops d Q n D w0 G L ((k,⟨some t,.binOp .rem T x y T',ty,pos,af,none⟩)::l):=
 KO.val (fun a' w ha=>by
  have e:a.tmod c=a%c:=Int.tmod_eq_emod_of_nonneg MP;have h3:c≠0:=by omega
  simp[execOp,ha.eval hx,ha.eval hy,eqGuard_at_int,binOp_rem,Op.intDiv,h3,e]) ht h
end WB
namespace WB
open Go
def WR (H:Ho):Prop:= ∀q∈H.ways,∀e∈q.l,bD e.m=true
theorem WR.of{H H':Ho}(h:WR H)(e:H'.ways=H.ways):WR H':=fun q hq=>h q (by rw[<-e];exact hq)
theorem WR.at'{H:Ho}(h:WR H)(j:Nat):∀e∈(H.iY j).l,bD e.m=true:=fun e he=>by
 unfold Ho.iY at he;rw[au]at he;cases hj:H.ways[j]? with
 |none=>rw[hj]at he;cases he
 |some q=>rw[hj]at he;exact h q (ax hj) e he
theorem WR.iG{H:Ho}(h:WR H){j:Nat}{q:Qu}(hq:∀e∈q.l,bD e.m=true):WR (H.iG j q):=fun q' h'=>by
 unfold Ho.iG at h';rcases aD h' with h1|rfl
 ·exact h q' h1
 ·exact hq
theorem CM{q:Qu}{m:Ms}{u:Int}{e:It}(h:e∈(dr q m u).l):e=eG q m u\/e∈q.l:=by
 unfold dr at h;rcases aO.1 h with h|h
 ·exact .inr (List.mem_of_mem_take h)
 ·rcases aK.1 h with h|h
  ·exact .inl h
  ·exact .inr (List.mem_of_mem_drop h)
theorem L9{q:Qu}{id:Int}{e:It}(h:e∈(eF q id).l):e∈q.l:=by
 unfold eF at h;split at h
 ·exact h
 ·exact(List.eraseIdx_sublist _ _).subset h
theorem zH{e:It}:∀(l:List Int) (q:Qu),e∈(dx q l).l->e∈q.l
 |[],_,h=>h
 |i::l,q,h=>L9 (zH l (eF q i) h)
theorem Pe{H H1:Ho}{m:Ms}(h:WR H)(hm:bD m=true)(h1:gG H m=some H1):WR H1:=by
 unfold gG at h1;dsimp only at h1;split at h1
 ·simp only[az]at h1;subst h1;refine WR.iG (H:={H with next:=max H.next (m.id/4+1)}) h fun e he=>?_
  rcases CM he with rfl|he
  ·exact hm
  ·exact h.at' _ e he
 ·split at h1
  ·cases h1
  ·simp only[az]at h1;subst h1;exact h
theorem Gn:∀(l:List Ms) (H:Ho),WR H->(∀m∈l,bD m=true)->WR (fW H l).1
 |[],_,h,_=>h
 |m::r,H,h,hl=>by
  unfold fW;cases h1:gG H m with
  |none=>exact h
  |some H1=>exact Gn r H1 (Pe h (hl m ai) h1) fun x hx=>hl x vP
theorem Gx:∀(l:List aj) (H:Ho),WR H->WR (gH H l).1
 |[],_,h=>h
 |s::r,H,h=>by
  unfold gH;cases h1:gV H s with
  |none=>exact h
  |some H1=>
   refine Gx r H1 ?_;unfold gV at h1;split at h1
   ·cases h1
   ·split at h1
    ·cases h1
    ·split at h1
     ·simp only[az]at h1;subst h1;exact h
     ·cases h1
theorem wS:∀(l:List (Ms×aj)) (H:Ho),WR H->WR (ep H l).1
 |[],_,h=>h
 |(m,t)::r,H,h=>by
  unfold ep;cases H.qI t with
  |none=>exact h
  |some i=>exact wS r _ h
theorem GD{H:Ho}(h:WR H)(s:aj):WR (eK H s).1:=by
 unfold eK;split
 ·exact h
 ·split
  ·exact h
  ·rename_i l hl;have h1:=Gn l H h (eV (rr hl).1);split
   ·exact h1
   ·split
    ·exact h1
    ·exact Gx _ _ h1
theorem Pn{H:Ho}(h:WR H)(s:aj):WR (je H s).1:=by
 unfold je;split
 ·split<;>exact h
 ·exact h
theorem MH{H:Ho}(h:WR H)(s:aj):WR (fF H s).1:=by
 unfold fF;split
 ·split
  ·exact(h.iG fun e he=>h.at' _ e (zH _ _ he)).of rfl
  ·exact h
 ·exact h
theorem Px{H:Ho}(h:WR H)(s:aj):WR (jf H s).1:=by
 unfold jf;split
 ·split
  ·split
   ·split
    ·exact(wS _ _ h).of rfl
    ·exact wS _ _ h
   ·exact h
  ·exact h
 ·exact h
theorem wI{H:Ho}(h:WR H)(s:aj):WR (hplays H s).1:=by
 unfold hplays;split
 ·split
  ·exact h
  ·refine h.of ?_;unfold eS;split<;>rfl
 ·split
  ·exact h
  ·split
   ·exact GD h _
   ·split
    ·exact Pn h _
    ·split
     ·exact MH h _
     ·split
      ·exact Px h _
      ·exact h
theorem FV(D:Dk):∀(f:Nat) (H:Ho),WR H->WR (iM D f H)
 |0,_,h=>h
 |f+1,H,h=>by
  unfold iM;split
  ·exact h
  ·split
   ·exact wI h _
   ·exact FV D f _ ((wI h _).of rfl)
theorem Lc(id:Int):WR (gx id):=fun q hq=>by
 have :q=⟨[],0⟩:=List.eq_of_mem_replicate (n:=4) (by exact hq);subst this;intro e he;cases he
theorem OD(id:Int)(D:Dk):WR (ij id D):=FV D 300 _ (Lc id)
theorem CV(H:Ho)(D:Dk):(eC H D).ways=H.ways:=by
 unfold eC;split
 ·rfl
 ·split<;>rfl
theorem Vn{H:Ho}(h:WR H)(D:Dk)(s:aj):WR (nZ H D s):=by
 unfold nZ;have h1:=h.of (CV H D);split
 ·exact wI h1 s
 ·exact h1
theorem DS(H:Ho)(i:Nat)(q:Qu):(H.eA i q).aI.length=H.aI.length:=by unfold Ho.eA;simp
theorem Pd{H H1:Ho}{m:Ms}(h1:gG H m=some H1):H1.aI.length=H.aI.length:=by
 unfold gG at h1;dsimp only at h1;split at h1
 ·simp only[az]at h1;subst h1;rfl
 ·split at h1
  ·cases h1
  ·simp only[az]at h1;subst h1;exact DS _ _ _
theorem vq:∀(l:List Ms) (H:Ho),(fW H l).1.aI.length=H.aI.length
 |[],_=>rfl
 |m::r,H=>by
  unfold fW;cases h1:gG H m with
  |none=>rfl
  |some H1=>exact(vq r H1).trans (Pd h1)
theorem Gw:∀(l:List aj) (H:Ho),(gH H l).1.aI.length=H.aI.length
 |[],_=>rfl
 |s::r,H=>by
  unfold gH;cases h1:gV H s with
  |none=>rfl
  |some H1=>
   refine(Gw r H1).trans ?_;unfold gV at h1;split at h1
   ·cases h1
   ·split at h1
    ·cases h1
    ·split at h1
     ·simp only[az]at h1;subst h1;exact DS _ _ _
     ·cases h1
theorem wR:∀(l:List (Ms×aj)) (H:Ho),(ep H l).1.aI.length=H.aI.length
 |[],_=>rfl
 |(m,t)::r,H=>by
  unfold ep;cases H.qI t with
  |none=>rfl
  |some i=>exact(wR r _).trans (DS _ _ _)
theorem Gz(H:Ho)(s:aj):(eK H s).1.aI.length=H.aI.length:=by
 unfold eK;split
 ·rfl
 ·split
  ·rfl
  ·rename_i l hl;split
   ·exact vq l H
   ·split
    ·exact vq l H
    ·exact(Gw _ _).trans (vq l H)
theorem Pm(H:Ho)(s:aj):(je H s).1.aI.length=H.aI.length:=by
 unfold je;split
 ·split<;>rfl
 ·rfl
theorem MG(H:Ho)(s:aj):(fF H s).1.aI.length=H.aI.length:=by
 unfold fF;split
 ·split<;>rfl
 ·rfl
theorem Pw(H:Ho)(s:aj):(jf H s).1.aI.length=H.aI.length:=by
 unfold jf;split
 ·split
  ·split
   ·split
    ·exact wR _ _
    ·exact wR _ _
   ·rfl
  ·rfl
 ·rfl
theorem C5(H:Ho)(s:aj):(hplays H s).1.aI.length<=H.aI.length+1:=by
 unfold hplays;split
 ·split
  ·exact Nat.le_succ _
  ·dsimp only;unfold eS;split
   ·dsimp only;split
    ·simp
    ·exact Nat.le_succ _
   ·exact Nat.le_succ _
 ·split
  ·exact Nat.le_succ _
  ·split
   ·exact Nat.le_succ_of_le (Nat.le_of_eq (Gz _ _))
   ·split
    ·exact Nat.le_succ_of_le (Nat.le_of_eq (Pm _ _))
    ·split
     ·exact Nat.le_succ_of_le (Nat.le_of_eq (MG _ _))
     ·split
      ·exact Nat.le_succ_of_le (Nat.le_of_eq (Pw _ _))
      ·exact Nat.le_succ _
theorem FU(D:Dk):∀(f:Nat) (H:Ho),H.aI.length<=1+H.used->(iM D f H).aI.length<=2+(iM D f H).used
 |0,H,h=>by show H.aI.length<=2+H.used;omega
 |f+1,H,h=>by
  unfold iM;split
  ·omega
  ·rename_i s hs;have h1:=C5 H s;have h2:=(gm H s).used;split
   ·rw[h2];omega
   ·refine FU D f _ ?_;dsimp only;omega
theorem OC(id:Int)(D:Dk):(ij id D).aI.length<=2+(ij id D).used:=FU D 300 _ (aP 1)
theorem Sw(H:Ho)(D:Dk):(eC H D).aI=H.aI/\H.used<=(eC H D).used:=by
 unfold eC;split
 ·exact⟨rfl,aP _⟩
 ·split
  ·exact⟨rfl,aP _⟩
  ·exact⟨rfl,Nat.le_succ _⟩
theorem Vm{H:Ho}(h:H.aI.length<=2+H.used)(D:Dk)(s:aj):(nZ H D s).aI.length<=2+(nZ H D s).used:=by
 obtain⟨a,b⟩:=Sw H D;unfold nZ;split
 ·rename_i h0;have h1:=C5 (eC H D) s;have h2:=(gm (eC H D) s).used;have h3:(eC H D).used=H.used+1:=by
   have h4:jQ H=0/\ou D=0:=by
    unfold ec at h0;by_cases h5:jQ H=0
    ·rw[if_neg (by simpa using h5)]at h0;exact⟨h5,h0⟩
    ·rw[if_pos h5]at h0;exact absurd h0 h5
   unfold eC;rw[if_neg (by simpa using h4.1),if_neg (by simpa using h4.2)]
  rw[a]at h1;omega
 ·rw[a];omega
def kM (H:Ho) (m:Ms):Nat:=if m.bF≠H.id then m.bF.toNat else 4+(H.qI m.queue).getD 0
theorem ei{H H':Ho}(h:bw H'=bw H)(hi:H'.id=H.id)(m:Ms):kM H' m=kM H m:=by unfold kM;rw[bH h,hi]
theorem CN{n:Nat}{H:Ho}(hB:cx n H){m:Ms}(hr:bD m=true)(hq:m.bF=H.id->∃i,H.qI m.queue=some i):∃H1,gG H m=some H1/\(hv H1).Perm (⟨kM H m,m,-1,-1⟩::hv H)/\bw H1=bw H/\H1.names=H.names/\H1.next=max H.next (m.id/4+1)/\nQ H H1:=by
 by_cases hm:m.bF=H.id
 ·obtain⟨i,hi⟩:=hq hm;obtain⟨H1,a,b,c,d,-,e,f⟩:=Oq hB hm hi;have hj:kM H m=4+i:=by unfold kM;rw[if_neg (by rw[hm];simp),hi];rfl
  rw[hj];exact⟨H1,a,b,c,d,e,f⟩
 ·obtain⟨m1,m2,m3,m4,-,-,m7,m8⟩:=bG hr;let H0:Ho:={H with next:=max H.next (m.id/4+1)};have hj:m.bF.toNat<4:=by omega
  refine⟨H0.iG m.bF.toNat (dr (H0.iY m.bF.toNat) m (-1)),?_,?_,rfl,rfl,rfl,⟨rfl,rfl,rfl,rfl,rfl,rfl,rfl,rfl⟩⟩
  ·unfold gG;dsimp only;rw[if_pos hm];rfl
  ·unfold hv;rw[ko (H:=H0) (by rw[show H0.ways=H.ways from rfl,hB.ways];exact hj)];have Et:kM H m=m.bF.toNat:=by unfold kM;rw[if_pos hm]
   rw[Et];have :=yp (l:=H0.all) m (-1) (pB (H:=H0) hB.ways hj);exact this
theorem vY{n:Nat}:∀(l:List Ms) {H:Ho},cx n H->(∀m∈l,bD m=true/\(m.bF=H.id->∃i,H.qI m.queue=some i))->
 ∃H1,fW H l=(H1,true)/\(hv H1).Perm (l.map (fun m=>(⟨kM H m,m,-1,-1⟩:En))++hv H)/\bw H1=bw H/\H1.names=H.names/\nQ H H1/\H.next<=H1.next/\(∀m∈l,m.id/4<H1.next)/\(∀k:Int,H.next<=k->(∀m∈l,m.id/4<k)->H1.next<=k)/\cx (n+l.length) H1
 |[],H,hB,_=>⟨H,rfl,.refl _,rfl,rfl,.refl _,Int.le_refl _,(fun m hm=>by cases hm),(fun k h _=>h),hB⟩
 |m::l,H,hB,h=>by
  obtain⟨hr,hm⟩:=h m ai;obtain⟨H1,e1,p1,k1,n1,x1,s1⟩:=CN hB hr hm;have kG:=hB.R6 hr e1;obtain⟨H2,e2,p2,k2,n2,s2,x2,y2,z2,Bm⟩:=vY (n:=n+1) l kG fun m' Il=>by
   obtain⟨a,b⟩:=h m' (by simp[Il]);exact⟨a,fun hh=>by rw[bH k1];exact b (by rw[hh,s1.id])⟩
  refine⟨H2,?_,?_,k2.trans k1,n2.trans n1,s1.trans s2,by omega,fun m' Il=>?_,fun k hk hl=>z2 k (by rw[x1];have :=hl m ai;omega) fun m' Il=>hl m' (by simp[Il]),Bm.le ez⟩
  ·rw[fW,e1];exact e2
  ·refine p2.trans ?_;rw[aJ];have :(l.map fun m'=>(⟨kM H1 m',m',-1,-1⟩:En))=l.map fun m'=>⟨kM H m',m',-1,-1⟩:=by
    apply List.map_congr_left;intro m' _;rw[ei k1 s1.id]
   rw[this];refine((List.Perm.refl _).append p1).trans ?_;rw[bz];exact List.perm_middle
  ·rcases aK.1 Il with rfl|Il
   ·omega
   ·exact y2 m' Il
theorem pq{n:Nat}{H:Ho}{x:pI}(hB:cx n H)(hx:f_ x)(hn:((hv H).map eb).Nodup)(hp:∀p∈x.aT,p.1.bF=H.id->∃i,H.qI p.1.queue=some i)(hpn:(x.aT.map fun p=>p.1.id).Nodup)(hpf:∀p∈x.aT,∀e∈hv H,eb e≠p.1.id)(WG:(x.aY.map (·.1)).Nodup)(hg:∀g∈x.aY,∃i,H.qI g.2=some i/\∃e∈hv H,e.j=4+i/\eb e=g.1):
 ∃H1,eK H (mB x)=(H1,true)/\(hv H1).Perm ((x.aT.map (fun p=>(⟨kM H p.1,p.1,-1,-1⟩:En))++hv H).filter fun e=> !decide (eb e∈x.aY.map (·.1)))/\bw H1=bw H/\H1.names=H.names/\nQ H H1/\H.next<=H1.next/\(∀p∈x.aT,p.1.id/4<H1.next)/\(∀k:Int,H.next<=k->(∀p∈x.aT,p.1.id/4<k)->H1.next<=k)/\cx (n+x.aT.length) H1:=by
 obtain⟨H1,e1,p1,k1,n1,s1,x1,y1,z1,kG⟩:=vY (x.aT.map (·.1)) hB fun m hm=>by
  obtain⟨p,vM,rfl⟩:=aB.1 hm;exact⟨hx.aT p vM,hp p vM⟩
 rw[List.map_map]at p1;have y2:∀p∈x.aT,p.1.id/4<H1.next:=fun p hp=>y1 _ (List.mem_map_of_mem (f:=(·.1)) hp)
 have z2:∀k:Int,H.next<=k->(∀p∈x.aT,p.1.id/4<k)->H1.next<=k:=fun k hk h=>z1 k hk fun m hm=>by
  obtain⟨p,vM,rfl⟩:=aB.1 hm;exact h p vM
 rw[aX]at kG;have Bi:((hv H1).map eb).Nodup:=by
  refine(p1.map eb).nodup_iff.2 ?_;rw[aZ,List.map_map,List.nodup_append];refine⟨?_,hn,fun a ha b hb=>?_⟩
  ·exact hpn
  ·obtain⟨p,vM,rfl⟩:=aB.1 ha;obtain⟨e,he,rfl⟩:=aB.1 hb;exact fun e2=>hpf p vM e he e2.symm
 have Bl:eK H (mB x)=if cY (x.aY.map gh) plus=⟨#[]⟩then(H1,true)else gH H1 (dH 43 (cY (x.aY.map gh) plus)):=by
  unfold eK;have Pc:=hx.read;rw[hx.cut]at Pc ⊢;dsimp only at Pc ⊢;rw[if_neg ai,Pc];dsimp only;rw[e1];rfl
 by_cases h0:x.aY=[]
 ·refine⟨H1,?_,?_,k1,n1,s1,x1,y2,z2,kG⟩
  ·rw[Bl,h0];rfl
  ·rw[h0];refine p1.trans ?_;rw[bJ.2 (fun a _=>by simp)];exact .refl _
 ·obtain⟨t1,t2⟩:=Dh (fun g hg=>(hx.aY g hg).2.2) h0;rw[if_neg t1,t2]at Bl;obtain⟨H2,e2,p2,k2,n2,w2,x2,s2,Bm⟩:=GM x.aY kG Bi WG fun g Q9=>by
   obtain⟨i,hi,e,he,hj,hid⟩:=hg g Q9;exact⟨hx.aY g Q9,i,by rw[bH k1];exact hi,e,p1.mem_iff.2 (List.mem_append_right _ he),hj,hid⟩
  exact⟨H2,Bl.trans e2,p2.trans (p1.filter _),k2.trans k1,n2.trans n1,s1.trans s2,by omega,fun p hp=>by rw[x2];exact y2 p hp,fun k a b=>by rw[x2];exact z2 k a b,Bm⟩
theorem zh{α:Type}{l:List α}{j:Nat}{q:α}(h:l[j]? =some q):l.set j q=l:=by
 apply List.ext_getElem?;intro i;rw[List.getElem?_set];split
 ·rename_i e;rw[if_pos (aw.1 h).1,<-e,h]
 ·rfl
theorem N4{l:List Qu}{j:Nat}{q:Qu}{a:Int}(h:l[j]? =some q)(hn:((vw l).map eb).Nodup)(hj:∀e∈vw l,eb e=a->e.j=j):(vw (l.set j (eF q a))).Perm ((vw l).filter fun e=> !decide (eb e=a)):=by
 cases hk:oB q a with
 |none=>
  have e1:eF q a=q:=by unfold eF;rw[hk]
  rw[e1,zh h,bJ.2];intro e he;have h2:eb e≠a:=fun e2=>by
   obtain⟨q',h3,x,hx,hex⟩:=vQ.1 he;rw[hj e he e2,h]at h3;simp only[az]at h3;subst h3;unfold oB at hk;rw[List.findIdx?_eq_none_iff]at hk;have :=hk x hx;unfold K2 at this;have h4:x.m.id=a:=by rw[<-e2,hex];rfl
   simp[h4]at this
  simpa using h2
 |some k=>
  obtain⟨mV,UM,-⟩:=List.findIdx?_eq_some_iff_getElem.1 hk;have Wv:q.l[k]? =some q.l[k]:=ak mV;have Wx:(q.l[k]).m.id=a:=by unfold K2 at UM;simpa using UM
  have e1:eF q a=⟨q.l.eraseIdx k,q.next⟩:=by unfold eF;rw[hk]
  rw[e1];have :=Dn hn (Fi h Wv q.next);rw[show eb (kZ j q.l[k])=a from Wx]at this;exact this
theorem Ci{j:Nat}:∀(b:List Int) {l:List Qu} {q:Qu},l[j]? =some q->((vw l).map eb).Nodup->(∀e∈vw l,eb e∈b->e.j=j)->(vw (l.set j (dx q b))).Perm ((vw l).filter fun e=> !decide (eb e∈b))
 |[],l,q,h,hn,hj=>by
  rw[show dx q []=q from rfl,zh h,bJ.2 (fun _ _=>by simp)]
 |a::b,l,q,h,hn,hj=>by
  have dN:=(aw.1 h).1;have p1:=N4 (a:=a) h hn fun e he e2=>hj e he (by simp[e2])
  have h1:(l.set j (eF q a))[j]? =some (eF q a):=by rw[List.getElem?_set_self dN]
  have Bi:((vw (l.set j (eF q a))).map eb).Nodup:=(p1.map eb).nodup_iff.2 (hn.sublist (List.filter_sublist.map _));have p2:=Ci b h1 Bi fun e he e2=>hj e (aF.1 (p1.mem_iff.1 he)).1 (by simp[e2])
  rw[List.set_set]at p2;refine p2.trans ((p1.filter _).trans (List.Perm.of_eq ?_));rw[dm];refine List.filter_congr fun x _=>?_
  by_cases h1:eb x=a<;>by_cases h2:eb x∈b<;>simp[h1,h2]
theorem pz{n:Nat}:∀(l:List (Ms×aj)) {H:Ho},cx n H->(∀x∈l,((0<=x.1.pri/\x.1.pri<=9)/\0<=x.1.id/\x.1.id<=1099511627776)/\∃i,H.qI x.2=some i)->
 ∃H1,ep H l=(H1,true)/\(hv H1).Perm (l.map (fun x=>(⟨4+(H.qI x.2).getD 0,x.1,-1,-1⟩:En))++hv H)/\bw H1=bw H/\H1.names=H.names/\H1.next=H.next/\nQ H H1/\cx (n+l.length) H1
 |[],H,hB,_=>⟨H,rfl,.refl _,rfl,rfl,rfl,.refl _,hB⟩
 |(m,t)::l,H,hB,h=>by
  obtain⟨hm,i,hi⟩:=h (m,t) ai;have kD:=(fC hi).1;have kG:=(hB.le (Nat.le_succ n)).eA ((hB.qa kD).oD hm.1 hm.2 (-1)) i;have p1:(hv (H.eA i (dr (H.dZ i) m (-1)))).Perm (⟨4+i,m,-1,-1⟩::hv H):=by
   unfold hv;rw[iy hB.ways];exact yp m (-1) (Lu hB kD)
  have k1:bw (H.eA i (dr (H.dZ i) m (-1)))=bw H:=by unfold bw;exact ia i _
  obtain⟨H2,e2,p2,k2,n2,x2,s2,Bm⟩:=pz (n:=n+1) l kG fun x hx=>by
   obtain⟨a,j,b⟩:=h x vP;exact⟨a,j,by rw[bH k1];exact b⟩
  refine⟨H2,?_,?_,k2.trans k1,n2,x2,nQ.trans (B:=H.eA i (dr (H.dZ i) m (-1))) ⟨rfl,rfl,rfl,rfl,rfl,rfl,rfl,rfl⟩ s2,Bm.le ez⟩
  ·rw[ep,hi];exact e2
  ·refine p2.trans ?_;have :(l.map fun x=>(⟨4+((H.eA i (dr (H.dZ i) m (-1))).qI x.2).getD 0,x.1,-1,-1⟩:En))=l.map fun x=>⟨4+(H.qI x.2).getD 0,x.1,-1,-1⟩:=by
    apply List.map_congr_left;intro x _;rw[bH k1]
   rw[this,aJ];dsimp only;rw[hi,Option.getD_some,bz];refine((List.Perm.refl _).append p1).trans ?_;exact List.perm_middle
theorem CZ{l:List Int}(h0:l≠[])(h:∀x∈l,o5 x):qB (cY (l.map ck) sp)=some l:=by
 unfold qB
 rw[show(sp:aj)=bZ 32 from rfl,wi Zo (fun p hp=>by
  obtain⟨n,-,rfl⟩:=aB.1 hp
  exact fV _ ah)]
 clear h0
 induction l with
 |nil=>rfl
 |cons a l ih=>
  rw[aJ,List.mapM_cons,jD (h a ai),ih fun x hx=>h x vP];rfl
theorem oi{H:Ho}{k a:Int}{r:List Int}(hr:cb H k=true)(hi:∀x∈a::r,o5 x):
 hplays H (ic k (a::r))=({H with batch:=H.batch.set k.toNat (a::r),bT:=H.bT.set k.toNat (gD H k.toNat+1)},true):=by
 have h4:=b_.1 hr;have e:qB (cY ((k::a::r).map ck) sp)=some (k::a::r):=CZ ai fun x hx=>by
  rcases aK.1 hx with rfl|hx
  ·exact⟨by omega,by omega⟩
  ·exact hi x hx
 unfold hplays ic;rw[n_ ah];dsimp only;rw[if_neg ah,if_neg ah,if_neg ah,if_pos rfl];unfold je;rw[e];dsimp only;rw[if_pos hr]
theorem mG{H:Ho}{k:Int}(hr:cb H k=true):
 hplays H (sk k)=({H.iG k.toNat (dx (H.iY k.toNat) (cJ H k.toNat))with batch:=H.batch.set k.toNat []},true):=by
 have h4:=b_.1 hr;have e:qB (ck k)=some [k]:=by
  have :=CZ (l:=[k]) ai (fun x hx=>by simp at hx;subst hx;exact⟨by omega,by omega⟩)
  rwa [aJ,List.map_nil,kX]at this
 unfold hplays sk;rw[n_ ah];dsimp only;rw[if_neg ah,if_neg ah,if_neg ah,if_neg ah,if_pos rfl];unfold fF;rw[e];dsimp only;rw[if_pos hr]
theorem Md{l:List Ms}{t:List aj}(ht:∀x∈t,cH x=true)(dN:t.length=l.length):l.zip (dH 43 (cY t plus))=l.zip t:=by
 by_cases h0:t=[]
 ·subst h0;have :l=[]:=by simpa using dN.symm
  subst this;rfl
 ·rw[CO h0 ht]
theorem oj{H:Ho}{k:Int}{l:List Ms}{t:List aj}{H1:Ho}(hr:cb H k=true)(h:jM l=none)(ht:∀x∈t,cH x=true)(dN:t.length=l.length)(h1:ep H (l.zip t)=(H1,true)):
 hplays H (tj k l t)=({H1 with aC:=H.aC.set k.toNat (fv H k.toNat+1)},true):=by
 have h4:=b_.1 hr;have hp:=zD (k:=k) (eV h) ht;have hc:cZ 58 (tj k l t)=(bZ 114,ck k++bZ 47++(cK l++bZ 47++cY t plus),true):=by unfold tj;exact n_ ah _
 unfold hplays;rw[hc]at hp ⊢;dsimp only at hp ⊢;rw[if_neg ah,if_neg ah,if_neg ah,if_neg ah,if_neg ah,if_pos rfl];unfold jf;rw[hp];dsimp only;rw[jD ⟨by omega,by omega⟩,wq h];dsimp only;rw[if_pos hr,Md ht dN,h1];dsimp only;rw[if_pos rfl]
structure Fr where
 GN:Int
 num:Int
 Xu:Bool
def frC (f:Fr) (v:Value):List Value:=[.int .i64 f.GN,.int .i64 f.num,.bool f.Xu,v]
def colon:aj:=⟨#[58]⟩
def aaf (a:Bool):aj:=if a then⟨#[97]⟩else⟨#[98]⟩
def frS (f:Fr) (xs:List Ms):aj:=cY [aaf f.Xu,ck f.GN,ck f.num,cK xs] colon
def okF (f:Fr) (xs:List Ms):Prop:=0<=f.GN/\f.GN<=3/\0<=f.num/\f.num<=1099511627776/\f.Xu=decide (xs.length=0)/\xs.length<=3/\jM xs=none
instance (f:Fr) (xs:List Ms):Decidable (okF f xs):=by unfold okF;infer_instance
def fwE (f:Fr) (xs:List Ms):Int:=if okF f xs then 0 else 1
def fwT (f:Fr) (xs:List Ms):aj:=if okF f xs then frS f xs else⟨#[]⟩
def frd (s:aj):Option (Fr×List Ms):=
 match dH 58 s with
 |[a,b,c,d]=>match fx b,fx c,wx d with
  |some x,some y,some xs=>if okF ⟨x,y,decide (a=⟨#[97]⟩)⟩ xs/\frS ⟨x,y,decide (a=⟨#[97]⟩)⟩ xs=s then some (⟨x,y,decide (a=⟨#[97]⟩)⟩,xs)else none
  |_,_,_=>none
 |_=>none
structure Gm where
 dto:Int
 f:Fr
 l:List Ms
def gmT (g:Gm):aj:=frS g.f g.l
instance:Inhabited Gm:=⟨⟨0,⟨0,0,false⟩,[]⟩⟩
instance:Inhabited (Ho×Dk):=⟨(gx 0,qD)⟩
structure Wo where
 hs:List (Ho×Dk)
 mc:List Gm
 lost:Int
namespace Wo
def n (W:Wo):Nat:=W.hs.length
def is (W:Wo) (k:Int):Bool:=decide (0<=k/\k<(W.hs.length:Int))
def at' (W:Wo) (k:Nat):Ho×Dk:=W.hs.getD k default
def H (W:Wo) (k:Nat):Ho:=(W.at' k).1
def D (W:Wo) (k:Nat):Dk:=(W.at' k).2
def xL (W:Wo) (k:Nat) (x:Ho×Dk):Wo:={W with hs:=W.hs.set k x}
end Wo
def aif (n:Nat):Wo:=⟨(List.range n).map fun k:Nat=>(gx (k:Int),qD),[],0⟩
def agI (W:Wo) (k:Int):Int:=if W.is k=true then 0 else 2
def ad6 (W:Wo) (k n t:Int):Wo:=if W.is k=true then W.xL k.toNat ({W.H k.toNat with dC:=t},kN (W.D k.toNat) n)else W
def reH (W:Wo) (k:Nat):Wo:=W.xL k (ij (k:Int) (kN (W.D k) (-1)),kN (W.D k) (-1))
def wRe (W:Wo) (k:Int):Wo:=if W.is k=true then reH W k.toNat else W
def Zv (W:Wo) (g:Gm):Wo:=if 100<=W.mc.length then {W with lost:=W.lost+1}else {W with mc:=W.mc++[g]}
def Um (W:Wo) (dst:Int) (f:Fr) (l:List Ms):Wo:=if okF f l then Zv W ⟨dst,f,l⟩else W
def seE (W:Wo) (k dst:Int):Int:=if W.is k=true/\W.is dst=true then AO (W.H k.toNat) (W.D k.toNat) dst else 2
def ZK (W:Wo) (k dst:Int):Wo:=W.xL k.toNat (qE (W.H k.toNat) (W.D k.toNat) dst,xY (W.H k.toNat) (W.D k.toNat) dst)
def seW (W:Wo) (k dst:Int):Wo:=if W.is k=true/\W.is dst=true then
 (if seE W k dst=0 then Um (ZK W k dst) dst ⟨k,Rg (W.H k.toNat) (W.D k.toNat) dst,false⟩ (Rj (W.H k.toNat) (W.D k.toNat) dst)else ZK W k dst)
 else W
def waE (W:Wo) (i:Int):Int:=if 0<=i/\i<(W.mc.length:Int)then 0 else 2
def abn (W:Wo) (i:Nat):Gm:=W.mc.getD i default
def ZS (W:Wo) (i:Nat):Wo:={W with mc:=W.mc.eraseIdx i}
def cmW (W:Wo) (g:Gm):Wo:=
 if g.f.Xu=true then W.xL g.dto.toNat (G8 (W.H g.dto.toNat) (W.D g.dto.toNat) g.f.GN g.f.num,JG (W.H g.dto.toNat) (W.D g.dto.toNat) g.f.GN g.f.num)
 else if EE (W.H g.dto.toNat) (W.D g.dto.toNat) g.f.GN g.f.num g.l=0 then
  Um (W.xL g.dto.toNat (vF (W.H g.dto.toNat) (W.D g.dto.toNat) g.f.GN g.f.num g.l,Bq (W.H g.dto.toNat) (W.D g.dto.toNat) g.f.GN g.f.num g.l)) g.f.GN ⟨g.dto,xZ (W.H g.dto.toNat) (W.D g.dto.toNat) g.f.GN g.f.num g.l,true⟩ []
 else W.xL g.dto.toNat (vF (W.H g.dto.toNat) (W.D g.dto.toNat) g.f.GN g.f.num g.l,Bq (W.H g.dto.toNat) (W.D g.dto.toNat) g.f.GN g.f.num g.l)
def deW (W:Wo) (i:Int):Wo:=if waE W i=0 then cmW (ZS W i.toNat) (abn W i.toNat)else W
def loW (W:Wo) (i:Int):Wo:=if waE W i=0 then ZS W i.toNat else W
def twW (W:Wo) (i:Int):Wo:=if waE W i=0 then Zv W (abn W i.toNat)else W
structure hF (c K:Nat) (k:Nat) (x:Ho×Dk):Prop where
 id:x.1.id=(k:Int)
 B:cx (300+c+250*x.1.used) x.1
 len:x.2.places.length=300
 left: -(K:Int)<=x.2.left/\x.2.left<=9223372036854775807
 size:∀t∈x.2.places,t.size<=800000
 nT:∀(i:Nat) t s,x.2.places[i]? =some t->gU (i:Nat) t=some s->fp 250 s
 ay:∀u∈x.1.ay,f_ u/\u.aT.length<=c
 ways:WR x.1
 ql:x.1.aI.length<=2+x.1.used
structure GmB (n:Nat) (g:Gm):Prop where
 dto:0<=g.dto/\g.dto<(n:Int)
 GN:0<=g.f.GN/\g.f.GN<(n:Int)
 ok:okF g.f g.l
structure WoB (c K:Nat) (W:Wo):Prop where
 n1:1<=W.hs.length/\W.hs.length<=4
 hs:∀k x,W.hs[k]? =some x->hF c K k x
 mc:∀g∈W.mc,GmB W.hs.length g
 wl:W.mc.length<=100
 lost:0<=W.lost/\W.lost<=(K:Int)
structure Cr where
 bg:List (Nat×Ms)
 bt:Nat->List Int
 sn:Nat->Int
 av:Nat->Int
 nx:Int
def ait (C:Nat->Cr) (k:Nat) (c:Cr):Nat->Cr:=fun i=>if i=k then c else C i
def Mz (y:Nat×Ms):Int:=y.2.id
def cam (n:Nat) (C:Nat->Cr) (k d:Nat):Bool:=decide ((C k).bt d≠[]/\d<n/\(C k).sn d<=(C d).av k)
def ad7 (n:Nat) (C:Nat->Cr) (k:Nat) (y:Nat×Ms):Bool:=decide (4<=y.1)||(decide (y.1≠k)&& !(cam n C k y.1&&decide (Mz y∈(C k).bt y.1)))
def view (n:Nat) (C:Nat->Cr) (k:Nat):List Ms:=((C k).bg.filter (ad7 n C k)).map (·.2)
def aeA (n:Nat) (C:Nat->Cr):List Ms:=(List.range n).flatMap (view n C)
def agn (c:Cr) (d:Nat) (y:Nat×Ms):Bool:=decide (y.1=d)&&decide (Mz y∈c.bt d)
def agm (c:Cr) (d:Nat):List Ms:=(c.bg.filter (agn c d)).map (·.2)
structure agF (n:Nat) (C:Nat->Cr) (g:Gm):Prop where
 ok:∃a b:Nat,g.f.GN=(a:Int)/\g.dto=(b:Int)/\a<n/\b<n/\a≠b/\
  (g.f.Xu=true->g.f.num<=(C a).av b)/\
  (g.f.Xu=false->g.f.num<=(C a).sn b/\(g.f.num=(C a).sn b->(C b).av a<g.f.num->(C a).bt b≠[]/\g.l.Perm (agm (C a) b)))
structure GC (n:Nat) (C:Nat->Cr) (mc:List Gm) (T:List Ms):Prop where
 led:(aeA n C).Perm T
 tn:(T.map (·.id)).Nodup
 org:∀m∈T,∃o:Nat,o<n/\m.id%4=(o:Int)/\m.id/4<(C o).nx
 u4:∀k,k<n->((C k).bg.map Mz).Nodup
 bin:∀k,k<n->∀d,∀i∈(C k).bt d,d<4/\∃y∈(C k).bg,y.1=d/\Mz y=i
 pr:∀k d,k<n->d<n->k≠d->(C d).av k<=(C k).sn d/\(C k).sn d<=(C d).av k+1/\((C k).bt d=[]->(C d).av k=(C k).sn d)
 fr:∀g∈mc,agF n C g
section
variable {n k d:Nat} {C:Nat->Cr} {mc:List Gm} {T:List Ms} {c:Cr}
end
theorem hF.ok{c kb k:Nat}{x:Ho×Dk}(h:hF c kb k x)(hK:kb<=1000000000000):E4 x.2:=⟨h.len,by have :=h.left;omega,h.size,h.nT⟩
theorem hF.cut{c kb k:Nat}{x:Ho×Dk}(h:hF c kb k x){n:Int}(hn:n<=9223372036854775807):hF c kb k (x.1,kN x.2 n):=⟨h.id,h.B,h.len,by unfold kN;dsimp only;omega,h.size,h.nT,h.ay,h.ways,h.ql⟩
theorem hF.dC{c kb k:Nat}{x:Ho×Dk}(h:hF c kb k x)(n:Int):hF c kb k ({x.1 with dC:=n},x.2):=⟨h.id,h.B.ZA n,h.len,h.left,h.size,h.nT,h.ay,h.ways.of rfl,h.ql⟩
theorem hF.mono{c c' kb kb' k:Nat}{x:Ho×Dk}(h:hF c kb k x)(h1:c<=c')(h2:kb<=kb'):hF c' kb' k x:=⟨h.id,h.B.le ae,h.len,by have :=h.left;omega,h.size,h.nT,fun u hu=>⟨(h.ay u hu).1,Nat.le_trans (h.ay u hu).2 h1⟩,h.ways,h.ql⟩
theorem Mk(H:Ho)(D:Dk):(eC H D).id=H.id/\(eC H D).ay=H.ay/\(eC H D).names=H.names/\(eC H D).aI=H.aI/\(eC H D).ways=H.ways/\(eC H D).batch=H.batch/\(eC H D).bT=H.bT/\(eC H D).aC=H.aC/\(eC H D).next=H.next/\(eC H D).dC=H.dC:=by
 unfold eC;split
 ·exact⟨rfl,rfl,rfl,rfl,rfl,rfl,rfl,rfl,rfl,rfl⟩
 ·split<;>exact⟨rfl,rfl,rfl,rfl,rfl,rfl,rfl,rfl,rfl,rfl⟩
theorem uu(H:Ho)(D:Dk)(s:aj):(nZ H D s).id=H.id/\(nZ H D s).ay=H.ay:=by
 unfold nZ;obtain⟨a,b,-⟩:=Mk H D;split
 ·have h:=gm (eC H D) s;exact⟨h.id.trans a,h.ay.trans b⟩
 ·exact⟨a,b⟩
theorem OS{H:Ho}{D:Dk}(h:ec H D=0):jQ H=0/\ou D=0:=by
 unfold ec at h;by_cases h1:jQ H=0
 ·rw[if_neg Yp]at h;exact⟨h1,h⟩
 ·rw[if_pos h1]at h;exact absurd h h1
theorem Sx{D:Dk}{H:Ho}{s:aj}(hl:D.places.length=300)(dM:∀t∈D.places,t.size<=800000)(hr:∀(i:Nat) t s,D.places[i]? =some t->gU (i:Nat) t=some s->fp 250 s)(hs:fp 250 s)(hb:p7 124 s)(hu:H.used<=300):
 (gg H D s).places.length=300/\(∀t∈(gg H D s).places,t.size<=800000)/\(∀(i:Nat) t r,(gg H D s).places[i]? =some t->gU (i:Nat) t=some r->fp 250 r)/\D.left-1<=(gg H D s).left/\(gg H D s).left<=D.left:=by
 have hss:=hs.size;have hsl:=uH (k:=(H.used:Nat)) ⟨by omega,by omega⟩ (show s.size<=700000 by omega);have h0:=sU (H.used:Nat) s;unfold gg;split
 ·exact⟨hl,dM,hr,by omega,Int.le_refl _⟩
 ·refine⟨?_,?_,?_,by rw[vB];split<;>omega,by rw[vB];split<;>omega⟩
  ·unfold fq;split
   ·split
    ·simpa using hl
    ·exact hl
   ·simpa using hl
  ·intro t ht;unfold fq at ht;split at ht
   ·split at ht
    ·rcases aD ht with h1|rfl
     ·exact dM t h1
     ·have :=xG (ew (H.used:Nat) s) H.dC;omega
    ·exact dM t ht
   ·rcases aD ht with h1|rfl
    ·exact dM t h1
    ·omega
  ·intro i t s' ht ho;have key:∀v,(D.places.set H.used v)[i]? =some t->(v=t/\i=H.used)\/D.places[i]? =some t:=fun v hv=>by
    rw[List.getElem?_set]at hv;split at hv
    ·rename_i e;split at hv
     ·simp only[az]at hv;exact .inl ⟨hv,e.symm⟩
     ·cases hv
    ·exact .inr hv
   unfold fq at ht;split at ht
   ·split at ht
    ·rcases key _ ht with⟨rfl,rfl⟩|h1
     ·unfold AB at ho;rw[zO hb ae]at ho;cases ho
     ·exact hr i t s' h1 ho
    ·exact hr i t s' ht ho
   ·rcases key _ ht with⟨rfl,rfl⟩|h1
    ·rw[tC hb]at ho;simp only[az]at ho;rw[<-ho];exact hs
    ·exact hr i t s' h1 ho
theorem hF.write{c kb k:Nat}{x:Ho×Dk}(h:hF c kb k x){s:aj}(hs:fp 250 s)(hb:p7 124 s):hF c (kb+1) k (nZ x.1 x.2 s,gg x.1 x.2 s):=by
 obtain⟨a1,a2⟩:=uu x.1 x.2 s;obtain⟨d1,d2,d3,d4,d5⟩:=Sx (H:=x.1) h.len h.size h.nT hs hb h.B.used;refine⟨a1.trans h.id,?_,d1,by have :=h.left;dsimp only;omega,d2,d3,fun u hu=>h.ay u (by rw[<-a2];exact hu),Vn h.ways _ _,Vm h.ql _ _⟩;dsimp only;unfold nZ;split
 ·rename_i h0;obtain⟨h1,h2⟩:=OS h0;have eL:eC x.1 x.2={x.1 with used:=x.1.used+1}:=by unfold eC;rw[if_neg Yp,if_neg Vg]
  have h3:=(h.B.log (D:=x.2)).KK hs ae;have h4:=(gm (eC x.1 x.2) s).used;refine h3.le ?_;rw[h4,eL];dsimp only;omega
 ·rename_i h0;have h3:(eC x.1 x.2).used=x.1.used:=by
   unfold eC;split
   ·rfl
   ·rename_i h1;split
    ·rfl
    ·rename_i h2;exact absurd (by unfold ec;rw[if_neg h1];simpa using h2) h0
  rw[h3];exact h.B.log
theorem hF.bV{c kb k:Nat}{x:Ho×Dk}(h:hF c kb k x)(hk:k<4)(hK:kb<=1000000000000):hF c kb k (ij (k:Int) x.2,x.2):=by
 have hD:=h.ok hK;have h2:=zP x.2 300 (gx (k:Int));refine⟨h2.1,(OE (id:=(k:Int)) ⟨by omega,by omega⟩ hD).le fZ,h.len,h.left,h.size,h.nT,fun u hu=>?_,OD _ _,OC _ _⟩;have h3:u∈(gx (k:Int)).ay:=by rw[<-h2.2.2.2];exact hu
 have :u=⟨[],[]⟩:=List.eq_of_mem_replicate h3;subst this;exact⟨⟨(fun p hp=>by cases hp),(fun p hp=>by cases hp),by decide⟩,aH _⟩
theorem Lt(k:Int):p7 124 (sk k):=dO (dO (d_ ah) (d_ ah)) (fV _ ah)
theorem ED(k:Int)(l:List Int):p7 124 (ic k l):=dO (dO (d_ ah) (d_ ah)) (wC (fun b hb=>by simp[sp]at hb;subst hb;decide) fun x hx=>by
 obtain⟨n,-,rfl⟩:=aB.1 hx
 exact fV _ ah)
theorem Lr(k:Int){l:List Ms}{t:List aj}(h:∀m∈l,bD m=true)(ht:∀x∈t,cH x=true):p7 124 (tj k l t):=
 dO (dO (d_ ah) (d_ ah)) (dO (dO (fV _ ah) (d_ ah)) (dO (dO (rX ah ah ah h) (d_ ah)) (wC (fun b hb=>by simp[plus]at hb;subst hb;decide) fun x hx=>ux ah (ht x hx))))
theorem hF.bt{c kb k:Nat}{x:Ho×Dk}(h:hF c kb k x)(dst:Int):hF c (kb+1) k (qE x.1 x.2 dst,xY x.1 x.2 dst):=by
 unfold qE xY;split
 ·rename_i sq;have Aj:cb x.1 dst=true:=by
   unfold gJ tT at sq;cases hk:cb x.1 dst with
   |true=>rfl
   |false=>rw[hk]at sq;simp at sq
  obtain⟨xV,qC,-⟩:=b_.1 Aj;refine h.write ((lx ⟨xV,qC⟩ (by unfold cG;simp;omega) fun y hy=>?_).mono ae) (ED _ _);obtain⟨m,hm,rfl⟩:=aB.1 hy;have hm:=List.mem_of_mem_take hm;unfold eX at hm;obtain⟨e,he,rfl⟩:=aB.1 hm;have :=(h.B.w (j:=dst.toNat) ae).ids e (aF.1 he).1;exact⟨by omega,by omega⟩
 ·exact h.mono (aP _) ae
theorem hF.ca{c kb k:Nat}{x:Ho×Dk}(h:hF c kb k x)(dst m:Int):hF c (kb+1) k (G8 x.1 x.2 dst m,JG x.1 x.2 dst m):=by
 unfold G8 JG;by_cases h0:mJ x.1 dst m≠0
 ·rw[if_pos h0,if_pos h0];exact h.mono (aP _) ae
 ·rw[if_neg h0,if_neg h0];have Aj:cb x.1 dst=true:=by
   unfold mJ at h0;cases hk:cb x.1 dst with
   |true=>rfl
   |false=>rw[hk]at h0;simp at h0
  obtain⟨xV,qC,-⟩:=b_.1 Aj;exact h.write ((uV ⟨xV,qC⟩).mono ae) (Lt _)
theorem hF.ar{c kb k:Nat}{x:Ho×Dk}(h:hF c kb k x)(Le m:Int){l:List Ms}(hl:l.length<=250):hF c (kb+1) k (vF x.1 x.2 Le m l,Bq x.1 x.2 Le m l):=by
 unfold vF Bq;split
 ·rename_i hw;unfold DH at hw;simp only[decide_eq_true_eq]at hw;have h0:=hw.1;have Aj:cb x.1 Le=true:=by
   unfold qn at h0;cases hk:cb x.1 Le with
   |true=>rfl
   |false=>rw[hk]at h0;simp at h0
  obtain⟨xV,qC,-⟩:=b_.1 Aj;have oG:jM l=none:=by
   unfold qn at h0;rw[if_neg (by rw[Aj];simp)]at h0;split at h0
   ·cases h0
   ·rw[if_neg ae]at h0;split at h0
    ·cases h0
    ·split at h0
     ·cases h0
     ·rename_i h5;cases hb:jM l with
      |none=>rfl
      |some i=>exact absurd (.inl (by rw[hb];simp)) h5
  have lV:=eV oG;exact h.write (uU ⟨xV,qC⟩ oG hl (lb lV []) (lf x.1 l [])).1 (Lr _ lV (lb lV []))
 ·exact h.mono (aP _) ae
def G3 (H:Ho):Cr:=⟨(hv H).map ru,cJ H,gD H,fv H,H.next⟩
structure UJ (H:Ho) (u:Nat) (x:pI):Prop where
 aT:∀p∈x.aT,(p.1.bF=H.id->∃i,H.qI p.1.queue=some i)/\p.1.id%4=H.id/\∃e∈hv H,e.j=kM H p.1/\e.m=p.1/\e.put=(u:Int)
 pn:(x.aT.map fun p=>p.1.id).Nodup
 aY:∀g∈x.aY,∃i,H.qI g.2=some i/\∃e∈hv H,e.j=4+i/\eb e=g.1/\e.put<0/\e.gC=(u:Int)
 gn:(x.aY.map (·.1)).Nodup
structure HI (k:Nat) (H:Ho) (D:Dk) (H0:Ho):Prop where
 hid:H.id=(k:Int)
 RZ:∃R,kt D R/\nS (gx k) R H0/\H.used=R.length
 names:H0.names=H.names
 keys:bw H0=bw H
 bt:H0.batch=H.batch
 sn:H0.bT=H.bT
 av:H0.aC=H.aC
 dead:∃i,H.qI cr=some i
 pc:∀e∈hv H0,e.put= -1/\e.gC= -1
 Bd:(hk H).Perm ((hv H0).map ru)
 u4:((hv H).map eb).Nodup
 wy:∀e∈hv H,e.j<4->e.m.id%4=(k:Int)
 lt:∀e∈hv H,e.m.id%4=(k:Int)->e.m.id/4<H.next
 Mj:∀e∈hv H0,e.m.id%4=(k:Int)->e.m.id/4<H0.next
 nx:H0.next<=H.next
 unit:∀(u:Nat) x,H.ay[u]? =some x->UJ H u x
 bin:∀d,∀i∈cJ H d,∃y∈hk H,y.1=d/\Mz y=i
section
variable {c kb k n:Nat} {H H0:Ho} {D:Dk}
theorem HI.upd(h:HI k H D H0){H':Ho}(e1:H'.id=H.id)(e2:H'.used=H.used)(e3:H'.names=H.names)(e4:bw H'=bw H)(e5:H'.batch=H.batch)(e6:H'.bT=H.bT)(e7:H'.aC=H.aC)(Bd:(hk H').Perm (hk H))(u4:((hv H').map eb).Nodup)(wy:∀e∈hv H',e.j<4->e.m.id%4=(k:Int))(lt:∀e∈hv H',e.m.id%4=(k:Int)->e.m.id/4<H'.next)(nx:H.next<=H'.next)(unit:∀(u:Nat) x,H'.ay[u]? =some x->UJ H' u x):HI k H' D H0:=by
 obtain⟨R,r1,r2,r3⟩:=h.RZ;obtain⟨i,hi⟩:=h.dead;refine⟨by rw[e1,h.hid],⟨R,r1,r2,by rw[e2,r3]⟩,by rw[e3,h.names],by rw[e4,h.keys],by rw[e5,h.bt],by rw[e6,h.sn],by rw[e7,h.av],⟨i,by rw[bH e4];exact hi⟩,h.pc,Bd.trans h.Bd,u4,wy,lt,h.Mj,by have :=h.nx;omega,unit,fun d i hi=>?_⟩;have :cJ H' d=cJ H d:=by unfold cJ;rw[e5]
 rw[this]at hi;obtain⟨y,hy,a,b⟩:=h.bin d i hi;exact⟨y,Bd.mem_iff.2 hy,a,b⟩
theorem UJ.same{H':Ho}{u:Nat}{x:pI}(h:UJ H u x)(e1:H'.id=H.id)(e2:H'.aI=H.aI)(e3:H'.ways=H.ways):UJ H' u x:=by
 have e4:hv H'=hv H:=by unfold hv Ho.all;rw[e2,e3]
 have e5:bw H'=bw H:=by unfold bw;rw[e2]
 refine⟨fun p hp=>?_,h.pn,fun g hg=>?_,h.gn⟩
 ·obtain⟨a,b,e,he,r⟩:=h.aT p hp;exact⟨fun hh=>by rw[bH e5];exact a (by rw[hh,e1]),by rw[e1];exact b,e,by rw[e4];exact he,by rw[ei e5 e1];exact r⟩
 ·obtain⟨i,a,e,he,r⟩:=h.aY g hg;exact⟨i,by rw[bH e5];exact a,e,by rw[e4];exact he,r⟩
theorem HI.dC(h:HI k H D H0)(t:Int):HI k {H with dC:=t} D H0:=
 h.upd rfl rfl rfl rfl rfl rfl rfl (.refl _) h.u4 h.wy h.lt (Int.le_refl _) fun u x hx=>(h.unit u x hx).same rfl rfl rfl
theorem HI.Xa(h:HI k H D H0):HI k {H with down:=true} D H0:=
 h.upd rfl rfl rfl rfl rfl rfl rfl (.refl _) h.u4 h.wy h.lt (Int.le_refl _) fun u x hx=>(h.unit u x hx).same rfl rfl rfl
theorem HI.abD(h:HI k H D H0){D':Dk}(hd:∀R,H.used=R.length->kt D R->kt D' R):HI k H D' H0:=by
 obtain⟨R,r1,r2,r3⟩:=h.RZ;exact⟨h.hid,⟨R,hd R r3 r1,r2,r3⟩,h.names,h.keys,h.bt,h.sn,h.av,h.dead,h.pc,h.Bd,h.u4,h.wy,h.lt,h.Mj,h.nx,h.unit,h.bin⟩
theorem HI.cut(h:HI k H D H0)(t:Int):HI k H (kN D t) H0:=h.abD fun R _ hd=>hd.cut t
theorem HI.opened(h:HI k H D H0):ij (k:Int) D=H0:=by
 obtain⟨R,r1,r2,r3⟩:=h.RZ;exact tB r1 r2
theorem HI.xV(h:HI k H D H0):hk H0=(hv H0).map ru:=by
 unfold hk;rw[bJ.2];intro e he;have :=(h.pc e he).1;unfold j9;simp[this]
theorem HI.QX(h:HI k H D H0):H0.id=(k:Int):=by
 obtain⟨R,r1,r2,r3⟩:=h.RZ;rw[r2.same.1];rfl
theorem HI.DP(h:HI k H D H0):H0.ay=List.replicate 5 ⟨[],[]⟩:=by
 obtain⟨R,r1,r2,r3⟩:=h.RZ;rw[r2.same.2.2.2];rfl
theorem HI.O9(h:HI k H D H0):((hv H0).map eb).Nodup:=by
 have h1:((hv H0).map eb).Perm ((hk H).map (·.2.id)):=by
  refine List.Perm.trans (List.Perm.of_eq ?_) (h.Bd.map (·.2.id)).symm;rw[List.map_map];rfl
 rw[h1.nodup_iff,WA];exact h.u4.sublist (List.filter_sublist.map _)
theorem HI.in0(h:HI k H D H0){e:En}(he:e∈hv H0):∃e'∈hv H,e'.j=e.j/\e'.m=e.m/\e'.put<0:=by
 have h1:ru e∈hk H:=h.Bd.mem_iff.2 (List.mem_map_of_mem he);unfold hk at h1;obtain⟨e',h2,h3⟩:=aB.1 h1;obtain⟨h4,h5⟩:=aF.1 h2;unfold ru at h3;simp only[Prod.mk.injEq]at h3;exact⟨e',h4,h3.1,h3.2,by unfold j9 at h5;simpa using h5⟩
theorem HI.to0(h:HI k H D H0){e:En}(he:e∈hv H)(hp:e.put<0):∃e'∈hv H0,e'.j=e.j/\e'.m=e.m:=by
 have h1:ru e∈(hv H0).map ru:=h.Bd.mem_iff.1 (by
  unfold hk
  exact List.mem_map_of_mem (aF.2 ⟨he,by unfold j9;simpa using hp⟩))
 obtain⟨e',h2,h3⟩:=aB.1 h1;unfold ru at h3;simp only[Prod.mk.injEq]at h3;exact⟨e',h2,h3.1,h3.2⟩
theorem UJ.nil(H:Ho)(u:Nat):UJ H u ⟨[],[]⟩:=⟨(fun p hp=>by cases hp),List.nodup_nil,(fun p hp=>by cases hp),List.nodup_nil⟩
theorem HI.Oi(h:HI k H D H0):HI k H0 D H0:=by
 obtain⟨R,r1,r2,r3⟩:=h.RZ;obtain⟨i,hi⟩:=h.dead;refine⟨h.QX,⟨R,r1,r2,by rw[r2.used];simp[gx]⟩,rfl,rfl,rfl,rfl,rfl,⟨i,by rw[bH h.keys];exact hi⟩,h.pc,by rw[h.xV],h.O9,fun e he hj=>?_,h.Mj,h.Mj,Int.le_refl _,fun u x hx=>?_,fun d i hi=>?_⟩
 ·obtain⟨e',h1,h2,h3,-⟩:=h.in0 he;rw[<-h3];exact h.wy e' h1 (by rw[h2];exact hj)
 ·rw[h.DP]at hx;have :=List.eq_of_mem_replicate (ax hx);subst this;exact UJ.nil _ _
 ·have :cJ H0 d=cJ H d:=by unfold cJ;rw[h.bt]
  rw[this]at hi;obtain⟨y,hy,a,b⟩:=h.bin d i hi;exact⟨y,by rw[h.xV];exact h.Bd.mem_iff.1 hy,a,b⟩
theorem HI.fail(h:HI k H D H0){s:aj}(hs:s.size<=700000)(hb:p7 124 s)(he:ec H D≠0):HI k (eC H D) (gg H D s) H0:=by
 unfold ec at he;unfold eC gg;by_cases h1:jQ H≠0
 ·rw[if_pos h1,if_pos h1];exact h
 ·rw[if_neg h1]at he;rw[if_neg h1,if_neg h1,if_pos he];have hr:=(yx (H:=H) Yp).2;have ho:lL D=true:=by
   cases hd:lL D with
   |true=>rfl
   |false=>exact absurd (Du.2 (by rw[hd];simp)) he
  refine h.Xa.abD fun R hu hd=>?_
  have hu:H.used=R.length:=hu;rw[hu];exact hd.bad hs hb ho (by rw[<-hu];exact hr)
theorem dK(h2:ec H D=0)(s:aj):eC H D={H with used:=H.used+1}/\gg H D s=fq D H.used (ew H.used s) H.dC/\H.used<300/\¬lL D=true:=by
 obtain⟨h3,h4⟩:=OS h2;refine⟨?_,?_,(yx h3).2,Du.1 h4⟩
 ·unfold eC;rw[if_neg Yq,if_neg (by simpa using h4)]
 ·unfold gg;rw[if_neg Yq]
theorem HI.zU(h:HI k H D H0)(h2:ec H D=0){s:aj}(hs:s.size<=700000)(hb:p7 124 s)(lH:fp 250 s){H' H3:Ho}(hp:hplays H0 s=(H3,true))(e1:H'.id=H.id)(e2:H'.used=H.used+1)(e3:H3.names=H'.names)(e4:bw H3=bw H')(e5:H3.batch=H'.batch)(e6:H3.bT=H'.bT)(e7:H3.aC=H'.aC)(e8:bw H'=bw H)(pc:∀e∈hv H3,e.put= -1/\e.gC= -1)(Bd:(hk H').Perm ((hv H3).map ru))(u4:((hv H').map eb).Nodup)(wy:∀e∈hv H',e.j<4->e.m.id%4=(k:Int))(lt:∀e∈hv H',e.m.id%4=(k:Int)->e.m.id/4<H'.next)(Mj:∀e∈hv H3,e.m.id%4=(k:Int)->e.m.id/4<H3.next)(nx:H3.next<=H'.next)(unit:∀(u:Nat) x,H'.ay[u]? =some x->UJ H' u x)(bin:∀d,∀i∈cJ H' d,∃y∈hk H',y.1=d/\Mz y=i):HI k H' (gg H D s) {H3 with used:=H0.used+1}:=by
 obtain⟨R,r1,r2,r3⟩:=h.RZ;obtain⟨i,hi⟩:=h.dead;obtain⟨-,eD,hu,ho⟩:=dK h2 s;refine⟨by rw[e1,h.hid],⟨R++[s],?_,r2.snoc hp,by rw[e2,r3];simp⟩,e3,e4,e5,e6,e7,⟨i,by rw[bH e8];exact hi⟩,pc,Bd,u4,wy,lt,Mj,nx,unit,bin⟩;rw[eD,r3];exact r1.abm hs hb lH ho (by rw[<-r3];exact hu)
theorem Ow{s:aj}(h:(jX H s).2.2=0)(hk:¬(jX H s).2.1<0):(jX H s).2.1≠H.id:=by
 unfold jX at h hk ⊢;split
 ·rename_i h1;rw[if_pos h1]at h;exact absurd h h1
 ·rename_i h1;rw[if_neg h1]at h hk;split
  ·rename_i h2;rw[if_pos h2]at h hk;split
   ·rename_i h3;rw[if_pos h3]at h;cases h
   ·rename_i h3;rw[if_neg h3]at hk;exact absurd (by dsimp only;decide) hk
  ·rename_i h2;exact fun e=>h2 (.inr e)
theorem IQ{u:Int}{s:aj}{pri:Int}{body:aj}(he:gN H u s pri body=0):(jX H s).2.2=0/\jC (H.rI (mD H s)) (fR H s pri body)=0/\bD (fR H s pri body)=true/\H.down=false:=by
 have h0:=he;unfold gN at h0;split at h0
 ·cases h0
 ·split at h0
  ·cases h0
  ·split at h0
   ·exact absurd h0 sE
   ·rename_i h1;split at h0
    ·cases h0
    ·rename_i h2;refine⟨by simpa using h1,h0,?_,by simpa using h2⟩;unfold jC at h0;cases hr:bD (fR H s pri body)with
     |true=>rfl
     |false=>rw[if_pos hr]at h0;cases h0
theorem HI.put(h:HI k H D H0)(hB:cx n H){u:Nat}(hu:u<5){s:aj}{pri:Int}{body:aj}(he:gN H u s pri body=0):
 HI k (lA H u s pri body) D H0/\(fR H s pri body).id=H.next *4+k:=by
 obtain⟨iq,Bf,Jk,-⟩:=IQ he;obtain⟨hj,h2,h3⟩:=tv hB iq;have BJ:(fR H s pri body).id=H.next *4+k:=by rw[<-h.hid];rfl
 have hjm:kM H (fR H s pri body)=mD H s/\((fR H s pri body).bF=H.id->∃i,H.qI (fR H s pri body).queue=some i):=by
  unfold kM;by_cases hn:(jX H s).2.1<0
  ·obtain⟨-,i,Jf,S4⟩:=h2 hn;have e1:(fR H s pri body).bF=H.id:=by unfold fR;dsimp only;rw[if_pos hn]
   have e2:(fR H s pri body).queue=(jX H s).1:=rfl;rw[if_neg (by rw[e1];simp),e2,Jf];exact⟨by rw[S4];rfl,fun _=>⟨i,rfl⟩⟩
  ·obtain⟨a,b⟩:=h3 hn;have e1:(fR H s pri body).bF=(jX H s).2.1:=by unfold fR;dsimp only;rw[if_neg hn]
   rw[if_pos (by rw[e1];exact Ow iq hn),e1,b];exact⟨by simp,fun hh=>absurd (b.trans hh) (Ow iq hn)⟩
 refine⟨?_,BJ⟩;have Ej:=nb hB hu;generalize hx:H.dW u=x at Ej;have e1:lA H u s pri body=cA {H.eN (mD H s) (dr (H.rI (mD H s)) (fR H s pri body) u)with next:=H.next+1} u ⟨x.aT++[(fR H s pri body,(jX H s).2.1)],x.aY⟩:=by
  unfold lA;rw[if_pos he];unfold lU;rw[if_pos Bf,aE,hx]
 rw[e1];generalize fR H s pri body=m at Bf Jk BJ hjm;have cU:H.all[mD H s]? =some (H.rI (mD H s)):=Hc hj;generalize kF:cA {H.eN (mD H s) (dr (H.rI (mD H s)) m u)with next:=H.next+1} u ⟨x.aT++[(m,(jX H s).2.1)],x.aY⟩=H';have tH:(hv H').Perm (⟨mD H s,m,(u:Int),-1⟩::hv H):=by
  have h3:H'.all=(H.eN (mD H s) (dr (H.rI (mD H s)) m u)).all:=by rw[<-kF];rfl
  unfold hv;rw[h3,AY hB.ways];have :=yp m u cU;rw[show max (u:Int) (-1)=u by omega]at this;exact this
 have kx:bw H'=bw H:=by rw[<-kF];exact uG _ _
 have iu:H'.id=H.id:=by rw[<-kF];exact yu _ _
 have Em:H'.next=H.next+1:=by rw[<-kF];rfl
 have wE:H'.ay=H.ay.set u ⟨x.aT++[(m,(jX H s).2.1)],x.aY⟩:=by rw[<-kF];unfold cA;dsimp only;rw[jr]
 have Es:(hk H').Perm (hk H):=by
  unfold hk;refine((tH.filter _).map _).trans (List.Perm.of_eq ?_);rw[c_,if_neg (by unfold j9;simp)]
 have jy:∀e∈hv H,e∈hv H':=fun e he=>tH.mem_iff.2 (List.mem_cons_of_mem _ he)
 have Gs:∀e∈hv H,eb e≠m.id:=fun e he e2=>by
  unfold eb at e2;have :=h.lt e he (by rw[e2,BJ];have :=h.hid;have :=hB.id;omega);rw[e2,BJ]at this;have :=h.hid;have :=hB.id;omega
 have qC:(k:Int)<4:=by have :=h.hid;have :=hB.id;omega
 refine h.upd iu (by rw[<-kF];exact oR _ _) (by rw[<-kF];exact sS _ _) kx (by rw[<-kF];exact pR _ _) (by rw[<-kF];exact rR _ _) (by rw[<-kF];exact mr _ _) Es ?_ (fun e fX Et=>?_) (fun e fX Et=>?_) ae fun v y hy=>?_
 ·refine(tH.map eb).nodup_iff.2 ?_;rw[aJ,bL];refine⟨fun Er=>?_,h.u4⟩;obtain⟨e,fX,he3⟩:=aB.1 Er;exact Gs e fX he3
 ·rcases aK.1 (tH.mem_iff.1 fX)with rfl|he3
  ·dsimp only;rw[BJ];omega
  ·exact h.wy e he3 Et
 ·rw[Em];rcases aK.1 (tH.mem_iff.1 fX)with rfl|he3
  ·dsimp only;rw[BJ];omega
  ·have :=h.lt e he3 Et;omega
 ·rw[wE]at hy;rcases uC Y36 hy with⟨rfl,rfl⟩|⟨oo,hy⟩
  ·have ui:=h.unit v x Ej;refine⟨fun p hp=>?_,?_,fun g hg=>?_,ui.gn⟩
   ·rcases aO.1 hp with hp|hp
    ·obtain⟨a,b,e,fX,e3⟩:=ui.aT p hp;exact⟨fun hh=>by rw[bH kx];exact a Yo,by rw[iu];exact b,e,jy e fX,by rw[ei kx iu];exact e3⟩
    ·simp at hp;subst hp;refine⟨fun hh=>by rw[bH kx];exact hjm.2 (by rw[<-iu];exact hh),by rw[iu,h.hid];dsimp only;rw[BJ];omega,_,tH.mem_iff.2 List.mem_cons_self,by rw[ei kx iu];exact hjm.1.symm,rfl,rfl⟩
   ·dsimp only;rw[aZ,List.nodup_append];refine⟨ui.pn,by simp,fun a ha b hb=>?_⟩;obtain⟨p,hp,rfl⟩:=aB.1 ha;obtain⟨-,-,e,fX,-,e3,-⟩:=ui.aT p hp;simp at hb;subst hb;have :=Gs e fX;unfold eb at this;rw[e3]at this;exact this
   ·obtain⟨i',d,e,fX,e3⟩:=ui.aY g hg;exact⟨i',by rw[bH kx];exact d,e,jy e fX,e3⟩
  ·have ui:=h.unit v y hy;refine⟨fun p hp=>?_,ui.pn,fun g hg=>?_,ui.gn⟩
   ·obtain⟨a,b,e,fX,e3⟩:=ui.aT p hp;exact⟨fun hh=>by rw[bH kx];exact a Yo,by rw[iu];exact b,e,jy e fX,by rw[ei kx iu];exact e3⟩
   ·obtain⟨i',d,e,fX,e3⟩:=ui.aY g hg;exact⟨i',by rw[bH kx];exact d,e,jy e fX,e3⟩
theorem HI.get(h:HI k H D H0)(hB:cx n H){u:Nat}(hu:u<5){s:aj}(he:gX H u s=0):
 HI k (kH H u s) D H0/\∃i,(i,getM H u s)∈hk H/\4<=i:=by
 obtain⟨i,Jf,Bf⟩:∃i,H.qI s=some i/\l7 (H.dZ i)=0:=by
  have h0:=he;unfold gX at h0;split at h0
  ·cases h0
  ·cases hq:H.qI s with
   |none=>rw[hq]at h0;cases h0
   |some i=>
    rw[hq]at h0;dsimp only at h0;split at h0
    ·cases h0
    ·split at h0
     ·cases h0
     ·exact⟨i,rfl,h0⟩
 have kD:=(fC Jf).1;obtain⟨q,Y_⟩:∃q,uY (H.dZ i)=some q:=by
  unfold l7 at Bf;split at Bf
  ·cases Bf
  ·rename_i q NF;exact⟨q,NF⟩
 obtain⟨mV,ND,-⟩:=List.findIdx?_eq_some_iff_getElem.1 Y_;have Wv:(H.dZ i).l[q]? =some (H.dZ i).l[q]:=ak mV;generalize hy:(H.dZ i).l[q]=y at Wv ND;have hit:o4 (H.dZ i).l q=y:=j_ Wv;have hgm:l6 (H.dZ i)=y.m:=by unfold l6;rw[Y_];dsimp only;rw[hit]
 have hgq:lz (H.dZ i) u=⟨(H.dZ i).l.set q {y with gC:=(u:Int)},(H.dZ i).next⟩:=by unfold lz;rw[Y_];dsimp only;rw[if_neg ae,hit]
 have hM:getM H u s=y.m:=by unfold getM;rw[if_pos he,Jf];exact hgm
 unfold gA at ND;simp only[bm,decide_eq_true_eq]at ND;obtain⟨Rr,p1,p2⟩:=LH {y with gC:=(u:Int)} (Lu hB kD) Wv (H.dZ i).next
 have Ej:=nb hB hu;generalize hx:H.dW u=x at Ej;have e1:kH H u s=cA (H.eA i (lz (H.dZ i) u)) u ⟨x.aT,x.aY++[(y.m.id,s)]⟩:=by
  unfold kH;rw[if_pos he,aE,hx,Jf];simp only[Option.getD_some];rw[hgm]
 rw[e1,hM];generalize kF:cA (H.eA i (lz (H.dZ i) u)) u ⟨x.aT,x.aY++[(y.m.id,s)]⟩=H';have tH:(hv H').Perm (kZ (4+i) {y with gC:=(u:Int)}::Rr):=by
  have h3:H'.all=(H.eA i (lz (H.dZ i) u)).all:=by rw[<-kF];rfl
  unfold hv;rw[h3,iy hB.ways,hgq];exact p2
 have hvH:(hv H).Perm (kZ (4+i) y::Rr):=p1;have kx:bw H'=bw H:=by rw[<-kF];exact ia _ _
 have iu:H'.id=H.id:=by rw[<-kF];rfl
 have Em:H'.next=H.next:=by rw[<-kF];rfl
 have wE:H'.ay=H.ay.set u ⟨x.aT,x.aY++[(y.m.id,s)]⟩:=by rw[<-kF];rfl
 have Es:(hk H').Perm (hk H):=by
  unfold hk;refine((tH.filter _).map _).trans (List.Perm.trans (List.Perm.of_eq ?_) ((hvH.filter _).map _).symm);rw[c_,c_];have :j9 (kZ (4+i) y)=true:=by unfold j9 kZ;simpa using ND.1
  rw[if_pos this,if_pos (show j9 (kZ (4+i) {y with gC:=(u:Int)})=true from this)];rfl
 have ry:((hv H').map eb).Perm ((hv H).map eb):=(tH.map eb).trans (hvH.map eb).symm;have jy:∀e∈hv H,e∈hv H'\/e=kZ (4+i) y:=fun e he=>by
  rcases aK.1 (hvH.mem_iff.1 he)with rfl|h1
  ·exact .inr rfl
  ·exact .inl (tH.mem_iff.2 (List.mem_cons_of_mem _ h1))
 have hyv:kZ (4+i) y∈hv H:=hvH.mem_iff.2 List.mem_cons_self;have aeG:kZ (4+i) {y with gC:=(u:Int)}∈hv H':=tH.mem_iff.2 List.mem_cons_self;have GG:∀e∈hv H',∃e'∈hv H,e'.j=e.j/\e'.m=e.m:=fun e he=>by
  rcases aK.1 (tH.mem_iff.1 he)with rfl|h1
  ·exact⟨_,hyv,rfl,rfl⟩
  ·exact⟨e,hvH.mem_iff.2 (List.mem_cons_of_mem _ h1),rfl,rfl⟩
 have BG:∀v p (j':Nat) (e:En),e∈hv H->e.j=j'->e.m=p->e.put=((v:Nat):Int)->∃e∈hv H',e.j=j'/\e.m=p/\e.put=((v:Nat):Int):=fun v p i' e he a b d=>by
  rcases jy e he with h1|rfl
  ·exact⟨e,h1,a,b,d⟩
  ·have :y.put=(v:Int):=d;omega
 have wO:∀(v:Nat) k' (i':Nat) (e:En),e∈hv H->e.j=4+i'->eb e=k'->e.put<0->e.gC=((v:Nat):Int)->∃e∈hv H',e.j=4+i'/\eb e=k'/\e.put<0/\e.gC=((v:Nat):Int):=fun v k' i' e he a b d f=>by
  rcases jy e he with h1|rfl
  ·exact⟨e,h1,a,b,d,f⟩
  ·have :y.gC=(v:Int):=f;omega
 refine⟨h.upd iu QJ QJ kx QJ QJ QJ Es (ry.nodup_iff.2 h.u4) (fun e fX Et=>?_) (fun e fX Et=>?_) ae fun v z hz=>?_,4+i,?_,by omega⟩
 ·obtain⟨e',a,b,d⟩:=GG e fX;rw[<-d];exact h.wy e' a (by rw[b];exact Et)
 ·obtain⟨e',a,b,d⟩:=GG e fX;rw[<-d]at Et ⊢;rw[Em];exact h.lt e' a Et
 ·rw[wE]at hz;rcases uC Y36 hz with⟨rfl,rfl⟩|⟨oo,hz⟩
  ·have ui:=h.unit v x Ej;refine⟨fun p hp=>?_,ui.pn,fun g hg=>?_,?_⟩
   ·obtain⟨a,b,e,fX,e3,e4,e5⟩:=ui.aT p hp;exact⟨fun hh=>by rw[bH kx];exact a Yo,by rw[iu];exact b,by rw[ei kx iu];exact BG v _ _ e fX e3 e4 e5⟩
   ·rcases aO.1 hg with hg|hg
    ·obtain⟨i',d,e,fX,e3,e4,e5,e6⟩:=ui.aY g hg;exact⟨i',by rw[bH kx];exact d,wO v _ i' e fX e3 e4 e5 e6⟩
    ·simp at hg;subst hg;exact⟨i,by rw[bH kx];exact Jf,_,aeG,rfl,rfl,ND.1,rfl⟩
   ·dsimp only;rw[aZ,List.nodup_append];refine⟨ui.gn,by simp,fun a ha b hb=>?_⟩;obtain⟨g,hg,rfl⟩:=aB.1 ha;obtain⟨i',-,e,fX,-,e4,-,e6⟩:=ui.aY g hg;simp at hb;subst hb;intro e7;have :e=kZ (4+i) y:=jE h.u4 fX hyv (by rw[e4,e7];rfl);rw[this]at e6;have :y.gC=(v:Int):=e6;omega
  ·have ui:=h.unit v z hz;refine⟨fun p hp=>?_,ui.pn,fun g hg=>?_,ui.gn⟩
   ·obtain⟨a,b,e,fX,e3,e4,e5⟩:=ui.aT p hp;exact⟨fun hh=>by rw[bH kx];exact a Yo,by rw[iu];exact b,by rw[ei kx iu];exact BG v _ _ e fX e3 e4 e5⟩
   ·obtain⟨i',d,e,fX,e3,e4,e5,e6⟩:=ui.aY g hg;exact⟨i',by rw[bH kx];exact d,wO v _ i' e fX e3 e4 e5 e6⟩
 ·unfold hk;exact aB.2 ⟨kZ (4+i) y,aF.2 ⟨hyv,by unfold j9 kZ;simpa using ND.1⟩,rfl⟩
theorem HI.back(h:HI k H D H0)(hB:cx n H){u:Nat}(hu:u<5)(he:AS H u=0):HI k (BP H u) D H0:=by
 have e1:BP H u=cA (cv H u) u cy:=by unfold BP;rw[if_pos he,aE]
 rw[e1];have tH:hv (cA (cv H u) u cy)=((hv H).filter fun e=> !decide (e.put=(u:Int))).map (gI u):=An H ae;have kx:bw (cA (cv H u) u cy)=bw H:=by unfold bw cA cv;simp
 generalize kF:cA (cv H u) u cy=H' at tH kx;have iu:H'.id=H.id:=by rw[<-kF];rfl
 have Em:H'.next=H.next:=by rw[<-kF];rfl
 have wE:H'.ay=H.ay.set u cy:=by rw[<-kF];rfl
 have jy:∀e∈hv H,e.put≠(u:Int)->gI u e∈hv H':=fun e he hp=>by
  rw[tH];exact List.mem_map_of_mem (aF.2 ⟨he,by simpa using hp⟩)
 have GG:∀e∈hv H',∃e'∈hv H,e'.j=e.j/\e'.m=e.m:=fun e he=>by
  rw[tH]at he;obtain⟨e',h1,rfl⟩:=aB.1 he;exact⟨e',(aF.1 h1).1,rfl,rfl⟩
 have Es:hk H'=hk H:=by
  unfold hk;rw[tH,List.filter_map,List.map_map,dm];rw[show(ru∘gI u)=ru from rfl];congr 1;apply List.filter_congr;intro e _;unfold j9 gI;dsimp only[Function.comp];by_cases e1:e.put=(u:Int)
  ·have :¬e.put<0:=by omega
   simp[e1]
  ·simp[e1]
 refine h.upd iu QJ QJ kx QJ QJ QJ (by rw[Es]) ?_ (fun e fX Et=>?_) (fun e fX Et=>?_) ae fun v y hy=>?_
 ·rw[tH,List.map_map,show(eb∘gI u)=eb from rfl];exact h.u4.sublist (List.filter_sublist.map _)
 ·obtain⟨e',a,b,d⟩:=GG e fX;rw[<-d];exact h.wy e' a (by rw[b];exact Et)
 ·obtain⟨e',a,b,d⟩:=GG e fX;rw[<-d]at Et ⊢;rw[Em];exact h.lt e' a Et
 ·rw[wE]at hy;rcases uC Y36 hy with⟨rfl,rfl⟩|⟨oo,hy⟩
  ·exact UJ.nil _ _
  ·have ui:=h.unit v y hy;have Wa:((v:Nat):Int)≠(u:Int):=fun e=>oo ae
   refine⟨fun p hp=>?_,ui.pn,fun g hg=>?_,ui.gn⟩
   ·obtain⟨a,b,e,fX,e3,e4,e5⟩:=ui.aT p hp;refine⟨fun hh=>by rw[bH kx];exact a Yo,by rw[iu];exact b,_,jy e fX (by rw[e5];exact Wa),by rw[ei kx iu];exact e3,e4,?_⟩;unfold gI;dsimp only;rw[if_neg (by rw[e5];exact Wa)];exact e5
   ·obtain⟨i',d,e,fX,e3,e4,e5,e6⟩:=ui.aY g hg;have UH:e.put≠(u:Int):=by omega
    refine⟨i',by rw[bH kx];exact d,_,jy e fX UH,e3,e4,?_,?_⟩
    ·unfold gI;dsimp only;rw[if_neg UH];exact e5
    ·unfold gI;dsimp only;rw[if_neg (by rw[e6];exact Wa)];exact e6
end
end WB
