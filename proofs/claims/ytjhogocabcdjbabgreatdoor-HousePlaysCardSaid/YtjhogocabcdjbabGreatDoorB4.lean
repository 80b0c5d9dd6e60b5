import Derived.Lib.AppendIntMem
import Derived.Test.YtjhogocabcdjbabGreatDoorShelf
import Derived.Lib.AtoiErrMem
import Derived.Test.YtjhogocabcdjbabGreatDoorB3
set_option linter.unusedSimpArgs false
set_option linter.unusedVariables false
set_option maxRecDepth 100000
set_option maxHeartbeats 8000000
namespace Go.Proofs.YtjhogocabcdjbabGreatDoor
open Tryz
open Go Go.RowKit WB
theorem RU(w0:World)(L:List HP)(A:HP)(b n:Nat)(R:Rh)(k m:Int)(a:Option Addr)(cap:Nat)(l:List Ms)(hB:gd n R)(hn:n+250<=80000)(hA:∀w R,St w0 (A::R) w->qX w 5 dy (.slice a l.length cap) l)(hl:l.length<=250)(dM:∀m∈l,m.body.size<=maxLen/\m.queue.size<=maxLen):
 KC prog 102 #[fK b,.int .i64 k,.int .i64 m,.slice a l.length cap] w0 (gL b R::A::L) (fun u M=>u=.tuple #[.int .i64 (rh R k m l),.int .i64 (nw R k m l)]/\M=gL b (qJ R k m l)::A::L):=by
 have early:∀(e:Int) (w':World),e≠0->nw R k m l=e->pV R k m l=false->St w0 (gL b R::A::L) w'->∃v L',Ending.returned (.tuple #[.int .i64 0,.int .i64 e])=Ending.returned v/\(v=.tuple #[.int .i64 (rh R k m l),.int .i64 (nw R k m l)]/\L'=gL b (qJ R k m l)::A::L)/\St w0 L' w':=fun e w' he hE hg hs=>by
  refine⟨_,_,rfl,⟨?_,rfl⟩,?_⟩
  ·unfold rh;rw[if_pos (by rw[hE];exact he),hE]
  ·rw[show qJ R k m l=R by unfold qJ;rw[if_pos hg]];exact hs
 refine KC.mk (n:=172) func102 rfl ntmps102 ai ?_;refine iz ?_;refine EJ ?_;refine KO.ce (cp:=[]) rfl rfl rfl call89 rfl (rT w0 _ _ b R k .head) ?_;rintro v' L' ⟨rfl,rfl⟩;refine oJ ?_;cases ho:dA R k with
 |false=>
  refine JV ?_;refine yg ?_;refine KQ.dG rfl rfl rfl (fun w' aM=>early 2 w' ah (by unfold nw;rw[if_pos ho]) (by unfold pV rV;rw[ho];rfl) (aM.all ft))
 |true=>
 have NB:¬dA R k=false:=by rw[ho];decide
 have hk:0<=k/\k<=3:=by unfold dA at ho;simp at ho;omega
 obtain⟨j,rfl⟩:∃j:Nat,k=(j:Int):=⟨k.toNat,by omega⟩;have hj:j<4:=by omega
 refine J4 ?_;refine K.bV (fun _ h=>cI h) ?_;rintro⟨V,hV⟩;dsimp only;have ku:=hV.ps;have sv:=hV.al;have hid:=hB.id;have P4:(du V R)[27]? =some (.bool R.down):=jS hV 1;have Xl:(du V R)[22+j]? =some (.int .i64 (R.ar j)):=IM hV hj;have c0:(du V R)[0]? =some (.int .i64 R.id):=rfl;obtain⟨MP,ha9⟩:=hB.ark j;refine g_ ?_;refine Xy ?_;refine Z3 ?_;refine K.cond rfl (fun hd=>?_) (fun hd=>?_)
 ·refine yg ?_;refine KQ.dG rfl rfl rfl (fun w' aM=>early 6 w' ah (by unfold nw;rw[if_neg NB,if_pos hd]) (by unfold pV rV;rw[ho,hd];rfl) (bX V hV (aM.all ft)))
 have Eu:¬R.down=true:=by rw[hd];decide
 have hE:nw R (j:Int) m l=if m<=R.ar j then 0 else if R.ar j+1<m then 10 else if l.any (gS R)=true then 1 else if h_ (l.map (·.id)) (iS R)=true then 9 else eB R:=by unfold nw;rw[if_neg NB,if_neg Eu,aE]
 have hG:pV R (j:Int) m l=(decide (m=R.ar j+1)&& !l.any (gS R)&& !h_ (l.map (·.id)) (iS R)):=by unfold pV rV;rw[ho,hd,aE];simp
 refine BT ?_;refine iD ?_;refine T1 ?_;refine Iv ?_;refine KO.bO (b:=b) (i:=22+j) rfl rfl isAgg3 br xI Xl rfl ?_;refine EJ ?_;refine KO.leq rfl rfl rfl ?_;refine Z3 ?_;refine K.bn rfl (fun h6=>?_) (fun h6=>?_)
 ·rw[if_pos h6]at hE;refine JR ?_;refine KQ.dG rfl rfl rfl (fun w' aM=>⟨_,_,rfl,⟨?_,rfl⟩,?_⟩)
  ·unfold rh;rw[if_neg (by rw[hE];decide),aE,if_pos h6,hE]
  ·rw[show qJ R (j:Int) m l=R by unfold qJ;rw[if_pos (by rw[hG,decide_eq_false ae];rfl)]];exact bX V hV (aM.all ft)
 rw[if_neg h6]at hE;refine BT ?_;refine vO ?_;refine JN ?_;refine Z3 ?_;refine K.bn rfl (fun h8=>?_) (fun h8=>?_)
 ·rw[if_pos ae]at hE;refine yg ?_;refine KQ.dG rfl rfl rfl (fun w' aM=>early 10 w' ah hE (by rw[hG,decide_eq_false ae];rfl) (bX V hV (aM.all ft)))
 have hm:m=R.ar j+1:=by omega
 rw[if_neg ae]at hE;rw[decide_eq_true hm,Bool.true_and]at hG;have NJ:∀(i:Nat) x,l[i]? =some x->∀w R,St w0 (A::R) w->∃ad,a=some ad/\cz w (ad.add (i *5)) (dy x):=fun i x hx w R hw=>by
  obtain⟨a',c',e,hc⟩:=hA w R hw;simp only[Value.slice.injEq]at e;obtain⟨rfl,-,-⟩:=e;exact hc i x hx
 refine qp ?_;refine Is ?_;refine Va ?_;refine KQ.next ?_
 refine K.cut (fun _:Unit=>[(0,fK b),(1,.int .i64 (j:Nat)),(3,.slice a l.length cap),(10,.int .i64 (R.ar j))]) (fun _=>l4 b V R (A::L)) (fun _=>l.any (gS R)=false) ?_ ?_
 ·refine K.block ?_;refine K.loop (fun i:Nat=>[(0,fK b),(1,.int .i64 (j:Nat)),(3,.slice a l.length cap),(10,.int .i64 (R.ar j)),(46,.slice a l.length cap),(47,.int .i64 (l.length:Nat)),(48,.int .i64 (i:Nat))]) (fun _=>l4 b V R (A::L)) (fun i=>i<=l.length/\(l.take i).any (gS R)=false) (fun i=>l.length-i) 0
   ⟨aH _,rfl⟩ ⟨rfl,rfl,rfl,rfl,rfl,rfl,rfl,trivial⟩ (fun w' aM=>aM.all ft) ?_
  rintro i ⟨hi,mU⟩;by_cases h13:i<l.length
  ·obtain⟨x,hx⟩:∃e,l[i]? =some e:=⟨l[i],ak h13⟩;have gP:(l.take (i+1)).any (gS R)=gS R x:=by rw[a_ hx,List.any_append,mU];simp
   have US:gS R x=true->l.any (gS R)=true:=fun h=>List.any_eq_true.2 ⟨x,ax hx,h⟩
   obtain⟨r7,vp⟩:=dM x (ax hx);have done:gS R x=true->∀w',St w0 (gL b R::A::L) w'->∃v L',Ending.returned (.tuple #[.int .i64 0,.int .i64 1])=Ending.returned v/\(v=.tuple #[.int .i64 (rh R (j:Int) m l),.int .i64 (nw R (j:Int) m l)]/\L'=gL b (qJ R (j:Int) m l)::A::L)/\St w0 L' w':=fun h w' aM=>
    early 1 w' ah (by rw[hE,if_pos (US h)]) (by rw[hG,US h];rfl) aM
   refine K.fact (fun w hw=>by obtain⟨ad,h,-⟩:=NJ i x hx w _ (hw.pick (A:=A) aQ);exact(⟨ad,h⟩:∃ad,a=some ad)) ?_;rintro⟨ad,rfl⟩;refine lW ?_;refine J2 ?_;refine QE ?_;refine KO.QW (cs:=(dy x).toArray) rfl rfl isAgg44 sizeOf44 rfl (fun w hw=>by obtain⟨ad2,h,hc⟩:=NJ i x hx w _ (hw.pick (A:=A) aQ);cases h;exact hc) rfl ?_;refine KO.alloc rfl zeroValue44 aN rfl ?_;intro b12;refine tX ?_;cases hr:bD x with
   |false=>
    refine Z71 ?_;refine KO.ce rfl rfl rfl call188 rfl (q9 w0 _ x r7 vp) ?_;rintro v' L' ⟨rfl,rfl⟩;rw[hr];refine pC ?_;refine vJ ?_;refine XB ?_;refine uk ?_;refine BW ?_;refine Kb ?_;refine EV ?_;refine iz ?_;refine nX ?_;refine KQ.dG rfl rfl rfl (fun w' aM=>done (by unfold gS;rw[hr];rfl) w' (bX V hV (aM.all Y4)))
   |true=>
   have Pj:=(bG hr).1;by_cases h1:x.bF=R.id
   ·by_cases h2:x.id%4=R.id
    ·refine Z71 ?_;refine KO.ce rfl rfl rfl call188 rfl (q9 w0 _ x r7 vp) ?_;rintro v' L' ⟨rfl,rfl⟩;rw[hr];refine pC ?_;refine qW ?_;refine NO ?_;refine KO.on rfl rfl rfl ?_;refine KO.bO (cs:=dy x) (i:=4) rfl rfl isAgg3 br rfl rfl rfl ?_;refine lX ?_;refine Hw ?_;refine Ka ?_;refine KO.on rfl rfl rfl ?_;refine KO.bO (i:=0) rfl rfl isAgg3 aQ rfl c0 rfl ?_;refine Ht ?_;refine TK ?_;refine KO.on rfl rfl Bt ?_;refine KO.bO (cs:=dy x) (i:=0) rfl rfl isAgg3 br rfl rfl rfl ?_;refine KO.on rfl rfl Bt ?_;refine KO.rem rfl rfl ae Pj rfl ?_;refine sh ?_;refine yW ?_;refine BU ?_;refine Ka ?_;refine KO.on rfl rfl Bt ?_;refine KO.bO (i:=0) rfl rfl isAgg3 aQ rfl c0 rfl ?_;refine sh ?_;refine EF ?_;refine HU ?_;refine K.bW rfl (by(simp[h1,h2];done)) ?_;refine iz ?_;refine nX ?_;refine KQ.dG rfl rfl rfl (fun w' aM=>done (by unfold gS;simp[h2]) w' (bX V hV (aM.all Y4)))
    ·refine Z71 ?_;refine KO.ce rfl rfl rfl call188 rfl (q9 w0 _ x r7 vp) ?_;rintro v' L' ⟨rfl,rfl⟩;rw[hr];refine pC ?_;refine qW ?_;refine NO ?_;refine KO.on rfl rfl rfl ?_;refine KO.bO (cs:=dy x) (i:=4) rfl rfl isAgg3 br rfl rfl rfl ?_;refine lX ?_;refine Hw ?_;refine Ka ?_;refine KO.on rfl rfl rfl ?_;refine KO.bO (i:=0) rfl rfl isAgg3 aQ rfl c0 rfl ?_;refine Ht ?_;refine TK ?_;refine KO.on rfl rfl Bt ?_;refine KO.bO (cs:=dy x) (i:=0) rfl rfl isAgg3 br rfl rfl rfl ?_;refine KO.on rfl rfl Bt ?_;refine KO.rem rfl rfl ae Pj rfl ?_;refine sh ?_;refine yW ?_;refine BU ?_;refine Ka ?_;refine KO.on rfl rfl Bt ?_;refine KO.bO (i:=0) rfl rfl isAgg3 aQ rfl c0 rfl ?_;refine sh ?_;refine EF ?_;refine HU ?_;refine K.ct rfl (by(simp[h1,h2];done)) ?_;refine lY ?_;refine KQ.round (i+1) ⟨by omega,?_⟩ ae ⟨rfl,rfl,rfl,rfl,rfl,rfl,rfl,trivial⟩ (fun _ h=>h.all Y4);rw[gP];unfold gS;simp[hr,h1,h2]
   ·refine Z71 ?_;refine KO.ce rfl rfl rfl call188 rfl (q9 w0 _ x r7 vp) ?_;rintro v' L' ⟨rfl,rfl⟩;rw[hr];refine pC ?_;refine qW ?_;refine NO ?_;refine KO.on rfl rfl rfl ?_;refine KO.bO (cs:=dy x) (i:=4) rfl rfl isAgg3 br rfl rfl rfl ?_;refine lX ?_;refine Hw ?_;refine Ka ?_;refine KO.on rfl rfl rfl ?_;refine KO.bO (i:=0) rfl rfl isAgg3 aQ rfl c0 rfl ?_;refine Ht ?_;refine B1 ?_;refine Vd ?_;refine B2 ?_;refine K.bW rfl Bt ?_;refine iz ?_;refine nX ?_;refine KQ.dG rfl rfl rfl (fun w' aM=>done (by unfold gS;simp[h1]) w' (bX V hV (aM.all Y4)))
  ·obtain rfl:i=l.length:=by omega
   rw[List.take_length]at mU;refine Hu ?_;refine U_ ?_;exact KQ.kT () mU ⟨rfl,rfl,rfl,rfl,trivial⟩ (fun w' aM=>aM.all ft)
 rintro⟨⟩ mU
 try dsimp only
 have lV:∀x∈l,0<=x.id/\x.id<=1099511627776:=fun x hx=>by
  have h1:gS R x=false:=by
   rw[List.any_eq_false]at mU;simpa using mU x hx
  have h2:=bG (FF h1).1;exact⟨h2.1,h2.2.1⟩
 rw[mU]at hE hG;rw[if_neg ah]at hE;rw[Bool.not_false,Bool.true_and]at hG;have Ra:(V.ps.drop 4).length=R.keys.length:=by rw[bf];omega
 have S2:∀r,r<R.keys.length->∃p,V.ps[4+r]? =some p/\(eZ R.keys (V.ps.drop 4)).getD r default=(R.keys.getD r ⟨#[]⟩,fK p):=fun r hr=>by
  obtain⟨p,hp⟩:∃e,V.ps[4+r]? =some e:=⟨_,ak ae⟩;refine⟨p,hp,?_⟩;have iq:(V.ps.drop 4)[r]? =some p:=by rw[List.getElem?_drop];exact hp
  unfold eZ;rw[au,List.getElem?_zipWith,iq,ak hr,au,ak hr];rfl
 refine Z2 ?_;refine KO.ZZ (Value.int .i64) rfl rfl ?_;intro U5;refine jo ?_;refine iD ?_;refine XI ?_;refine KO.YC rfl rfl underlying89 aQ rfl ?_;intro r80;refine jk ?_;refine KQ.next ?_
 refine K.cut (fun _:List (Int×Value)=>(13,.map (some U5))::[(0,fK b),(1,.int .i64 (j:Nat)),(3,.slice a l.length cap),(10,.int .i64 (R.ar j))]) (fun mm=>bP (Value.int .i64) U5 mm::l4 b V R (A::L)) (fun mm=>Ea (iS R) mm) ?_ ?_
 ·refine K.block ?_;refine K.loop (fun p:List Nat×List Nat×List (Int×Value)×Option (aj×Value)=>(80,.pointer (some ⟨r80,0,none⟩))::(13,.map (some U5))::[(0,fK b),(1,.int .i64 (j:Nat)),(3,.slice a l.length cap),(10,.int .i64 (R.ar j))])
   (fun p=>CY Value.string V.mb r80 (eZ R.keys (V.ps.drop 4)) (p.1.map fun r=>(eZ R.keys (V.ps.drop 4)).getD r default) p.2.2.2::bP (Value.int .i64) U5 p.2.2.1::bA b (.cells (du V R).toArray 97 (0,0))::fb V.nv R.names::bI gR V.ps R.all::bI (mZ V.ps) V.us R.ay::bI ly V.ds R.bQ::A::L)
   (fun p=>(p.2.1++p.1).Perm (List.range R.keys.length)/\Ea (zm R p.2.1) p.2.2.1) (fun p=>p.1.length) (List.range R.keys.length,[],[],none)
   ⟨by simp,ON⟩ ⟨rfl,rfl,rfl,rfl,rfl,rfl,trivial⟩ (fun _ h=>?_) ?_
  ·dsimp only;rw[tF Ra];exact h.all ft
  rintro⟨rest,done,mm,cur⟩ ⟨dQ,sr⟩;dsimp only at dQ sr ⊢;refine Z2 ?_;refine KO.BD rfl rfl br rfl (fun h0=>?_) (fun i2 e he=>?_);refine x9 ?_
  ·have iO:rest=[]:=by simpa using h0
   subst iO;rw[List.append_nil]at dQ;refine oI ?_;refine U_ ?_;exact KQ.kT mm (yG sr (LU hB dQ)) ⟨rfl,rfl,rfl,rfl,rfl,trivial⟩ (fun w' aM=>aM.all Y7)
  obtain⟨r,hr,rfl⟩:∃r,rest[i2]? =some r/\(eZ R.keys (V.ps.drop 4)).getD r default=e:=by
   rw[aG]at he;cases hr:rest[i2]? with
   |none=>rw[hr]at he;cases he
   |some r=>rw[hr]at he;exact⟨r,rfl,by simpa using he⟩
  have Ad:r<R.keys.length:=by
   have :r∈List.range R.keys.length:=dQ.mem_iff.1 (List.mem_append_right _ (ax hr));simpa using this
  obtain⟨p,hp,lP⟩:=S2 r Ad;rw[lP];refine x9 ?_;refine xa ?_;refine si ?_;refine Ng ?_;refine jL ?_;have Im:=hB.lq (4+r);have Wt:R.all[4+r]? =some (R.lq (4+r)):=nB ae;have YP:∀x,zm R (done++[r]) x=(zm R done x||(R.lq (4+r)).any fun e=>decide (e.m.id=x)):=fun x=>by unfold zm;rw[List.any_append];simp
  generalize R.lq (4+r)=ql at Im Wt YP ⊢;refine K.conv (fun w h=>cM (f:=gR) hp Wt (h.pick (A:=bI gR V.ps R.all) aQ)) ?_
  refine K.bV (fun _ h=>gF h) fun qv=>?_
  refine K.fact (fun w hw=>bo (E:=271) (sz:=7) (cf:=pU) (v:=qv) (xs:=ql) (hw.pick aQ)) ?_;rintro⟨aq,cq,rfl,hgq⟩;refine cW ?_;refine XW ?_;refine KO.bO (b:=p) (cs:=[.slice aq ql.length cq]) (i:=0) rfl rfl isAgg169 br rfl rfl rfl ?_;refine TM ?_;refine K.loop (fun q:Nat×List (Int×Value)=>(88,.slice aq ql.length cq)::(89,.int .i64 (ql.length:Nat))::(90,.int .i64 (q.1:Nat))::(80,.pointer (some ⟨r80,0,none⟩))::(13,.map (some U5))::[(0,fK b),(1,.int .i64 (j:Nat)),(3,.slice a l.length cap),(10,.int .i64 (R.ar j))])
   (fun q=>CY Value.string V.mb r80 (eZ R.keys (V.ps.drop 4)) ((rest.map fun r=>(eZ R.keys (V.ps.drop 4)).getD r default).eraseIdx i2) (some (R.keys.getD r ⟨#[]⟩,fK p))::bP (Value.int .i64) U5 q.2::DT p (.slice aq ql.length cq)::s8 (.slice aq ql.length cq) ql::bI gR (V.ps.eraseIdx (4+r)) (R.all.eraseIdx (4+r))::bA b (.cells (du V R).toArray 97 (0,0))::fb V.nv R.names::bI (mZ V.ps) V.us R.ay::bI ly V.ds R.bQ::A::L)
   (fun q=>q.1<=ql.length/\Ea (fun x=>zm R done x||(ql.take q.1).any fun e=>decide (e.m.id=x)) q.2) (fun q=>ql.length-q.1) (0,mm)
   ⟨aH _,yG sr fun x=>by simp⟩ ⟨rfl,rfl,rfl,rfl,rfl,rfl,rfl,rfl,rfl,trivial⟩ (fun _ h=>h.all Y7) ?_
  rintro⟨i,m2⟩ ⟨hi,Er⟩;dsimp only at hi Er ⊢;by_cases h21:i<ql.length
  ·obtain⟨x,hx⟩:∃e,ql[i]? =some e:=⟨ql[i],ak h21⟩;obtain⟨gq,rfl⟩:=hgq ae;refine lW ?_;refine J2 ?_;refine KO.gO (i:=i) rfl rfl runUnderlying169 sizeOf271 rfl ae rfl ?_;refine KO.BE (i:=i) (sz:=7) (cf:=pU) rfl rfl isAgg271 sizeOf271 aQ (fun _=>rfl) hx rfl ?_;refine KO.alloc rfl zeroValue271 aN rfl ?_;intro b17;refine Nh ?_;refine Z3 ?_;refine cW ?_;refine QC ?_;refine Nj ?_;refine KO.bO (b:=b17) (cs:=pU x) (i:=0) rfl rfl isAgg3 br rfl rfl rfl ?_;refine KO.Yz I_ x.m.id rfl rfl rfl rfl underlying35 underlying3 aQ ?_;refine pE ?_;refine KQ.round (i+1,iU m2 x.m.id (.bool true)) ⟨by dsimp only;omega,?_⟩ fZ ⟨rfl,rfl,rfl,rfl,rfl,rfl,rfl,rfl,rfl,trivial⟩ (fun _ h=>h.all Y4);dsimp only;refine yG (F5 Er x.m.id) fun y=>?_
   rw[a_ hx,List.any_append,<-Bool.or_assoc];have :decide (y=x.m.id)=decide (x.m.id=y):=by simp[eq_comm]
   simp[this]
  ·obtain rfl:i=ql.length:=by omega
   rw[List.take_length]at Er;refine lW ?_;refine acm ?_;refine KQ.round (rest.eraseIdx i2,done++[r],m2,some (R.keys.getD r ⟨#[]⟩,fK p)) ⟨?_,yG Er fun x=>(YP x).symm⟩ ?_ ⟨rfl,rfl,rfl,rfl,rfl,rfl,trivial⟩ (fun _ h=>?_)
   ·dsimp only;refine List.Perm.trans ?_ dQ;rw[aR];refine(List.Perm.refl done).append ?_;obtain⟨S5,rfl⟩:=aw.1 hr;exact oe S5
   ·dsimp only;have S5:=(aw.1 hr).1;rw[List.length_eraseIdx,if_pos S5];omega
   ·dsimp only;rw[<-p8];have h2:=lR (h.ey (A:=DT p (.slice aq ql.length cq)) (B:=s8 (.slice aq ql.length cq) ql) aQ aQ);have h3:=fY (f:=gR) hp Wt (h2.ey (A:=gR p ql) (B:=bI gR (V.ps.eraseIdx (4+r)) (R.all.eraseIdx (4+r))) br aQ);exact h3.all Y7
 rintro mm sr
 try dsimp only
 refine m_ ?_;refine Is ?_;refine Va ?_;refine KQ.next ?_
 refine K.cut (fun _:Unit=>[(0,fK b),(1,.int .i64 (j:Nat)),(3,.slice a l.length cap),(10,.int .i64 (R.ar j))]) (fun _=>l4 b V R (A::L)) (fun _=>h_ (l.map (·.id)) (iS R)=false) ?_ ?_
 ·refine K.block ?_;refine K.loop (fun q:Nat×List (Int×Value)×(Int->Bool)=>(99,.slice a l.length cap)::(100,.int .i64 (l.length:Nat))::(101,.int .i64 (q.1:Nat))::(13,.map (some U5))::[(0,fK b),(1,.int .i64 (j:Nat)),(3,.slice a l.length cap),(10,.int .i64 (R.ar j))]) (fun q=>bP (Value.int .i64) U5 q.2.1::l4 b V R (A::L)) (fun q=>q.1<=l.length/\Ea q.2.2 q.2.1/\h_ (l.map (·.id)) (iS R)=h_ ((l.drop q.1).map (·.id)) q.2.2) (fun q=>l.length-q.1) (0,mm,iS R)
   ⟨aH _,sr,rfl⟩ ⟨rfl,rfl,rfl,rfl,rfl,rfl,rfl,rfl,trivial⟩ (fun w' aM=>aM.all ft) ?_
  rintro⟨i,m2,pf⟩ ⟨hi,Er,ug⟩;dsimp only at hi Er ug ⊢;by_cases h26:i<l.length
  ·obtain⟨x,hx⟩:∃e,l[i]? =some e:=⟨l[i],ak h26⟩;have ot:l.drop i=x::l.drop (i+1):=by
    obtain⟨h1,rfl⟩:=aw.1 hx;exact List.drop_eq_getElem_cons h1
   rw[ot,aJ,h_]at ug;have hg:=Er x.id;refine K.fact (fun w hw=>by obtain⟨ad,h,-⟩:=NJ i x hx w _ (hw.pick (A:=A) aQ);exact(⟨ad,h⟩:∃ad,a=some ad)) ?_;rintro⟨ad,rfl⟩;refine lW ?_;refine J2 ?_;refine QE ?_;refine KO.QW (cs:=(dy x).toArray) rfl rfl isAgg44 sizeOf44 rfl (fun w hw=>by obtain⟨ad2,h,hc⟩:=NJ i x hx w _ (hw.pick (A:=A) aQ);cases h;exact hc) rfl ?_;refine KO.alloc rfl zeroValue44 aN rfl ?_;intro b19;refine tX ?_;refine cW ?_;refine abX ?_;refine KO.zW I_ x.id rfl rfl rfl underlying35 underlying3 zeroValue4 aQ rfl ?_;rw[hg];refine Z3 ?_;refine K.cond rfl (fun hp=>?_) (fun hp=>?_)
   ·rw[hp,Bool.true_or]at ug;refine iz ?_;refine nX ?_;refine KQ.dG rfl rfl rfl (fun w' aM=>early 9 w' ah (by rw[hE,if_pos ug]) (by rw[hG,ug];rfl) (bX V hV (aM.all Y4)))
   ·rw[hp,Bool.false_or]at ug;refine Nb ?_;refine cW ?_;refine abX ?_;refine KO.Yz I_ x.id rfl rfl rfl rfl underlying35 underlying3 aQ ?_;refine pE ?_;refine KQ.round (i+1,iU m2 x.id (.bool true),fun y=>pf y||decide (y=x.id)) ⟨by dsimp only;omega,F5 Er x.id,ug⟩ fZ ⟨rfl,rfl,rfl,rfl,rfl,rfl,rfl,rfl,trivial⟩ (fun _ h=>h.all Y4)
  ·obtain rfl:i=l.length:=by omega
   rw[List.drop_length,List.map_nil,h_]at ug;refine Hu ?_;refine U_ ?_;exact KQ.kT () ug ⟨rfl,rfl,rfl,rfl,trivial⟩ (fun w' aM=>aM.all Y4)
 rintro⟨⟩ ug
 try dsimp only
 rw[ug]at hE hG;rw[if_neg ah]at hE;have hS:qJ R (j:Int) m l=if eB R≠0 then eP R else l.foldl dB {eP R with aC:=R.aC.set j (R.ar j+1)}:=by unfold qJ;rw[if_neg (by rw[hG];decide),aE]
 refine m_ ?_;refine KO.cl (cp:=[]) rfl rfl rfl call86 rfl (KC.jN br (oT w0 _ b n V R hV hB)) ?_;rintro v' L' ⟨rfl,rfl⟩;refine jL ?_;obtain⟨-,wn,wk,wa,wu,wd,-,-,-,war⟩:=ib R;have iB:=zw hV;have kG:=hB.w;refine cW ?_;refine tY ?_;refine K.bn rfl (fun hw=>?_) (fun hw=>?_)
 ·refine JR ?_;refine KQ.dG rfl rfl rfl (fun w' aM=>⟨_,_,rfl,⟨?_,rfl⟩,?_⟩)
  ·unfold rh;rw[hE,if_pos hw]
  rw[hS,if_pos hw];refine bX V iB ?_;unfold l4;rw[wn,wk,wa,wu,wd];exact aM.all ft
 rw[if_neg hw]at hS;have GJ:nw R (j:Int) m l=0:=by rw[hE];simpa using hw
 have hN:rh R (j:Int) m l=R.ar j+1:=by unfold rh;rw[if_neg (by rw[GJ];decide),aE,if_neg h6]
 have WT:(eP R).ar j=R.ar j:=by unfold Rh.ar;rw[war]
 rw[<-war,<-WT]at hS;rw[<-WT]at hN MP ha9 ⊢
 refine K.conv (L':=l4 b V (eP R) (A::L)) (fun w h=>by
  unfold l4
  rw[wn,wk,wa,wu,wd];exact h.all ft) ?_
 clear hE hw hG hd Eu P4 Xl c0 S2 Ra wn wk wa wu wd war WT ug sr mU h6 h8 hm;clear early;clear ho NB hV hB ku sv hid;generalize eP R=R1 at hS iB kG hN MP ha9 ⊢;have hlen:=fL iB;have Xl:(du V R1)[22+j]? =some (.int .i64 (R1.ar j)):=IM iB hj;refine Z6 ?_;refine Ud ?_;refine iD ?_;refine T1 ?_;refine Iv ?_;refine KO.bO (b:=b) (i:=22+j) rfl rfl isAgg3 br xI Xl rfl ?_;refine Hn ?_;refine T1 ?_;refine Iv ?_;refine KO.fu (b:=b) (i:=22+j) rfl rfl rfl aN uc rfl br xI Yr ?_;rw[IL iB hj];refine Z0 ?_;have NH:gd (n+1) {R1 with aC:=R1.aC.set j (R1.ar j+1)}:=by
  have h1:=kG.le (Nat.le_succ n);refine⟨h1.id,h1.fT,h1.right,h1.al,h1.Ed,h1.nodup,h1.dead,h1.loc,h1.len,h1.ids,h1.un,h1.Bw,h1.dq,h1.count,h1.fD,h1.db,h1.GV,h1.md,⟨by simp[h1.ar.1],fun x hx=>?_⟩,h1.used,h1.left⟩;rcases aD hx with h2|h2
  ·exact h1.ar.2 x h2
  ·rw[h2];omega
 have lI:dz V {R1 with aC:=R1.aC.set j (R1.ar j+1)}:=iB.same rfl rfl rfl rfl rfl ai;generalize R1.ar j=ar0 at hS hN MP ha9 NH lI ⊢;refine K.conv (L':=l4 b V {R1 with aC:=R1.aC.set j (ar0+1)} (A::L)) (fun w h=>h.all ft) ?_
 generalize ({R1 with aC:=R1.aC.set j (ar0+1)}:Rh)=R2 at hS NH lI ⊢;refine cW ?_;refine BY ?_;refine K.loop (fun i:Nat=>[(0,fK b),(10,.int .i64 ar0),(128,.slice a l.length cap),(129,.int .i64 (l.length:Nat)),(130,.int .i64 (i:Nat))]) (fun i=>l4 b V ((l.take i).foldl dB R2) (A::L)) (fun i=>i<=l.length) (fun i=>l.length-i) 0 (aH _) ⟨rfl,rfl,rfl,rfl,rfl,trivial⟩ (fun _ h=>h) ?_;intro i hi;have WZ:=NH.AJ (l.take i) (fun x hx=>lV x (List.mem_of_mem_take hx));have E8:=lI.AJ (l.take i);rw[bu]at WZ;by_cases h37:i<l.length
 ·obtain⟨x,hx⟩:∃e,l[i]? =some e:=⟨l[i],ak h37⟩;have gP:(l.take (i+1)).foldl dB R2=dB ((l.take i).foldl dB R2) x:=by rw[a_ hx,List.foldl_append];rfl
  generalize (l.take i).foldl dB R2=Rk at WZ E8 gP ⊢;have ku:=E8.ps;have sv:=E8.al;have xU:=WZ.fT;obtain⟨qd,hqd⟩:=WZ.dead;have ajm:=CW hqd;have WI:=vV E8 cr;rw[hqd]at WI;dsimp only at WI;have heq:=vV E8 x.queue;refine K.fact (fun w hw=>by obtain⟨ad,h,-⟩:=NJ i x hx w _ (hw.pick (A:=A) aQ);exact(⟨ad,h⟩:∃ad,a=some ad)) ?_;rintro⟨ad,rfl⟩;refine lW ?_;refine J2 ?_;refine QE ?_;refine KO.QW (cs:=(dy x).toArray) rfl rfl isAgg44 sizeOf44 rfl (fun w hw=>by obtain⟨ad2,h,hc⟩:=NJ i x hx w _ (hw.pick (A:=A) aQ);cases h;exact hc) rfl ?_;refine KO.alloc rfl zeroValue44 aN rfl ?_;intro NM;refine tX ?_;refine g_ ?_;refine XI ?_;refine KO.zW dD cr rfl rfl rfl underlying89 underlying9 zeroValue90 aQ rfl ?_;rw[WI];refine jL ?_;refine K.cut (fun v:Bool=>[(0,fK b),(10,.int .i64 ar0),(22,.pointer (some ⟨NM,0,none⟩)),(23,fK (V.ps.getD (4+qd) 0)),(158,.bool v),(128,.slice (some ad) l.length cap),(129,.int .i64 (l.length:Nat)),(130,.int .i64 (i:Nat))]) (fun _=>bA NM (.cells (dy x).toArray 44 (0,0))::l4 b V Rk (A::L)) (fun v=>(v=true->∃q,Rk.kI x.queue=some q/\fP Rk x=4+q)/\(v=false->fP Rk x=4+qd)) ?_ ?_
  ·cases Jm:dJ Rk.names x.queue with
   |false=>
    have qi:fP Rk x=4+qd:=by unfold fP;rw[if_neg (fun h=>by rw[Jm]at h;exact absurd h.1 ah),hqd];rfl
    refine acz ?_;refine LA ?_;refine abW ?_;refine KO.ce (cp:=[]) rfl rfl rfl call182 rfl (rb w0 _ _ _ b 1 (du V Rk) 97 V.nv Rk.names x.queue aQ aQ rfl ae) ?_;rintro v' L' ⟨rfl,rfl⟩;rw[Jm];refine BW ?_;refine Kb ?_;refine Kb ?_;refine Kb ?_;refine tW ?_;refine jk ?_;exact KQ.kT false ⟨fun h=>(by cases h),fun _=>qi⟩ ⟨rfl,rfl,rfl,rfl,rfl,rfl,rfl,rfl,trivial⟩ (fun w' aM=>aM.all ft)
   |true=>
    obtain⟨q,hq⟩:=WZ.loc x.queue Jm;have Ik:=CW hq;rw[hq]at heq;dsimp only at heq;obtain⟨p,hp⟩:∃e,V.ps[4+q]? =some e:=⟨_,ak ae⟩;have BH:V.ps.getD (4+q) 0=p:=by rw[au,hp];rfl
    have Wt:Rk.all[4+q]? =some (Rk.lq (4+q)):=nB ae;have Im:=WZ.lq (4+q);have qi:fP Rk x=if(Rk.lq (4+q)).length<20 then 4+q else 4+qd:=by unfold fP;rw[Jm,hq,hqd];simp
    generalize Rk.lq (4+q)=ql at Wt Im qi;rw[BH]at heq;refine K.conv (fun w h=>cM (f:=gR) hp Wt (h.pick (A:=bI gR V.ps Rk.all) aQ)) ?_
    refine K.bV (fun _ h=>gF h) fun qv=>?_
    refine K.fact (fun w hw=>bo (E:=271) (sz:=7) (cf:=pU) (v:=qv) (xs:=ql) (hw.pick aQ)) ?_;rintro⟨aq,cq,rfl,-⟩;have back:∀w',St w0 (DT p (.slice aq ql.length cq)::s8 (.slice aq ql.length cq) ql::bI gR (V.ps.eraseIdx (4+q)) (Rk.all.eraseIdx (4+q))::bA b (.cells (du V Rk).toArray 97 (0,0))::fb V.nv Rk.names::bP Value.string V.mb (eZ Rk.keys (V.ps.drop 4))::bI (mZ V.ps) V.us Rk.ay::bI ly V.ds Rk.bQ::bA NM (.cells (dy x).toArray 44 (0,0))::A::L) w'->St w0 (bA NM (.cells (dy x).toArray 44 (0,0))::l4 b V Rk (A::L)) w':=fun w' h=>by
     have h3:=fY (f:=gR) hp Wt ((lR h).ey (A:=gR p ql) (B:=bI gR (V.ps.eraseIdx (4+q)) (Rk.all.eraseIdx (4+q))) br br);exact h3.all Y7
    refine acz ?_;refine LA ?_;refine JM ?_;refine KO.bO (b:=NM) (cs:=dy x) (i:=3) rfl rfl isAgg9 aQ rfl rfl rfl ?_;refine KO.ce (cp:=[]) rfl rfl rfl call182 rfl (rb w0 _ _ _ b 1 (du V Rk) 97 V.nv Rk.names x.queue aQ aQ rfl ae) ?_;rintro v' L' ⟨rfl,rfl⟩;rw[Jm];refine JS ?_;refine Xx ?_;refine KO.on rfl rfl rfl ?_;refine KO.bO (b:=b) (cs:=du V Rk) (i:=2) rfl rfl isAgg89 aQ rfl rfl rfl ?_;refine lX ?_;refine JM ?_;refine KO.on rfl rfl rfl ?_;refine KO.bO (b:=NM) (cs:=dy x) (i:=3) rfl rfl isAgg9 aQ rfl rfl rfl ?_;refine KO.on rfl rfl rfl ?_;refine KO.zW dD x.queue rfl rfl rfl underlying89 underlying9 zeroValue90 aQ rfl ?_;rw[heq];refine lX ?_;refine X9 ?_;refine KO.fG (off:=0) rfl runUnderlying171 rfl rfl sizeOf169 rfl ?_;refine KO.on rfl rfl rfl ?_;refine KO.bO (b:=p) (cs:=[.slice aq ql.length cq]) (i:=0) rfl rfl isAgg169 br rfl rfl rfl ?_;refine KO.on rfl rfl rfl ?_;refine KO.len rfl underlying169 rfl ?_;refine lX ?_;refine um ?_;refine uk ?_;refine jk ?_
    exact KQ.kT (decide (((ql.length:Nat):Int)<20)) ⟨fun h=>⟨q,hq,by rw[qi,if_pos (by have :=of_decide_eq_true h;omega)]⟩,fun h=>by rw[qi,if_neg (by have :=of_decide_eq_false h;omega)]⟩ ⟨rfl,rfl,rfl,rfl,rfl,rfl,rfl,rfl,trivial⟩ (fun w' aM=>back w' (aM.all Y7))
  rintro v ⟨hvt,hvf⟩
  try dsimp only
  refine K.cut (fun _:Unit=>[(0,fK b),(10,.int .i64 ar0),(22,.pointer (some ⟨NM,0,none⟩)),(23,fK (V.ps.getD (fP Rk x) 0)),(128,.slice (some ad) l.length cap),(129,.int .i64 (l.length:Nat)),(130,.int .i64 (i:Nat))]) (fun _=>bA NM (.cells (dy x).toArray 44 (0,0))::l4 b V Rk (A::L)) (fun _=>fP Rk x<Rk.all.length) ?_ ?_
  ·cases v with
   |true=>
    obtain⟨q,hq,qi⟩:=hvt rfl;have Ik:=CW hq;rw[hq]at heq;dsimp only at heq;refine xa ?_;refine ab2 ?_;refine Xx ?_;refine KO.bO (b:=b) (cs:=du V Rk) (i:=2) rfl rfl isAgg89 aQ rfl rfl rfl ?_;refine abW ?_;refine KO.zW dD x.queue rfl rfl rfl underlying89 underlying9 zeroValue90 aQ rfl ?_;rw[heq];refine rL ?_;exact KQ.kT () (by rw[qi];omega) ⟨rfl,rfl,rfl,by rw[qi];rfl,rfl,rfl,rfl,trivial⟩ (fun w' aM=>aM.all ft)
   |false=>
    have qi:=hvf rfl;refine oI ?_;refine B3 ?_;exact KQ.kT () (by rw[qi];omega) ⟨rfl,rfl,rfl,by rw[qi];rfl,rfl,rfl,rfl,trivial⟩ (fun w' aM=>aM.all ft)
  rintro⟨⟩ o_
  try dsimp only
  obtain⟨p,hp⟩:∃e,V.ps[fP Rk x]? =some e:=⟨_,ak ae⟩;have BH:V.ps.getD (fP Rk x) 0=p:=by rw[au,hp];rfl
  have wG:=nB (R:=Rk) (q:=fP Rk x) o_;have Im:=WZ.lq (fP Rk x);rw[BH];refine cW ?_;refine KO.wB (cs:=dy x) rfl rfl isAgg44 sizeOf44 br aN rfl ?_;refine KO.cl (cp:=[]) rfl rfl rfl call186 rfl (KC.rD (φ:=fun v=>v=.tuple #[]) hp wG aQ (fun L=>DU w0 L p (Rk.lq (fP Rk x)) x (-1) ae)) ?_;rintro v' L' ⟨rfl,rfl⟩;refine pE ?_;refine KQ.round (i+1) ae ae ⟨rfl,rfl,rfl,rfl,rfl,trivial⟩ (fun w h=>?_);rw[gP];exact h.all Y4
 obtain rfl:i=l.length:=by omega
 rw[List.take_length]at E8 ⊢;refine Hu ?_;refine Ba ?_;refine vO ?_;refine nP ?_;refine KQ.dG rfl rfl rfl (fun w' aM=>⟨_,_,rfl,⟨by rw[hN,GJ],rfl⟩,?_⟩);rw[hS];exact bX V E8 (aM.all ft)
open Go Go.RowKit Go.Extern.Stop Go.Stop Go.Extern WB
abbrev atB (b:Nat) (k p:Int):HP:=bA b (.cells [Value.int .i64 k,.int .i64 p].toArray 248 (0,0))
def atV (b:Nat):Value:=.iface 247 (.pointer (some ⟨b,0,none⟩))
def ym (w:World):Prop:=Lib.TabIs prog w "internal/strconv.uint64pow10" .u64 Lib.pow10Tab
theorem ym.ext{w w':World}(h:ym w)(e:Ext w w'):ym w':=by
 unfold ym Lib.TabIs World.var? at *;cases hg:prog.globalNamed "internal/strconv.uint64pow10" with
 |none=>rw[hg]at h;simp at h
 |some g=>
  rw[hg]at h;simp only[Option.bind_some]at h ⊢;cases hb:w.heap[g]? with
  |none=>rw[hb]at h;simp at h
  |some o=>rw[e.2 g (Array.getElem?_eq_some_iff.1 hb).1,hb];rw[hb]at h;exact h
theorem nF(w0:World)(L:List HP)(n:Int)(hT:ym w0)(hn:o5 n):KE prog 59 #[.int .i64 n] w0 L (fun u M=>u=.string (ck n)/\M=L):=KE.bU fun w hw=>by
 refine(Tryz.strconv_Itoa n hn.1 hn.2 w (hT.ext (Ext.bU hw.below))).mono ?_;rintro e w' ⟨rfl,k,os,rfl⟩;exact⟨rfl,Lib.below_grow _ _ (aP _) _ _⟩
theorem zG{W W':World}{v:Value}{xs:List Ms}(h:qX W 5 dy v xs)(e:Ext W W'):qX W' 5 dy v xs:=by
 obtain⟨a,cap,rfl,hc⟩:=h;exact⟨a,cap,rfl,fun i x hx=>by obtain⟨ad,rfl,hh⟩:=hc i x hx;exact⟨ad,rfl,hh.ext e⟩⟩
def mf (s:aj):List Value:=[.string s]
abbrev ni (v:Value) (xs:List aj):HP:=SL 9 1 mf v xs
theorem nh:(prog.info? 9).map (fun i=>(i.zero,i.size,i.bytes))=some (some (Value.string ⟨#[]⟩),1,16):=by kernel_rfl
theorem zZ(w0:World)(L R:List HP)(v:Value)(xs:List aj)(sep:aj)(hp:bB L (ni v xs) R)(hn:xs.length<=1000000)(hs:(cY xs sep).size<=1000000000):KE prog 62 #[v,.string sep] w0 L (fun u M=>u=.string (cY xs sep)/\M=L):=KE.bU fun w hw=>by
 rcases(hw.pick hp).cC with⟨h1,h2,_⟩|⟨g,cap,cur,h1,h2,h3,h4,h5,h6,h7⟩
 ·have hx:xs=[]:=List.eq_nil_of_length_eq_zero h2;subst hx;subst h1;refine(Tryz.strings_Join_none none 0 sep w).mono ?_;rintro e w' ⟨rfl,rfl⟩;exact⟨rfl,Below.refl _ _⟩
 ·subst h1;have hc:∀(j:Nat) x,xs[j]? =some x->w.cell? ⟨g,0+j,none⟩=some (.string x):=fun j x hx=>by
   have :=rN (cf:=mf) (sz:=1) (fun _=>rfl) (hw.pick hp) hx 0 ah;rw[Nat.zero_add];simpa[mf]using this
  refine(Tryz.strings_Join g 0 cap xs sep w hc h7.lt ae h2 (by rw[OY];omega)).mono ?_;rintro e w' ⟨rfl,hb⟩;exact⟨rfl,hb⟩
def inC (n:Int):List Value:=[.int .i64 n]
theorem Mh(w0:World)(L:List HP)(m:Ms)(hb:m.body.size<=maxLen)(hq:m.queue.size<=maxLen):KE prog 154 #[.agg (dy m).toArray] w0 L (fun u M=>u=.bool (!bD m)/\M=L):=by
 refine KE.mk (n:=6) func154 rfl ntmps154 ai ?_;intro w hw;refine Z2 ?_;refine KO.box rfl rfl aN rfl ?_;intro b1;refine oK ?_;refine yl ?_;refine KO.ce (cp:=[]) rfl rfl rfl call145 rfl (Ky w _ m hb hq) ?_;rintro v' L' ⟨rfl,rfl⟩;refine pC ?_;refine kq ?_;refine KQ.aU rfl rfl (fun w' hs=>⟨_,_,rfl,⟨rfl,rfl⟩,hw.aA hs.below,hs.below⟩)
theorem O7(w0:World)(L:List HP)(v:Value)(xs:List Ms)(f:FuncId)(cp:List Value)(pf:Ms->Bool)(hr:∀w,St w0 L w->qX w 5 dy v xs)(hlen:xs.length<1000000)(fI:∀args w,(callFunc f args).run prog w=.ok (.enter f args) w)(qT:∀e,e∈xs->KE prog f ([]++([Value.agg (dy e).toArray]++cp)).toArray w0 L (fun v L'=>v=.bool (pf e)/\L'=L)):
 KE prog 153 #[v,.func (.func f) [].toArray cp.toArray] w0 L (fun v L'=>v=.int .i64 (oH pf xs)/\L'=L):=by
 refine KE.mk (n:=19) func153 rfl ntmps153 ai ?_;intro w hw;obtain⟨a,cap,rfl,hc⟩:=hr w hw;refine lg ?_;refine BY ?_;refine K.loop (fun k:Nat=>[(0,.slice a xs.length cap),(1,.func (.func f) [].toArray cp.toArray),(7,.int .i64 (xs.length:Nat)),(8,.int .i64 (k:Nat))]) (fun _=>[]) (fun k=>k<=xs.length/\∀(j:Nat) (u:Ms),j<k->xs[j]? =some u->pf u=false) (fun k=>xs.length-k) 0 ⟨by omega,fun j u h=>by omega⟩ ⟨rfl,rfl,rfl,rfl,trivial⟩ (fun _ h=>h) ?_;rintro k ⟨hk,mU⟩;refine lW ?_;refine K.bn rfl (fun h=>?_) (fun h=>?_)
 ·have dN:k<xs.length:=by omega
  obtain⟨e,he⟩:∃e,xs[k]? =some e:=⟨xs[k],ak dN⟩;obtain⟨ad,rfl,hh⟩:=hc k e he;refine sy ?_;refine jo ?_;refine gZ ?_;refine XJ ?_;refine KO.vf (cs:=(dy e).toArray) rfl rfl isAgg44 sizeOf44 rfl hh rfl ?_;refine KO.ce rfl rfl rfl fI rfl ((qT e (ax he)).kP hw) ?_;rintro v L' ⟨rfl,rfl⟩;refine Z3 ?_;refine K.cond rfl (fun h1=>?_) (fun h1=>?_)
  ·refine m_ ?_;refine nX ?_;refine KQ.aU rfl rfl (fun w' hs=>⟨_,_,rfl,⟨?_,rfl⟩,hw.aA hs.below,hs.below⟩);rw[rB he h1 mU]
  ·refine lY ?_;refine KQ.round (k+1) ⟨by omega,fun j u hj hu=>?_⟩ ae ⟨rfl,rfl,rfl,rfl,trivial⟩ (fun _ h=>h);by_cases Bk:j=k
   ·subst Bk;rw[he]at hu;simp only[az]at hu;rw[<-hu];exact h1
   ·exact mU j u ae hu
 ·refine yc ?_;refine KQ.aU rfl rfl (fun w' hs=>⟨_,_,rfl,⟨?_,rfl⟩,hw.aA hs.below,hs.below⟩);rw[ph fun j u hu=>mU j u Y15 hu]
def Uj (L:List HP) (xs:List Ms) (u:Value) (M:List HP):Prop:=
 match jM xs with
 |none=>u=.tuple #[.string (cK xs),.nilIface]/\M=L
 |some k=> ∃b,u=.tuple #[.string ⟨#[]⟩,atV b]/\M=atB b 1 k::L
theorem oX(w0:World)(L:List HP)(v:Value)(xs:List Ms)(hr:∀w,St w0 L w->qX w 5 dy v xs)(hT:ym w0)(dM:∀m∈xs,m.body.size<=maxLen/\m.queue.size<=maxLen)(hl:xs.length<=100000):
 KE prog 60 #[v] w0 L (Uj L xs):=by
 refine KE.mk (n:=49) func60 rfl ntmps60 ai ?_;intro w hw;have Rb:=hT.ext (Ext.bU hw.below);have hrw:=hr w hw;obtain⟨sa,cap,rfl,hc⟩:=hrw;refine iz ?_;refine jo ?_;refine KO.ce (cp:=[]) rfl rfl rfl call153 rfl (O7 w _ _ xs 154 [] (fun m=> !bD m) (fun w' hw'=>zG ⟨sa,cap,rfl,hc⟩ (Ext.bU hw'.below)) ae call154 (fun e he=>Mh w _ e (dM e he).1 (dM e he).2)) ?_;rintro v' L' ⟨rfl,rfl⟩;refine jo ?_;refine qG ?_;refine Z3 ?_;refine K.bn rfl (fun h=>?_) (fun h=>?_)
 ·obtain⟨k,m,hk,hm,hb,dN,K9⟩:=lK h;have oG:jM xs=some k:=K9;rw[hk];refine m_ ?_;refine KO.P7 (pl:=[(0,1),(1,1)]) [.int .i64 1,.int .i64 (k:Nat)] rfl zeroValue248 runUnderlying248 (by intro w;simp[sizeOf3,sizeOf70]) rfl rfl ?_;refine KO.box rfl rfl aN rfl ?_;intro b14;refine EU ?_;refine xe ?_;refine KQ.dG rfl rfl rfl (fun w' hs=>⟨_,_,rfl,?_,hw.stack hs,hs.below⟩);unfold Uj;rw[oG];exact⟨_,rfl,rfl⟩
 ·have oG:jM xs=none:=rA ae;have cU:=eV oG;refine qP ?_;refine jo ?_;refine BY ?_;refine K.loop (fun s:Nat×Value=>[(5,s.2),(16,.slice sa xs.length cap),(17,.int .i64 (xs.length:Nat)),(18,.int .i64 (s.1:Nat))]) (fun s=>[ni s.2 ((xs.take s.1).map rq)]) (fun s=>s.1<=xs.length) (fun s=>xs.length-s.1) (0,.slice none 0 0)
   (aH _) ⟨rfl,rfl,rfl,rfl,trivial⟩ (fun _ h=>cw h) ?_
  rintro⟨k,vo⟩ hk;dsimp only at hk ⊢;refine lW ?_;refine K.bn rfl (fun h1=>?_) (fun h1=>?_)
  ·obtain⟨m,hm⟩:∃e,xs[k]? =some e:=⟨xs[k],ak ae⟩;obtain⟨ad,rfl,hh⟩:=hc k m hm;have h6:=cU m (ax hm);have hrp:=bG h6;have i1:o5 m.id:=⟨by omega,by omega⟩;have i2:o5 m.pri:=⟨by omega,by omega⟩;have i3:o5 m.bF:=⟨by omega,by omega⟩;have z1:=cL i1;have z2:=cL i2;have z3:=cL i3;have z4:m.body.size<=12:=by have :=hrp.2.2.2.2.1;unfold fJ dc at this;simp at this;omega
   have z5:m.queue.size<=8:=by have :=hrp.2.2.2.2.2.1;unfold cH dc at this;simp at this;omega
   have z6:(⟨#[32]⟩:aj).size=1:=rfl;have z7:sp.size=1:=rfl;have hlen:((xs.take k).map rq).length<1000000:=by simp;omega
   refine si ?_;refine XJ ?_;refine KO.vf (cs:=(dy m).toArray) rfl rfl isAgg44 sizeOf44 rfl hh rfl ?_;refine KO.alloc rfl zeroValue44 aN rfl ?_;intro b7;refine TH ?_;refine Z3 ?_;refine K.draw [.pure,.pure,.read,.ef,.pure,.pure,.read,.ef,.pure,.pure,.pure,.read,.pure,.pure,.pure,.read,.pure,.pure,.pure,.read,.ef,.pure,.ef,.write,.pure] [0,1,2,5,6,10,11,14,15,18,19,3,4,7,8,9,12,13,16,17,20,21,22,23,24] bC bC ?_;refine Z1 ?_;refine HW ?_;refine Qf ?_;refine sP ?_;refine Cb ?_;refine EG ?_;refine JM ?_;refine EG ?_;refine NO ?_;refine sP ?_;refine KO.ce (cp:=[]) rfl rfl rfl call59 rfl (nF w _ m.id Rb i1) ?_;rintro v' L' ⟨rfl,rfl⟩;refine HQ ?_;refine KO.ce (cp:=[]) rfl rfl rfl call59 rfl (nF w _ m.pri Rb i2) ?_;rintro v' L' ⟨rfl,rfl⟩;refine HQ ?_;refine HQ ?_;refine HQ ?_;refine HQ ?_;refine HQ ?_;refine HQ ?_;refine KO.ce (cp:=[]) rfl rfl rfl call59 rfl (nF w _ m.bF Rb i3) ?_;rintro v' L' ⟨rfl,rfl⟩;refine HQ ?_;refine KO.sw (z:=(Value.string ⟨#[]⟩)) (sz:=1) (fk:=16) rfl rfl underlying115 bC aN aN ah ah rfl ?_;intro b44;refine KO.app (z:=Value.string ⟨#[]⟩) (sz:=1) (fk:=16) rfl rfl rfl aQ br underlying115 nh rfl (rq m) aN aN aN ae ah rfl ?_;intro v';refine qq ?_
   refine KQ.round (k+1,v') fZ fZ ⟨rfl,rfl,rfl,rfl,trivial⟩ (fun _ h=>?_);dsimp only;rw[a_ hm,aZ,aJ,List.map_nil];exact(h.pick br).uh (ud.nil _)
  ·have mV:k=xs.length:=by omega
   rw[mV,List.take_length];have xR:=qY cU;refine Ba ?_;refine KO.ce (cp:=[]) rfl rfl rfl call62 rfl (zZ w _ _ vo (xs.map rq) plus br ez (by unfold cK at xR;omega)) ?_;rintro v' L' ⟨rfl,rfl⟩;refine nP ?_;refine KQ.dG rfl rfl rfl (fun w' hs=>⟨_,_,rfl,?_,hw.aA hs.below,hs.below⟩);unfold Uj;rw[oG];exact⟨rfl,rfl⟩
theorem St.rP{w0 w:World}{A B:List HP}(h:St w0 (A++B) w):St w0 (B++A) w:=h.j0 fun _ x=>dV.2 (Fx (dV.1 x))
def itV (b4 b3 b5:Nat):Value:=.func (.func 274) #[] #[.pointer (some ⟨b4,0,none⟩),.pointer (some ⟨b3,0,none⟩),.pointer (some ⟨b5,0,none⟩)]
def xw (b4 b3 b5:Nat) (s sep:aj):List HP:=[bA b3 (.cells [.string s].toArray 9 (0,0)),bA b4 (.cells [.string sep].toArray 9 (0,0)),bA b5 (.cells [.int .i64 0].toArray 3 (0,0))]
theorem VE(w0:World)(L:List HP)(s sep:aj):KE prog 199 #[.string s,.string sep,.int .i64 0] w0 L (fun u M=> ∃b4 b3 b5,u=itV b4 b3 b5/\M=xw b4 b3 b5 s sep++L):=by
 refine KE.mk (n:=8) func199 rfl ntmps199 ai ?_;intro w hw;refine Z2 ?_;refine KO.box rfl rfl aN rfl ?_;intro b3;refine KO.box rfl rfl aN rfl ?_;intro b4;refine KO.box rfl rfl aN rfl ?_;intro b5;refine oK ?_;refine Hh ?_;refine kq ?_;refine KQ.aU rfl rfl (fun w' hs=>⟨_,_,rfl,⟨_,_,_,rfl,rfl⟩,hw.stack (M:=xw b4 b3 b5 s sep) (by unfold xw;exact hs.all Y2),hs.below⟩)
theorem ZJ(w0:World)(L:List HP)(s sep:aj):KE prog 113 #[.string s,.string sep] w0 L (fun u M=> ∃b4 b3 b5,u=itV b4 b3 b5/\M=xw b4 b3 b5 s sep++L):=by
 refine KE.mk (n:=8) func113 rfl ntmps113 ai ?_;intro w hw;refine yb ?_;refine KO.ce (cp:=[]) rfl rfl rfl call199 rfl (VE w _ s sep) ?_;rintro v' L' ⟨b4,b3,b5,rfl,rfl⟩;refine kq ?_;refine KQ.aU rfl rfl (fun w' hs=>⟨_,_,rfl,⟨_,_,_,rfl,rfl⟩,hw.stack (M:=xw b4 b3 b5 s sep) (by simpa using hs),hs.below⟩)
theorem SE(w0:World)(L:List HP)(s:aj)(c:UInt8):KE prog 276 #[.string s,.string ⟨#[c]⟩] w0 L (fun u M=>u=.int .i64 (Lib.indexByte s.data.toList c)/\M=L):=
 KE.bU fun w hw=>(Tryz.strings_Index_one s c w).mono fun e w' h=>⟨h.1,by rw[h.2];exact Below.refl _ _⟩
theorem V5(w0:World)(l:Nat)(c:UInt8)(s:aj)(dM:s.size<=4294967280)(b4 b3 b5:Nat)(J:Nat->List HP->Prop)(X:List HP->Prop)(hY:∀k p L,(dH c s)[k]? =some p->J k L->KY prog l (.string p) w0 L (J (k+1)) X)(L:List HP)(h0:J 0 L):
 KC prog 274 #[.func (.yield l) #[] #[],.pointer (some ⟨b4,0,none⟩),.pointer (some ⟨b3,0,none⟩),.pointer (some ⟨b5,0,none⟩)] w0 (xw b4 b3 b5 s ⟨#[c]⟩++L) (fun v M=> ∃s' M',M=xw b4 b3 b5 s' ⟨#[c]⟩++M'/\(J (dH c s).length M'\/X M')):=by
 unfold xw;refine KC.mk (n:=52) func274 rfl ntmps274 ai ?_;refine kO ?_;simp only[bz,List.nil_append];refine di ?_;refine pG ?_;refine H_ ?_;refine mM ?_;refine K.ct rfl (by rfl) ?_;refine K.skip ?_
 repeat with_reducible refine KQ.next ?_
 refine K.seq ?_;have iW:∀r k,(dH c s).drop k=dH c r->Lib.indexByte r.data.toList c= -1->(dH c s)[k]? =some r/\k+1=(dH c s).length:=fun r k h1 h2=>by
  rw[Ox h2]at h1;have h3:(dH c s)[k]? =some r:=by
   have :=congrArg (fun l=>l[0]?) h1;simpa using this
  have h4:=congrArg List.length h1;have h5:=(aw.1 h3).1;simp at h4;exact⟨h3,by omega⟩
 refine K.cut (fun y:Nat×aj×List HP=>[(0,.func (.yield l) #[] #[]),(2,.pointer (some ⟨b3,0,none⟩))]) (fun y=>xw b4 b3 b5 y.2.1 ⟨#[c]⟩++y.2.2) (fun y=>J y.1 y.2.2/\(dH c s)[y.1]? =some y.2.1/\y.1+1=(dH c s).length) ?_ ?_
 ·refine K.block ?_;refine K.loop (fun y:Nat×aj×List HP=>[(0,.func (.yield l) #[] #[]),(1,.pointer (some ⟨b4,0,none⟩)),(2,.pointer (some ⟨b3,0,none⟩)),(3,.pointer (some ⟨b5,0,none⟩))]) (fun y=>xw b4 b3 b5 y.2.1 ⟨#[c]⟩++y.2.2)
   (fun y=>J y.1 y.2.2/\(dH c s).drop y.1=dH c y.2.1/\y.2.1.size<=4294967280) (fun y=>y.2.1.size) (0,s,L) ⟨h0,rfl,dM⟩ ⟨rfl,rfl,rfl,rfl,trivial⟩ (fun _ h=>h) ?_
  rintro⟨k,r,M⟩ ⟨hJ,hd,Wi⟩;dsimp only at hJ hd Wi ⊢;simp only[xw,bz,List.nil_append]
  repeat(first|(with_reducible refine K.seq ?_)|(with_reducible refine K.block ?_))
  refine di ?_;refine EG ?_;refine pG ?_;refine KO.ce (cp:=[]) rfl rfl rfl call276 rfl (SE w0 _ r c) ?_;rintro v' L' ⟨rfl,rfl⟩;refine jo ?_;refine qo ?_;refine K.bn rfl (fun h1=>?_) (fun h1=>?_)
  ·have h2:Lib.indexByte r.data.toList c= -1:=by have :=Lib.indexByte_ge r.data.toList c;omega
   obtain⟨h3,h4⟩:=iW r k hd h2
   repeat(first|(with_reducible refine KQ.iE ?_)|(with_reducible refine KQ.kj ?_)|(refine KQ.G9 rfl ?_)|(with_reducible refine K.exit ?_))
   exact KQ.kT (k,r,M) ⟨hJ,h3,h4⟩ ⟨rfl,rfl,trivial⟩ (fun _ h=>by simpa[xw]using h)
  ·obtain⟨i,hi⟩:∃i:Nat,Lib.indexByte r.data.toList c=i:=⟨(Lib.indexByte r.data.toList c).toNat,by omega⟩;have dN:=Eg hi;have hp:=Sd hi;rw[hp]at hd;have hk:(dH c s)[k]? =some (r.extract 0 i):=by
    have :=congrArg (fun l=>l[0]?) hd;simpa using this
   have wQ:(dH c s).drop (k+1)=dH c (r.extract (i+1) r.size):=by
    rw[<-List.drop_drop,hd];rfl
   have nW:(⟨#[c]⟩:aj).size=1:=rfl;rw[hi];refine qP ?_;refine EG ?_;refine Z1 ?_;refine sD ?_;refine vO ?_;refine KO.Uq (i:=i) rfl rfl underlying9 ai ae rfl ?_;refine jL ?_;refine K.ZM ?_;refine qR.mv rfl rfl ?_;refine qR.mv rfl rfl ?_;refine qR.NQ (N:=xw b4 b3 b5 r ⟨#[c]⟩) rfl rfl (hY k _ M hk hJ) (fun w hw=>St.rP hw) rfl (fun L' hL=>?_) (fun L' hL=>?_)
   ·refine qR.not rfl rfl ?_;refine qR.nil ?_;refine KQ.next ?_
    refine oI ?_;refine Nb ?_;refine K.conv (fun w hw=>(St.rP hw:St w0 (xw b4 b3 b5 r ⟨#[c]⟩++L') w)) ?_
    simp only[xw,bz,List.nil_append];refine di ?_;refine EG ?_;refine Z1 ?_;refine pG ?_;refine H_ ?_;refine KO.add rfl rfl (show(i:Int)+(⟨#[c]⟩:aj).size=(i+1:Nat)by rw[nW];rfl) ae rfl ?_;refine KO.RC (i:=i+1) rfl rfl underlying9 rfl ae rfl ?_;refine KO.oQ rfl rfl rfl aN (by exact sizeOf9) aN br aN ?_;refine Xw ?_;refine KQ.round (k+1,r.extract (i+1) r.size,L') ⟨hL,wQ,by simp;omega⟩ ez ⟨rfl,rfl,rfl,rfl,trivial⟩ (fun _ h=>by simpa[xw]using h)
   ·refine qR.not rfl rfl ?_;refine qR.nil ?_;refine KQ.next ?_
    refine xa ?_
    repeat(first|(with_reducible refine KQ.nf ?_)|(with_reducible refine KQ.yT ?_)|(with_reducible refine K.ret ?_))
    exact KQ.VL rfl (fun w' hs=>⟨_,_,rfl,⟨r,L',rfl,.inr hL⟩,St.rP hs⟩)
 ·rintro⟨k,r,M⟩ ⟨hJ,hk,Aj⟩;dsimp only at hJ hk Aj ⊢;refine K.ZM ?_;refine qR.mv rfl rfl ?_;refine qR.ld (b:=b3) (off:=0) (cs:=[.string r]) rfl isAgg9 (by unfold xw;exact .head) rfl rfl ?_;refine qR.NQ (N:=xw b4 b3 b5 r ⟨#[c]⟩) rfl rfl (hY k _ M hk hJ) (fun w hw=>St.rP hw) rfl (fun L' hL=>?_) (fun L' hL=>?_)
  ·refine qR.nil ?_;rw[Aj]at hL;exact KQ.wV rfl (fun w' hs=>⟨_,_,rfl,⟨r,L',rfl,.inl hL⟩,St.rP hs⟩)
  ·refine qR.nil ?_;exact KQ.wV rfl (fun w' hs=>⟨_,_,rfl,⟨r,L',rfl,.inr hL⟩,St.rP hs⟩)
theorem St.zc{w0 w:World}{A B C:List HP}(h:St w0 (A++(B++C)) w):St w0 (B++(A++C)) w:=h.j0 fun _ x=>
 dV.2 (gE (fun _ x=>x) (fun _ x=>dV.2 x) (zl (gE (fun _ x=>x) (fun _ x=>dV.1 x) (dV.1 x))))
theorem St.Lm{w0 w:World}{A B:List HP}(h:St w0 (A++B) w):St w0 B w:=(St.KZ h).drop
theorem K.On{Q:Exit->Act->World->Prop}{n:Nat}{D:List Deferred}{w0:World}{G2:aj->Env}{G0:Env}{g:Operand}{p:Nat}{assign body:Code}{b4 b3 b5:Nat}{c:UInt8}{s:aj}{L:List HP}(C:Nat->List HP->Prop)(X:List HP->Prop)(hg:ev G0 g=some (itV b4 b3 b5))(hp:Nat.blt p n=true)(dM:s.size<=4294967280)(h0:C 0 L)(ha:∀(l:Nat) (N:List HP) q,KR l prog assign (Exit.then (Uk n [] w0 (fun _:Unit=>G2 q) (fun _=>N) (fun _=>True)) (fun _ _ _=>False)) n [] w0 ((p,.string q)::G0) N)(hb:∀k q M (l:Nat) (N:List HP) (RQ:Exit->Act->World->Prop),(dH c s)[k]? =some q->C k M->(∀a w,¬RQ .outgrown a w)->(∀M' G',C (k+1) M'->KQ RQ .normal n [] w0 G' (M'++N))->(∀M' G',X M'->KQ RQ .ret n [] w0 G' (M'++N))->
  KR l prog body RQ n [] w0 (G2 q) (M++N))(aaX:∀b M,C (dH c s).length M->KQ Q .normal n (QV b::D) w0 G0 (bA b (.deferred (some []))::M))(aat:∀b M,X M->KQ Q .ret n (QV b::D) w0 G0 (bA b (.deferred (some []))::M)):
 K prog (.rangeFunc g #[p] assign body) Q n D w0 G0 (xw b4 b3 b5 s ⟨#[c]⟩++L):=by
 refine K.rangeFunc hg call274 fun fn tm b l hk w hw=>?_
 have hY:∀k q L',(dH c s)[k]? =some q->(∃M,C k M/\L'=bA l (.loop ⟨.ready,none,fn,tm,#[p],assign,body,b⟩)::bA b (.deferred (some []))::M)->
  KY prog l (.string q) w0 L' (fun L'=> ∃M,C (k+1) M/\L'=bA l (.loop ⟨.ready,none,fn,tm,#[p],assign,body,b⟩)::bA b (.deferred (some []))::M)
   (fun L'=> ∃M,X M/\L'=bA l (.loop ⟨.done,some .ret,fn,tm,#[p],assign,body,b⟩)::bA b (.deferred (some []))::M):=by
  rintro k q _ hq ⟨M,hM,rfl⟩;refine KY.mk hk hp fun N=>?_
  intro a w' sN hw';refine Go.wpIn_mono (ha l _ q a w' sN hw') ?_;rintro e a2 w2 hh;cases e with
  |normal=>
   obtain⟨_,_,Zb,SI⟩:=hh;refine KQ.begin (G:=G2 q) .head rfl ?_ a2 w2 Zb SI;refine KR.conv (L':=M++(bA l (.loop ⟨.busy,none,fn,tm,#[p],assign,body,b⟩)::bA b (.deferred (some []))::N)) (fun w hw=>St.zc (A:=[bA l (.loop ⟨.busy,none,fn,tm,#[p],assign,body,b⟩),bA b (.deferred (some []))]) hw) ?_
   refine hb k q M l _ _ hq hM (fun _ _ h=>h) (fun M' G' hM'=>?_) (fun M' G' hM'=>?_)
   ·refine acb ?_;refine KQ.goes .head fun w hw=>.inl ⟨rfl,_,⟨M',hM',rfl⟩,hw⟩
   ·refine acb ?_;refine KQ.leaves .head fun w hw=>.inr ⟨rfl,_,⟨M',hM',rfl⟩,hw⟩
  |_=>exact hh.elim
 have SI:=St.zc (A:=[bA l (.loop ⟨.ready,none,fn,tm,#[p],assign,body,b⟩),bA b (.deferred (some []))]) (B:=xw b4 b3 b5 s ⟨#[c]⟩) (C:=L) hw
 refine((V5 w0 l c s dM b4 b3 b5 (fun k L'=> ∃M,C k M/\L'=bA l (.loop ⟨.ready,none,fn,tm,#[p],assign,body,b⟩)::bA b (.deferred (some []))::M)
  (fun L'=> ∃M,X M/\L'=bA l (.loop ⟨.done,some .ret,fn,tm,#[p],assign,body,b⟩)::bA b (.deferred (some []))::M) hY _ ⟨L,h0,rfl⟩) w SI).mono ?_
 rintro e w' ⟨v,L',rfl,⟨s',M',rfl,(⟨M,hM,rfl⟩|⟨M,hM,rfl⟩)⟩,hs⟩
 ·refine⟨_,xw b4 b3 b5 s' ⟨#[c]⟩++M,.ready,none,rfl,ah,St.zc (B:=[bA l (.loop ⟨.ready,none,fn,tm,#[p],assign,body,b⟩),bA b (.deferred (some []))]) hs,?_⟩;exact KQ.conv (fun w hw=>St.Lm (St.zc (A:=[bA b (.deferred (some []))]) (B:=xw b4 b3 b5 s' ⟨#[c]⟩) hw)) (aaX b M hM)
 ·refine⟨_,xw b4 b3 b5 s' ⟨#[c]⟩++M,.done,some .ret,rfl,ah,St.zc (B:=[bA l (.loop ⟨.done,some .ret,fn,tm,#[p],assign,body,b⟩),bA b (.deferred (some []))]) hs,?_⟩;exact K.ret (KQ.conv (fun w hw=>St.Lm (St.zc (A:=[bA b (.deferred (some []))]) (B:=xw b4 b3 b5 s' ⟨#[c]⟩) hw)) (aat b M hM))
def xg (w:World):Prop:=(∃m,w.cell? ⟨1,0,none⟩=some (.int .i64 m))/\(∃t p,w.cell? ⟨2,0,none⟩=some (.iface t p))/\(∃t p,w.cell? ⟨3,0,none⟩=some (.iface t p))
theorem xg.ext{w w':World}(h:xg w)(e:Ext w w'):xg w':=by
 obtain⟨⟨m,h1⟩,⟨t,p,h2⟩,⟨t',p',h3⟩⟩:=h;exact⟨⟨m,e.cell h1⟩,⟨t,p,e.cell h2⟩,⟨t',p',e.cell h3⟩⟩
theorem Cj{w0 w:World}{L:List HP}{b k:Nat}{xs:List aj}{vs:List Value}(h:St w0 (bA b (.cells vs.toArray 9 (0,0))::L) w)(hvs:vs=xs.map Value.string)(hk:xs.length=k)(hle:k<=1000000000):St w0 (ni (.slice (some ⟨b,0,none⟩) k k) xs::L) w:=by
 subst hk;have hf:xs.flatMap mf=vs:=by rw[hvs];clear hvs h hle;induction xs with
  |nil=>rfl
  |cons a l ih=>rw[bj,ih];rfl
 refine h.nz (aP _) Vi ?_ ?_
 ·rw[hvs];simp
 ·rw[hf,hvs,Nat.mul_one];exact List.take_of_length_le ai
theorem pN(w0:World)(L:List HP)(s:aj)(c:UInt8)(hs:s.size<=100000000)(hM:xg w0):KE prog 133 #[.string s,.string ⟨#[c]⟩] w0 L (fun u M=> ∃b,u=.slice (some ⟨b,0,none⟩) (dH c s).length (dH c s).length/\M=ni (.slice (some ⟨b,0,none⟩) (dH c s).length (dH c s).length) (dH c s)::L):=fun w hw=>by
 obtain⟨⟨m,hm⟩,_⟩:=hM.ext (Ext.bU hw.below);refine(Tryz.strings_Split s ⟨#[c]⟩ m w ae hm (aP _)).mono ?_;rintro e w' ⟨rfl,rfl⟩;rw[Mc,<-Sc];have hl:(dH c s).length<=s.size+1:=by unfold dH;rw[aX,gw];have :=List.count_le_length (a:=c) (l:=s.data.toList);rw[km];omega
 exact⟨_,_,rfl,⟨w.heap.size,rfl,rfl⟩,Cj (hw.alloc _) rfl rfl ae,Below.alloc (Below.refl _ w) (aP _) _⟩
def lM (s:aj) (u:Value):Prop:=match fx s with|some v=>u=.tuple #[.int .i64 v,.nilIface]|none=> ∃x T y,u=.tuple #[.int .i64 x,.iface T y]
theorem jz(w0:World)(L:List HP)(s:aj)(hs:s.size<=100000000)(hM:xg w0):KE prog 136 #[.string s] w0 L (fun u M=>lM s u/\M=L):=fun w hw=>by
 obtain⟨_,⟨t,p,h2⟩,⟨t',p',h3⟩⟩:=hM.ext (Ext.bU hw.below);unfold lM;rcases h:Lib.atoiAll s.data.toList with v|_|_
 ·have hn:fx s=some v:=by unfold fx;rw[h]
  refine(Tryz.strconv_Atoi_ok s ae v h w).mono ?_;rintro e w' ⟨rfl,hw'⟩;have hb:Below w.heap.size w w':=by
   rcases hw' with rfl|⟨t,rfl⟩
   ·exact Below.refl _ _
   ·exact Lib.bytesWorld_below _ _ _
  exact⟨_,_,rfl,⟨by rw[hn],rfl⟩,hw.aA hb,hb⟩
 ·have hn:fx s=none:=by unfold fx;rw[h]
  refine(Tryz.strconv_Atoi_syntax s ae h _ w h2 (.inr ⟨t,p,rfl⟩)).mono ?_;rintro e w' ⟨N,rfl,_,_,hb⟩;exact⟨_,_,rfl,⟨by rw[hn];exact⟨_,_,_,rfl⟩,rfl⟩,hw.aA hb,hb⟩
 ·have hn:fx s=none:=by unfold fx;rw[h]
  refine(Tryz.strconv_Atoi_range s ae h _ w h3 (.inr ⟨t',p',rfl⟩)).mono ?_;rintro e w' ⟨N,rfl,_,_,hb⟩;exact⟨_,_,rfl,⟨by rw[hn];exact⟨_,_,_,rfl⟩,rfl⟩,hw.aA hb,hb⟩
def Vj (L:List HP) (s:aj) (u:Value) (M:List HP):Prop:=
 match wx s with
 |some xs=> ∃v,u=.tuple #[v,.nilIface]/\M=SL 44 5 dy v xs::L
 |none=>u=.tuple #[.slice none 0 0,dj 70 3]/\M=L
def TE (x y z:Int):Nat->List Value
 |0=>[.int .i64 0,.int .i64 0,.int .i64 0,.int .i64 0,.int .i64 0]
 |1=>[.int .i64 x,.int .i64 0,.int .i64 0,.int .i64 0,.int .i64 0]
 |2=>[.int .i64 x,.int .i64 y,.int .i64 0,.int .i64 0,.int .i64 0]
 |_=>[.int .i64 x,.int .i64 y,.int .i64 0,.int .i64 0,.int .i64 z]
def Ol (b4 b3 b2:Nat) (v e:Value) (xs:List Ms):List HP:=[bA b4 (.cells [v].toArray 49 (0,0)),bA b3 (.cells [e].toArray 31 (0,0)),bA b2 (.cells [.slice none 0 0].toArray 49 (0,0)),SL 44 5 dy v xs]
def rdC (s:aj) (b4 b3 b2:Nat) (k:Nat) (M:List HP):Prop:= ∃v xs,M=Ol b4 b3 b2 v .nilIface xs/\eQ ((dH 43 s).take k)=some xs
def rdX (s:aj) (b4 b3 b2:Nat) (M:List HP):Prop:=(∃v xs,M=Ol b4 b3 b2 v (dj 70 3) xs)/\eQ (dH 43 s)=none
theorem OJ:(prog.info? 44).map (fun i=>(i.zero,i.size,i.bytes))=some (some (Value.agg #[.int .i64 0,.int .i64 0,.string ⟨#[]⟩,.string ⟨#[]⟩,.int .i64 0]),5,56):=by kernel_rfl
theorem rY(w0:World)(L:List HP)(s:aj)(hs:s.size<=90000)(hT0:ym w0)(hM0:xg w0):KE prog 160 #[.string s] w0 L (Vj L s):=by
 refine KE.mkM (n:=74) func160 rfl ntmps160 ai ?_;intro w hw;have hT:=hT0.ext (Ext.bU hw.below);have hM:=hM0.ext (Ext.bU hw.below);unfold Vj;refine Z2 ?_;refine KO.alloc rfl zeroValue49 aN rfl ?_;intro b2;refine KO.alloc rfl zeroValue31 aN rfl ?_;intro b3;refine Z0 ?_;by_cases h0:s=⟨#[]⟩
 ·have e0:wx s=some []:=by unfold wx;rw[if_pos h0]
  rw[e0];refine cW ?_;refine EM ?_;refine K.bW rfl Zo ?_;refine Z2 ?_;refine Ia ?_;refine Z4 ?_;refine KQ.VK rfl rfl rfl isAgg49 isAgg31 aQ br (fun w' hs=>⟨_,_,rfl,⟨_,rfl,rfl⟩,?_,hs.below⟩);exact cw (hw.aA hs.below)
 refine cW ?_;refine EM ?_;refine K.ct rfl Zo ?_;refine qP ?_;refine KO.alloc rfl zeroValue49 aN rfl ?_;intro b4;refine EI ?_;refine KO.ce (cp:=[]) rfl rfl rfl call113 rfl (ZJ w _ s ⟨#[43]⟩) ?_;rintro v' L' ⟨i4,i3,i5,rfl,rfl⟩;refine jk ?_;refine KQ.next ?_
 refine K.block ?_;refine K.conv (L':=xw i4 i3 i5 s ⟨#[43]⟩++Ol b4 b3 b2 (.slice none 0 0) .nilIface []) (fun w hw=>?_) ?_
 ·simp only[Ol,xw,bz,List.nil_append]at hw ⊢;exact(cw hw).all Y2
 have hlen:(dH 43 s).length<=s.size+1:=by unfold dH;rw[aX,gw];have :=List.count_le_length (a:=43) (l:=s.data.toList);rw[km];omega
 refine K.On (rdC s b4 b3 b2) (rdX s b4 b3 b2) (G2:=fun q=>[(5,.string q),(0,.string s),(2,.pointer (some ⟨b2,0,none⟩)),(3,.pointer (some ⟨b3,0,none⟩)),(4,.pointer (some ⟨b4,0,none⟩))]) rfl rfl ae ⟨_,_,rfl,rfl⟩ ?_ ?_ ?_ ?_
 ·intro l N q;refine KR.Ih bC (fun a w h=>by exact h) ?_;refine rL ?_;exact KQ.kT () trivial ⟨rfl,rfl,rfl,rfl,rfl,trivial⟩ (fun _ h=>h)
 ·rintro k q M l N RQ hq ⟨v,xs,rfl,tG⟩ mU hgo SS;have vh:xs.length<100000:=by have :=tA tG;rw[bu]at this;omega
  have hqs:q.size<=90000:=by have :=jc (ax hq);omega
  simp only[Ol,bz,List.nil_append]
  repeat(first|(with_reducible refine KR.seq ?_)|(with_reducible refine KR.block ?_))
  refine EH ?_;refine KO.ce (cp:=[]) rfl rfl rfl call133 rfl (pN w _ q 32 ae hM) ?_;rintro v' L' ⟨bq,rfl,rfl⟩;refine BS ?_;by_cases h5:(dH 32 q).length=5
  case neg=>
   refine EH ?_;refine Yi ?_;refine HY ?_;refine KR.bW rfl ez ?_;refine HX ?_;refine EU ?_;refine Ia ?_;refine jk ?_;refine Z94 ?_;refine SS _ _ ⟨⟨_,_,rfl⟩,lD (p:=q) ?_ (ax hq)⟩;unfold fS;split
   ·rename_i h;rw[h]at h5;exact absurd rfl h5
   ·rfl
  refine EH ?_;refine Yi ?_;refine HY ?_;refine KR.ct rfl ez ?_
  repeat(first|(with_reducible refine KR.seq ?_)|(with_reducible refine KQ.u5 ?_)|(with_reducible refine KR.skip ?_))
  obtain⟨wa,wb,wc,wd,we,xR⟩:∃wa wb wc wd we,dH 32 q=[wa,wb,wc,wd,we]:=by
   generalize dH 32 q=l at h5
   match l,h5 with
   |[a,b,c,d,e],_=>exact⟨a,b,c,d,e,rfl⟩
  have YJ:∀x∈[wa,wb,wc,wd,we],x.size<=100000000:=fun x hx=>by have :=jc (c:=32) (s:=q) (p:=x) (by rw[xR];exact hx);omega
  rw[xR];refine Qg ?_;refine KO.alloc rfl zeroValue333 aN rfl ?_;intro b7;refine Zm ?_;refine Qg ?_;refine KO.bld rfl (by intro w;go_simp;rfl) rfl ?_;refine Va ?_
  repeat(first|(with_reducible refine KQ.u5 ?_)|(with_reducible refine KR.block ?_))
  obtain⟨x,hx⟩:∃x,x=(fx wa).getD 0:=⟨_,rfl⟩;obtain⟨y,hy⟩:∃x,x=(fx wb).getD 0:=⟨_,rfl⟩;obtain⟨z,hz⟩:∃x,x=(fx we).getD 0:=⟨_,rfl⟩;refine KR.loop (fun i:Nat=>[(26,.int .i64 (i:Nat)),(25,.agg [.int .i64 0,.int .i64 1,.int .i64 4].toArray),(7,.pointer (some ⟨b7,0,none⟩)),(6,.slice (some ⟨bq,0,none⟩) 5 5),(5,.string q),(0,.string s),(2,.pointer (some ⟨b2,0,none⟩)),(3,.pointer (some ⟨b3,0,none⟩)),(4,.pointer (some ⟨b4,0,none⟩))])
   (fun i=>bA b7 (.cells (TE x y z i).toArray 333 (0,0))::ni (.slice (some ⟨bq,0,none⟩) 5 5) [wa,wb,wc,wd,we]::(Ol b4 b3 b2 v .nilIface xs++N))
   (fun i=>i<=3/\(0<i->fx wa=some x)/\(1<i->fx wb=some y)/\(2<i->fx we=some z)) (fun i=>3-i) 0
   ⟨by omega,fun h=>by omega,fun h=>by omega,fun h=>by omega⟩ ⟨rfl,rfl,rfl,rfl,rfl,rfl,rfl,rfl,rfl,trivial⟩ (fun w hw=>hw.all ft) ?_
  rintro i ⟨hi,om,iq,hp3⟩;have sM:i=0\/i=1\/i=2\/i=3:=by omega
  simp only[Ol,bz,List.nil_append];rcases sM with rfl|rfl|rfl|rfl
  ·
   refine HX ?_;refine um ?_;refine Zm ?_;refine Yh ?_;refine Qg ?_;refine KO.K1 (cs:=[.int .i64 0,.int .i64 1,.int .i64 4]) (i:=0) rfl rfl underlying334 isAgg3 sizeOf3 rfl ah rfl rfl ?_;refine BS ?_;cases hn:fx wa with
   |none=>
    refine EL ?_;refine acr ?_;refine KO.ce (cp:=[]) rfl rfl rfl call136 rfl (jz w _ wa (YJ wa ai) hM) ?_;rintro v' L' ⟨hR,rfl⟩;unfold lM at hR;rw[hn]at hR;obtain⟨xx,TT,yy,rfl⟩:=hR;refine Qc ?_;refine BS ?_;refine EH ?_;refine KO.OG rfl bC rfl ?_;refine HY ?_;refine KR.bW rfl rfl ?_;refine HX ?_;refine EU ?_;refine Ia ?_;refine jk ?_;refine Z94 ?_;refine SS _ _ ⟨⟨_,_,rfl⟩,lD (p:=q) ?_ (ax hq)⟩;unfold fS;rw[xR];simp only[];rw[hn]
    all_goals (cases fx wa<;>cases fx wb<;>cases fx we<;>rfl)
   |some vv=>
    have hvx:vv=x:=by rw[hx,hn];rfl
    refine EL ?_;refine acr ?_;refine KO.ce (cp:=[]) rfl rfl rfl call136 rfl (jz w _ wa (YJ wa ai) hM) ?_;rintro v' L' ⟨hR,rfl⟩;unfold lM at hR;rw[hn]at hR;subst hR;refine Qc ?_;refine BS ?_;refine EH ?_;refine yi ?_;refine HY ?_;refine X5 ?_;refine EL ?_;refine KO.jd (i:=0) rfl rfl runUnderlying333 sizeOf3 rfl ah rfl ?_;refine KO.fu (i:=0) rfl rfl rfl aN uc rfl br (by rfl) (by simp[TE]) ?_;refine X4 ?_;refine Qg ?_;refine vO ?_;refine Va ?_;subst hvx;refine KQ.round 1 ⟨by omega,fun h=>?_,fun h=>?_,fun h=>?_⟩ ah ⟨rfl,rfl,rfl,rfl,rfl,rfl,rfl,rfl,rfl,trivial⟩ (fun w hw=>hw.all ft)
    all_goals first|omega|rfl
  ·
   refine HX ?_;refine um ?_;refine Zm ?_;refine Yh ?_;refine Qg ?_;refine KO.K1 (cs:=[.int .i64 0,.int .i64 1,.int .i64 4]) (i:=1) rfl rfl underlying334 isAgg3 sizeOf3 rfl ah rfl rfl ?_;refine BS ?_;cases hn:fx wb with
   |none=>
    refine EL ?_;refine acq ?_;refine KO.ce (cp:=[]) rfl rfl rfl call136 rfl (jz w _ wb (YJ wb ai) hM) ?_;rintro v' L' ⟨hR,rfl⟩;unfold lM at hR;rw[hn]at hR;obtain⟨xx,TT,yy,rfl⟩:=hR;refine Qc ?_;refine BS ?_;refine EH ?_;refine KO.OG rfl bC rfl ?_;refine HY ?_;refine KR.bW rfl rfl ?_;refine HX ?_;refine EU ?_;refine Ia ?_;refine jk ?_;refine Z94 ?_;refine SS _ _ ⟨⟨_,_,rfl⟩,lD (p:=q) ?_ (ax hq)⟩;unfold fS;rw[xR];simp only[];rw[hn]
    all_goals (cases fx wa<;>cases fx wb<;>cases fx we<;>rfl)
   |some vv=>
    have hvx:vv=y:=by rw[hy,hn];rfl
    refine EL ?_;refine acq ?_;refine KO.ce (cp:=[]) rfl rfl rfl call136 rfl (jz w _ wb (YJ wb ai) hM) ?_;rintro v' L' ⟨hR,rfl⟩;unfold lM at hR;rw[hn]at hR;subst hR;refine Qc ?_;refine BS ?_;refine EH ?_;refine yi ?_;refine HY ?_;refine X5 ?_;refine EL ?_;refine KO.jd (i:=1) rfl rfl runUnderlying333 sizeOf3 rfl ah rfl ?_;refine KO.fu (i:=1) rfl rfl rfl aN uc rfl br (by rfl) (by simp[TE]) ?_;refine X4 ?_;refine Qg ?_;refine vO ?_;refine Va ?_;subst hvx;refine KQ.round 2 ⟨by omega,fun h=>?_,fun h=>?_,fun h=>?_⟩ ah ⟨rfl,rfl,rfl,rfl,rfl,rfl,rfl,rfl,rfl,trivial⟩ (fun w hw=>hw.all ft)
    all_goals first|omega|rfl|exact om ae
  ·
   refine HX ?_;refine um ?_;refine Zm ?_;refine Yh ?_;refine Qg ?_;refine KO.K1 (cs:=[.int .i64 0,.int .i64 1,.int .i64 4]) (i:=2) rfl rfl underlying334 isAgg3 sizeOf3 rfl ah rfl rfl ?_;refine BS ?_;cases hn:fx we with
   |none=>
    refine EL ?_;refine acp ?_;refine KO.ce (cp:=[]) rfl rfl rfl call136 rfl (jz w _ we (YJ we ai) hM) ?_;rintro v' L' ⟨hR,rfl⟩;unfold lM at hR;rw[hn]at hR;obtain⟨xx,TT,yy,rfl⟩:=hR;refine Qc ?_;refine BS ?_;refine EH ?_;refine KO.OG rfl bC rfl ?_;refine HY ?_;refine KR.bW rfl rfl ?_;refine HX ?_;refine EU ?_;refine Ia ?_;refine jk ?_;refine Z94 ?_;refine SS _ _ ⟨⟨_,_,rfl⟩,lD (p:=q) ?_ (ax hq)⟩;unfold fS;rw[xR];simp only[];rw[hn]
    all_goals (cases fx wa<;>cases fx wb<;>cases fx we<;>rfl)
   |some vv=>
    have hvx:vv=z:=by rw[hz,hn];rfl
    refine EL ?_;refine acp ?_;refine KO.ce (cp:=[]) rfl rfl rfl call136 rfl (jz w _ we (YJ we ai) hM) ?_;rintro v' L' ⟨hR,rfl⟩;unfold lM at hR;rw[hn]at hR;subst hR;refine Qc ?_;refine BS ?_;refine EH ?_;refine yi ?_;refine HY ?_;refine X5 ?_;refine EL ?_;refine KO.jd (i:=4) rfl rfl runUnderlying333 sizeOf3 rfl ah rfl ?_;refine KO.fu (i:=4) rfl rfl rfl aN uc rfl br (by rfl) (by simp[TE]) ?_;refine X4 ?_;refine Qg ?_;refine vO ?_;refine Va ?_;subst hvx;refine KQ.round 3 ⟨by omega,fun h=>?_,fun h=>?_,fun h=>?_⟩ ah ⟨rfl,rfl,rfl,rfl,rfl,rfl,rfl,rfl,rfl,trivial⟩ (fun w hw=>hw.all ft)
    all_goals first|rfl|exact om ae|exact iq ae
  ·refine HX ?_;refine um ?_;refine Zm ?_;refine KR.ct rfl rfl ?_
   repeat(first|(with_reducible refine KQ.u5 ?_)|(with_reducible refine KQ.iE ?_)|(with_reducible refine KQ.kj ?_)|(with_reducible refine KR.exit ?_))
   refine KR.draw [.read,.pure,.read,.pure,.read,.pure,.pure,.read,.pure,.pure,.read,.pure,.read,.pure,.ef,.write,.write] [0,1,2,3,4,5,6,7,8,9,10,11,12,13,14,15,16] bC bC bC (fun a w h=>by exact mU a w h) ?_;refine Ql ?_;refine KO.jd (i:=0) rfl rfl runUnderlying333 sizeOf3 rfl ah rfl ?_;refine sP ?_;refine KO.jd (i:=1) rfl rfl runUnderlying333 sizeOf3 rfl ah rfl ?_;refine sP ?_;refine Z1 ?_;refine KO.gO (i:=2) rfl rfl runUnderlying115 sizeOf9 rfl ah rfl ?_;refine ab0 ?_;refine Z1 ?_;refine KO.gO (i:=3) rfl rfl runUnderlying115 sizeOf9 rfl ah rfl ?_;refine KO.j7 (i:=3) (sz:=1) (cf:=mf) (e:=wd) rfl rfl isAgg9 aQ (fun _=>rfl) rfl aN aN rfl ?_;refine KO.jd (i:=4) rfl rfl runUnderlying333 sizeOf3 rfl ah rfl ?_;refine sP ?_;refine Z36 ?_;refine KO.sw (z:=(Value.agg #[.int .i64 0,.int .i64 0,.string ⟨#[]⟩,.string ⟨#[]⟩,.int .i64 0])) (sz:=5) (fk:=56) rfl rfl underlying49 bC aN aN ah ah rfl ?_;intro b58;refine KO.app (z:=Value.agg #[.int .i64 0,.int .i64 0,.string ⟨#[]⟩,.string ⟨#[]⟩,.int .i64 0]) (sz:=5) (fk:=56) rfl rfl rfl aQ br underlying49 OJ rfl (⟨x,y,wc,wd,z⟩:Ms) aN aN aN ae ah rfl ?_;intro v';refine KO.fact (fun w hw=>bo hw) ?_;rintro⟨sa,cp,rfl,_⟩
   refine KO.oQ rfl rfl rfl aN Y54 aN aQ aN ?_;refine Xw ?_;refine KQ.conv (fun w hw=>hw.all (M:=Ol b4 b3 b2 (.slice sa (xs++[(⟨x,y,wc,wd,z⟩:Ms)]).length cp) .nilIface (xs++[(⟨x,y,wc,wd,z⟩:Ms)])++N) Y4) ?_
   have YS:fS q=some ⟨x,y,wc,wd,z⟩:=by
    unfold fS;rw[xR];simp only[];rw[om ae,iq ae,hp3 ae]
   refine hgo _ _ ⟨_,_,rfl,?_⟩;rw[a_ hq,xl tG,YS];rfl
 ·rintro b M ⟨v,xs,rfl,tG⟩;rw[List.take_length]at tG;have vh:xs.length<=100000:=by have :=tA tG;omega
  have Q0:∀m∈xs,m.body.size<=maxLen/\m.queue.size<=maxLen:=fun m hm=>by
   have :=xm (B:=90000) tG (fun p hp=>by have :=jc hp;omega) m hm;unfold maxLen;omega
  have Jk:wx s=if jM xs=none/\cK xs=s then some xs else none:=by unfold wx;rw[if_neg h0,tG]
  rw[Jk];simp only[Ol]
  repeat(first|(with_reducible refine K.seq ?_)|(with_reducible refine KQ.next ?_)|(with_reducible refine KQ.gy ?_))
  refine K.fact (fun w hw=>bo (hw.pick (.tail (.tail (.tail (.tail .head)))))) ?_;rintro⟨sa,cp,rfl,_⟩;cases hb:jM xs with
  |some kb=>
   rw[if_neg ai];refine di ?_;refine Ql ?_;refine KO.ce (cp:=[]) rfl rfl rfl call60 rfl (oX w _ _ xs (fun w' hw'=>qX.FX (fun _=>rfl) aQ hw') hT Q0 vh) ?_;rintro v' L' hR;unfold Uj at hR;rw[hb]at hR;obtain⟨be,rfl,rfl⟩:=hR;unfold atV;refine Qj ?_;refine B_ ?_;refine EV ?_;refine Iu ?_;refine Ia ?_;refine Z4 ?_;refine KQ.yz aQ rfl rfl rfl isAgg49 isAgg31 aQ br (fun w' hs=>⟨_,_,rfl,⟨aN,rfl⟩,hw.aA hs.below,hs.below⟩)
  |none=>
   by_cases xR:cK xs=s
   ·rw[if_pos ⟨rfl,xR⟩];refine di ?_;refine Ql ?_;refine KO.ce (cp:=[]) rfl rfl rfl call60 rfl (oX w _ _ xs (fun w' hw'=>qX.FX (fun _=>rfl) aQ hw') hT Q0 vh) ?_;rintro v' L' hR;unfold Uj at hR;rw[hb]at hR;obtain⟨rfl,rfl⟩:=hR;refine JX ?_;refine BQ ?_;refine qW ?_;refine Hg ?_;refine ua ?_;refine K.ct rfl (by simp[xR]) ?_;refine qP ?_;refine Ql ?_;refine Ia ?_;refine Z5 ?_;refine KQ.yz aQ rfl rfl rfl isAgg49 isAgg31 aQ br (fun w' hs=>⟨_,_,rfl,⟨_,rfl,rfl⟩,?_,hs.below⟩);exact hw.stack (M:=[SL 44 5 dy (.slice sa xs.length cp) xs]) (hs.all Y3)
   ·rw[if_neg (fun h=>xR h.2)];refine di ?_;refine Ql ?_;refine KO.ce (cp:=[]) rfl rfl rfl call60 rfl (oX w _ _ xs (fun w' hw'=>qX.FX (fun _=>rfl) aQ hw') hT Q0 vh) ?_;rintro v' L' hR;unfold Uj at hR;rw[hb]at hR;obtain⟨rfl,rfl⟩:=hR;refine JX ?_;refine BQ ?_;refine qW ?_;refine Hg ?_;refine ua ?_;refine K.bW rfl (by simp[xR]) ?_;refine Iu ?_;refine Ia ?_;refine Z4 ?_;refine KQ.yz aQ rfl rfl rfl isAgg49 isAgg31 aQ br (fun w' hs=>⟨_,_,rfl,⟨aN,rfl⟩,hw.aA hs.below,hs.below⟩)
 ·rintro b M ⟨⟨v,xs,rfl⟩,hx⟩;have Jk:wx s=none:=by unfold wx;rw[if_neg h0,hx]
  rw[Jk];simp only[Ol]
  repeat(first|(with_reducible refine KQ.nf ?_)|(with_reducible refine KQ.yT ?_))
  refine KQ.yz br rfl rfl rfl isAgg49 isAgg31 aQ aQ (fun w' hs=>⟨_,_,rfl,⟨aN,rfl⟩,hw.aA hs.below,hs.below⟩)
theorem ZF(w0:World)(L:List HP)(s:aj)(hs:s.size<=1000000):KE prog 232 #[.string s] w0 L (fun u M=>u=.int .i64 (xK s)/\M=L):=by
 refine KE.mk (n:=21) func232 rfl ntmps232 ai ?_;intro w hw;refine Z2 ?_;refine BZ ?_;refine H_ ?_;refine oL ?_;refine K.loop (fun k:Nat=>[(0,.string s),(3,.int .u64 (LN (s.data.toList.take k))),(6,.int .i64 (s.size:Nat)),(7,.int .i64 (k:Nat))]) (fun _=>[]) (fun k=>k<=s.size) (fun k=>s.size-k) 0
  (aH _) ⟨rfl,rfl,rfl,rfl,trivial⟩ (fun _ h=>h) ?_
 rintro k hk;refine lW ?_;refine K.bn rfl (fun h=>?_) (fun h=>?_)
 ·obtain⟨b,hb,iw⟩:∃e,s[k]? =some e/\s.data.toList[k]? =some e:=⟨s[k]' ae,by simp,by simp[ByteArray.getElem_eq_getElem_data]⟩;refine sy ?_;refine qV ?_;refine cW ?_;refine gZ ?_;refine KO.O8 rfl rfl underlying9 aN sE rfl ?_;refine KO.b2u rfl (by rw[underlying5];rfl) underlying224 (by have :=b.toNat_lt;omega) rfl ?_;refine KO.adY rfl rfl rfl ?_;refine KO.aex rfl rfl rfl ?_;refine qq ?_;refine KQ.round (k+1) ae ae ⟨rfl,?_,rfl,rfl,trivial⟩ (fun _ h=>h);simp only[cB];rw[a_ iw];unfold LN;rw[List.foldl_append];rfl
 ·refine Z9 ?_;have Es:k=s.size:=by omega
  subst Es;have hb:=ze s.data.toList;have e1:s.data.toList.take s.size=s.data.toList:=List.take_of_length_le ai;rw[e1];refine cW ?_;refine KO.aeg rfl rfl rfl ?_;refine KO.u2i rfl (by rw[underlying224];rfl) underlying3 ae rfl ?_;refine kq ?_;refine KQ.aU rfl rfl (fun w' hs=>⟨_,_,rfl,⟨rfl,rfl⟩,hw.aA hs.below,hs.below⟩)
theorem zn(w0:World)(L:List HP)(k:Int)(s:aj)(hk:o5 k)(hs:s.size<=900000)(hT:ym w0):KE prog 134 #[.int .i64 k,.string s] w0 L (fun u M=>u=.string (ew k s)/\M=L):=by
 refine KE.mk (n:=17) func134 rfl ntmps134 ai ?_;intro w hw;have hT:=hT.ext (Ext.bU hw.below);have h1:=cL hk;have h2:=zd (jP k s);have h3:=cL (n:=xK (jP k s)) ⟨by omega,by omega⟩;have kz:(⟨#[124]⟩:aj).size=1:=rfl;have iw:(bZ 124).size=1:=rfl;have nW:(ck k++⟨#[124]⟩:aj).size=(ck k).size+1:=by rw[aV,kz]
 have jg:(jP k s++⟨#[124]⟩:aj).size=(jP k s).size+1:=by rw[aV,kz]
 have h4:(jP k s).size<=900022:=by unfold jP;simp only[aV];omega
 refine lg ?_;refine KO.ce (cp:=[]) rfl rfl rfl call59 rfl (nF w _ k hT hk) ?_;rintro v' L' ⟨rfl,rfl⟩;refine rM ?_;refine Z1 ?_;refine rM ?_;refine jL ?_;rw[show ck k++⟨#[124]⟩++s=jP k s from rfl];refine cW ?_;refine rM ?_;refine Z1 ?_;refine KO.ce (cp:=[]) rfl rfl rfl call232 rfl (ZF w _ _ ae) ?_;rintro v' L' ⟨rfl,rfl⟩;refine KO.ce (cp:=[]) rfl rfl rfl call59 rfl (nF w _ _ hT ⟨by omega,by omega⟩) ?_;rintro v' L' ⟨rfl,rfl⟩;refine rM ?_;refine kq ?_;refine KQ.aU rfl rfl (fun w' hs=>⟨_,_,rfl,⟨rfl,rfl⟩,hw.aA hs.below,hs.below⟩)
theorem Oz(w0:World)(L:List HP)(k:Int)(t:aj)(hk:o5 k)(ht:t.size<=800000)(hT:ym w0)(hM:xg w0):
 KE prog 52 #[.int .i64 k,.string t] w0 L (fun u M=>u=.tuple #[.string ((gU k t).getD ⟨#[]⟩),.bool (gU k t).isSome]/\M=L):=by
 refine KE.mk (n:=24) func52 rfl ntmps52 ai ?_;intro w hw;have hT:=hT.ext (Ext.bU hw.below);have hM:=hM.ext (Ext.bU hw.below);have dM:∀p∈dH 124 t,p.size<=t.size:=fun p hp=>jc hp
 refine iz ?_;refine jo ?_;refine KO.ce (cp:=[]) rfl rfl rfl call133 rfl (pN w _ t 124 ae hM) ?_;rintro v' L' ⟨bq,rfl,rfl⟩;refine jL ?_;have mU:(∀a b c,dH 124 t≠[a,b,c])->gU k t=none:=fun h=>by
  unfold gU;split
  ·rename_i a b c e;exact absurd e (h a b c)
  ·rfl
 by_cases h3:(dH 124 t).length=3
 ·obtain⟨wa,wb,wc,he⟩:∃a b c,dH 124 t=[a,b,c]:=by
   match h:dH 124 t,h3 with
   |[a,b,c],_=>exact⟨a,b,c,rfl⟩
  rw[he];have hwb:wb.size<=800000:=by have :=dM wb (by rw[he];simp);omega
  by_cases hse:ew k wb=t
  ·have ho:gU k t=some wb:=by unfold gU;rw[he];simp[hse]
   rw[ho];refine JQ ?_;refine BQ ?_;refine Z1 ?_;refine KO.on rfl rfl ai ?_;refine KO.gO (i:=1) rfl rfl runUnderlying115 sizeOf9 rfl ai rfl ?_;refine KO.on rfl rfl ai ?_;refine KO.j7 (i:=1) (sz:=1) (cf:=mf) (e:=wb) rfl rfl isAgg9 br (fun _=>rfl) rfl aN aN rfl ?_;refine KO.on rfl rfl ai ?_;refine KO.ce (cp:=[]) rfl rfl rfl call134 rfl (zn w _ k wb hk ae hT) ?_;rintro v' L' ⟨rfl,rfl⟩;refine lX ?_;refine qW ?_;refine Hg ?_;refine ua ?_;refine K.ct rfl (by simp[hse]) ?_;refine qp ?_;refine Z91 ?_;refine nP ?_;refine KQ.dG rfl rfl rfl (fun w' hs=>⟨_,_,rfl,⟨rfl,rfl⟩,hw.aA hs.below,hs.below⟩)
  ·have ho:gU k t=none:=by unfold gU;rw[he];simp[hse]
   rw[ho];refine JQ ?_;refine BQ ?_;refine Z1 ?_;refine KO.on rfl rfl ai ?_;refine KO.gO (i:=1) rfl rfl runUnderlying115 sizeOf9 rfl ai rfl ?_;refine KO.on rfl rfl ai ?_;refine KO.j7 (i:=1) (sz:=1) (cf:=mf) (e:=wb) rfl rfl isAgg9 br (fun _=>rfl) rfl aN aN rfl ?_;refine KO.on rfl rfl ai ?_;refine KO.ce (cp:=[]) rfl rfl rfl call134 rfl (zn w _ k wb hk ae hT) ?_;rintro v' L' ⟨rfl,rfl⟩;refine lX ?_;refine qW ?_;refine Hg ?_;refine ua ?_;refine K.bW rfl (by simp[hse]) ?_;refine yg ?_;refine KQ.dG rfl rfl rfl (fun w' hs=>⟨_,_,rfl,⟨rfl,rfl⟩,hw.aA hs.below,hs.below⟩)
 ·have ho:gU k t=none:=mU fun a b c e=>h3 (by rw[e];rfl)
  rw[ho];have h3i:¬(((dH 124 t).length:Nat):Int)=3:=by omega
  refine JQ ?_;refine B1 ?_;refine KO.no rfl rfl Y5 rfl ?_;refine B2 ?_;refine K.bW rfl (by simp[h3i]) ?_;refine yg ?_;refine KQ.dG rfl rfl rfl (fun w' hs=>⟨_,_,rfl,⟨rfl,rfl⟩,hw.aA hs.below,hs.below⟩)
def Ez (D:Dk):List Value:=D.places.map Value.string++[.bool D.cut,.int .i64 D.left]
def ga (b:Nat) (D:Dk):HP:=bA b (.cells (Ez D).toArray 28 (0,0))
theorem Ln{D:Dk}(h:D.places.length=300):(Ez D).length=302:=by simp[Ez,h]
theorem Tp{D:Dk}(h:D.places.length=300):(Ez D)[300]? =some (.bool D.cut):=by
 unfold Ez;rw[bp Ve];simp[h]
theorem vC{D:Dk}(h:D.places.length=300):(Ez D)[301]? =some (.int .i64 D.left):=by
 unfold Ez;rw[bp Ve];simp[h]
theorem MY{D:Dk}{k:Nat}{s:aj}(h:D.places[k]? =some s):(Ez D)[k]? =some (.string s):=by
 have hk:=(aw.1 h).1;unfold Ez;rw[List.getElem?_append_left (by simpa using hk),aG,h];rfl
theorem AE{D:Dk}{k:Nat}(s:aj)(hk:k<D.places.length):(Ez D).set k (.string s)=Ez {D with places:=D.places.set k s}:=by
 unfold Ez;rw[List.set_append_left _ _ (by simpa using hk),List.map_set]
theorem AF{D:Dk}(h:D.places.length=300)(n:Int):(Ez D).set 301 (.int .i64 n)=Ez {D with left:=n}:=by
 unfold Ez;rw[List.set_append_right _ _ Ve];simp[h]
theorem PU{D:Dk}(h:D.places.length=300)(c:Bool):(Ez D).set 300 (.bool c)=Ez {D with cut:=c}:=by
 unfold Ez;rw[List.set_append_right _ _ Ve];simp[h]
theorem Rs(w0:World)(L:List HP)(b k:Nat)(D:Dk)(s:aj)(dC:Int)(h3:D.places.length=300)(hk:k<300)(hl: -4000000000000000000<=D.left/\D.left<=9223372036854775807)(hs:0<s.size/\s.size<=1000000):
 KC prog 156 #[.pointer (some ⟨b,0,none⟩),.int .i64 (k:Nat),.string s,.int .i64 dC] w0 (ga b D::L) (fun u M=>u=dj 70 (ou D)/\M=ga b (fq D k s dC)::L):=by
 refine KC.mk (n:=48) func156 rfl ntmps156 ai ?_;refine x6 ?_;have wK:lL D=(D.cut&&decide (D.left=0)):=rfl;cases hcut:D.cut with
 |false=>
  have ho:lL D=false:=by rw[wK,hcut];rfl
  refine g_ ?_;refine Yf ?_;refine pF ?_;refine XB ?_;refine A6 ?_;refine g_ ?_;refine Qz ?_;refine KO.bO (i:=301) rfl rfl isAgg3 .head rfl (vC h3) rfl ?_;refine Nc ?_;refine iD ?_;refine Qz ?_;refine KO.fu (i:=301) rfl rfl rfl aN uc rfl .head rfl Y37 ?_;rw[AF h3];refine EI ?_;refine EK ?_;refine Yd ?_;refine KO.fu (i:=k) rfl rfl rfl aN (by exact sizeOf9) rfl .head yY Y27 ?_;rw[AE _ (by exact(by omega :k<D.places.length))];refine qO ?_;refine KQ.aU rfl rfl (fun w' hs=>⟨_,_,rfl,⟨?_,rfl⟩,?_⟩)
  ·unfold ou;rw[if_neg (by simp[ho])];rfl
  ·unfold fq;rw[if_neg (by simp[ho])];exact hs
 |true=>
  by_cases NC:D.left=0
  ·have ho:lL D=true:=by rw[wK,hcut,NC];rfl
   refine g_ ?_;refine Yf ?_;refine BQ ?_;refine iD ?_;refine KO.on rfl rfl rfl ?_;refine KO.fG (off:=301) rfl runUnderlying28 rfl rfl sizeOf3 rfl ?_;refine KO.on rfl rfl rfl ?_;refine KO.bO (i:=301) rfl rfl isAgg3 .head rfl (by rw[vC h3,NC]) rfl ?_;refine BV ?_;refine EV ?_;refine m_ ?_;refine qG ?_;refine Z3 ?_;refine K.bn rfl (fun h5=>?_) (fun h5=>?_)
   ·(skip)
    refine K.draw [.pure,.pure,.pure,.pure,.pure,.pure,.pure,.pure,.pure,.pure,.pure,.pure,.write] [0,1,2,3,4,5,6,7,8,9,10,11,12] bC bC ?_;refine gZ ?_;refine gZ ?_;refine Z1 ?_;refine H_ ?_;refine Nc ?_;refine KO.min2 rfl rfl rfl rfl ?_;refine KO.Uq (i:=(min dC ((s.size:Int)-1)).toNat) rfl rfl underlying9 ae ae rfl ?_;refine iD ?_;refine Yd ?_;refine KO.fu (i:=k) rfl rfl rfl aN (by exact sizeOf9) rfl .head yY Y37 ?_;rw[AE _ ae];refine rK ?_;refine EU ?_;refine AZ ?_;refine KQ.aU rfl rfl (fun w' hs=>⟨_,_,rfl,⟨?_,rfl⟩,?_⟩)
    ·unfold ou;rw[if_pos ho];rfl
    ·unfold fq ga;rw[if_pos ho,if_pos ae];exact hs
   ·refine qP ?_;refine EU ?_;refine AZ ?_;refine KQ.aU rfl rfl (fun w' hs=>⟨_,_,rfl,⟨?_,rfl⟩,?_⟩)
    ·unfold ou;rw[if_pos ho];rfl
    ·unfold fq;rw[if_pos ho,if_neg ae];exact hs
  ·have ho:lL D=false:=by rw[wK,hcut];simpa using NC
   refine g_ ?_;refine Yf ?_;refine BQ ?_;refine iD ?_;refine KO.on rfl rfl rfl ?_;refine KO.fG (off:=301) rfl runUnderlying28 rfl rfl sizeOf3 rfl ?_;refine KO.on rfl rfl rfl ?_;refine KO.bO (i:=301) rfl rfl isAgg3 .head rfl (vC h3) rfl ?_;refine BV ?_;refine uk ?_;refine Z3 ?_;refine K.ct rfl (by simpa using NC) ?_;refine Z6 ?_;refine g_ ?_;refine Qz ?_;refine KO.bO (i:=301) rfl rfl isAgg3 .head rfl (vC h3) rfl ?_;refine Nc ?_;refine iD ?_;refine Qz ?_;refine KO.fu (i:=301) rfl rfl rfl aN uc rfl .head rfl Y37 ?_;rw[AF h3];refine EI ?_;refine EK ?_;refine Yd ?_;refine KO.fu (i:=k) rfl rfl rfl aN (by exact sizeOf9) rfl .head yY Y27 ?_;rw[AE _ (by exact(by omega :k<D.places.length))];refine qO ?_;refine KQ.aU rfl rfl (fun w' hs=>⟨_,_,rfl,⟨?_,rfl⟩,?_⟩)
   ·unfold ou;rw[if_neg (by simp[ho])];rfl
   ·unfold fq;rw[if_neg (by simp[ho])];exact hs
theorem U2(w0:World)(L:List HP)(b:Nat)(D:Dk)(n:Int)(h3:D.places.length=300):
 KC prog 18 #[.pointer (some ⟨b,0,none⟩),.int .i64 n] w0 (ga b D::L) (fun u M=>u=.tuple #[]/\M=ga b (kN D n)::L):=by
 refine KC.mk (n:=14) func18 rfl ntmps18 ai ?_;refine cW ?_;refine gZ ?_;refine qG ?_;refine Z1 ?_;refine KO.max2 rfl rfl rfl rfl ?_;refine iD ?_;refine KO.fG (off:=300) rfl runUnderlying28 rfl rfl sizeOf4 rfl ?_;refine KO.fu (i:=300) rfl rfl rfl aN Zr rfl .head rfl Y37 ?_;rw[PU h3];refine iD ?_;refine Qz ?_;refine KO.fu (i:=301) rfl rfl rfl aN uc rfl .head rfl Y27 ?_;rw[AF (by exact h3)];refine jk ?_;refine KQ.wV rfl (fun w' hs=>⟨_,_,rfl,⟨rfl,rfl⟩,hs⟩)
def bN (p:Nat):Value:=.pointer (some ⟨p,0,none⟩)
def D5 (x:Ms×Int):List Value:=[.int .i64 x.1.id,.int .i64 x.1.pri,.string x.1.body,.string x.1.queue,.int .i64 x.1.bF,.int .i64 x.2]
def kB (x:Int):List Value:=[.int .i64 x]
def Ex (x:Int×aj):List Value:=[.int .i64 x.1,.string x.2]
def cX (v:Value) (l:List (Ms×Int)):HP:=SL 142 6 D5 v l
def cV (v:Value) (l:List (Int×aj)):HP:=SL 146 2 Ex v l
def dU (v:Value) (l:List Int):HP:=YB 3 v l
structure uo where
 nv:Value
 mb:Nat
 ps:List Nat
 us:List (Value×Value)
 bs:List Value
structure jA (V:uo) (H:Ho):Prop where
 ps:V.ps.length=4+H.aI.length
 us:V.us.length=5
 bs:V.bs.length=4
 ways:H.ways.length=4
 ay:H.ay.length=5
 batch:H.batch.length=4
 bT:H.bT.length=4
 aC:H.aC.length=4
def fe (bd:Nat) (V:uo) (H:Ho):List Value:=
 .int .i64 H.id::bN bd::.int .i64 (H.used:Nat)::.bool H.down::.int .i64 H.dC::.int .i64 H.next::V.nv::.map (some V.mb)::
  ((V.ps.take 4).map bN++(V.us.flatMap (fun p=>[p.1,p.2])++(V.bs++(H.bT.map (Value.int .i64)++H.aC.map (Value.int .i64)))))
abbrev dI (V:uo) (H:Ho):List (aj×Value):=tE H.aI (V.ps.drop 4)
abbrev Bh (bh bd:Nat) (V:uo) (H:Ho) (L:List HP):List HP:=
 bA bh (.cells (fe bd V H).toArray 133 (0,0))::fb V.nv H.names::bP Value.string V.mb (dI V H)::bI jv V.ps H.all::bI cX (V.us.map (·.1)) (H.ay.map (·.aT))::bI cV (V.us.map (·.2)) (H.ay.map (·.aY))::bI dU V.bs H.batch::L
def dt (bh bd:Nat) (H:Ho):HP:=ex fun V:uo=>sep (Mb (jA V H)) (iR (Bh bh bd V H []))
theorem cn{w0 w:World}{bh bd:Nat}{H:Ho}{L:List HP}(h:St w0 (dt bh bd H::L) w):∃V:{V:uo//jA V H},St w0 (Bh bh bd V.1 H L) w:=by
 obtain⟨V,h⟩:=h.Iq;obtain⟨hV,h⟩:=h.split.xP;exact⟨⟨V,hV⟩,by have :=h.splits;exact this⟩
theorem bM{w0 w:World}{bh bd:Nat}{H:Ho}{L:List HP}(V:uo)(hV:jA V H)(h:St w0 (Bh bh bd V H L) w):St w0 (dt bh bd H::L) w:=
 St.GR (F:=fun V=>sep (Mb (jA V H)) (iR (Bh bh bd V H []))) V (St.join (St.BB hV (St.KZ (L:=Bh bh bd V H []) h)))
theorem mT{w0 w:World}{bh bd:Nat}{H:Ho}{L R:List HP}(h:St w0 L w)(hp:bB L (dt bh bd H) R):
 ∃V,jA V H/\∀i v,(fe bd V H)[i]? =some v->w.cell? ⟨bh,i,none⟩=some v:=by
 obtain⟨V,h1⟩:=cn (h.pick hp);refine⟨V.1,V.2,fun i v hv=>?_⟩;rw[World.cell?,h1.look.2];simpa using hv
theorem r8{bd:Nat}{V:uo}{H:Ho}(h:jA V H):(fe bd V H).length=34:=by
 have e:(V.us.flatMap (fun p=>[p.1,p.2])).length=10:=by
  have :∀l:List (Value×Value),(l.flatMap (fun p=>[p.1,p.2])).length=2*l.length:=fun l=>by
   induction l with
   |nil=>rfl
   |cons a l ih=>rw[bj,aW,ih];simp;omega
  rw[this,h.us]
 simp[fe,h.ps,h.bs,h.bT,h.aC,e]
theorem VG(w0:World)(L R:List HP)(bh bd:Nat)(H:Ho)(hp:bB L (dt bh bd H) R):KE prog 155 #[bN bh] w0 L (fun u M=>u=dj 70 (jQ H)/\M=L):=by
 refine KE.mk (n:=16) func155 rfl ntmps155 ai ?_;intro w hw;obtain⟨V,hV,hc⟩:=mT hw hp;have Jr:=hc 3 _ rfl;have jg:=hc 2 _ rfl;refine iz ?_;refine Vc ?_;cases hd:H.down with
 |true=>
  rw[hd]at Jr;refine cW ?_;refine XA ?_;refine Z8 ?_;refine Br ?_;refine ya ?_;refine KQ.aU rfl rfl (fun w' hs=>⟨_,_,rfl,⟨?_,rfl⟩,hw.aA hs.below,hs.below⟩);unfold jQ;rw[hd];rfl
 |false=>
  rw[hd]at Jr;refine cW ?_;refine XA ?_;refine qV ?_;refine oI ?_;refine m_ ?_;refine Zi ?_;refine KO.sl rfl rfl isAgg3 jg rfl ?_;refine qG ?_;refine qV ?_;refine K.bn rfl (fun h5=>?_) (fun h5=>?_)
  ·refine ya ?_;refine KQ.aU rfl rfl (fun w' hs=>⟨_,_,rfl,⟨?_,rfl⟩,hw.aA hs.below,hs.below⟩);unfold jQ;rw[hd,if_neg ai,if_pos ae];rfl
  ·refine TJ ?_;refine xf ?_;refine KQ.aU rfl rfl (fun w' hs=>⟨_,_,rfl,⟨?_,rfl⟩,hw.aA hs.below,hs.below⟩);unfold jQ;rw[hd,if_neg ai,if_neg ae];rfl
theorem Wd(w0:World)(L:List HP)(bh bd:Nat)(H:Ho)(x:Nm)(h1:x.name.size<=maxLen)(h2:x.gK.size<=maxLen)(hl:H.names.length<=20)(hs:dF H.names):
 KC prog 137 #[bN bh,.agg x.cells.toArray] w0 (dt bh bd H::L) (fun u M=>u=dj 70 (Gk H x)/\M=dt bh bd (eS H x)::L):=by
 obtain⟨xn,xt,xh⟩:=x;dsimp only at h1 h2;refine KC.mk (n:=35) func137 rfl ntmps137 ai ?_;refine kO ?_;refine K.bV (fun _ h=>cn h) ?_;rintro⟨V,hV⟩;dsimp only;have ku:=hV.ps;refine di ?_;refine KO.box rfl rfl aN rfl ?_;intro b3;refine jL ?_;refine abY ?_;refine Uf ?_;refine B7 ?_;refine KO.cl (cp:=[]) rfl rfl rfl call170 rfl (IX w0 _ _ _ bh 6 (fe bd V H) 133 V.nv H.names ⟨xn,xt,xh⟩ aQ aQ rfl h1 h2 hl hs) ?_;rintro v' L' ⟨rfl,v2,rfl⟩;rw[show(fe bd V H).set 6 v2=fe bd {V with nv:=v2} H from rfl];refine yf ?_;refine K.bn rfl (fun h=>?_) (fun h=>?_)
 ·refine xd ?_;refine KQ.aU rfl rfl (fun w' aM=>⟨_,_,rfl,⟨rfl,rfl⟩,?_⟩);rw[show eS H ⟨xn,xt,xh⟩=H from if_neg h];rw[Cq h]at aM;exact bM {V with nv:=v2} ⟨hV.ps,hV.us,hV.bs,hV.ways,hV.ay,hV.batch,hV.bT,hV.aC⟩ (aM.all Y1)
 have h0:cu H.names ⟨xn,xt,xh⟩=0:=by simpa using h
 have he:Gk H ⟨xn,xt,xh⟩=0:=h0;refine Z6 ?_;have lI:jA {V with nv:=v2} {H with names:=eE H.names ⟨xn,xt,xh⟩}:=⟨hV.ps,hV.us,hV.bs,hV.ways,hV.ay,hV.batch,hV.bT,hV.aC⟩;have Po:(V.ps.drop 4).length=H.aI.length:=by rw[bf,ku];omega
 by_cases hx:xt=⟨#[]⟩
 ·cases hq:H.qI xn with
  |none=>
   have hg:gj (dI V H) xn=none:=by rw[u6 _ _ _ Po,show H.aI.findIdx? (fun x=>decide (x.1=xn))=none from hq];rfl
   refine Zk ?_;refine pG ?_;refine B6 ?_;refine sC ?_;refine BU ?_;refine T3 ?_;refine KO.on rfl rfl vP ?_;refine KO.bO (i:=7) rfl rfl isAgg123 br rfl rfl rfl ?_;refine sh ?_;refine TI ?_;refine sh ?_;refine pG ?_;refine KO.on rfl rfl vP ?_;refine KO.zW dD xn rfl rfl rfl underlying123 underlying9 zeroValue119 aQ rfl ?_;rw[hg];refine KO.on rfl rfl vP ?_;refine KO.BL rfl underlying119 rfl ?_;refine sx ?_;refine Br ?_;refine ab9 ?_;refine XO ?_;refine TI ?_;refine pG ?_;refine XZ ?_;refine KO.box rfl rfl aN rfl ?_;intro U6;refine KO.Yz dD xn rfl rfl rfl rfl underlying123 underlying9 aQ ?_;refine qO ?_;refine KQ.aU rfl rfl (fun w' aM=>⟨_,_,rfl,⟨by rw[he];rfl,rfl⟩,?_⟩);rw[show eS H ⟨xn,xt,xh⟩={H with names:=eE H.names ⟨xn,xt,xh⟩,aI:=H.aI++[(xn,⟨[],0⟩)]}by unfold eS;rw[if_pos h0,if_pos ⟨hx,hq⟩]];have hm:=F6 H.aI (V.ps.drop 4) xn ⟨[],0⟩ U6 Po hq;rw[hm]at aM;have vp:=cw (E:=243) (sz:=8) (cf:=nV) aM
   have SP:St w0 (jv U6 ⟨[],0⟩::bI jv V.ps H.all::bA bh (.cells (fe bd {V with nv:=v2} H).toArray 133 (0,0))::fb v2 (eE H.names ⟨xn,xt,xh⟩)::bP Value.string V.mb (tE (H.aI++[(xn,⟨[],0⟩)]) (V.ps.drop 4++[U6]))::bI cX (V.us.map (·.1)) (H.ay.map (·.aT))::bI cV (V.us.map (·.2)) (H.ay.map (·.aY))::bI dU V.bs H.batch::L) w':=
    kQ (vp.all Y4)
   have YQ:=po (by rw[ku];simp[hV.ways]) SP;have et:(V.ps++[U6]).take 4=V.ps.take 4:=by rw[List.take_append_of_le_length ae]
   have ed:(V.ps++[U6]).drop 4=V.ps.drop 4++[U6]:=by rw[List.drop_append_of_le_length ae]
   have ea:H.all++[(⟨[],0⟩:Qu)]=H.ways++(H.aI++[(xn,(⟨[],0⟩:Qu))]).map (·.2):=by simp
   rw[ea]at YQ;refine bM {V with nv:=v2,ps:=V.ps++[U6]} ⟨by simp[ku];omega,hV.us,hV.bs,hV.ways,hV.ay,hV.batch,hV.bT,hV.aC⟩ ?_;have e1:fe bd {V with nv:=v2,ps:=V.ps++[U6]} {H with names:=eE H.names ⟨xn,xt,xh⟩,aI:=H.aI++[(xn,⟨[],0⟩)]}=fe bd {V with nv:=v2} H:=by unfold fe;dsimp only;rw[et]
   unfold Bh dI;rw[e1];dsimp only;rw[ed];exact YQ.all Y2
  |some i=>
   have WC:i<H.aI.length:=(List.findIdx?_eq_some_iff_getElem.1 hq).1;obtain⟨p,hp⟩:∃p,(V.ps.drop 4)[i]? =some p:=⟨_,ak ae⟩;have hg:gj (dI V H) xn=some (bN p):=by rw[u6 _ _ _ Po,show H.aI.findIdx? (fun x=>decide (x.1=xn))=some i from hq];simp only[Option.bind_some,hp,Option.map_some];rfl
   refine Zk ?_;refine pG ?_;refine B6 ?_;refine sC ?_;refine BU ?_;refine T3 ?_;refine KO.on rfl rfl vP ?_;refine KO.bO (i:=7) rfl rfl isAgg123 br rfl rfl rfl ?_;refine sh ?_;refine TI ?_;refine sh ?_;refine pG ?_;refine KO.on rfl rfl vP ?_;refine KO.zW dD xn rfl rfl rfl underlying123 underlying9 zeroValue119 aQ rfl ?_;rw[hg];refine KO.on rfl rfl vP ?_;refine KO.Ay rfl underlying119 rfl ?_;refine B2 ?_;refine Lz ?_;refine xf ?_;refine KQ.aU rfl rfl (fun w' aM=>⟨_,_,rfl,⟨by rw[he];rfl,rfl⟩,?_⟩);rw[show eS H ⟨xn,xt,xh⟩={H with names:=eE H.names ⟨xn,xt,xh⟩}by unfold eS;rw[if_pos h0,if_neg (by rw[hq];simp)]];exact bM {V with nv:=v2} lI (aM.all Y4)
 ·refine Zk ?_;refine pG ?_;refine B6 ?_;refine B1 ?_;refine Vd ?_;refine HU ?_;refine K.ct rfl vP ?_;refine Z6 ?_;refine xf ?_;refine KQ.aU rfl rfl (fun w' aM=>⟨_,_,rfl,⟨by rw[he];rfl,rfl⟩,?_⟩);rw[show eS H ⟨xn,xt,xh⟩={H with names:=eE H.names ⟨xn,xt,xh⟩}by unfold eS;rw[if_pos h0,if_neg vP]];exact bM {V with nv:=v2} lI (aM.all Y4)
theorem S7(w0:World)(L:List HP)(bh bd:Nat)(H:Ho)(s:aj)(hl:H.names.length<=20)(hs:dF H.names):
 KC prog 139 #[bN bh,.string s] w0 (dt bh bd H::L) (fun u M=>u=dj 70 (wP H s)/\M=dt bh bd (ot H s)::L):=by
 refine KC.mk (n:=14) func139 rfl ntmps139 ai ?_;refine kO ?_;refine K.bV (fun _ h=>cn h) ?_;rintro⟨V,hV⟩;dsimp only;have fin:∀w' v2,St w0 (Bh bh bd {V with nv:=v2} (ot H s) L) w'->St w0 (dt bh bd (ot H s)::L) w':=fun w' v2 h=>bM {V with nv:=v2} ⟨hV.ps,hV.us,hV.bs,hV.ways,hV.ay,hV.batch,hV.bT,hV.aC⟩ h
 refine di ?_;refine jo ?_;refine Hr ?_;refine Z1 ?_;refine KO.cl (cp:=[]) rfl rfl rfl call237 rfl (Sn w0 _ _ _ bh 6 (fe bd V H) 133 V.nv H.names s br br rfl ae hs) ?_;rintro v' L' ⟨rfl,v2,rfl⟩;rw[show(fe bd V H).set 6 v2=fe bd {V with nv:=v2} (ot H s)from rfl];refine yf ?_;refine K.bn rfl (fun h=>?_) (fun h=>?_)
 ·refine xd ?_;refine KQ.aU rfl rfl (fun w' aM=>⟨_,_,rfl,⟨rfl,rfl⟩,?_⟩);exact fin w' v2 (aM.all ft)
 ·refine Z6 ?_;refine xf ?_;have he:wP H s=0:=by unfold wP;simpa using h
  refine KQ.aU rfl rfl (fun w' aM=>⟨_,_,rfl,⟨by rw[he];rfl,rfl⟩,?_⟩);exact fin w' v2 (aM.all ft)
theorem OR(w0:World)(L:List HP)(bh bd:Nat)(H:Ho)(D:Dk)(s:aj)(hT:ym w0)(h3:D.places.length=300)(hd: -4000000000000000000<=D.left/\D.left<=9223372036854775807)(hs:s.size<=700000)(hu:H.used<=300):
 KC prog 61 #[bN bh,.string s] w0 (dt bh bd H::ga bd D::L) (fun u M=>u=dj 70 (ec H D)/\M=dt bh bd (eC H D)::ga bd (gg H D s)::L):=by
 refine KC.mk (n:=44) func61 rfl ntmps61 ai ?_;refine lg ?_;refine KO.ce (cp:=[]) rfl rfl rfl call155 rfl (VG w0 _ _ bh bd H .head) ?_;rintro v' L' ⟨rfl,rfl⟩;refine yf ?_;refine K.bn rfl (fun h=>?_) (fun h=>?_)
 ·refine xd ?_;refine KQ.aU rfl rfl (fun w' aM=>⟨_,_,rfl,⟨?_,rfl⟩,?_⟩)
  ·unfold ec;rw[if_pos h]
  ·unfold eC gg;rw[if_pos h,if_pos h];exact aM
 have h0:jQ H=0:=by simpa using h
 have hr:=yx h0;have dM:(ew (H.used:Nat) s).size<=1000000:=Nat.le_trans (uH ⟨by omega,by omega⟩ hs) ah;refine Z6 ?_;refine K.bV (fun _ h=>cn h) ?_;rintro⟨V,hV⟩;dsimp only;refine K.draw [.pure,.pure,.pure,.read,.pure,.pure,.pure,.read,.pure,.pure,.pure,.read,.pure,.ef,.pure,.pure,.pure,.read,.write,.pure] [0,1,2,3,4,5,6,7,8,9,10,11,12,14,15,16,17,13,18,19] bC bC ?_;refine sB ?_;refine KO.fG (off:=1) rfl runUnderlying133 rfl rfl sizeOf25 rfl ?_;refine KO.bO (i:=1) rfl rfl isAgg25 br rfl rfl rfl ?_;refine Z1 ?_;refine Np ?_;refine Z1 ?_;refine Np ?_;refine EK ?_;refine KO.fG (off:=4) rfl runUnderlying133 rfl rfl sizeOf3 rfl ?_;refine KO.bO (i:=4) rfl rfl isAgg3 br rfl rfl rfl ?_;refine KO.ce (cp:=[]) rfl rfl rfl call134 rfl (zn w0 _ (H.used:Nat) s ⟨by omega,by omega⟩ ae hT) ?_;rintro v' L' ⟨rfl,rfl⟩;refine KO.cl (cp:=[]) rfl rfl rfl call156 rfl (KC.jN aQ (Rs w0 _ bd H.used D (ew (H.used:Nat) s) H.dC h3 hr.2 hd ⟨sU _ _,dM⟩)) ?_;rintro v' L' ⟨rfl,rfl⟩;refine yf ?_;refine K.bn rfl (fun h2=>?_) (fun h2=>?_)
 ·refine m_ ?_;refine Z57 ?_;refine KO.fu (i:=3) rfl rfl rfl aN Zr rfl aQ rfl Rp ?_;rw[show(fe bd V H).set 3 (.bool true)=fe bd V {H with down:=true}from rfl];refine EI ?_;refine AZ ?_;refine KQ.aU rfl rfl (fun w' aM=>⟨_,_,rfl,⟨?_,rfl⟩,?_⟩)
  ·unfold ec;rw[if_neg h]
  ·unfold eC gg;rw[if_neg h,if_neg h,if_pos h2];exact bM V ⟨hV.ps,hV.us,hV.bs,hV.ways,hV.ay,hV.batch,hV.bT,hV.aC⟩ (aM.all Y7)
 ·refine qp ?_;refine Zi ?_;refine KO.bO (i:=2) rfl rfl isAgg3 aQ rfl rfl rfl ?_;refine vO ?_;refine Zi ?_;refine KO.fu (i:=2) rfl rfl rfl aN uc rfl aQ rfl Rp ?_;rw[show(fe bd V H).set 2 (.int .i64 ((H.used:Nat)+1:Int))=fe bd V {H with used:=H.used+1}from rfl];refine qO ?_;have NK:ou D=0:=by simpa using h2
  refine KQ.aU rfl rfl (fun w' aM=>⟨_,_,rfl,⟨?_,rfl⟩,?_⟩)
  ·unfold ec;rw[if_neg h,NK];rfl
  ·unfold eC gg;rw[if_neg h,if_neg h,if_neg h2];exact bM V ⟨hV.ps,hV.us,hV.bs,hV.ways,hV.ay,hV.batch,hV.bT,hV.aC⟩ (aM.all Y7)
theorem JC(w0:World)(L:List HP)(s:aj)(c:UInt8)(hs:s.size<=100000000)(hM:xg w0):
 KE prog 135 #[.string s,.string ⟨#[c]⟩] w0 L (fun u M=>u=.tuple #[.string (cZ c s).1,.string (cZ c s).2.1,.bool (cZ c s).2.2]/\M=L):=KE.bU fun w hw=>by
 obtain⟨⟨m,hm⟩,_⟩:=hM.ext (Ext.bU hw.below);refine(Tryz.strings_Cut s ⟨#[c]⟩ m w ae hm).mono ?_;rintro e w' ⟨rfl,n,rfl⟩;exact⟨rfl,⟨rfl,rfl,rfl,aP _,fun _ _=>rfl⟩⟩
theorem lG{V:uo}{H:Ho}(hV:jA V H)(s:aj):gj (dI V H) s=(H.qI s).bind fun i=>(V.ps[4+i]?).map bN:=by
 have ku:=hV.ps;rw[u6 _ _ _ (by rw[bf,ku];omega)];unfold Ho.qI;cases List.findIdx? (fun x=>decide (x.1=s)) H.aI with
 |none=>rfl
 |some i=>simp[List.getElem?_drop,bN];rfl
theorem Af{w0 w:World}{bh bd:Nat}{H:Ho}{L:List HP}(V:uo)(hV:jA V H)(i:Nat)(q:Qu)(h:St w0 (bA bh (.cells (fe bd V H).toArray 133 (0,0))::fb V.nv H.names::bP Value.string V.mb (dI V H)::bI jv V.ps (H.all.set (4+i) q)::bI cX (V.us.map (·.1)) (H.ay.map (·.aT))::bI cV (V.us.map (·.2)) (H.ay.map (·.aY))::bI dU V.bs H.batch::L) w):St w0 (dt bh bd (H.eA i q)::L) w:=by
 refine bM V ⟨by rw[zk];exact hV.ps,hV.us,hV.bs,hV.ways,hV.ay,hV.batch,hV.bT,hV.aC⟩ ?_;unfold Bh dI;rw[iy hV.ways,u7 (H.eA i q).aI H.aI _ (ia i q)];exact h
theorem Ph{w0 w:World}{bh bd:Nat}{H:Ho}{L:List HP}(V:uo)(hV:jA V H)(j:Nat)(hj:j<4)(q:Qu)(h:St w0 (bA bh (.cells (fe bd V H).toArray 133 (0,0))::fb V.nv H.names::bP Value.string V.mb (dI V H)::bI jv V.ps (H.all.set j q)::bI cX (V.us.map (·.1)) (H.ay.map (·.aT))::bI cV (V.us.map (·.2)) (H.ay.map (·.aY))::bI dU V.bs H.batch::L) w):St w0 (dt bh bd (H.iG j q)::L) w:=by
 refine bM V ⟨hV.ps,hV.us,hV.bs,by simp[Ho.iG,hV.ways],hV.ay,hV.batch,hV.bT,hV.aC⟩ ?_;unfold Bh;rw[ko (by rw[hV.ways];exact hj)];exact h
theorem qg{bd:Nat}{V:uo}{H:Ho}(hV:jA V H){j p:Nat}(hj:j<4)(hp:V.ps[j]? =some p):(fe bd V H)[8+j]? =some (bN p):=by
 have ku:=hV.ps;have :∀(r:List Value),((V.ps.take 4).map bN++r)[j]? =some (bN p):=fun r=>by
  rw[List.getElem?_append_left ez,aG,List.getElem?_take,if_pos hj,hp];rfl
 unfold fe;rw[show 8+j=j+8 by omega];simpa using this _
theorem L_{q:Qu}{id:Int}(h:kS q id≠0):eF q id=q:=by
 unfold kS at h;unfold eF;split
 ·rfl
 ·rename_i k hk;rw[hk]at h;exact absurd rfl h
theorem pQ{l:List Qu}{i:Nat}{q:Qu}(h:l[i]? =some q):l.set i q=l:=List.dE h
theorem K_(w0:World)(L:List HP)(bh bd n:Nat)(H:Ho)(s:aj)(hT:ym w0)(hM:xg w0)(hs:s.size<=80000)(hB:cx n H)(hn:∀l,wx (cZ 47 s).1=some l->n+l.length<=90000)(Wq:n<=90000):
 KC prog 65 #[bN bh,.string s] w0 (dt bh bd H::L) (fun u M=>u=.bool (eK H s).2/\M=dt bh bd (eK H s).1::L):=by
 have nW:=(px 47 s).1;have jg:=(px 47 s).2;refine KC.mk (n:=130) func65 rfl ntmps65 ai ?_;refine lg ?_;refine KO.ce (cp:=[]) rfl rfl rfl call135 rfl (JC w0 _ s 47 ae hM) ?_;rintro v' L' ⟨rfl,rfl⟩;refine Hv ?_;refine jL ?_;cases hm:wx (cZ 47 s).1 with
 |none=>
  have he:eK H s=(H,false):=by
   unfold eK;split
   ·rfl
   ·rw[hm]
  rw[he];refine cW ?_;refine KO.ce (cp:=[]) rfl rfl rfl call160 rfl (rY w0 _ (cZ 47 s).1 ae hT hM) ?_;rintro v' L' hR;unfold Vj at hR;rw[hm]at hR;obtain⟨rfl,rfl⟩:=hR;refine rJ ?_;cases qM:(cZ 47 s).2.2 with
  |false=>
   refine cW ?_;refine pC ?_;refine pF ?_;refine HH ?_;refine KQ.aU rfl rfl (fun w' aM=>⟨_,_,rfl,⟨rfl,rfl⟩,aM⟩)
  |true=>
   refine tZ ?_;refine KO.neN rfl bC rfl ?_;refine ua ?_;refine K.bW rfl ai ?_;refine kr ?_;refine KQ.aU rfl rfl (fun w' aM=>⟨_,_,rfl,⟨rfl,rfl⟩,aM⟩)
 |some l=>
  have hl:=hn l hm;obtain⟨oG,_⟩:=rr hm;have lV:∀m∈l,bD m=true:=fun m hm=>eV oG m hm
  refine cW ?_;refine KO.ce (cp:=[]) rfl rfl rfl call160 rfl (rY w0 _ (cZ 47 s).1 ae hT hM) ?_;rintro v' L' hR;unfold Vj at hR;rw[hm]at hR;obtain⟨v,rfl,rfl⟩:=hR;refine rJ ?_;cases qM:(cZ 47 s).2.2 with
  |false=>
   have he:eK H s=(H,false):=by unfold eK;rw[qM];rfl
   rw[he];refine cW ?_;refine pC ?_;refine pF ?_;refine HH ?_;refine KQ.aU rfl rfl (fun w' aM=>⟨_,_,rfl,⟨rfl,rfl⟩,aM.drop⟩)
  |true=>
   have he:eK H s=if(fW H l).2=false then((fW H l).1,false)else if(cZ 47 s).2.1=⟨#[]⟩then((fW H l).1,true)else gH (fW H l).1 (dH 43 (cZ 47 s).2.1):=by
    unfold eK;rw[qM,hm];rfl
   refine tZ ?_;refine yi ?_;refine ua ?_;refine HV ?_;refine Z6 ?_;refine K.fact (fun w hw=>bo (hw.pick (A:=SL 44 5 dy v l) .head)) ?_;rintro⟨ad,cap,rfl,had⟩;refine cW ?_;refine BY ?_;refine K.loop (fun p:Nat×Ho=>[(0,bN bh),(6,.string (cZ 47 s).2.1),(40,.slice ad l.length cap),(41,.int .i64 (l.length:Nat)),(42,.int .i64 (p.1:Nat))]) (fun p=>dt bh bd p.2::SL 44 5 dy (.slice ad l.length cap) l::L) (fun p=>p.1<=l.length/\cx (n+p.1) p.2/\fW p.2 (l.drop p.1)=fW H l) (fun p=>l.length-p.1) (0,H)
    ⟨aH _,hB,rfl⟩ ⟨rfl,rfl,rfl,rfl,rfl,trivial⟩ (fun _ h=>h.all Y2) ?_
   rintro⟨i,H1⟩ ⟨hi,kG,om⟩;dsimp only at hi kG om ⊢;refine lW ?_;refine K.bn rfl (fun h=>?_) (fun h=>?_)
   ·obtain⟨m,Pj⟩:∃e,l[i]? =some e:=⟨l[i],ak ae⟩;have Jk:=lV m (ax Pj);obtain⟨m1,m2,m3,m4,-,-,m7,m8⟩:=bG Jk;obtain⟨g,rfl⟩:=had ae;have o_:l.drop i=m::l.drop (i+1):=by
     obtain⟨h1,rfl⟩:=aw.1 Pj;exact List.drop_eq_getElem_cons h1
    rw[o_,fW]at om;have Em:=kG.next
    have hm4:0<=m.id/4/\m.id/4+1<=274877906945:=by omega
    have BG:∀H2,gG H1 m=some H2->cx (n+(i+1)) H2/\fW H2 (l.drop (i+1))=fW H l:=fun H2 h2=>⟨kG.R6 Jk h2,by rw[h2]at om;exact om⟩
    have mU:gG H1 m=none->eK H s=({H1 with next:=max H1.next (m.id/4+1)},false):=fun h2=>by
     rw[h2]at om;simp only at om;rw[he,<-om,if_pos rfl]
    clear om;have MB:small m.pri:=by unfold small;omega
    obtain⟨mi,mp,mb,mq,mh⟩:=m;dsimp only at m1 m2 m3 m4 m7 m8 hm4 MB mU;refine si ?_;refine Ye ?_;refine KO.alloc rfl zeroValue44 aN rfl ?_;intro Rm;refine tX ?_;refine K.bV (fun _ h=>cn (h.pick aQ)) ?_;rintro⟨V,hV⟩;dsimp only;have ku:=hV.ps;have iB:jA V {H1 with next:=max H1.next (mi/4+1)}:=⟨hV.ps,hV.us,hV.bs,hV.ways,hV.ay,hV.batch,hV.bT,hV.aC⟩;refine K.draw [.pure,.pure,.pure,.pure,.read,.pure,.read,.pure,.pure,.pure,.pure,.pure,.write] [0,1,2,3,4,5,6,7,8,9,10,11,12] bC bC ?_;refine EK ?_;refine Qv ?_;refine KO.bO (i:=5) rfl rfl isAgg3 br rfl rfl rfl ?_;refine Nj ?_;refine sD ?_;refine KO.div (a:=mi) (c:=4) rfl rfl ah m1 ae rfl ?_;refine vO ?_;refine KO.max2 rfl rfl rfl rfl ?_;refine iD ?_;refine Qv ?_;refine KO.fu (i:=5) rfl rfl rfl aN uc rfl br rfl Rp ?_;rw[show(fe bd V H1).set 5 (.int .i64 (max H1.next (mi/4+1)))=fe bd V {H1 with next:=max H1.next (mi/4+1)}from rfl];refine Z0 ?_;have hg:=lG hV mq;obtain⟨zv,Jb⟩:∃zv,zv=(gj (dI V H1) mq).getD (.pointer none):=⟨_,rfl⟩;refine ab2 ?_;refine XO ?_;refine JM ?_;refine pG ?_;refine KO.zW dD mq rfl rfl rfl underlying123 underlying9 zeroValue119 aQ rfl ?_;rw[<-Jb];refine Hd ?_
    refine K.draw [.pure,.read,.pure,.pure,.pure,.read,.pure,.pure] [0,1,2,3,4,5,6,7] bC bC ?_;refine NO ?_;refine sD ?_;refine sB ?_;refine H7 ?_;refine KO.bO (i:=0) rfl rfl isAgg3 br rfl rfl rfl ?_;refine Na ?_;refine qV ?_;refine K.bn rfl (fun Ao=>?_) (fun Ao=>?_)
    ·have hj:mh.toNat<4:=by omega
     have hmh:mh=((mh.toNat:Nat):Int):=by omega
     obtain⟨p,hp⟩:∃p,V.ps[mh.toNat]? =some p:=⟨_,ak ae⟩;have hw:=qg iB (bd:=bd) hj hp;have h2:gG H1 ⟨mi,mp,mb,mq,mh⟩=some (({H1 with next:=max H1.next (mi/4+1)}:Ho).iG mh.toNat (dr (H1.iY mh.toNat) ⟨mi,mp,mb,mq,mh⟩ (-1))):=by unfold gG;exact if_pos Ao
     obtain⟨h3,h4⟩:=BG _ h2;refine K.draw [.pure,.pure,.read,.pure,.pure,.pure,.read,.read,.write] [0,1,2,3,4,5,6,7,8] bC bC ?_;refine Z1 ?_;refine NO ?_;refine sD ?_;refine QI ?_;refine KO.jd (i:=mh.toNat) rfl rfl runUnderlying126 sizeOf119 hmh ae rfl ?_;refine KO.bO (i:=8+mh.toNat) rfl rfl isAgg119 br yY hw rfl ?_;refine Qe ?_;refine KO.cl (cp:=[]) rfl rfl rfl call147 rfl (KC.rD (φ:=fun v=>v=.tuple #[]) hp (pB hV.ways hj) aQ (fun L=>D6 w0 L p (H1.iY mh.toNat) ⟨mi,mp,mb,mq,mh⟩ (-1) ((kG.w hj).ok ae) MB)) ?_;rintro v' L' ⟨rfl,rfl⟩;refine pE ?_;refine KQ.round (i+1,_) ⟨by dsimp only;omega,h3,h4⟩ fZ ⟨rfl,rfl,rfl,rfl,rfl,trivial⟩ (fun _ h=>?_);exact Ph V iB mh.toNat hj _ (h.all Y4)
    ·have QZ:∀(o:Option Nat),H1.qI mq=o->gG H1 ⟨mi,mp,mb,mq,mh⟩=match o with|none=>none|some i=>some (({H1 with next:=max H1.next (mi/4+1)}:Ho).eA i (dr (H1.dZ i) ⟨mi,mp,mb,mq,mh⟩ (-1))):=fun o ho=>by
      unfold gG;dsimp only;rw[if_neg Ao,show H1.qI mq=o from ho]
      all_goals (cases o<;>rfl)
     cases hq:H1.qI mq with
     |none=>
      rw[hq]at hg;rw[hg]at Jb;subst Jb;refine m_ ?_;refine KO.BL rfl underlying119 rfl ?_;refine Z8 ?_;refine Br ?_;refine x7 ?_;refine KQ.aU rfl rfl (fun w' aM=>⟨_,_,rfl,⟨?_,rfl⟩,?_⟩)
      ·rw[mU (QZ _ hq)]
      ·rw[mU (QZ _ hq)];exact bM V iB (aM.all Y4)
     |some k=>
      have hk:=(fC hq).1;obtain⟨p,hp⟩:∃p,V.ps[4+k]? =some p:=⟨_,ak ae⟩;rw[hq]at hg;simp only[Option.bind_some,hp,Option.map_some]at hg;rw[hg]at Jb;subst Jb;have h2:=QZ _ hq;obtain⟨h3,h4⟩:=BG _ h2;refine m_ ?_;refine KO.Ay rfl underlying119 rfl ?_;refine qV ?_;refine oI ?_;refine cW ?_;refine Qe ?_;refine KO.cl (cp:=[]) rfl rfl rfl call147 rfl (KC.rD (φ:=fun v=>v=.tuple #[]) hp (l9 hV.ways hk) aQ (fun L=>D6 w0 L p (H1.dZ k) ⟨mi,mp,mb,mq,mh⟩ (-1) ((kG.qa hk).ok ae) MB)) ?_;rintro v' L' ⟨rfl,rfl⟩;refine pE ?_;refine KQ.round (i+1,_) ⟨by dsimp only;omega,h3,h4⟩ fZ ⟨rfl,rfl,rfl,rfl,rfl,trivial⟩ (fun _ h=>?_);exact Af V iB k _ (h.all Y4)
   ·have kD:i=l.length:=by omega
    subst kD;rw[List.drop_length,fW]at om;rw[<-om]at he;simp only[Bool.true_eq_false,if_false]at he;have Bm:=kG.le (show n+l.length<=90000 by omega);refine Ba ?_;refine EM ?_;refine K.bn rfl (fun UX=>?_) (fun UX=>?_)
    ·rw[if_pos UX]at he;rw[he];refine kr ?_;refine KQ.aU rfl rfl (fun w' aM=>⟨_,_,rfl,⟨rfl,rfl⟩,aM.all Y1⟩)
    ·rw[if_neg UX]at he;rw[he];have hpz:∀x∈dH 43 (cZ 47 s).2.1,x.size<=100000000:=fun x hx=>by have :=jc hx;omega
     have so:(dH 43 (cZ 47 s).2.1).length<=(cZ 47 s).2.1.size+1:=by unfold dH;rw[aX,gw];have :=List.count_le_length (a:=43) (l:=(cZ 47 s).2.1.data.toList);rw[km];omega
     refine qp ?_;refine KO.ce (cp:=[]) rfl rfl rfl call133 rfl (pN w0 _ (cZ 47 s).2.1 43 ae hM) ?_;rintro v' L' ⟨b92,rfl,rfl⟩;refine TL ?_;generalize ajo:dH 43 (cZ 47 s).2.1=ws at hpz so;refine K.loop (fun p:Nat×Ho=>[(0,bN bh),(92,.slice (some ⟨b92,0,none⟩) ws.length ws.length),(93,.int .i64 (ws.length:Nat)),(94,.int .i64 (p.1:Nat))]) (fun p=>dt bh bd p.2::ni (.slice (some ⟨b92,0,none⟩) ws.length ws.length) ws::L) (fun p=>p.1<=ws.length/\cx 90000 p.2/\gH p.2 (ws.drop p.1)=gH H1 ws) (fun p=>ws.length-p.1) (0,H1)
      ⟨aH _,Bm,rfl⟩ ⟨rfl,rfl,rfl,rfl,trivial⟩ (fun _ h=>h.all Y1) ?_
     rintro⟨i,H2⟩ ⟨Q7,hB3,iq⟩;dsimp only at Q7 hB3 iq ⊢;refine lW ?_;refine K.bn rfl (fun h=>?_) (fun h=>?_)
     ·obtain⟨x,hx⟩:∃e,ws[i]? =some e:=⟨ws[i],ak ae⟩;have hxz:=hpz x (ax hx);have hxc:=(px 32 x).1;have o_:ws.drop i=x::ws.drop (i+1):=by
       obtain⟨h1,rfl⟩:=aw.1 hx;exact List.drop_eq_getElem_cons h1
      rw[o_,gH]at iq;have wO:∀H3,gV H2 x=some H3->cx 90000 H3/\gH H3 (ws.drop (i+1))=gH H1 ws:=fun H3 h2=>⟨hB3.W5 h2,by rw[h2]at iq;exact iq⟩
      have mU:gV H2 x=none->gH H1 ws=(H2,false):=fun h2=>by rw[h2]at iq;exact iq.symm
      clear iq;refine T_ ?_;refine KO.j7 rfl rfl isAgg9 aQ (fun _=>rfl) sE aN aN rfl ?_;refine jo ?_;refine KO.ce (cp:=[]) rfl rfl rfl call135 rfl (JC w0 _ x 32 ae hM) ?_;rintro v' L' ⟨rfl,rfl⟩;refine Hv ?_;refine jL ?_;cases nH:fx (cZ 32 x).1 with
      |none=>
       have h2:gV H2 x=none:=by unfold gV;rw[nH]
       refine cW ?_;refine KO.ce (cp:=[]) rfl rfl rfl call136 rfl (jz w0 _ (cZ 32 x).1 ae hM) ?_;rintro v' L' ⟨hR,rfl⟩;unfold lM at hR;rw[nH]at hR;obtain⟨xx,TT,yy,rfl⟩:=hR;refine rJ ?_;refine K.bV (fun _ h=>cn (h.pick br)) ?_;rintro⟨V,hV⟩;dsimp only;refine Hj ?_;refine KO.zW dD _ rfl rfl rfl underlying123 underlying9 zeroValue119 aQ rfl ?_;refine jo ?_;refine KO.OG rfl bC rfl ?_;refine pF ?_;refine EV ?_;refine x7 ?_;refine KQ.aU rfl rfl (fun w' aM=>⟨_,_,rfl,⟨?_,rfl⟩,?_⟩)
       ·rw[mU h2]
       ·rw[mU h2];exact bM V hV (aM.all Y4)
      |some id=>
       refine cW ?_;refine KO.ce (cp:=[]) rfl rfl rfl call136 rfl (jz w0 _ (cZ 32 x).1 ae hM) ?_;rintro v' L' ⟨hR,rfl⟩;unfold lM at hR;rw[nH]at hR;subst hR;refine rJ ?_;refine K.bV (fun _ h=>cn (h.pick br)) ?_;rintro⟨V,hV⟩;dsimp only;have hg:=lG hV (cZ 32 x).2.1;have ku:=hV.ps;cases hq:H2.qI (cZ 32 x).2.1 with
       |none=>
        have h2:gV H2 x=none:=by unfold gV;rw[nH];simp only;rw[hq]
        rw[hq]at hg;refine Hj ?_;refine KO.zW dD (cZ 32 x).2.1 rfl rfl rfl underlying123 underlying9 zeroValue119 aQ rfl ?_;rw[hg];refine jo ?_;refine yi ?_;refine A1 ?_;refine KO.on rfl rfl rfl ?_;refine KO.BL rfl underlying119 rfl ?_;refine tW ?_;refine Br ?_;refine x7 ?_;refine KQ.aU rfl rfl (fun w' aM=>⟨_,_,rfl,⟨?_,rfl⟩,?_⟩)
        ·rw[mU h2]
        ·rw[mU h2];exact bM V hV (aM.all Y4)
       |some k=>
        have hk:=(fC hq).1;obtain⟨p,hp⟩:∃p,V.ps[4+k]? =some p:=⟨_,ak ae⟩;rw[hq]at hg;simp only[Option.bind_some,hp,Option.map_some]at hg;have Ik:=(hB3.qa hk).len;have Ip:gV H2 x=if kS (H2.dZ k) id=0 then some (H2.eA k (eF (H2.dZ k) id))else none:=by unfold gV;rw[nH];simp only;rw[hq]
        refine Hj ?_;refine KO.zW dD (cZ 32 x).2.1 rfl rfl rfl underlying123 underlying9 zeroValue119 aQ rfl ?_;rw[hg];refine jo ?_;refine yi ?_;refine A1 ?_;refine KO.on rfl rfl rfl ?_;refine KO.Ay rfl underlying119 rfl ?_;refine A6 ?_;generalize htm:pX (H2.dZ k) id=tm;obtain⟨ti,tp,tb,tq,th⟩:=tm;refine gY ?_;refine KO.cl (cp:=[]) rfl rfl rfl call161 rfl (KC.rD (φ:=fun v=>v=.tuple #[.agg (dy (pX (H2.dZ k) id)).toArray,dj 70 (kS (H2.dZ k) id)]) hp (l9 hV.ways hk) aQ (fun L=>N3 w0 L p (H2.dZ k) id ae)) ?_;rintro v' L' ⟨rfl,rfl⟩;rw[htm];refine LB ?_;refine KO.alloc rfl zeroValue44 aN rfl ?_;intro b21;refine TH ?_;refine yf ?_;refine K.bn rfl (fun h27=>?_) (fun h27=>?_)
        ·rw[if_neg h27]at Ip;refine x7 ?_;refine KQ.aU rfl rfl (fun w' aM=>⟨_,_,rfl,⟨?_,rfl⟩,?_⟩)
         ·rw[mU Ip]
         ·rw[mU Ip];rw[L_ h27,pQ (l9 hV.ways hk)]at aM;exact bM V hV (aM.all Y4)
        ·have afY:kS (H2.dZ k) id=0:=by simpa using h27
         rw[if_pos afY]at Ip;obtain⟨h3,h4⟩:=wO _ Ip;refine lY ?_;refine KQ.round (i+1,_) ⟨by dsimp only;omega,h3,h4⟩ fZ ⟨rfl,rfl,rfl,rfl,trivial⟩ (fun _ h=>?_);exact Af V hV k _ (h.all Y4)
     ·have kD:i=ws.length:=by omega
      subst kD;rw[List.drop_length,gH]at iq;rw[<-iq];refine yc ?_;refine KQ.aU rfl rfl (fun w' aM=>⟨_,_,rfl,⟨rfl,rfl⟩,aM.all Y1⟩)
theorem eI(w0:World)(L R:List HP)(bh bd:Nat)(H:Ho)(k:Int)(hp:bB L (dt bh bd H) R):KE prog 79 #[bN bh,.int .i64 k] w0 L (fun u M=>u=.bool (cb H k)/\M=L):=by
 refine KE.mk (n:=19) func79 rfl ntmps79 ai ?_;intro w hw;obtain⟨V,hV,hc⟩:=mT hw hp;have WL:=hc 0 _ rfl;refine x6 ?_;by_cases h1:0<=k
 ·by_cases h2:k<4
  ·refine cW ?_;refine qG ?_;refine sC ?_;refine um ?_;refine sx ?_;refine sC ?_;refine yW ?_;refine BU ?_;refine H7 ?_;refine KO.on rfl rfl Ug ?_;refine KO.sl rfl rfl isAgg3 WL rfl ?_;refine sh ?_;refine Na ?_;refine sx ?_;refine kq ?_;refine KQ.aU rfl rfl (fun w' hs=>⟨_,_,rfl,⟨?_,rfl⟩,hw.aA hs.below,hs.below⟩);unfold cb;simp[h1,h2]
  ·refine cW ?_;refine qG ?_;refine sC ?_;refine um ?_;refine sx ?_;refine B1 ?_;refine Fb ?_;refine kq ?_;refine KQ.aU rfl rfl (fun w' hs=>⟨_,_,rfl,⟨?_,rfl⟩,hw.aA hs.below,hs.below⟩);unfold cb;simp[h2]
 ·refine cW ?_;refine qG ?_;refine B9 ?_;refine Fb ?_;refine BW ?_;refine vH ?_;refine KQ.aU rfl rfl (fun w' hs=>⟨_,_,rfl,⟨?_,rfl⟩,hw.aA hs.below,hs.below⟩);unfold cb;simp[h1]
theorem Mi{α β:Type}(f:α->Option β)(l:List α)(a:α):(l++[a]).mapM f=(l.mapM f).bind fun xs=>(f a).map fun x=>xs++[x]:=by
 rw[List.mapM_append];cases l.mapM f with
 |none=>rfl
 |some xs=>
  cases h:f a with
  |none=>simp[h]
  |some x=>simp[h]
theorem mapM_none{α β:Type}(f:α->Option β){l:List α}{a:α}(h:a∈l)(hn:f a=none):l.mapM f=none:=by
 induction l with
 |nil=>cases h
 |cons b l ih=>
  rw[List.mapM_cons];rcases aK.1 h with rfl|h
  ·rw[hn];rfl
  ·rw[ih h];cases f b<;>rfl
theorem Ef(w0:World)(L:List HP)(s:aj)(hs:s.size<=80000)(hM:xg w0):
 KE prog 238 #[.string s] w0 L (fun u M=>match qB s with|none=>u=.tuple #[.slice none 0 0,.bool false]/\M=L|some l=> ∃v,u=.tuple #[v,.bool true]/\M=SL 3 1 kB v l::L):=by
 refine KE.mk (n:=29) func238 rfl ntmps238 ai ?_;intro w hw;have Rc:xg w:=hM.ext (Ext.bU hw.below);have xR:∀x∈dH 32 s,x.size<=80000:=fun x hx=>by have :=jc hx;omega
 have so:(dH 32 s).length<=100000:=by have :=tz 32 s;omega
 refine iz ?_;refine BZ ?_;refine KO.ce (cp:=[]) rfl rfl rfl call133 rfl (pN w _ s 32 ae Rc) ?_;rintro v' L' ⟨TC,rfl,rfl⟩;refine TL ?_;refine K.loop (fun p:Nat×List Int×Value=>[(4,p.2.2),(10,.slice (some ⟨TC,0,none⟩) (dH 32 s).length (dH 32 s).length),(11,.int .i64 ((dH 32 s).length:Nat)),(12,.int .i64 (p.1:Nat))]) (fun p=>SL 3 1 kB p.2.2 p.2.1::[ni (.slice (some ⟨TC,0,none⟩) (dH 32 s).length (dH 32 s).length) (dH 32 s)]) (fun p=>p.1<=(dH 32 s).length/\((dH 32 s).take p.1).mapM fx=some p.2.1/\p.2.1.length=p.1) (fun p=>(dH 32 s).length-p.1) (0,[],.slice none 0 0)
  ⟨aH _,by rfl,rfl⟩ ⟨rfl,rfl,rfl,rfl,trivial⟩ (fun w' h=>cw h) ?_
 rintro⟨i,l,v⟩ ⟨hi,hm,hl⟩;dsimp only at hi hm hl ⊢;refine lW ?_;refine K.bn rfl (fun h=>?_) (fun h=>?_)
 ·obtain⟨x,hx⟩:∃e,(dH 32 s)[i]? =some e:=⟨(dH 32 s)[i],ak ae⟩;have tG:=xR x (ax hx);have SO:=a_ hx;refine T_ ?_;refine KO.j7 (i:=i) (sz:=1) (cf:=mf) (e:=x) rfl rfl isAgg9 aQ (fun _=>rfl) hx ai aN rfl ?_;refine jL ?_;cases nH:fx x with
  |none=>
   have mU:qB s=none:=mapM_none fx (ax hx) nH;refine cW ?_;refine KO.ce (cp:=[]) rfl rfl rfl call136 rfl (jz w _ x ae Rc) ?_;rintro v' L' ⟨hR,rfl⟩;unfold lM at hR;rw[nH]at hR;obtain⟨xx,TT,yy,rfl⟩:=hR;refine Qj ?_;refine Br ?_;refine iz ?_;refine nX ?_;refine KQ.dG rfl rfl rfl (fun w' aM=>⟨_,_,rfl,?_,hw.aA aM.below,aM.below⟩);rw[mU];exact⟨rfl,rfl⟩
  |some k=>
   have Er:((dH 32 s).take (i+1)).mapM fx=some (l++[k]):=by rw[SO,Mi,hm,nH];rfl
   refine cW ?_;refine KO.ce (cp:=[]) rfl rfl rfl call136 rfl (jz w _ x ae Rc) ?_;rintro v' L' ⟨hR,rfl⟩;unfold lM at hR;rw[nH]at hR;subst hR;refine JX ?_;refine Z3 ?_;refine oI ?_;refine Nb ?_;refine gY ?_;refine KO.sw (z:=(Value.int .i64 0)) (sz:=1) (fk:=8) rfl rfl underlying23 bC aN aN ah ah rfl ?_;intro b25;refine KO.app (cf:=kB) (z:=Value.int .i64 0) (sz:=1) (fk:=8) (xs:=l) rfl rfl rfl (.tail .head) .head underlying23 bC aN k rfl rfl rfl ae ah rfl ?_;intro v26;refine qq ?_;refine KQ.round (i+1,l++[k],v26) ⟨by dsimp only;omega,Er,by dsimp only;simp;omega⟩ fZ ⟨rfl,rfl,rfl,rfl,trivial⟩ (fun _ h=>h.all Nv)
 ·have WD:i=(dH 32 s).length:=by omega
  subst WD;rw[List.take_length]at hm;have hio:qB s=some l:=hm;refine Ba ?_;refine nP ?_;refine KQ.dG rfl rfl rfl (fun w' aM=>⟨_,SL 3 1 kB v l::L,rfl,?_,?_,aM.below⟩)
  ·rw[hio];exact⟨v,rfl,rfl⟩
  ·exact hw.stack (M:=[SL 3 1 kB v l]) (aM.all Y6)
theorem lJ(us:List (Value×Value)):(us.flatMap (fun p=>[p.1,p.2])).length=2*us.length:=by
 induction us with
 |nil=>rfl
 |cons a l ih=>rw[bj,aW,ih];simp;omega
theorem C9(bd:Nat)(V:uo)(H:Ho):fe bd V H=(([.int .i64 H.id,bN bd,.int .i64 (H.used:Nat),.bool H.down,.int .i64 H.dC,.int .i64 H.next,V.nv,.map (some V.mb)]:List Value)++(V.ps.take 4).map bN)++(V.us.flatMap (fun p=>[p.1,p.2])++(V.bs++(H.bT.map (Value.int .i64)++H.aC.map (Value.int .i64)))):=by
 unfold fe;simp
theorem wZ{α:Type}(A R:List α)(i:Nat):(A++R)[A.length+i]? =R[i]? :=by rw[bp ae,Nat.add_sub_cancel_left]
theorem rQ{α:Type}(A R:List α)(i:Nat)(v:α):(A++R).set (A.length+i) v=A++R.set i v:=by rw[List.set_append_right _ _ ae,Nat.add_sub_cancel_left]
theorem wL(bd:Nat){V:uo}{H:Ho}(hV:jA V H):∃A:List Value,A.length=22/\∀(bs:List Value) (sn ar:List Int),fe bd {V with bs:=bs} {H with bT:=sn,aC:=ar}=A++(bs++(sn.map (Value.int .i64)++ar.map (Value.int .i64))):=by
 refine⟨(([.int .i64 H.id,bN bd,.int .i64 (H.used:Nat),.bool H.down,.int .i64 H.dC,.int .i64 H.next,V.nv,.map (some V.mb)]:List Value)++(V.ps.take 4).map bN)++V.us.flatMap (fun p=>[p.1,p.2]),?_,fun bs sn ar=>?_⟩
 ·have h1:=hV.ps;simp only[aW,aX,bu,lJ,hV.us,List.length_cons,List.length_nil];omega
 ·rw[C9];simp only[aR]
theorem r9{bd:Nat}{V:uo}{H:Ho}(hV:jA V H){k:Nat}{v:Value}(h:V.bs[k]? =some v):(fe bd V H)[22+k]? =some v/\∀u,(fe bd V H).set (22+k) u=fe bd {V with bs:=V.bs.set k u} H:=by
 obtain⟨A,hA,hc⟩:=wL bd hV;have h1:=hc V.bs H.bT H.aC;have hk:=(aw.1 h).1;refine⟨?_,fun u=>?_⟩
 ·rw[show fe bd V H=_ from h1,<-hA,wZ,List.getElem?_append_left hk];exact h
 ·rw[show fe bd V H=_ from h1,<-hA,rQ,List.set_append_left _ _ hk];exact(hc _ _ _).symm
theorem yJ{bd:Nat}{V:uo}{H:Ho}(hV:jA V H){k:Nat}(hk:k<4):(fe bd V H)[26+k]? =some (.int .i64 (gD H k))/\∀u,(fe bd V H).set (26+k) (.int .i64 u)=fe bd V {H with bT:=H.bT.set k u}:=by
 obtain⟨A,hA,hc⟩:=wL bd hV;have h1:=hc V.bs H.bT H.aC;have hs:=hV.bT;have hb:=hV.bs;have e1:26+k=A.length+(V.bs.length+k):=by omega
 refine⟨?_,fun u=>?_⟩
 ·rw[show fe bd V H=_ from h1,e1,wZ,wZ,List.getElem?_append_left Zs,aG];unfold gD;rw[au,ak ae];rfl
 ·rw[show fe bd V H=_ from h1,e1,rQ,rQ,List.set_append_left _ _ Zs,<-List.map_set];exact(hc _ _ _).symm
theorem yK{bd:Nat}{V:uo}{H:Ho}(hV:jA V H){k:Nat}(hk:k<4):(fe bd V H)[30+k]? =some (.int .i64 (fv H k))/\∀u,(fe bd V H).set (30+k) (.int .i64 u)=fe bd V {H with aC:=H.aC.set k u}:=by
 obtain⟨A,hA,hc⟩:=wL bd hV;have h1:=hc V.bs H.bT H.aC;have hs:=hV.bT;have ha:=hV.aC;have hb:=hV.bs;have e1:30+k=A.length+(V.bs.length+((H.bT.map (Value.int .i64)).length+k)):=by rw[aX];omega
 refine⟨?_,fun u=>?_⟩
 ·rw[show fe bd V H=_ from h1,e1,wZ,wZ,wZ,aG];unfold fv;rw[au,ak ae];rfl
 ·rw[show fe bd V H=_ from h1,e1,rQ,rQ,rQ,<-List.map_set];exact(hc _ _ _).symm
theorem RL{w0 w:World}{L:List HP}{g cap:Nat}{a b:Int}{l:List Int}(h:St w0 (SL 3 1 kB (.slice (some ⟨g,0,none⟩) (l.length+2) cap) (a::b::l)::L) w):
 St w0 (dU (.slice (some (cutAt g 1 1 cap)) (l.length+2-1) (cap-1)) (b::l)::L) w:=by
 obtain⟨h1,h2,h3,cur,h4,h5,h6⟩:=jq h;have e1:(cutAt g 1 1 cap)=⟨g,1,none⟩:=by unfold cutAt;rw[if_neg ae]
 rw[e1];refine N_ (cs:=cur.toList) (cap:=cap-1) (l:=b::l) (off:=1) (fun i x hx=>?_) (by simpa using h6);have h7:(cur.toList.take ((a::b::l).length*1))[1+i]? =some (.int .i64 x):=by
  rw[h5];have h8:∀l:List Int,l.flatMap kB=l.map (Value.int .i64):=fun l=>by
   induction l with
   |nil=>rfl
   |cons x l ih=>rw[bj,ih];rfl
  rw[h8,aG,show(1+i)=i+1 by omega,List.getElem?_cons_succ,hx];rfl
 rw[List.getElem?_take]at h7;split at h7
 ·exact h7
 ·cases h7
theorem S0(w0:World)(L:List HP)(bh bd n:Nat)(H:Ho)(s:aj)(hM:xg w0)(hB:cx n H)(hn:n<=90000)(hs:s.size<=80000):
 KC prog 140 #[bN bh,.string s] w0 (dt bh bd H::L) (fun u M=>u=.bool (je H s).2/\M=dt bh bd (je H s).1::L):=by
 refine KC.mk (n:=48) func140 rfl ntmps140 ai ?_;refine x6 ?_;cases hi:qB s with
 |none=>
  have he:je H s=(H,false):=by unfold je;rw[hi]
  rw[he];refine cW ?_;refine KO.ce (cp:=[]) rfl rfl rfl call238 rfl (Ef w0 _ s hs hM) ?_;rintro v' L' hR;rw[hi]at hR;obtain⟨rfl,rfl⟩:=hR;refine qQ ?_;refine pC ?_;refine B_ ?_;refine uk ?_;refine BW ?_;refine HH ?_;refine KQ.aU rfl rfl (fun w' aM=>⟨_,_,rfl,⟨rfl,rfl⟩,aM⟩)
 |some l=>
  refine cW ?_;refine KO.ce (cp:=[]) rfl rfl rfl call238 rfl (Ef w0 _ s hs hM) ?_;rintro v' L' hR;rw[hi]at hR;obtain⟨v,rfl,rfl⟩:=hR;refine rJ ?_;refine K.fact (fun w hw=>bo (hw.pick (A:=SL 3 1 kB v l) .head)) ?_;rintro⟨ad,cap,rfl,had⟩;by_cases hl:l.length<2
  ·have he:je H s=(H,false):=by
    unfold je;rw[hi]
    match l,hl with
    |[],_=>rfl
    |[a],_=>rfl
   rw[he];refine tZ ?_;refine ub ?_;refine lX ?_;refine um ?_;refine tW ?_;refine B1 ?_;refine B2 ?_;refine K.bW rfl (by simp[hl];try omega) ?_;refine kr ?_;refine KQ.aU rfl rfl (fun w' aM=>⟨_,_,rfl,⟨rfl,rfl⟩,aM.drop⟩)
  obtain⟨g,rfl⟩:=had ae;obtain⟨k,a,r,rfl⟩:∃k a r,l=k::a::r:=by
   match l,hl with
   |[],h=>exact absurd ai h
   |[a],h=>exact absurd ai h
   |k::a::r,_=>exact⟨k,a,r,rfl⟩
  have hld:∀z:Int,decide ((((z::a::r).length:Nat):Int)<2)=false:=fun z=>by rw[decide_eq_false_iff_not];simp;omega
  cases hk:cb H k with
  |false=>
   have su:=hld k;have he:je H s=(H,false):=by unfold je;rw[hi];simp[hk]
   rw[he];refine tZ ?_;refine ub ?_;refine lX ?_;refine um ?_;refine x8 ?_;refine KO.on rfl rfl su ?_;refine KO.gO (i:=0) rfl rfl runUnderlying23 sizeOf3 rfl ai rfl ?_;refine KO.on rfl rfl su ?_;refine KO.j7 (i:=0) (sz:=1) (cf:=kB) (e:=k) rfl rfl isAgg3 br (fun _=>rfl) rfl aN aN rfl ?_;refine KO.on rfl rfl su ?_;refine KO.ce (cp:=[]) rfl rfl rfl call79 rfl (eI w0 _ _ bh bd H k aQ) ?_;rintro v' L' ⟨rfl,rfl⟩;rw[hk];refine pD ?_;refine ua ?_;refine K.bW rfl (by simp[su]) ?_;refine kr ?_;refine KQ.aU rfl rfl (fun w' aM=>⟨_,_,rfl,⟨rfl,rfl⟩,aM.drop⟩)
  |true=>
   obtain⟨xV,qC,-⟩:=b_.1 hk;obtain⟨j,rfl⟩:∃j:Nat,k=(j:Int):=⟨k.toNat,by omega⟩;have hj:j<4:=by omega
   have su:=hld (j:Int);have he:je H s=({H with batch:=H.batch.set j (a::r),bT:=H.bT.set j (gD H j+1)},true):=by unfold je;rw[hi];simp[hk]
   rw[he];refine tZ ?_;refine ub ?_;refine lX ?_;refine um ?_;refine x8 ?_;refine KO.on rfl rfl su ?_;refine KO.gO (i:=0) rfl rfl runUnderlying23 sizeOf3 rfl ai rfl ?_;refine KO.on rfl rfl su ?_;refine KO.j7 (i:=0) (sz:=1) (cf:=kB) (e:=(j:Int)) rfl rfl isAgg3 br (fun _=>rfl) rfl aN aN rfl ?_;refine KO.on rfl rfl su ?_;refine KO.ce (cp:=[]) rfl rfl rfl call79 rfl (eI w0 _ _ bh bd H (j:Int) aQ) ?_;rintro v' L' ⟨rfl,rfl⟩;rw[hk];refine pD ?_;refine ua ?_;refine K.ct rfl (by simp[su]) ?_;refine Z6 ?_;refine K.bV (fun _ h=>cn (h.pick aQ)) ?_;rintro⟨V,hV⟩;dsimp only;refine K.fact (fun w hw=>(EZ (hw.pick (A:=SL 3 1 kB _ _) aQ)).2) ?_;intro xW;have NG:=hV.bs;have Pz:=hV.batch;obtain⟨bv,Df⟩:∃e,V.bs[j]? =some e:=⟨_,ak ae⟩;obtain⟨bl,hbl⟩:∃e,H.batch[j]? =some e:=⟨_,ak ae⟩;obtain⟨c1,c2⟩:=r9 (bd:=bd) hV Df;obtain⟨lP,r7⟩:0<=gD H j/\gD H j<=(n:Int):=pb hB.ext.VC;obtain⟨vb,hvb⟩:∃vb,vb=Value.slice (some (cutAt g 1 1 cap)) (((j:Int)::a::r).length-1) (cap-1):=⟨_,rfl⟩;have lI:∀u,jA {V with bs:=V.bs.set j u} H:=fun u=>⟨hV.ps,hV.us,by simp[NG],hV.ways,hV.ay,hV.batch,hV.bT,hV.aC⟩
   refine K.draw [.pure,.pure,.pure,.read,.pure,.pure,.pure,.pure,.pure,.write] [0,1,2,3,4,5,6,7,8,9] bC bC ?_;refine gZ ?_;refine Z87 ?_;refine Z1 ?_;refine KO.cutFrom (lo:=1) rfl rfl underlying23 sizeOf3 rfl ai (by simpa using xW) rfl ?_;rw[<-hvb];refine EX ?_;refine Zl ?_;refine KO.fu (i:=22+j) rfl rfl rfl (by rw[hvb];rfl) Y53 (by rw[hvb];rfl) br yY Rp ?_;rw[c2];refine Z0 ?_;obtain⟨d1,d2⟩:=yJ (bd:=bd) (lI vb) hj;refine K.draw [.pure,.pure,.pure,.read,.pure,.pure,.pure,.read,.pure,.pure,.pure,.pure,.write] [0,1,2,3,4,5,6,7,8,9,10,11,12] bC bC ?_;refine gZ ?_;refine Z87 ?_;refine iD ?_;refine QD ?_;refine Iv ?_;refine KO.bO (i:=26+j) rfl rfl isAgg3 br yY d1 rfl ?_;refine Hn ?_;refine QD ?_;refine Iv ?_;refine KO.fu (i:=26+j) rfl rfl rfl aN uc rfl br yY (by rw[r8 (lI _)];omega) ?_;rw[d2];refine qO ?_;refine KQ.aU rfl rfl (fun w' aM=>⟨_,_,rfl,⟨rfl,rfl⟩,?_⟩);have h1:=RL (a:=(j:Int)) (b:=a) (l:=r) (aM.pick (A:=SL 3 1 kB (.slice (some ⟨g,0,none⟩) ((j:Int)::a::r).length cap) ((j:Int)::a::r)) aQ);rw[show Value.slice (some (cutAt g 1 1 cap)) (r.length+2-1) (cap-1)=vb from hvb.symm]at h1;have h2:=cM Df hbl (h1.pick (A:=bI dU V.bs H.batch) aQ)
   have h3:=kY (f:=dU) (ps:=V.bs) (xs:=H.batch) (i:=j) (p:=vb) (x:=a::r) ae ae (h2.all (M:=dU vb (a::r)::bI dU (V.bs.eraseIdx j) (H.batch.eraseIdx j)::_) Y4);exact bM {V with bs:=V.bs.set j vb} ⟨hV.ps,hV.us,by simp[NG],hV.ways,hV.ay,by simp[Pz],by simp[hV.bT],hV.aC⟩ (h3.all Y7)
theorem FI(q:Qu)(l:List Int)(a:Int):dx q (l++[a])=eF (dx q l) a:=by unfold dx;rw[List.foldl_append];rfl
theorem Fz{w0 w:World}{L:List HP}{T:TypeId}{v:Value}{l:List Int}(hl:0<l.length)(h:St w0 (YB T v l::L) w):
 ∃c:{c:Nat×Nat×List Value×Nat//v=.slice (some ⟨c.1,c.2.1,none⟩) l.length c.2.2.2/\∀(i:Nat) x,l[i]? =some x->c.2.2.1[c.2.1+i]? =some (Value.int .i64 x)},St w0 (bA c.1.1 (.cells c.1.2.2.1.toArray T (0,0))::L) w:=by
 obtain⟨c,h⟩:=h.Iq
 match c,h with
 |none,h=>obtain⟨⟨rfl,rfl⟩,_⟩:=h.xP;simp at hl
 |some (g,off,cs,cap),h=>obtain⟨h1,h2⟩:=h.split.xP;exact⟨⟨(g,off,cs,cap),h1⟩,h2⟩
theorem Pp(w0:World)(L:List HP)(bh bd n:Nat)(H:Ho)(s:aj)(hM:xg w0)(hB:cx n H)(hn:n<=90000)(hs:s.size<=80000):
 KC prog 141 #[bN bh,.string s] w0 (dt bh bd H::L) (fun u M=>u=.bool (fF H s).2/\M=dt bh bd (fF H s).1::L):=by
 refine KC.mk (n:=63) func141 rfl ntmps141 ai ?_;refine x6 ?_;cases hi:qB s with
 |none=>
  have he:fF H s=(H,false):=by unfold fF;rw[hi]
  rw[he];refine cW ?_;refine KO.ce (cp:=[]) rfl rfl rfl call238 rfl (Ef w0 _ s hs hM) ?_;rintro v' L' hR;rw[hi]at hR;obtain⟨rfl,rfl⟩:=hR;refine qQ ?_;refine pC ?_;refine B_ ?_;refine uk ?_;refine BW ?_;refine HH ?_;refine KQ.aU rfl rfl (fun w' aM=>⟨_,_,rfl,⟨rfl,rfl⟩,aM⟩)
 |some l=>
  refine cW ?_;refine KO.ce (cp:=[]) rfl rfl rfl call238 rfl (Ef w0 _ s hs hM) ?_;rintro v' L' hR;rw[hi]at hR;obtain⟨v,rfl,rfl⟩:=hR;refine rJ ?_;refine K.fact (fun w hw=>bo (hw.pick (A:=SL 3 1 kB v l) .head)) ?_;rintro⟨ad,cap,rfl,had⟩;by_cases hl:l.length=1
  ·obtain⟨g,rfl⟩:=had ae;obtain⟨k,rfl⟩:∃k,l=[k]:=by
    match l,hl with
    |[k],_=>exact⟨k,rfl⟩
   have su:decide ((([k].length:Nat):Int)≠1)=false:=rfl;cases hk:cb H k with
   |false=>
    have he:fF H s=(H,false):=by unfold fF;rw[hi];simp[hk]
    rw[he];refine tZ ?_;refine ub ?_;refine Ni ?_;refine x8 ?_;refine KO.on rfl rfl su ?_;refine KO.gO (i:=0) rfl rfl runUnderlying23 sizeOf3 rfl ai rfl ?_;refine KO.on rfl rfl su ?_;refine KO.j7 (i:=0) (sz:=1) (cf:=kB) (e:=k) rfl rfl isAgg3 br (fun _=>rfl) rfl aN aN rfl ?_;refine KO.on rfl rfl su ?_;refine KO.ce (cp:=[]) rfl rfl rfl call79 rfl (eI w0 _ _ bh bd H k aQ) ?_;rintro v' L' ⟨rfl,rfl⟩;rw[hk];refine pD ?_;refine tW ?_;refine Br ?_;refine kr ?_;refine KQ.aU rfl rfl (fun w' aM=>⟨_,_,rfl,⟨rfl,rfl⟩,aM.drop⟩)
   |true=>
    obtain⟨xV,qC,-⟩:=b_.1 hk;obtain⟨j,rfl⟩:∃j:Nat,k=(j:Int):=⟨k.toNat,by omega⟩;have hj:j<4:=by omega
    have he:fF H s=({H.iG j (dx (H.iY j) (cJ H j))with batch:=H.batch.set j []},true):=by unfold fF;rw[hi];simp[hk]
    rw[he];refine tZ ?_;refine ub ?_;refine Ni ?_;refine x8 ?_;refine KO.on rfl rfl su ?_;refine KO.gO (i:=0) rfl rfl runUnderlying23 sizeOf3 rfl ai rfl ?_;refine KO.on rfl rfl su ?_;refine KO.j7 (i:=0) (sz:=1) (cf:=kB) (e:=(j:Int)) rfl rfl isAgg3 br (fun _=>rfl) rfl aN aN rfl ?_;refine KO.on rfl rfl su ?_;refine KO.ce (cp:=[]) rfl rfl rfl call79 rfl (eI w0 _ _ bh bd H (j:Int) aQ) ?_;rintro v' L' ⟨rfl,rfl⟩;rw[hk];refine pD ?_;refine A6 ?_;refine K.bV (fun _ h=>cn (h.pick aQ)) ?_;rintro⟨V,hV⟩;dsimp only;have NG:=hV.bs;have Pz:=hV.batch;have ku:=hV.ps;obtain⟨bv,Df⟩:∃e,V.bs[j]? =some e:=⟨_,ak ae⟩;obtain⟨bl,wT⟩:∃e,H.batch[j]? =some e:=⟨_,ak ae⟩;have Te:cJ H j=bl:=by unfold cJ;rw[au,wT];rfl
    have aa3:=hB.ext.Xo bl (ax wT);rw[Te];obtain⟨c1,c2⟩:=r9 (bd:=bd) hV Df;obtain⟨p,hp⟩:∃p,V.ps[j]? =some p:=⟨_,ak ae⟩;have hw:=qg (bd:=bd) hV hj hp;have hqB:=hB.w hj;have cU:=pB hV.ways hj;refine T7 ?_;refine K.fact (fun w hw=>ra (hw.pick (A:=dU bv bl) .head)) ?_;rintro⟨ba,bc,rfl⟩;refine K.draw [.pure,.pure,.pure,.read,.pure,.pure,.pure,.read,.pure,.pure] [0,1,2,3,4,5,6,7,8,9] bC bC ?_;refine gZ ?_;refine Z87 ?_;refine EX ?_;refine Ns ?_;refine JY ?_;refine K.loop (fun i:Nat=>[(0,bN bh),(5,.slice (some ⟨g,0,none⟩) [(j:Int)].length cap),(36,.slice ba bl.length bc),(37,.int .i64 (bl.length:Nat)),(38,.int .i64 (i:Nat))])
     (fun i=>dU (.slice ba bl.length bc) bl::bI dU (V.bs.eraseIdx j) (H.batch.eraseIdx j)::SL 3 1 kB (.slice (some ⟨g,0,none⟩) [(j:Int)].length cap) [(j:Int)]::bA bh (.cells (fe bd V H).toArray 133 (0,0))::fb V.nv H.names::bP Value.string V.mb (dI V H)::bI jv V.ps (H.all.set j (dx (H.iY j) (bl.take i)))::bI cX (V.us.map (·.1)) (H.ay.map (·.aT))::bI cV (V.us.map (·.2)) (H.ay.map (·.aY))::L)
     (fun i=>i<=bl.length) (fun i=>bl.length-i) 0 (aH _) ⟨rfl,rfl,rfl,rfl,rfl,trivial⟩ (fun w' aM=>?_) ?_
    ·rw[show H.all.set j (dx (H.iY j) (bl.take 0))=H.all from pQ cU];exact aM.all Y7
    intro i Q7;refine lW ?_;refine K.bn rfl (fun h=>?_) (fun h=>?_)
    ·obtain⟨x,hx⟩:∃e,bl[i]? =some e:=⟨bl[i],ak ae⟩;have SO:dx (H.iY j) (bl.take (i+1))=eF (dx (H.iY j) (bl.take i)) x:=by rw[a_ hx,FI]
     have Jf:=hqB.uE (bl.take i);have Ik:=Jf.len;have wO:(H.all.set j (dx (H.iY j) (bl.take i)))[j]? =some (dx (H.iY j) (bl.take i)):=List.getElem?_set_self (aw.1 cU).1;generalize htm:pX (dx (H.iY j) (bl.take i)) x=tm;obtain⟨ti,tp,tb,tq,th⟩:=tm;refine Zh ?_;refine K.bV (fun w' hw'=>Fz ae (hw'.pick (A:=dU (.slice ba bl.length bc) bl) br)) ?_;rintro⟨⟨gb,off,cs,akZ⟩,hv,kE⟩;dsimp only at hv kE ⊢;simp only[Value.slice.injEq,true_and]at hv;obtain⟨rfl,rfl⟩:=hv;refine di ?_;refine KO.My (i:=i) rfl rfl runUnderlying23 sizeOf3 rfl ae rfl ?_;refine KO.bO (i:=off+i) rfl rfl isAgg3 br (by rw[Addr.add_lit,Nat.mul_one]) (kE i x hx) rfl ?_;refine qV ?_;refine K.draw [.pure,.pure,.pure,.read,.pure,.pure,.pure,.read,.pure,.write,.pure,.pure,.pure] [0,1,2,3,4,5,6,7,8,9,10,11,12] bC bC ?_;refine gZ ?_;refine Z87 ?_;refine Ua ?_;refine KO.bO (i:=8+j) rfl rfl isAgg119 aQ yY hw rfl ?_;refine Z1 ?_;refine KO.cl (cp:=[]) rfl rfl rfl call161 rfl (KC.rD (φ:=fun v=>v=.tuple #[.agg (dy (pX (dx (H.iY j) (bl.take i)) x)).toArray,dj 70 (kS (dx (H.iY j) (bl.take i)) x)]) hp wO aQ (fun L=>N3 w0 L p (dx (H.iY j) (bl.take i)) x ae)) ?_;rintro v' L' ⟨rfl,rfl⟩;rw[htm,List.set_set];refine LB ?_;refine pE ?_
     refine KQ.round (i+1) ae ae ⟨rfl,rfl,rfl,rfl,rfl,trivial⟩ (fun w' aM=>?_);rw[SO];have h1:St w0 (dU (.slice (some ⟨gb,off,none⟩) bl.length bc) bl::_) w':=N_ (T:=3) (g:=gb) (off:=off) (cap:=bc) (cs:=cs) (l:=bl) kE (aM.pick aQ);exact St.all h1 Y7
    ·obtain rfl:i=bl.length:=by omega
     rw[List.take_length];refine Z9 ?_;refine K.draw [.pure,.pure,.pure,.read,.pure,.pure,.pure,.write] [0,1,2,3,4,5,6,7] bC bC ?_;refine gZ ?_;refine Z87 ?_;refine EX ?_;refine Zl ?_;refine KO.fu (i:=22+j) rfl rfl rfl rfl Y53 rfl aQ yY Rp ?_;rw[c2];refine qO ?_;refine KQ.aU rfl rfl (fun w' aM=>⟨_,_,rfl,⟨rfl,rfl⟩,?_⟩);have h3:=kY (f:=dU) (ps:=V.bs) (xs:=H.batch) (i:=j) (p:=.slice none 0 0) (x:=[]) ae ae (Kv (aM.all (M:=bI dU (V.bs.eraseIdx j) (H.batch.eraseIdx j)::bA bh (.cells (fe bd {V with bs:=V.bs.set j (.slice none 0 0)} H).toArray 133 (0,0))::fb V.nv H.names::bP Value.string V.mb (dI V H)::bI jv V.ps (H.all.set j (dx (H.iY j) bl))::bI cX (V.us.map (·.1)) (H.ay.map (·.aT))::bI cV (V.us.map (·.2)) (H.ay.map (·.aY))::L) Y4));refine bM {V with bs:=V.bs.set j (.slice none 0 0)} ⟨hV.ps,hV.us,by simp[NG],by simp[Ho.iG,hV.ways],hV.ay,by simp[Pz],hV.bT,hV.aC⟩ ?_;have e1:({H.iG j (dx (H.iY j) bl)with batch:=H.batch.set j []}:Ho).all=H.all.set j (dx (H.iY j) bl):=ko (by rw[hV.ways];exact hj) _;unfold Bh;rw[e1];exact h3.all Y7
  ·have he:fF H s=(H,false):=by
    unfold fF;rw[hi]
    match l,hl with
    |[],_=>rfl
    |[a],h=>exact absurd rfl h
    |a::b::r,_=>rfl
   rw[he];refine tZ ?_;refine ub ?_;refine Ht ?_;refine B1 ?_;refine Qh ?_;refine kr ?_;refine KQ.aU rfl rfl (fun w' aM=>⟨_,_,rfl,⟨rfl,rfl⟩,aM.drop⟩)
theorem Ta(w0:World)(L:List HP)(bh bd n:Nat)(H:Ho)(s:aj)(hT:ym w0)(hM:xg w0)(hs:s.size<=80000)(hB:cx n H)(hn:n<=90000)(hr:∀a b c l,dH 47 s=[a,b,c]->wx b=some l->n+l.length<=90000/\l.length<=(dH 43 c).length):
 KC prog 142 #[bN bh,.string s] w0 (dt bh bd H::L) (fun u M=>u=.bool (jf H s).2/\M=dt bh bd (jf H s).1::L):=by
 have xR:∀x∈dH 47 s,x.size<=80000:=fun x hx=>by have :=jc hx;omega
 refine KC.mk (n:=81) func142 rfl ntmps142 ai ?_;refine lg ?_;refine KO.ce (cp:=[]) rfl rfl rfl call133 rfl (pN w0 _ s 47 ae hM) ?_;rintro v' L' ⟨b15,rfl,rfl⟩;refine jL ?_;by_cases h3:(dH 47 s).length=3
 ·obtain⟨wa,wb,wc,he⟩:∃a b c,dH 47 s=[a,b,c]:=by
   match h:dH 47 s,h3 with
   |[a,b,c],_=>exact⟨a,b,c,rfl⟩
  have hrr:=hr wa wb wc;rw[he]at xR ⊢;have hza:=xR wa ai;have hzb:=xR wb ai;have hzc:=xR wc ai;refine JQ ?_;refine Z3 ?_;refine HV ?_;refine Z6 ?_;have hce:jf H s=match fx wa,wx wb with
   |some k,some l=>if cb H k=true then(if(ep H (l.zip (dH 43 wc))).2=true then({(ep H (l.zip (dH 43 wc))).1 with aC:=H.aC.set k.toNat (fv H k.toNat+1)},true)else((ep H (l.zip (dH 43 wc))).1,false))else(H,false)
   |_,_=>(H,false):=by unfold jf;rw[he];try rfl
  cases nH:fx wa with
  |none=>
   have jg:jf H s=(H,false):=by rw[hce,nH]
   rw[jg];refine cW ?_;refine Yk ?_;refine KO.ce (cp:=[]) rfl rfl rfl call136 rfl (jz w0 _ wa ae hM) ?_;rintro v' L' ⟨hR,rfl⟩;unfold lM at hR;rw[nH]at hR;obtain⟨xx,TT,yy,rfl⟩:=hR;refine rJ ?_;cases hm:wx wb with
   |none=>
    refine cW ?_;refine Z91 ?_;refine KO.ce (cp:=[]) rfl rfl rfl call160 rfl (rY w0 _ wb ae hT hM) ?_;rintro v' L' hR;unfold Vj at hR;rw[hm]at hR;obtain⟨rfl,rfl⟩:=hR;refine Qj ?_;refine pF ?_;refine uk ?_;refine vJ ?_;refine HH ?_;refine KQ.aU rfl rfl (fun w' aM=>⟨_,_,rfl,⟨rfl,rfl⟩,aM.all Y1⟩)
   |some l=>
    refine cW ?_;refine Z91 ?_;refine KO.ce (cp:=[]) rfl rfl rfl call160 rfl (rY w0 _ wb ae hT hM) ?_;rintro v' L' hR;unfold Vj at hR;rw[hm]at hR;obtain⟨v,rfl,rfl⟩:=hR;refine Qj ?_;refine pF ?_;refine uk ?_;refine vJ ?_;refine HH ?_;refine KQ.aU rfl rfl (fun w' aM=>⟨_,_,rfl,⟨rfl,rfl⟩,aM.all Y1⟩)
  |some k=>
   cases hm:wx wb with
   |none=>
    have jg:jf H s=(H,false):=by rw[hce,nH,hm]
    rw[jg];refine cW ?_;refine Yk ?_;refine KO.ce (cp:=[]) rfl rfl rfl call136 rfl (jz w0 _ wa ae hM) ?_;rintro v' L' ⟨hR,rfl⟩;unfold lM at hR;rw[nH]at hR;subst hR;refine qQ ?_;refine Z91 ?_;refine KO.ce (cp:=[]) rfl rfl rfl call160 rfl (rY w0 _ wb ae hT hM) ?_;rintro v' L' hR;unfold Vj at hR;rw[hm]at hR;obtain⟨rfl,rfl⟩:=hR;refine JX ?_;refine BQ ?_;refine KO.neN rfl bC rfl ?_;refine tW ?_;refine vJ ?_;refine HH ?_;refine KQ.aU rfl rfl (fun w' aM=>⟨_,_,rfl,⟨rfl,rfl⟩,aM.all Y1⟩)
   |some l=>
    obtain⟨xU,Q6⟩:=hrr l he hm;have lV:∀m∈l,bD m=true:=fun m Er=>eV (rr hm).1 m Er
    refine cW ?_;refine Yk ?_;refine KO.ce (cp:=[]) rfl rfl rfl call136 rfl (jz w0 _ wa ae hM) ?_;rintro v' L' ⟨hR,rfl⟩;unfold lM at hR;rw[nH]at hR;subst hR;refine qQ ?_;refine Z91 ?_;refine KO.ce (cp:=[]) rfl rfl rfl call160 rfl (rY w0 _ wb ae hT hM) ?_;rintro v' L' hR;unfold Vj at hR;rw[hm]at hR;obtain⟨v,rfl,rfl⟩:=hR;refine rJ ?_;refine K.fact (fun w hw=>bo (hw.pick (A:=SL 44 5 dy v l) .head)) ?_;rintro⟨ad,cap,rfl,had⟩;cases hk:cb H k with
    |false=>
     have jg:jf H s=(H,false):=by rw[hce,nH,hm];simp[hk]
     rw[jg];refine cW ?_;refine yi ?_;refine BQ ?_;refine yi ?_;refine x8 ?_;refine KO.on rfl rfl rfl ?_;refine KO.ce (cp:=[]) rfl rfl rfl call79 rfl (eI w0 _ _ bh bd H k aQ) ?_;rintro v' L' ⟨rfl,rfl⟩;rw[hk];refine pD ?_;refine tW ?_;refine Br ?_;refine kr ?_;refine KQ.aU rfl rfl (fun w' aM=>⟨_,_,rfl,⟨rfl,rfl⟩,aM.all Y1⟩)
    |true=>
     obtain⟨xV,qC,-⟩:=b_.1 hk;obtain⟨j,rfl⟩:∃j:Nat,k=(j:Int):=⟨k.toNat,by omega⟩;have hj:j<4:=by omega
     have jg:jf H s=if(ep H (l.zip (dH 43 wc))).2=true then({(ep H (l.zip (dH 43 wc))).1 with aC:=H.aC.set j (fv H j+1)},true)else((ep H (l.zip (dH 43 wc))).1,false):=by rw[hce,nH,hm];simp[hk]
     have so:=tz 43 wc;refine cW ?_;refine yi ?_;refine BQ ?_;refine yi ?_;refine x8 ?_;refine KO.on rfl rfl rfl ?_;refine KO.ce (cp:=[]) rfl rfl rfl call79 rfl (eI w0 _ _ bh bd H (j:Int) aQ) ?_;rintro v' L' ⟨rfl,rfl⟩;rw[hk];refine pD ?_;refine A6 ?_;refine cW ?_;refine KO.gO (i:=2) rfl rfl runUnderlying115 sizeOf9 rfl ai rfl ?_;refine ab0 ?_;refine KO.ce (cp:=[]) rfl rfl rfl call133 rfl (pN w0 _ wc 43 ae hM) ?_;rintro v' L' ⟨JJ,rfl,rfl⟩;refine jo ?_;refine BY ?_;generalize dH 43 wc=ts at Q6 jg so ⊢;have Jc:(l.zip ts).length=l.length:=by rw[List.length_zip];omega
     refine K.loop (fun p:Nat×Ho=>[(0,bN bh),(6,.int .i64 (j:Nat)),(10,.slice (some ⟨JJ,0,none⟩) ts.length ts.length),(49,.slice ad l.length cap),(50,.int .i64 (l.length:Nat)),(51,.int .i64 (p.1:Nat))]) (fun p=>dt bh bd p.2::ni (.slice (some ⟨JJ,0,none⟩) ts.length ts.length) ts::SL 44 5 dy (.slice ad l.length cap) l::L) (fun p=>p.1<=l.length/\cx (n+p.1) p.2/\ep p.2 ((l.zip ts).drop p.1)=ep H (l.zip ts)/\p.2.aC=H.aC) (fun p=>l.length-p.1) (0,H)
      ⟨aH _,hB,rfl,rfl⟩ ⟨rfl,rfl,rfl,rfl,rfl,rfl,trivial⟩ (fun _ h=>h.all Y1) ?_
     rintro⟨i,H1⟩ ⟨hi,kG,om,WW⟩;dsimp only at hi kG om WW ⊢;refine lW ?_;refine K.bn rfl (fun h=>?_) (fun h=>?_)
     ·obtain⟨m,Pj⟩:∃e,l[i]? =some e:=⟨l[i],ak ae⟩;obtain⟨t,YN⟩:∃e,ts[i]? =some e:=⟨ts[i],ak ae⟩;have Jk:=lV m (ax Pj);obtain⟨m1,m2,m3,m4,-,-,m7,m8⟩:=bG Jk;obtain⟨g,rfl⟩:=had ae;have o_:(l.zip ts).drop i=(m,t)::(l.zip ts).drop (i+1):=by
       have hz:(l.zip ts)[i]? =some (m,t):=by rw[List.getElem?_zip_eq_some];exact⟨Pj,YN⟩
       obtain⟨h1,e⟩:=aw.1 hz;rw[<-e];exact List.drop_eq_getElem_cons h1
      rw[o_,ep]at om;have MB:small m.pri:=by unfold small;omega
      obtain⟨mi,mp,mb,mq,mh⟩:=m;dsimp only at m1 m2 m3 m4 m7 m8 MB;refine sy ?_;refine Ye ?_;refine KO.alloc rfl zeroValue44 aN rfl ?_;intro b12;refine Z8 ?_;refine tX ?_;refine K.bV (fun _ h=>cn (h.pick aQ)) ?_;rintro⟨V,hV⟩;dsimp only;have ku:=hV.ps;have hg:=lG hV t;obtain⟨zv,Jb⟩:∃zv,zv=(gj (dI V H1) t).getD (.pointer none):=⟨_,rfl⟩;refine K.draw [.pure,.pure,.pure,.read,.pure,.pure,.pure,.read,.read,.pure] [0,1,2,3,4,5,6,7,8,9] bC bC ?_;refine sB ?_;refine XO ?_;refine gZ ?_;refine KO.gO (i:=i) rfl rfl runUnderlying115 sizeOf9 rfl ae rfl ?_;refine KO.j7 (i:=i) (sz:=1) (cf:=mf) (e:=t) rfl rfl isAgg9 aQ (fun _=>rfl) YN ai aN rfl ?_;refine KO.zW dD t rfl rfl rfl underlying123 underlying9 zeroValue119 aQ rfl ?_;rw[<-Jb];refine jL ?_;cases hq:H1.qI t with
      |none=>
       rw[hq]at hg om;rw[hg]at Jb;subst Jb;dsimp only at om;refine cW ?_;refine KO.BL rfl underlying119 rfl ?_;refine Br ?_;refine x7 ?_;refine KQ.aU rfl rfl (fun w' aM=>⟨_,_,rfl,⟨?_,rfl⟩,?_⟩)
       ·rw[jg,<-om];rfl
       ·rw[jg,<-om];exact bM V hV (aM.all Y4)
      |some q=>
       have YR:=(fC hq).1;obtain⟨p,hp⟩:∃p,V.ps[4+q]? =some p:=⟨_,ak ae⟩;rw[hq]at hg om;simp only[Option.bind_some,hp,Option.map_some]at hg;rw[hg]at Jb;subst Jb;dsimp only at om;refine cW ?_;refine KO.Ay rfl underlying119 rfl ?_;refine Z3 ?_;refine oI ?_;refine Nb ?_;refine cW ?_;refine Qe ?_;refine KO.cl (cp:=[]) rfl rfl rfl call147 rfl (KC.rD (φ:=fun v=>v=.tuple #[]) hp (l9 hV.ways YR) aQ (fun L=>D6 w0 L p (H1.dZ q) ⟨mi,mp,mb,mq,mh⟩ (-1) ((kG.qa YR).ok ae) MB)) ?_;rintro v' L' ⟨rfl,rfl⟩;refine pE ?_;refine KQ.round (i+1,H1.eA q (dr (H1.dZ q) ⟨mi,mp,mb,mq,mh⟩ (-1))) ⟨by dsimp only;omega,?_,om,WW⟩ fZ ⟨rfl,rfl,rfl,rfl,rfl,rfl,trivial⟩ (fun w' aM=>?_)
       ·exact(kG.le (Nat.le_succ _)).eA ((kG.qa YR).oD ⟨by dsimp only;omega,by dsimp only;omega⟩ ⟨by dsimp only;omega,by dsimp only;omega⟩ (-1)) q
       ·have h1:=Af V hV q _ (L:=ni (.slice (some ⟨JJ,0,none⟩) ts.length ts.length) ts::SL 44 5 dy (.slice (some ⟨g,0,none⟩) l.length cap) l::L) (aM.all Y4);exact h1
     ·obtain rfl:i=l.length:=by omega
      rw[show(l.zip ts).drop l.length=[]by rw[<-Jc];exact List.drop_length,ep]at om;rw[<-om]at jg;rw[jg,if_pos rfl];refine Z9 ?_;refine K.bV (fun _ h=>cn (h.pick br)) ?_;rintro⟨V,hV⟩;dsimp only;have afE:fv H1 j=fv H j:=by unfold fv;rw[WW]
      obtain⟨d1,d2⟩:=yK (bd:=bd) hV hj;obtain⟨MP,ha9⟩:0<=fv H j/\fv H j<=(n:Int):=pb hB.ext.arr;rw[afE]at d1;refine Ud ?_;refine J_ ?_;refine T4 ?_;refine vO ?_;refine J_ ?_;refine Iv ?_;refine KO.fu (i:=30+j) rfl rfl rfl aN uc rfl br yY Rp ?_;rw[d2];refine qO ?_;refine KQ.aU rfl rfl (fun w' aM=>⟨_,_,rfl,⟨rfl,rfl⟩,?_⟩);rw[<-WW];exact bM V ⟨hV.ps,hV.us,hV.bs,hV.ways,hV.ay,hV.batch,hV.bT,by simp[hV.aC]⟩ (aM.all Y4)
 ·have jg:jf H s=(H,false):=by
   unfold jf;split
   ·rename_i a b c e;rw[e]at h3;exact absurd rfl h3
   ·rfl
  rw[jg];refine JQ ?_;refine Z3 ?_;refine K.bW rfl ez ?_;refine kr ?_;refine KQ.aU rfl rfl (fun w' aM=>⟨_,_,rfl,⟨rfl,rfl⟩,aM.drop⟩)
theorem Rz(w0:World)(L:List HP)(s:aj):KE prog 138 #[.string s,.string ⟨#[45]⟩] w0 L (fun u M=>u=.string (dash s)/\M=L):=KE.bU fun w hw=>
 (Tryz.strings_TrimPrefix s ⟨#[45]⟩ w).mono fun e w' h=>⟨h.1,by rw[h.2];exact Below.refl _ _⟩
theorem MZ(s:aj):(dash s).size<=s.size:=by
 unfold dash Lib.trimPrefix;split
 ·simp only[toB,km];simp
 ·simp only[toB,km];simp
theorem Gp(w0:World)(L:List HP)(bh bd n k:Nat)(H:Ho)(s:aj)(hT:ym w0)(hM:xg w0)(hB:cx n H)(hr:fp k s)(hn:n+k<=90000):
 KC prog 53 #[bN bh,.string s] w0 (dt bh bd H::L) (fun u M=>u=.bool (hplays H s).2/\M=dt bh bd (hplays H s).1::L):=by
 have dM:=hr.size;have jg:=(px 58 s).2;have xU:=hB.fT;have C4:=hB.sorted;have hmx:(1000000:Nat)<=maxLen:=by decide
 refine KC.mk (n:=74) func53 rfl ntmps53 ai ?_;refine lg ?_;refine KO.ce (cp:=[]) rfl rfl rfl call135 rfl (JC w0 _ s 58 ae hM) ?_;rintro v' L' ⟨rfl,rfl⟩;refine Hv ?_;refine jo ?_;refine Vc ?_;generalize iO:(cZ 58 s).2.1=rest at jg;by_cases h1:(cZ 58 s).1=bZ 110
 ·refine ye ?_;refine K.bW rfl (decide_eq_true h1) ?_;have xR:∀x∈dH 32 rest,x.size<=80000:=fun x hx=>by have :=jc hx;omega
  refine m_ ?_;refine KO.ce (cp:=[]) rfl rfl rfl call133 rfl (pN w0 _ rest 32 ae hM) ?_;rintro v' L' ⟨b21,rfl,rfl⟩;refine jL ?_;by_cases h3:(dH 32 rest).length=3
  ·obtain⟨wa,wb,wc,he⟩:∃a b c,dH 32 rest=[a,b,c]:=by
    match h:dH 32 rest,h3 with
    |[a,b,c],_=>exact⟨a,b,c,rfl⟩
   rw[he]at xR ⊢;have hza:=xR wa ai;have hzb:=xR wb ai;have hzc:=xR wc ai;have hdz:=MZ wb;have YT:tI rest=(fx wc).map fun k=>⟨wa,dash wb,k⟩:=by unfold tI;rw[he]
   refine JQ ?_;refine Z3 ?_;refine HV ?_;refine Z6 ?_;cases nH:fx wc with
   |none=>
    rw[nH]at YT;have so:hplays H s=(H,false):=by unfold hplays;rw[if_pos h1,iO,YT];rfl
    rw[so];refine cW ?_;refine aco ?_;refine KO.ce (cp:=[]) rfl rfl rfl call136 rfl (jz w0 _ wc ae hM) ?_;rintro v' L' ⟨hR,rfl⟩;unfold lM at hR;rw[nH]at hR;obtain⟨xx,TT,yy,rfl⟩:=hR;refine acw ?_;refine Z1 ?_;refine KO.agb rfl bC rfl ?_;refine BW ?_;refine Kb ?_;refine Kb ?_;refine Kb ?_;refine tW ?_;refine nX ?_;refine KQ.aU rfl rfl (fun w' aM=>⟨_,_,rfl,⟨rfl,rfl⟩,aM.drop⟩)
   |some kk=>
    rw[nH]at YT;have so:hplays H s=(eS H ⟨wa,dash wb,kk⟩,decide (Gk H ⟨wa,dash wb,kk⟩=0)):=by unfold hplays;rw[if_pos h1,iO,YT];rfl
    rw[so];refine cW ?_;refine aco ?_;refine KO.ce (cp:=[]) rfl rfl rfl call136 rfl (jz w0 _ wc ae hM) ?_;rintro v' L' ⟨hR,rfl⟩;unfold lM at hR;rw[nH]at hR;subst hR;refine acw ?_;refine Z1 ?_;refine KO.agc rfl bC rfl ?_;refine BQ ?_;refine Z1 ?_;refine KO.on rfl rfl rfl ?_;refine KO.gO (i:=0) rfl rfl runUnderlying115 sizeOf9 rfl ai rfl ?_;refine KO.on rfl rfl rfl ?_;refine KO.j7 (i:=0) (sz:=1) (cf:=mf) (e:=wa) rfl rfl isAgg9 br (fun _=>rfl) rfl aN aN rfl ?_;refine A2 ?_;refine KO.on rfl rfl rfl ?_;refine KO.gO (i:=1) rfl rfl runUnderlying115 sizeOf9 rfl ai rfl ?_;refine KO.on rfl rfl rfl ?_;refine KO.j7 (i:=1) (sz:=1) (cf:=mf) (e:=wb) rfl rfl isAgg9 br (fun _=>rfl) rfl aN aN rfl ?_;refine A2 ?_;refine KO.on rfl rfl rfl ?_;refine KO.ce (cp:=[]) rfl rfl rfl call138 rfl (Rz w0 _ wb) ?_;rintro v' L' ⟨rfl,rfl⟩;refine lX ?_;refine X1 ?_;refine KO.on rfl rfl rfl ?_;refine KO.cl (cp:=[]) rfl rfl rfl call137 rfl (KC.jN aQ (Wd w0 _ bh bd H ⟨wa,dash wb,kk⟩ fZ fZ xU C4)) ?_;rintro v' L' ⟨rfl,rfl⟩;refine lX ?_;refine KO.eqN rfl bC rfl ?_;refine uk ?_;refine nX ?_;refine KQ.aU rfl rfl (fun w' aM=>⟨_,_,rfl,⟨rfl,rfl⟩,aM.all Y1⟩)
  ·have YT:tI rest=none:=by
    unfold tI;split
    ·rename_i a b c e;rw[e]at h3;exact absurd rfl h3
    ·rfl
   have so:hplays H s=(H,false):=by unfold hplays;rw[if_pos h1,iO,YT]
   rw[so];refine JQ ?_;refine Z3 ?_;refine K.bW rfl ez ?_;refine x7 ?_;refine KQ.aU rfl rfl (fun w' aM=>⟨_,_,rfl,⟨rfl,rfl⟩,aM.drop⟩)
 refine ye ?_;refine K.ct rfl (decide_eq_false h1) ?_;refine kO ?_;by_cases h2:(cZ 58 s).1=bZ 100
 ·have so:hplays H s=(ot H rest,decide (wP H rest=0)):=by unfold hplays;rw[if_neg h1,if_pos h2,iO]
  rw[so];refine ye ?_;refine K.bW rfl (decide_eq_true h2) ?_;refine lO ?_;refine KO.cl (cp:=[]) rfl rfl rfl call139 rfl (S7 w0 _ bh bd H rest xU C4) ?_;rintro v' L' ⟨rfl,rfl⟩;refine KO.eqN rfl bC rfl ?_;refine nX ?_;refine KQ.aU rfl rfl (fun w' aM=>⟨_,_,rfl,⟨rfl,rfl⟩,aM⟩)
 refine ye ?_;refine K.ct rfl (decide_eq_false h2) ?_;refine kO ?_;by_cases h4:(cZ 58 s).1=bZ 117
 ·have so:hplays H s=eK H rest:=by unfold hplays;rw[if_neg h1,if_neg h2,if_pos h4,iO]
  have Pk:=hr.many h4;rw[iO]at Pk;rw[so];refine ye ?_;refine K.bW rfl (decide_eq_true h4) ?_;refine lO ?_;refine KO.cl (cp:=[]) rfl rfl rfl call65 rfl (K_ w0 _ bh bd n H rest hT hM ae hB (fun l hl=>by have :=Pk l hl;omega) ae) ?_;rintro v' L' ⟨rfl,rfl⟩;refine nX ?_;refine KQ.aU rfl rfl (fun w' aM=>⟨_,_,rfl,⟨rfl,rfl⟩,aM⟩)
 refine ye ?_;refine K.ct rfl (decide_eq_false h4) ?_;refine kO ?_;by_cases h5:(cZ 58 s).1=bZ 98
 ·have so:hplays H s=je H rest:=by unfold hplays;rw[if_neg h1,if_neg h2,if_neg h4,if_pos h5,iO]
  rw[so];refine ye ?_;refine K.bW rfl (decide_eq_true h5) ?_;refine lO ?_;refine KO.cl (cp:=[]) rfl rfl rfl call140 rfl (S0 w0 _ bh bd n H rest hM hB ae ae) ?_;rintro v' L' ⟨rfl,rfl⟩;refine nX ?_;refine KQ.aU rfl rfl (fun w' aM=>⟨_,_,rfl,⟨rfl,rfl⟩,aM⟩)
 refine ye ?_;refine K.ct rfl (decide_eq_false h5) ?_;refine kO ?_;by_cases h6:(cZ 58 s).1=bZ 97
 ·have so:hplays H s=fF H rest:=by unfold hplays;rw[if_neg h1,if_neg h2,if_neg h4,if_neg h5,if_pos h6,iO]
  rw[so];refine ye ?_;refine K.bW rfl (decide_eq_true h6) ?_;refine lO ?_;refine KO.cl (cp:=[]) rfl rfl rfl call141 rfl (Pp w0 _ bh bd n H rest hM hB ae ae) ?_;rintro v' L' ⟨rfl,rfl⟩;refine nX ?_;refine KQ.aU rfl rfl (fun w' aM=>⟨_,_,rfl,⟨rfl,rfl⟩,aM⟩)
 refine ye ?_;refine K.ct rfl (decide_eq_false h6) ?_;refine kO ?_;by_cases h7:(cZ 58 s).1=bZ 114
 ·have so:hplays H s=jf H rest:=by unfold hplays;rw[if_neg h1,if_neg h2,if_neg h4,if_neg h5,if_neg h6,if_pos h7,iO]
  have UO:=hr.Ts h7;rw[iO]at UO;rw[so];refine ye ?_;refine K.bW rfl (decide_eq_true h7) ?_;refine lO ?_;refine KO.cl (cp:=[]) rfl rfl rfl call142 rfl (Ta w0 _ bh bd n H rest hT hM ae hB ae (fun a b c l h8 h9=>by have :=UO a b c l h8 h9;exact⟨by omega,this.2⟩)) ?_;rintro v' L' ⟨rfl,rfl⟩;refine nX ?_;refine KQ.aU rfl rfl (fun w' aM=>⟨_,_,rfl,⟨rfl,rfl⟩,aM⟩)
 have so:hplays H s=(H,false):=by unfold hplays;rw[if_neg h1,if_neg h2,if_neg h4,if_neg h5,if_neg h6,if_neg h7]
 rw[so];refine ye ?_;refine K.ct rfl (decide_eq_false h7) ?_;refine TJ ?_;refine xf ?_;refine KQ.aU rfl rfl (fun w' aM=>⟨_,_,rfl,⟨rfl,rfl⟩,aM⟩)
theorem o6(w0:World)(L:List HP)(bh bd n k:Nat)(H:Ho)(D:Dk)(s:aj)(hT:ym w0)(hM:xg w0)(hB:cx n H)(hr:fp k s)(hn:n+k<=90000)(h3:D.places.length=300)(hd: -4000000000000000000<=D.left/\D.left<=9223372036854775807):
 KC prog 84 #[bN bh,.string s] w0 (dt bh bd H::ga bd D::L) (fun u M=>u=dj 70 (ec H D)/\M=dt bh bd (nZ H D s)::ga bd (gg H D s)::L):=by
 have dM:=hr.size;have hu:=hB.used;refine KC.mk (n:=15) func84 rfl ntmps84 ai ?_;refine yb ?_;refine KO.cl (cp:=[]) rfl rfl rfl call61 rfl (OR w0 _ bh bd H D s hT h3 hd ae hu) ?_;rintro v' L' ⟨rfl,rfl⟩;refine yf ?_;refine K.bn rfl (fun h=>?_) (fun h=>?_)
 ·have e:nZ H D s=eC H D:=by unfold nZ;rw[if_neg h]
  rw[e];refine xd ?_;refine KQ.aU rfl rfl (fun w' aM=>⟨_,_,rfl,⟨rfl,rfl⟩,aM⟩)
 ·have h0:ec H D=0:=by simpa using h
  have e:nZ H D s=(hplays (eC H D) s).1:=by unfold nZ;rw[if_pos h0]
  rw[e];refine BT ?_;refine KO.cl (cp:=[]) rfl rfl rfl call53 rfl (Gp w0 _ bh bd n k (eC H D) s hT hM hB.log hr hn) ?_;rintro v' L' ⟨rfl,rfl⟩;refine qO ?_;refine KQ.aU rfl rfl (fun w' aM=>⟨_,_,rfl,⟨by rw[h0];rfl,rfl⟩,aM⟩)
theorem R7(w0:World)(L R R2:List HP)(b off:Nat)(cs:List Value)(T:TypeId)(v:Value)(l:List Nm)(x:Nm)(hp:bB L (bA b (.cells cs.toArray T (0,0))) R)(hq:bB R (fb v l) R2)(hc:cs[off]? =some v)(hl:l.length<=20)(hs:dF l)(hr:∀y∈l,bK y=true)(h1:x.name.size<=maxLen)(h2:x.gK.size<=maxLen):
 KC prog 83 #[.pointer (some ⟨b,off,none⟩),.agg x.cells.toArray] w0 L (fun u M=>u=dj 70 (cu l x)/\M=L):=by
 obtain⟨xn,xt,xh⟩:=x;dsimp only at h1 h2;have hmx:(1000000:Nat)<=maxLen:=by decide
 refine KC.mk (n:=20) func83 rfl ntmps83 ai ?_;refine Z2 ?_;refine KO.box rfl rfl aN rfl ?_;intro b3;refine oK ?_;refine KO.alloc rfl zeroValue125 aN rfl ?_;intro b5;refine EI ?_;refine KO.ce (cp:=[]) rfl rfl rfl call169 rfl (IZ w0 _ _ _ b off cs T v l (.tail (.tail hp)) (.tail (.tail hq)) hc ae) ?_;rintro va L' rfl;refine KO.fact (fun w hw=>bo (E:=75) (sz:=3) (cf:=Nm.cells) (hw.pick .head)) ?_;rintro⟨ad,cap,rfl,had⟩;refine yj ?_;refine oL ?_;refine K.loop (fun p:Nat×Value=>[(3,.pointer (some ⟨b3,0,none⟩)),(5,.pointer (some ⟨b5,0,none⟩)),(9,.slice ad l.length cap),(10,.int .i64 (l.length:Nat)),(11,.int .i64 (p.1:Nat))])
  (fun p=>bA b5 (.cells [p.2].toArray 125 (0,0))::fb p.2 (l.take p.1)::fb (.slice ad l.length cap) l::bA b3 (.cells [Value.string xn,.string xt,.int .i64 xh].toArray 75 (0,0))::L) (fun p=>p.1<=l.length) (fun p=>l.length-p.1) (0,.slice none 0 0)
  (aH _) ⟨rfl,rfl,rfl,rfl,rfl,trivial⟩ (fun _ h=>?_) ?_
 ·have h1:=cw (E:=75) (sz:=3) (cf:=Nm.cells) h;dsimp only[List.take_zero];exact h1.all Y7
 rintro⟨k,vm⟩ hk;dsimp only at hk ⊢;refine lW ?_;refine K.bn rfl (fun h=>?_) (fun h=>?_)
 ·obtain⟨y,hy⟩:∃e,l[k]? =some e:=⟨l[k],ak ae⟩;obtain⟨g,rfl⟩:=had ae;have hyr:=hr y (ax hy);have dM:=uM hyr;have e1:=N7 hs hr hl hy;have gP:dF (l.take k):=List.Pairwise.sublist (List.take_sublist _ _) hs;obtain⟨yn,yt,yh⟩:=y;dsimp only at dM;refine si ?_;refine acf ?_;refine KO.alloc rfl zeroValue75 aN rfl ?_;intro b7;refine B5 ?_;refine Z3 ?_;refine di ?_;refine B7 ?_;refine KO.cl (cp:=[]) rfl rfl rfl call170 rfl (IX w0 _ _ _ b5 0 [vm] 125 vm (l.take k) ⟨yn,yt,yh⟩ aQ aQ rfl fZ fZ ez gP) ?_;rintro v' L' ⟨rfl,v2,rfl⟩;rw[e1,show[vm].set 0 v2=[v2]from rfl];refine pE ?_;refine KQ.round (k+1,v2) fZ fZ ⟨rfl,rfl,rfl,rfl,rfl,trivial⟩ (fun _ h=>h.all Y1)
 ·have mV:k=l.length:=by omega
  subst mV;rw[List.take_length];refine Z9 ?_;refine di ?_;refine Qp ?_;refine KO.cl (cp:=[]) rfl rfl rfl call170 rfl (IX w0 _ _ _ b5 0 [vm] 125 vm l ⟨xn,xt,xh⟩ br br rfl h1 h2 hl hs) ?_;rintro v' L' ⟨rfl,v2,rfl⟩;refine kq ?_;refine KQ.aU rfl rfl (fun w' aM=>⟨_,_,rfl,⟨rfl,rfl⟩,aM.all (by with_reducible repeat(first|exact iA.refl|apply iA.drop))⟩)
theorem yL(w0:World)(L:List HP)(bh bd n:Nat)(H:Ho)(D:Dk)(x:Nm)(hT:ym w0)(hM:xg w0)(hB:cx n H)(hn:n+1<=90000)(h3:D.places.length=300)(hd: -4000000000000000000<=D.left/\D.left<=9223372036854775807)(h1:x.name.size<=maxLen)(h2:x.gK.size<=maxLen):
 KC prog 31 #[bN bh,.agg x.cells.toArray] w0 (dt bh bd H::ga bd D::L) (fun u M=>u=dj 70 (jG H D x)/\M=dt bh bd (jF H D x)::ga bd (jZ H D x)::L):=by
 have xU:=hB.fT;have C4:=hB.sorted;have qM:=fun h0:cu H.names x=0=>mo h0
 obtain⟨xn,xt,xh⟩:=x;dsimp only at h1 h2;refine KC.mk (n:=38) func31 rfl ntmps31 ai ?_;refine kO ?_;refine K.bV (fun _ h=>cn h) ?_;rintro⟨V,hV⟩;dsimp only;refine K.fact (fun w hw=>bo (E:=75) (sz:=3) (cf:=Nm.cells) (v:=V.nv) (xs:=H.names) (hw.pick (A:=fb V.nv H.names) aQ)) ?_;rintro⟨na,nk,hnv,-⟩;refine di ?_;refine KO.box rfl rfl aN rfl ?_;intro b3;refine jo ?_;refine Hr ?_;refine KO.I6 (us:=[V.nv]) rfl rfl isAgg125 sizeOf125 aQ aN aN rfl ?_;refine KO.alloc rfl zeroValue125 aN rfl ?_;intro b5;refine KO.oQ (us:=[V.nv]) rfl rfl rfl (by rw[hnv];rfl) (by exact sizeOf125) (by rw[hnv];rfl) br aN ?_;refine rK ?_;refine Qp ?_;refine KO.cl (cp:=[]) rfl rfl rfl call83 rfl (R7 w0 _ _ _ b5 0 [V.nv] 125 V.nv H.names ⟨xn,xt,xh⟩ br aQ rfl xU C4 hB.right h1 h2) ?_;rintro v' L' ⟨rfl,rfl⟩;refine yf ?_;refine K.bn rfl (fun h=>?_) (fun h=>?_)
 ·have qf:fh H ⟨xn,xt,xh⟩=cu H.names ⟨xn,xt,xh⟩:=by unfold fh;rw[if_pos h]
  refine xd ?_;refine KQ.aU rfl rfl (fun w' aM=>⟨_,_,rfl,⟨?_,rfl⟩,?_⟩)
  ·unfold jG;rw[qf,if_pos h]
  ·unfold jF jZ;rw[qf,if_pos h,if_pos h];exact bM V hV (aM.all Y4)
 have h0:cu H.names ⟨xn,xt,xh⟩=0:=by simpa using h
 have hr0:=zE (qM h0);have dM:=uM (qM h0);obtain⟨-,-,Jd,Ij⟩:=gu (qM h0);dsimp only at dM Jd Ij;refine qP ?_;refine TI ?_;refine pG ?_;refine EM ?_;refine K.bn rfl (fun h5=>?_) (fun h5=>?_)
 ·have qf:fh H ⟨xn,xt,xh⟩=5:=by unfold fh;exact(if_neg h).trans (if_pos h5)
  refine Iu ?_;refine AZ ?_;refine KQ.aU rfl rfl (fun w' aM=>⟨_,_,rfl,⟨?_,rfl⟩,?_⟩)
  ·unfold jG;rw[qf];rfl
  ·unfold jF jZ;rw[qf,if_pos ah,if_pos ah];exact bM V hV (aM.all Y4)
 have qf:fh H ⟨xn,xt,xh⟩=0:=by unfold fh;exact(if_neg h).trans (if_neg h5)
 refine qP ?_;refine Ca ?_;refine pG ?_;refine jo ?_;refine EM ?_;refine K.cut (fun _:Unit=>[(0,bN bh),(3,.pointer (some ⟨b3,0,none⟩)),(7,.string (ki xt))]) (fun _=>dt bh bd H::ga bd D::bA b3 (.cells [Value.string xn,.string xt,.int .i64 xh].toArray 75 (0,0))::L) (fun _=>True) ?_ ?_
 ·refine K.bn rfl (fun h8=>?_) (fun h8=>?_)
  ·(skip)
   refine di ?_;refine rL ?_;exact KQ.kT () trivial ⟨rfl,rfl,by unfold ki;rw[if_pos h8];rfl,trivial⟩ (fun w' aM=>bM V hV (aM.all Y4))
  ·refine B3 ?_;exact KQ.kT () trivial ⟨rfl,rfl,by unfold ki;rw[if_neg h8];rfl,trivial⟩ (fun w' aM=>bM V hV (aM.all Y4))
 ·rintro⟨⟩-
  try dsimp only
  have hi:=cL (n:=xh) ⟨by omega,by omega⟩;have hdz:(ki xt).size<=8:=by
   unfold ki;split
   ·decide
   ·omega
  have z1:(⟨#[110,58]⟩:aj).size=2:=rfl;have z2:(⟨#[32]⟩:aj).size=1:=rfl;have z3:(⟨#[110,58]⟩++xn:aj).size<=10:=by simp only[aV];omega
  have z4:(⟨#[110,58]⟩++xn++⟨#[32]⟩:aj).size<=11:=by simp only[aV];omega
  have z5:(⟨#[110,58]⟩++xn++⟨#[32]⟩++ki xt:aj).size<=19:=by simp only[aV];omega
  have z6:(⟨#[110,58]⟩++xn++⟨#[32]⟩++ki xt++⟨#[32]⟩:aj).size<=20:=by simp only[aV];omega
  refine kO ?_;refine K.draw [.pure,.pure,.read,.pure,.pure,.pure,.pure,.pure,.pure,.read,.ef,.pure,.write,.pure] [0,1,2,3,4,5,6,7,8,9,10,11,12,13] bC bC ?_;refine Z1 ?_;refine TI ?_;refine pG ?_;refine rM ?_;refine rM ?_;refine Z1 ?_;refine rM ?_;refine rM ?_;refine H5 ?_;refine sD ?_;refine KO.ce (cp:=[]) rfl rfl rfl call59 rfl (nF w0 _ xh hT ⟨by omega,by omega⟩) ?_;rintro v' L' ⟨rfl,rfl⟩;refine rM ?_;refine KO.cl (cp:=[]) rfl rfl rfl call84 rfl (o6 w0 _ bh bd n 1 H D (jY ⟨xn,xt,xh⟩) hT hM hB hr0 hn h3 hd) ?_;rintro v' L' ⟨rfl,rfl⟩;refine kq ?_;refine KQ.aU rfl rfl (fun w' aM=>⟨_,_,rfl,⟨?_,rfl⟩,?_⟩)
  ·unfold jG;rw[qf];rfl
  ·unfold jF jZ;rw[qf,if_neg ah,if_neg ah];exact aM.all Y4
theorem C8{w0 w:World}{bh bd:Nat}{H:Ho}{L:List HP}{V:uo}(hV:jA V H){cs:List Value}{nv:Value}{l:List Nm}{m:List (aj×Value)}{mb:Nat}{ps:List Nat}{a:List Qu}{p1 p2 bs:List Value}{u1:List (List (Ms×Int))}{u2:List (List (Int×aj))}{ba:List (List Int)}(h:St w0 (bA bh (.cells cs.toArray 133 (0,0))::fb nv l::bP Value.string mb m::bI jv ps a::bI cX p1 u1::bI cV p2 u2::bI dU bs ba::L) w)(e1:cs=fe bd V H)(e2:nv=V.nv)(e3:l=H.names)(e4:m=dI V H)(e5:mb=V.mb)(e6:ps=V.ps)(e7:a=H.all)(e8:p1=V.us.map (·.1))(e9:u1=H.ay.map (·.aT))(e10:p2=V.us.map (·.2))(e11:u2=H.ay.map (·.aY))(e12:bs=V.bs)(e13:ba=H.batch):
 St w0 (dt bh bd H::L) w:=by
 subst e1 e2 e3 e4 e5 e6 e7 e8 e9 e10 e11 e12 e13;exact bM V hV h
theorem flat_get:∀(us:List (Value×Value)) (u:Nat) (p:Value×Value),us[u]? =some p->(us.flatMap (fun p=>[p.1,p.2]))[2*u]? =some p.1/\(us.flatMap (fun p=>[p.1,p.2]))[2*u+1]? =some p.2
 |[],_,_,h=>by simp at h
 |a::us,0,p,h=>by simp at h;subst h;exact⟨rfl,rfl⟩
 |a::us,u+1,p,h=>by
  have ih:=flat_get us u p Ic;rw[bj,show 2*(u+1)=2*u+2 by omega];exact⟨ih.1,ih.2⟩
theorem Aq:∀(us:List (Value×Value)) (u:Nat) (p:Value×Value) (v:Value),us[u]? =some p->(us.flatMap (fun p=>[p.1,p.2])).set (2*u) v=(us.set u (v,p.2)).flatMap (fun p=>[p.1,p.2])/\(us.flatMap (fun p=>[p.1,p.2])).set (2*u+1) v=(us.set u (p.1,v)).flatMap (fun p=>[p.1,p.2])
 |[],_,_,_,h=>by simp at h
 |a::us,0,p,v,h=>by simp at h;subst h;exact⟨rfl,rfl⟩
 |a::us,u+1,p,v,h=>by
  have ih:=Aq us u p v Ic;rw[bj,show 2*(u+1)=2*u+2 by omega,List.set_cons_succ,List.set_cons_succ,bj,bj,<-ih.1,<-ih.2];exact⟨rfl,rfl⟩
theorem o7{bd:Nat}{V:uo}{H:Ho}(hV:jA V H){u:Nat}{p:Value×Value}(hp:V.us[u]? =some p):
 (fe bd V H)[12+2*u]? =some p.1/\(fe bd V H)[13+2*u]? =some p.2/\(∀v,(fe bd V H).set (12+2*u) v=fe bd {V with us:=V.us.set u (v,p.2)} H)/\(∀v,(fe bd V H).set (13+2*u) v=fe bd {V with us:=V.us.set u (p.1,v)} H):=by
 have ku:=hV.ps;have hu:=(aw.1 hp).1;have W0:(([.int .i64 H.id,bN bd,.int .i64 (H.used:Nat),.bool H.down,.int .i64 H.dC,.int .i64 H.next,V.nv,.map (some V.mb)]:List Value)++(V.ps.take 4).map bN).length=12:=by simp[ku]
 have MJ:=lJ V.us;obtain⟨g1,g2⟩:=flat_get V.us u p hp;have s1:=fun v=>(Aq V.us u p v hp).1
 have s2:=fun v=>(Aq V.us u p v hp).2
 simp only[C9];generalize ([.int .i64 H.id,bN bd,.int .i64 (H.used:Nat),.bool H.down,.int .i64 H.dC,.int .i64 H.next,V.nv,.map (some V.mb)]:List Value)++(V.ps.take 4).map bN=A at W0;refine⟨?_,?_,fun v=>?_,fun v=>?_⟩
 ·rw[bp ae,W0,show 12+2*u-12=2*u by omega,List.getElem?_append_left ae,g1]
 ·rw[bp ae,W0,show 13+2*u-12=2*u+1 by omega,List.getElem?_append_left ae,g2]
 ·rw[List.set_append_right _ _ ae,W0,show 12+2*u-12=2*u by omega,List.set_append_left _ _ ae,s1]
 ·rw[List.set_append_right _ _ ae,W0,show 13+2*u-12=2*u+1 by omega,List.set_append_left _ _ ae,s2]
def R_ (V:uo) (H:Ho) (s:aj):Value:=if(jX H s).2.2≠0 then .pointer none else match V.ps[mD H s]? with
 |some p=>bN p
 |none=>.pointer none
theorem R9(w0:World)(L:List HP)(bh bd n:Nat)(V:uo)(H:Ho)(s:aj)(hV:jA V H)(hB:cx n H):
 KC prog 55 #[bN bh,.string s] w0 (Bh bh bd V H L) (fun u M=>u=.tuple #[R_ V H s,.string (jX H s).1,.int .i64 (jX H s).2.1,dj 70 (jX H s).2.2]/\M=Bh bh bd V H L):=by
 have xU:=hB.fT;have C4:=hB.sorted;have ku:=hV.ps;have dN:=tv hB (s:=s);have fin:∀(a:Value) (b:aj) (c d:Int),R_ V H s=a->jX H s=(b,c,d)->(Value.tuple #[a,.string b,.int .i64 c,dj 70 d])=.tuple #[R_ V H s,.string (jX H s).1,.int .i64 (jX H s).2.1,dj 70 (jX H s).2.2]:=fun a b c d h1 h2=>by rw[h1,h2]
 refine KC.mk (n:=54) func55 rfl ntmps55 ai ?_;refine iz ?_;refine A_ ?_;refine jo ?_;refine Hr ?_;refine Z1 ?_;refine KO.ce (cp:=[]) rfl rfl rfl call144 rfl (L6 w0 _ _ _ bh 6 (fe bd V H) 133 V.nv H.names s br br rfl ae C4) ?_;rintro v' L' ⟨rfl,rfl⟩;refine Hv ?_;refine Hd ?_;obtain⟨⟨t,k,e⟩,hr⟩:∃r,fg H.names (H.names.length+1) s=r:=⟨_,rfl⟩;have Bg:jX H s=(if e≠0 then(⟨#[]⟩,0,e)else if k<0\/k=H.id then if cP H.names t=false then(⟨#[]⟩,0,7)else(t,-1,0)else(t,k,0)):=by unfold jX;rw[hr]
 rw[hr];refine cW ?_;refine KO.neN rfl bC rfl ?_;refine qV ?_;refine K.bn rfl (fun h=>?_) (fun h=>?_)
 ·rw[if_pos h]at Bg;refine m_ ?_;refine A_ ?_;refine J3 ?_;refine KQ.RW rfl rfl rfl rfl rfl (fun w' aM=>⟨_,_,rfl,⟨fin _ _ _ _ ?_ Bg,rfl⟩,aM⟩);unfold R_;rw[Bg,if_pos h]
 rw[if_neg h]at Bg;have ML:e=0:=by simpa using h
 subst ML;refine kO ?_;refine K.cut (fun _:Unit=>[(0,bN bh),(5,.string t),(6,.int .i64 k),(21,.bool (decide (k<0\/k=H.id)))]) (fun _=>Bh bh bd V H L) (fun _=>True) ?_ ?_
 ·by_cases xV:k<0
  ·refine HZ ?_;refine B1 ?_;refine sx ?_;refine rL ?_;exact KQ.kT () trivial ⟨rfl,rfl,rfl,by simp[xV,cB],trivial⟩ (fun w' aM=>aM)
  ·refine T9 ?_;refine yW ?_;refine BU ?_;refine H7 ?_;refine KO.on rfl rfl Kf ?_;refine KO.bO (i:=0) rfl rfl isAgg3 br rfl rfl rfl ?_;refine sh ?_;refine EF ?_;refine Fb ?_;refine rL ?_;exact KQ.kT () trivial ⟨rfl,rfl,rfl,by simp[xV,cB],trivial⟩ (fun w' aM=>aM)
 rintro⟨⟩-;refine K.bn rfl (fun hk=>?_) (fun hk=>?_)
 ·rw[if_pos hk]at Bg;refine m_ ?_;refine Hr ?_;refine Z1 ?_;refine KO.ce (cp:=[]) rfl rfl rfl call57 rfl (u_ w0 _ _ _ bh 6 (fe bd V H) 133 V.nv H.names t br br rfl ae C4) ?_;rintro v' L' ⟨rfl,rfl⟩;refine oJ ?_;cases Gu:cP H.names t with
  |false=>
   rw[Gu]at Bg;rw[if_pos rfl]at Bg;refine xa ?_;refine Iu ?_;refine A_ ?_;refine J3 ?_;refine KQ.RW rfl rfl rfl rfl rfl (fun w' aM=>⟨_,_,rfl,⟨fin _ _ _ 7 ?_ Bg,rfl⟩,aM⟩);unfold R_;rw[Bg];rfl
  |true=>
   rw[Gu]at Bg;rw[if_neg ai]at Bg;obtain⟨h1,h2,-⟩:=dN (by rw[Bg]);obtain⟨-,i,hi,hj⟩:=h2 (by rw[Bg];exact(by decide:(-1:Int)<0));rw[Bg]at hi;have hg:=lG hV t;have kD:=(fC hi).1;obtain⟨p,hp⟩:∃p,V.ps[4+i]? =some p:=⟨_,ak ae⟩;rw[show H.qI t=some i from hi]at hg;simp only[Option.bind_some,hp,Option.map_some]at hg;refine Lz ?_;refine Hj ?_;refine KO.zW dD t rfl rfl rfl underlying123 underlying9 zeroValue119 aQ rfl ?_;rw[hg];refine Z1 ?_;refine A_ ?_;refine J3 ?_;refine KQ.RW rfl rfl rfl rfl rfl (fun w' aM=>⟨_,_,rfl,⟨fin _ _ _ 0 ?_ Bg,rfl⟩,aM⟩);unfold R_;rw[hj,hp,if_neg (by rw[Bg];simp)];rfl
 ·rw[if_neg hk]at Bg;obtain⟨h1,-,h2⟩:=dN (by rw[Bg]);obtain⟨h3,h4⟩:=h2 (by rw[Bg];exact fun h=>hk (.inl h));rw[Bg]at h4;dsimp only at h4;obtain⟨p,hp⟩:∃p,V.ps[mD H s]? =some p:=⟨_,ak ae⟩;have hw:=qg hV (bd:=bd) h3 hp;refine TJ ?_;refine gY ?_;refine QI ?_;refine KO.jd (i:=mD H s) rfl rfl runUnderlying126 sizeOf119 h4 ae rfl ?_;refine KO.bO (i:=8+mD H s) rfl rfl isAgg119 br yY hw rfl ?_;refine gZ ?_;refine A_ ?_;refine nP ?_;refine KQ.RW rfl rfl rfl rfl rfl (fun w' aM=>⟨_,_,rfl,⟨fin _ _ _ 0 ?_ Bg,rfl⟩,aM⟩);unfold R_;rw[hp,if_neg (by rw[Bg];simp)]
theorem Gq{w0 w:World}{bh bd:Nat}{H:Ho}{L:List HP}{V:uo}(hV:jA V H)(j:Nat)(q:Qu)(u:Nat)(k:Int)(x:pI)(p:Value×Value){p1 p2:List Value}{u1:List (List (Ms×Int))}{u2:List (List (Int×aj))}(h:St w0 (bA bh (.cells (fe bd {V with us:=V.us.set u p} {H with next:=k}).toArray 133 (0,0))::fb V.nv H.names::bP Value.string V.mb (dI V H)::bI jv V.ps (H.all.set j q)::bI cX p1 u1::bI cV p2 u2::bI dU V.bs H.batch::L) w)(e1:p1=(V.us.map (·.1)).set u p.1)(e2:p2=(V.us.map (·.2)).set u p.2)(e3:u1=(H.ay.map (·.aT)).set u x.aT)(e4:u2=(H.ay.map (·.aY)).set u x.aY):
 St w0 (dt bh bd (cA {H.eN j q with next:=k} u x)::L) w:=by
 refine C8 (V:={V with us:=V.us.set u p}) ⟨?_,by simp[hV.us],hV.bs,?_,?_,?_,?_,?_⟩ h ?_ rfl ?_ ?_ rfl rfl ?_ ?_ ?_ ?_ ?_ rfl ?_
 ·unfold cA;dsimp only;rw[Cs];exact hV.ps
 ·unfold cA;dsimp only;rw[LQ];exact hV.ways
 ·unfold cA;dsimp only;rw[jr];simp[hV.ay]
 ·unfold cA;dsimp only;rw[pR];exact hV.batch
 ·unfold cA;dsimp only;rw[rR];exact hV.bT
 ·unfold cA;dsimp only;rw[mr];exact hV.aC
 ·unfold cA fe;dsimp only;rw[yu,oR,LS,LR,rR,mr]
 ·unfold cA;dsimp only;rw[sS]
 ·unfold cA dI;dsimp only;exact u7 _ _ _ (uG j q).symm
 ·exact(AY hV.ways j q).symm
 ·rw[e1,List.map_set]
 ·rw[e3];unfold cA;dsimp only;rw[jr,List.map_set]
 ·rw[e2,List.map_set]
 ·rw[e4];unfold cA;dsimp only;rw[jr,List.map_set]
 ·unfold cA;dsimp only;rw[pR]
theorem vA{α β:Type}{l:List α}{f:α->β}{i:Nat}{x:α}{y:β}(h:l[i]? =some x)(e:f x=y):l.map f=(l.map f).set i y:=by
 rw[<-e,<-List.map_set,List.dE h]
theorem Wj(w0:World)(L:List HP)(bh bd n:Nat)(H:Ho)(u:Int)(s:aj)(pri:Int)(body:aj)(hB:cx n H)(hn:n<90000)(hs:s.size<=maxLen)(hb:body.size<=maxLen)(hl:∀x∈H.ay,x.aT.length<=90000):
 KC prog 14 #[bN bh,.int .i64 u,.string s,.int .i64 pri,.string body] w0 (dt bh bd H::L) (fun v M=>v=.tuple #[.int .i64 (D4 H u s pri body),dj 70 (gN H u s pri body)]/\M=dt bh bd (lA H u s pri body)::L):=by
 have hx:=hB.next
 have hid:=hB.id;have ends:∀k:Int,k≠0->gN H u s pri body=k->∀w',St w0 (dt bh bd H::L) w'->(Value.tuple #[.int .i64 0,dj 70 k]=.tuple #[.int .i64 (D4 H u s pri body),dj 70 (gN H u s pri body)]/\dt bh bd H::L=dt bh bd (lA H u s pri body)::L):=fun k hk he w' _=>by
  have h0:¬gN H u s pri body=0:=by rw[he];exact hk
  unfold D4 lA;rw[if_neg h0,if_neg h0,he];exact⟨rfl,rfl⟩
 refine KC.mk (n:=109) func14 rfl ntmps14 ai ?_;refine iz ?_;refine jL ?_;by_cases hu:u<0\/5<=u
 ·have he:gN H u s pri body=2:=by unfold gN;rw[if_pos hu]
  by_cases Wb:u<0
  ·refine JW ?_;refine Qh ?_;refine yd ?_;refine KQ.dG rfl rfl rfl (fun w' aM=>⟨_,_,rfl,ends 2 ah he w' aM,aM⟩)
  ·refine HG ?_;refine K.bW rfl Kf ?_;refine yd ?_;refine KQ.dG rfl rfl rfl (fun w' aM=>⟨_,_,rfl,ends 2 ah he w' aM,aM⟩)
 refine HG ?_;refine K.ct rfl Kf ?_;refine Z6 ?_;by_cases hp:pri<0\/9<pri
 ·have he:gN H u s pri body=1:=by unfold gN;rw[if_neg hu,if_pos (.inl hp)]
  by_cases hp0:pri<0
  ·refine JW ?_;refine sx ?_;refine B_ ?_;refine uk ?_;refine Z3 ?_;refine K.bW rfl Y76 ?_;refine yd ?_;refine KQ.dG rfl rfl rfl (fun w' aM=>⟨_,_,rfl,ends 1 ah he w' aM,aM⟩)
  ·refine T9 ?_;refine JN ?_;refine Fb ?_;refine B9 ?_;refine KO.no rfl rfl Y5 rfl ?_;refine Qh ?_;refine yd ?_;refine KQ.dG rfl rfl rfl (fun w' aM=>⟨_,_,rfl,ends 1 ah he w' aM,aM⟩)
 refine T9 ?_;refine JN ?_;refine Fb ?_;refine yW ?_;refine Z1 ?_;refine KO.on rfl rfl Kf ?_;refine KO.ce (cp:=[]) rfl rfl rfl call54 rfl (AQ w0 _ body hb) ?_;rintro v' L' ⟨rfl,rfl⟩;refine sh ?_;refine pC ?_;refine HU ?_;cases hbd:fJ body with
 |false=>
  have he:gN H u s pri body=1:=by unfold gN;rw[if_neg hu,if_pos (.inr hbd)]
  refine K.bW rfl ai ?_;refine yd ?_;refine KQ.dG rfl rfl rfl (fun w' aM=>⟨_,_,rfl,ends 1 ah he w' aM,aM⟩)
 |true=>
 refine K.ct rfl Y76 ?_;have Wb:¬((pri<0\/9<pri)\/fJ body=false):=by rw[hbd];simpa using hp
 refine Z6 ?_;refine K.bV (fun _ h=>cn h) ?_;rintro⟨V,hV⟩;dsimp only;have ku:=hV.ps;refine gY ?_;refine KO.cl (cp:=[]) rfl rfl rfl call55 rfl (R9 w0 L bh bd n V H s hV hB) ?_;rintro v' L' ⟨rfl,rfl⟩;refine LB ?_;refine Z16 ?_;refine A_ ?_;refine Z8 ?_;refine yf ?_;refine K.bn rfl (fun h=>?_) (fun h=>?_)
 ·have he:gN H u s pri body=(jX H s).2.2:=by unfold gN;rw[if_neg hu,if_neg Wb,if_pos h]
  refine JR ?_;refine KQ.dG rfl rfl rfl (fun w' aM=>⟨_,_,rfl,ends _ h he w' (bM V hV aM),bM V hV aM⟩)
 have h0:(jX H s).2.2=0:=by simpa using h
 refine Z6 ?_;cases vx:H.down with
 |true=>
  have he:gN H u s pri body=6:=by unfold gN;rw[if_neg hu,if_neg Wb,if_neg h,if_pos vx]
  refine Hq ?_;refine Z3 ?_;refine K.bW rfl vx ?_;refine yd ?_;refine KQ.dG rfl rfl rfl (fun w' aM=>⟨_,_,rfl,ends 6 ah he w' (bM V hV aM),bM V hV aM⟩)
 |false=>
 refine Hq ?_;refine Z3 ?_;refine K.ct rfl vx ?_;refine Z6 ?_;have he:gN H u s pri body=jC (H.rI (mD H s)) (fR H s pri body):=by unfold gN;rw[if_neg hu,if_neg Wb,if_neg h,if_neg (by simp[vx])]
 obtain⟨hj,h2,h3⟩:=tv hB h0;have YX:=mL hV.ways;obtain⟨p,iq⟩:∃p,V.ps[mD H s]? =some p:=⟨_,ak ae⟩;have hpV:R_ V H s=bN p:=by unfold R_;rw[iq,if_neg h]
 rw[hpV];refine acx ?_;refine Qv ?_;refine KO.bO (i:=5) rfl rfl isAgg3 br rfl rfl rfl ?_;refine KO.mul rfl rfl rfl ae rfl ?_;refine sB ?_;refine H7 ?_;refine KO.bO (i:=0) rfl rfl isAgg3 br rfl rfl rfl ?_;refine vO ?_;refine gZ ?_;refine gZ ?_;refine Z36 ?_;refine KO.alloc rfl zeroValue44 aN rfl ?_;intro JK;refine tX ?_;refine HZ ?_;refine Z3 ?_;refine K.cut (fun _:Unit=>[(0,bN bh),(1,.int .i64 u),(12,bN p),(14,.int .i64 (jX H s).2.1),(16,.pointer (some ⟨JK,0,none⟩))]) (fun _=>bA JK (.cells (dy (fR H s pri body)).toArray 44 (0,0))::Bh bh bd V H L) (fun _=>True) ?_ ?_
 ·refine K.bn rfl (fun Ao=>?_) (fun Ao=>?_)
  ·(skip)
   refine g_ ?_;refine H7 ?_;refine KO.bO (i:=0) rfl rfl isAgg3 aQ rfl rfl rfl ?_;refine NO ?_
   (refine KO.N6 rfl rfl rfl aN uc aN br aN Y0 ?_)
   refine jk ?_;exact KQ.kT () trivial ⟨rfl,rfl,rfl,rfl,rfl,trivial⟩ (fun w' aM=>by unfold fR;rw[if_pos Ao];exact aM.all ft)
  ·refine B3 ?_;exact KQ.kT () trivial ⟨rfl,rfl,rfl,rfl,rfl,trivial⟩ (fun w' aM=>by unfold fR;rw[if_neg Ao];exact aM.all ft)
 ·rintro⟨⟩-
  try dsimp only
  have hqb:=(hB.a hj).ok ae;have Q0:(fR H s pri body).queue.size<=maxLen:=Nat.le_trans (hP (Ov hB h0)).2 ah;have YV:(fR H s pri body).body.size<=maxLen:=hb;rcases sr:fR H s pri body with⟨mi,mp,mb,mq,mh⟩
  rw[sr]at Q0 YV;dsimp only at Q0 YV;refine m_ ?_;refine yl ?_;refine Z1 ?_;refine KO.cl (cp:=[]) rfl rfl rfl call56 rfl (KC.rD (φ:=fun v=>v=dj 70 (jC (H.rI (mD H s)) ⟨mi,mp,mb,mq,mh⟩)) iq (Hc hj) aQ (fun L=>ZP w0 L p (H.rI (mD H s)) ⟨mi,mp,mb,mq,mh⟩ u hqb YV Q0)) ?_;rintro v' L' ⟨rfl,rfl⟩;refine jL ?_;rw[sr]at he;refine cW ?_;refine Yj ?_;refine K.bn rfl (fun UY=>?_) (fun UY=>?_)
  ·have sL:lU (H.rI (mD H s)) ⟨mi,mp,mb,mq,mh⟩ u=H.rI (mD H s):=by unfold lU;rw[if_neg UY]
   refine JR ?_;refine KQ.dG rfl rfl rfl (fun w' aM=>?_);rw[sL,pQ (Hc hj)]at aM;exact⟨_,_,rfl,ends _ UY he w' (bM V hV (aM.all Y4)),bM V hV (aM.all Y4)⟩
  ·have af2:jC (H.rI (mD H s)) ⟨mi,mp,mb,mq,mh⟩=0:=by simpa using UY
   rw[af2]at he;have K3:u.toNat<5:=by omega
   have UE:u=((u.toNat:Nat):Int):=by omega
   have Je:=hV.us;have wE:=hV.ay;obtain⟨pv,Gl⟩:∃e,V.us[u.toNat]? =some e:=⟨_,ak ae⟩;obtain⟨x,Ei⟩:∃e,H.ay[u.toNat]? =some e:=⟨_,ak ae⟩;have vh:=hl x (ax Ei);have Nx:H.dW u.toNat=x:=by unfold Ho.dW;rw[au,Ei];rfl
   have iB:jA V {H with next:=H.next+1}:=⟨hV.ps,hV.us,hV.bs,hV.ways,hV.ay,hV.batch,hV.bT,hV.aC⟩;obtain⟨c1,-,c3,-⟩:=o7 (bd:=bd) iB Gl;have Al:(V.us.map (·.1))[u.toNat]? =some pv.1:=by rw[aG,Gl];rfl
   have Pt:(H.ay.map (·.aT))[u.toNat]? =some x.aT:=by rw[aG,Ei];rfl
   have afj:D4 H u s pri body=mi:=by unfold D4;rw[if_pos he,sr]
   refine Z6 ?_;refine g_ ?_;refine Qv ?_;refine KO.bO (i:=5) rfl rfl isAgg3 aQ rfl rfl rfl ?_;refine Hn ?_;refine Qv ?_;refine KO.fu (i:=5) rfl rfl rfl aN uc rfl aQ rfl Rp ?_;rw[show(fe bd V H).set 5 (.int .i64 (H.next+1))=fe bd V {H with next:=H.next+1}from rfl];refine Z0 ?_;refine K.conv (fun w hw=>cM Al Pt (hw.pick (A:=bI cX (V.us.map (·.1)) (H.ay.map (·.aT))) aQ)) ?_
   refine K.draw [.pure,.pure,.pure,.pure,.pure,.pure,.pure,.pure,.read,.read,.pure,.pure,.ef,.write,.pure,.pure,.pure,.pure,.write] [0,1,2,3,4,5,6,7,8,9,10,11,14,15,12,13,16,17,18] bC bC ?_;refine gZ ?_;refine EK ?_;refine Xz ?_;refine XL ?_;refine KO.bO (i:=12+2*u.toNat) rfl rfl isAgg127 aQ Uh c1 rfl ?_;refine Qe ?_;refine Z1 ?_;refine KO.AR (pl:=[(0,5),(5,1)]) rfl zeroValue142 runUnderlying142 Y18 aN rfl ?_;refine iD ?_;refine KO.fG (off:=12) rfl runUnderlying133 rfl rfl sizeOf131 rfl ?_;refine KO.sw (z:=(Value.agg #[.int .i64 0,.int .i64 0,.string ⟨#[]⟩,.string ⟨#[]⟩,.int .i64 0,.int .i64 0])) (sz:=6) (fk:=64) rfl rfl underlying127 bC aN aN ah ah rfl ?_;intro ak6;refine KO.app (z:=Value.agg #[.int .i64 0,.int .i64 0,.string ⟨#[]⟩,.string ⟨#[]⟩,.int .i64 0,.int .i64 0]) (sz:=6) (fk:=64) (xs:=x.aT) (cf:=D5) rfl rfl rfl (.tail .head) .head underlying127 bC aN (⟨mi,mp,mb,mq,mh⟩,(jX H s).2.1) rfl rfl rfl ae ah rfl ?_;intro v13;refine KO.fact (fun _ hs=>bo hs) ?_;rintro⟨a13,k13,SK,-⟩;refine KO.jd (i:=u.toNat) rfl rfl runUnderlying131 sizeOf130 UE ae rfl ?_;refine XL ?_;refine KO.fu (i:=12+2*u.toNat) rfl rfl rfl Vf (by exact sizeOf127) Vf aQ Uh (by rw[r8 iB];omega) ?_;rw[c3]
   refine rK ?_;refine Nj ?_;refine sD ?_;refine nP ?_;refine KQ.dG rfl rfl rfl (fun w' aM=>⟨_,_,rfl,⟨by rw[he,afj];rfl,rfl⟩,?_⟩);have e1:lA H u s pri body=cA {H.eN (mD H s) (lU (H.rI (mD H s)) (fR H s pri body) u)with next:=H.next+1} u.toNat ⟨x.aT++[(fR H s pri body,(jX H s).2.1)],x.aY⟩:=by unfold lA;rw[if_pos he,Nx]
   rw[e1,sr];have vp:=kY (f:=cX) (ps:=V.us.map (·.1)) (xs:=H.ay.map (·.aT)) (i:=u.toNat) (p:=v13) (x:=x.aT++[(⟨mi,mp,mb,mq,mh⟩,(jX H s).2.1)]) (by simp[Je];omega) (by simp[wE];omega) (aM.all (M:=cX v13 (x.aT++[(⟨mi,mp,mb,mq,mh⟩,(jX H s).2.1)])::bI cX ((V.us.map (·.1)).eraseIdx u.toNat) ((H.ay.map (·.aT)).eraseIdx u.toNat)::bA bh (.cells (fe bd {V with us:=V.us.set u.toNat (v13,pv.2)} {H with next:=H.next+1}).toArray 133 (0,0))::fb V.nv H.names::bP Value.string V.mb (dI V H)::bI jv V.ps (H.all.set (mD H s) (lU (H.rI (mD H s)) ⟨mi,mp,mb,mq,mh⟩ u))::bI cV (V.us.map (·.2)) (H.ay.map (·.aY))::bI dU V.bs H.batch::L) Y4);exact Gq hV (mD H s) _ u.toNat (H.next+1) _ (v13,pv.2) (vp.all Y7) rfl (vA Gl rfl) rfl (vA Ei rfl)
theorem WH(w0:World)(L:List HP)(bh bd n:Nat)(H:Ho)(u:Int)(s:aj)(hB:cx n H)(hn:n<90000)(hl:∀x∈H.ay,x.aY.length<=90000):
 KC prog 15 #[bN bh,.int .i64 u,.string s] w0 (dt bh bd H::L) (fun v M=>v=.tuple #[.agg (dy (getM H u s)).toArray,dj 70 (gX H u s)]/\M=dt bh bd (kH H u s)::L):=by
 have xU:=hB.fT;have C4:=hB.sorted;have ends:∀k:Int,k≠0->gX H u s=k->(Value.tuple #[.agg (dy iP).toArray,dj 70 k]=.tuple #[.agg (dy (getM H u s)).toArray,dj 70 (gX H u s)]/\dt bh bd H::L=dt bh bd (kH H u s)::L):=fun k hk he=>by
  have h0:¬gX H u s=0:=by rw[he];exact hk
  unfold getM kH;rw[if_neg h0,if_neg h0,he];exact⟨rfl,rfl⟩
 refine KC.mk (n:=81) func15 rfl ntmps15 ai ?_;refine Z2 ?_;refine KO.alloc rfl zeroValue44 aN rfl ?_;intro b6;refine jL ?_;by_cases hu:u<0\/5<=u
 ·have he:gX H u s=2:=by unfold gX;rw[if_pos hu]
  by_cases Wb:u<0
  ·refine JW ?_;refine Qh ?_;refine J0 ?_;refine Hm ?_;refine KQ.gT rfl rfl isAgg44 br yX rfl (fun w' aM=>⟨_,dt bh bd H::L,rfl,?_,?_⟩)
   ·exact ends 2 ah he
   ·exact aM.all Y1
  ·refine HG ?_;refine K.bW rfl Kf ?_;refine J0 ?_;refine Hm ?_;refine KQ.gT rfl rfl isAgg44 br yX rfl (fun w' aM=>⟨_,dt bh bd H::L,rfl,?_,?_⟩)
   ·exact ends 2 ah he
   ·exact aM.all Y1
 refine HG ?_;refine K.ct rfl Kf ?_;refine Z6 ?_;refine K.bV (fun _ h=>cn (h.pick aQ)) ?_;rintro⟨V,hV⟩;dsimp only;have ku:=hV.ps;have hg:=lG hV s;cases hq:H.qI s with
 |none=>
  have he:gX H u s=7:=by unfold gX;rw[if_neg hu,hq]
  rw[hq]at hg;refine Hj ?_;refine KO.KV dD s rfl rfl rfl underlying123 underlying9 zeroValue119 aQ rfl ?_;rw[hg];refine qQ ?_;refine pC ?_;refine B_ ?_;refine NN ?_;refine NN ?_;refine Nf ?_;refine uk ?_;refine Z3 ?_;refine K.bW rfl ai ?_;refine J0 ?_;refine J9 ?_;refine AZ ?_;refine KQ.gT rfl rfl isAgg44 br yX rfl (fun w' aM=>⟨_,dt bh bd H::L,rfl,?_,?_⟩)
  ·exact ends 7 ah he
  ·exact bM V hV (aM.all Y1)
 |some i=>
 have kD:=(fC hq).1;obtain⟨p,hp⟩:∃p,V.ps[4+i]? =some p:=⟨_,ak ae⟩;rw[hq]at hg;simp only[Option.bind_some,hp,Option.map_some]at hg;have heq:gX H u s=if s≠cr/\cP H.names s=false then 7 else if H.down=true then 6 else l7 (H.dZ i):=by unfold gX;rw[if_neg hu,hq]
 refine Hj ?_;refine KO.KV dD s rfl rfl rfl underlying123 underlying9 zeroValue119 aQ rfl ?_;rw[hg];refine rJ ?_;refine K.cut (fun _:Unit=>[(0,bN bh),(1,.int .i64 u),(2,.string s),(6,.pointer (some ⟨b6,0,none⟩)),(8,bN p),(42,.bool (decide (s≠cr/\cP H.names s=false)))]) (fun _=>bA b6 (.cells [Value.int .i64 0,.int .i64 0,.string ⟨#[]⟩,.string ⟨#[]⟩,.int .i64 0].toArray 44 (0,0))::Bh bh bd V H L) (fun _=>True) ?_ ?_
 ·by_cases K6:s=cr
  ·have vn:s=⟨#[100,101,97,100]⟩:=K6;have Wf:(!decide (s=⟨#[100,101,97,100]⟩))=false:=by rw[vn];rfl
   clear K6;refine tZ ?_;refine Hg ?_;refine A2 ?_;refine B8 ?_;refine B8 ?_;refine KO.no rfl rfl Wf rfl ?_;refine KO.no rfl rfl sE rfl ?_;refine lX ?_;refine KO.lB rfl ?_ rfl rfl ?_
   (focus assumption)
   refine tW ?_;refine jk ?_;exact KQ.kT () trivial ⟨rfl,rfl,rfl,rfl,rfl,by simp[vn,cr,cB],trivial⟩ (fun w' aM=>aM.all Y2)
  ·have vn:¬s=⟨#[100,101,97,100]⟩:=K6;refine tZ ?_;refine Hg ?_;refine A2 ?_;refine BR ?_;refine Z1 ?_;refine BR ?_;refine iD ?_;refine BR ?_;refine Uf ?_;refine BR ?_;refine Z1 ?_;refine KO.on rfl rfl (by simp[vn]) ?_;refine KO.ce (cp:=[]) rfl rfl rfl call57 rfl (u_ w0 _ _ _ bh 6 (fe bd V H) 133 V.nv H.names s br br rfl ae C4) ?_;rintro v' L' ⟨rfl,rfl⟩;refine BR ?_;refine pC ?_;refine lX ?_;refine KO.oW rfl ?_ rfl rfl ?_
   (focus(simp_all;done))
   refine tW ?_;refine jk ?_;exact KQ.kT () trivial ⟨rfl,rfl,rfl,rfl,rfl,by simp[K6,cB],trivial⟩ (fun w' aM=>aM.all Y2)
 rintro⟨⟩-
 try dsimp only
 refine K.bn rfl (fun h4=>?_) (fun h4=>?_)
 ·have he:gX H u s=7:=by rw[heq,if_pos h4]
  refine J0 ?_;refine Hm ?_;refine KQ.gT rfl rfl isAgg44 br yX rfl (fun w' aM=>⟨_,dt bh bd H::L,rfl,?_,?_⟩)
  ·exact ends 7 ah he
  ·exact bM V hV (aM.all Y1)
 rw[if_neg h4]at heq;refine Z6 ?_;cases vx:H.down with
 |true=>
  have he:gX H u s=6:=by rw[heq,if_pos vx]
  refine cW ?_;refine Z57 ?_;refine KO.bO (i:=3) rfl rfl isAgg4 aQ rfl rfl rfl ?_;refine Z3 ?_;refine K.bW rfl vx ?_;refine J0 ?_;refine Hm ?_;refine KQ.gT rfl rfl isAgg44 br yX rfl (fun w' aM=>⟨_,dt bh bd H::L,rfl,?_,?_⟩)
  ·exact ends 6 ah he
  ·exact bM V hV (aM.all Y1)
 |false=>
 have he:gX H u s=l7 (H.dZ i):=by rw[heq,if_neg (by simp[vx])]
 have Ik:=(hB.qa kD).len;refine cW ?_;refine Z57 ?_;refine KO.bO (i:=3) rfl rfl isAgg4 aQ rfl rfl rfl ?_;refine Z3 ?_;refine K.ct rfl vx ?_;refine Z6 ?_;rcases sr:l6 (H.dZ i)with⟨mi,mp,mb,mq,mh⟩
 refine gY ?_;refine KO.cl (cp:=[]) rfl rfl rfl call58 rfl (KC.rD (φ:=fun v=>v=.tuple #[.agg (dy (l6 (H.dZ i))).toArray,dj 70 (l7 (H.dZ i))]) hp (l9 hV.ways kD) aQ (fun L=>abo w0 L p (H.dZ i) u ae)) ?_;rintro v' L' ⟨rfl,rfl⟩;rw[sr];refine LB ?_;refine KO.alloc rfl zeroValue44 aN rfl ?_;intro TC;refine TH ?_;refine yf ?_;refine K.bn rfl (fun h9=>?_) (fun h9=>?_)
 ·have sL:lz (H.dZ i) u=H.dZ i:=by
   unfold l7 at h9;unfold lz;split
   ·rfl
   ·rename_i k hk;rw[hk]at h9;exact absurd rfl h9
  refine Nd ?_;refine Z1 ?_;refine J9 ?_;refine AZ ?_;refine KQ.gT rfl rfl isAgg44 br yX rfl (fun w' aM=>?_);rw[sL,pQ (l9 hV.ways kD)]at aM;exact⟨_,dt bh bd H::L,rfl,ends _ h9 he,bM V hV (aM.all Y4)⟩
 have h90:l7 (H.dZ i)=0:=by simpa using h9
 rw[h90]at he;have K3:u.toNat<5:=by omega
 have UE:u=((u.toNat:Nat):Int):=by omega
 have Je:=hV.us;have wE:=hV.ay;obtain⟨pv,Gl⟩:∃e,V.us[u.toNat]? =some e:=⟨_,ak ae⟩;obtain⟨x,Ei⟩:∃e,H.ay[u.toNat]? =some e:=⟨_,ak ae⟩;have vh:=hl x (ax Ei);have Nx:H.dW u.toNat=x:=by unfold Ho.dW;rw[au,Ei];rfl
 obtain⟨-,c2,-,c4⟩:=o7 (bd:=bd) hV Gl;have Al:(V.us.map (·.2))[u.toNat]? =some pv.2:=by rw[aG,Gl];rfl
 have Pt:(H.ay.map (·.aY))[u.toNat]? =some x.aY:=by rw[aG,Ei];rfl
 have Er:getM H u s=⟨mi,mp,mb,mq,mh⟩:=by unfold getM;rw[if_pos he,hq];exact sr
 refine Z6 ?_;refine K.conv (fun w hw=>cM Al Pt (hw.pick (A:=bI cV (V.us.map (·.2)) (H.ay.map (·.aY))) aQ)) ?_
 refine K.draw [.pure,.pure,.pure,.pure,.pure,.pure,.pure,.pure,.read,.pure,.read,.pure,.pure,.ef,.write,.pure,.pure,.pure,.pure,.write] [0,1,2,3,4,5,6,7,8,9,10,11,12,15,16,13,14,17,18,19] bC bC ?_;refine gZ ?_;refine EK ?_;refine Xz ?_;refine XK ?_;refine KO.bO (i:=13+2*u.toNat) rfl rfl isAgg128 aQ Uh c2 rfl ?_;refine Nj ?_;refine sD ?_;refine Z1 ?_;refine KO.AR (pl:=[(0,1),(1,1)]) rfl zeroValue146 runUnderlying146 Y19 aN rfl ?_;refine iD ?_;refine KO.fG (off:=12) rfl runUnderlying133 rfl rfl sizeOf131 rfl ?_;refine KO.sw (z:=(Value.agg #[.int .i64 0,.string ⟨#[]⟩])) (sz:=2) (fk:=24) rfl rfl underlying128 bC aN aN ah ah rfl ?_;intro b74;refine KO.app (z:=Value.agg #[.int .i64 0,.string ⟨#[]⟩]) (sz:=2) (fk:=24) (xs:=x.aY) (cf:=Ex) rfl rfl rfl (.tail .head) .head underlying128 bC aN (mi,s) rfl rfl rfl ae ah rfl ?_;intro Kp;refine KO.fact (fun _ hs=>bo hs) ?_;rintro⟨a13,k13,SK,-⟩;refine KO.jd (i:=u.toNat) rfl rfl runUnderlying131 sizeOf130 UE ae rfl ?_;refine XK ?_;refine KO.fu (b:=bh) (i:=13+2*u.toNat) rfl rfl rfl Vf (by exact sizeOf128) Vf aQ Uh Rp ?_;rw[c4];refine HD ?_;refine Hz ?_;refine KQ.gT rfl rfl isAgg44 br yX rfl (fun w' aM=>⟨_,_,rfl,⟨by rw[he,Er];rfl,rfl⟩,?_⟩)
 have e1:kH H u s=cA {H.eN (4+i) (lz (H.dZ i) u)with next:=H.next} u.toNat ⟨x.aT,x.aY++[(mi,s)]⟩:=by
  unfold kH;rw[if_pos he,Nx,hq];simp only[Option.getD_some];rw[sr];unfold Ho.eN;rw[if_neg ae,show 4+i-4=i by omega];rfl
 rw[e1];have vp:=kY (f:=cV) (ps:=V.us.map (·.2)) (xs:=H.ay.map (·.aY)) (i:=u.toNat) (p:=Kp) (x:=x.aY++[(mi,s)]) (by simp[Je];omega) (by simp[wE];omega) (aM.all (M:=cV Kp (x.aY++[(mi,s)])::bI cV ((V.us.map (·.2)).eraseIdx u.toNat) ((H.ay.map (·.aY)).eraseIdx u.toNat)::bA bh (.cells (fe bd {V with us:=V.us.set u.toNat (pv.1,Kp)} H).toArray 133 (0,0))::fb V.nv H.names::bP Value.string V.mb (dI V H)::bI jv V.ps (H.all.set (4+i) (lz (H.dZ i) u))::bI cX (V.us.map (·.1)) (H.ay.map (·.aT))::bI dU V.bs H.batch::L) Y4);exact Gq hV (4+i) _ u.toNat H.next _ (pv.1,Kp) (vp.all Y7) (vA Gl rfl) rfl (vA Ei rfl) rfl
def D7 (p:Nat):List Value:=[bN p]
def KJ (v:Value) (l:List Nat):HP:=SL 119 1 D7 v l
theorem MT{l:List Nat}(h:4<=l.length):l.take 4=[0,1,2,3].map fun j=>l.getD j 0:=by
 match l,h with
 |a::b::c::d::l,_=>rfl
theorem SY{w0 w:World}{L R:List HP}{bh bd:Nat}{V:uo}{H:Ho}(hV:jA V H)(hp:bB L (bA bh (.cells (fe bd V H).toArray 133 (0,0))) R)(hw:St w0 L w):Src w D7 (.slice (some ((⟨bh,8,none⟩:Addr).add 0)) 4 4) (V.ps.take 4):=by
 have ku:=hV.ps;have h4:(V.ps.take 4).length=4:=by simp[ku]
 refine⟨_,4,by rw[h4],(fun h=>by cases h),fun ad had=>?_⟩;cases had
 intro j c hj;have MJ:(V.ps.take 4).flatMap D7=(V.ps.take 4).map bN:=by
  generalize V.ps.take 4=l
  induction l with
  |nil=>rfl
  |cons a l ih=>rw[bj,ih];rfl
 rw[MJ,aG]at hj;cases iq:(V.ps.take 4)[j]? with
 |none=>rw[iq]at hj;cases hj
 |some p=>
  rw[iq]at hj;simp only[Option.map_some,az]at hj;subst hj;have hj4:j<4:=by have :=(aw.1 iq).1;omega
  rw[List.getElem?_take,if_pos hj4]at iq;have :=qg (bd:=bd) hV hj4 iq;rw[Addr.add_lit,Addr.add_lit,World.cell?,(hw.nD hp).2];simpa using this
theorem KU{V:uo}{H:Ho}(hV:jA V H){r:Nat}(hr:r<H.aI.length):∃s,(dI V H).getD r default=(s,bN (V.ps.getD (4+r) 0)):=by
 have ku:=hV.ps;obtain⟨x,hx⟩:∃e,H.aI[r]? =some e:=⟨_,ak hr⟩;obtain⟨p,hp⟩:∃e,V.ps[4+r]? =some e:=⟨_,ak ae⟩;refine⟨x.1,?_⟩;unfold dI tE;rw[au,List.getElem?_zipWith,hx,List.getElem?_drop,hp,au,hp];rfl
theorem oY{α β:Type}(f:α->β):∀(l:List α) (i:Nat),(l.map f).eraseIdx i=(l.eraseIdx i).map f
 |[],_=>rfl
 |a::l,0=>rfl
 |a::l,i+1=>by simp[oY f l i]
theorem p6{α:Type}:∀{l:List α} {i:Nat} (h:i<l.length),(l[i]::l.eraseIdx i).Perm l
 |a::l,0,_=>.refl _
 |a::l,i+1,h=>(List.Perm.swap _ _ _).trans ((p6 (l:=l) (i:=i) Ic).cons a)
theorem U9(w0:World)(L:List HP)(bh bd:Nat)(V:uo)(H:Ho)(hV:jA V H)(hn:H.aI.length<=100000):
 KC prog 63 #[bN bh] w0 (Bh bh bd V H L) (fun u M=> ∃js:List Nat,js.Perm (List.range V.ps.length)/\M=KJ u (js.map fun j=>V.ps.getD j 0)::Bh bh bd V H L):=by
 have ku:=hV.ps;have hsE:∀w,(Go.sizeOf (prog.elem 126)).run prog w=.ok 1 w:=by
  have e:prog.elem 126=119:=by kernel_rfl
  rw[e];exact sizeOf119
 refine KC.mk (n:=25) func63 rfl ntmps63 ai ?_;refine Z2 ?_;refine BZ ?_;refine iD ?_;refine XO ?_;refine KO.YC rfl rfl underlying123 aQ rfl ?_;intro r10;refine QG ?_;refine K.loop (fun p:List Nat×List Nat×Value×Option (aj×Value)=>[(0,bN bh),(3,p.2.2.1),(10,.pointer (some ⟨r10,0,none⟩))])
  (fun p=>KJ p.2.2.1 (p.2.1.map fun r=>V.ps.getD (4+r) 0)::CY Value.string V.mb r10 (dI V H) (p.1.map fun r=>(dI V H).getD r default) p.2.2.2::bA bh (.cells (fe bd V H).toArray 133 (0,0))::fb V.nv H.names::bI jv V.ps H.all::bI cX (V.us.map (·.1)) (H.ay.map (·.aT))::bI cV (V.us.map (·.2)) (H.ay.map (·.aY))::bI dU V.bs H.batch::L)
  (fun p=>(p.2.1++p.1).Perm (List.range H.aI.length)) (fun p=>p.1.length) (List.range H.aI.length,[],.slice none 0 0,none)
  ai ⟨rfl,rfl,rfl,trivial⟩ (fun _ h=>?_) ?_
 ·have h1:=cw (E:=119) (sz:=1) (cf:=D7) h;have e1:(List.range H.aI.length).map (fun r=>(dI V H).getD r default)=dI V H:=by
   have hl:(dI V H).length=H.aI.length:=by unfold dI tE;rw[List.length_zipWith,bf];omega
   rw[<-hl];apply List.ext_getElem
   ·simp
   ·intro i h1 h2;simp[au,ak h2]
  dsimp only;rw[e1];exact h1.all ft
 rintro⟨rest,done,v,cur⟩ dQ;dsimp only at dQ ⊢;refine Z2 ?_;refine KO.BD rfl rfl aQ rfl (fun h0=>?_) (fun i e he=>?_);refine x9 ?_;have iO:rest=[]:=by simpa using h0
 subst iO;rw[List.append_nil]at dQ;have o_:done.length<=100000:=by have :=dQ.length_eq;simp at this;omega
 refine oI ?_;refine Z9 ?_;refine gY ?_;refine QI ?_;refine KO.Xe (len:=3) (sz:=1) rfl bC bC hsE rfl ?_;refine KO.rH (cf:=D7) (z:=Value.pointer none) (sz:=1) (fk:=8) (xs:=done.map fun r=>V.ps.getD (4+r) 0) (ys:=V.ps.take 4) rfl rfl rfl (.tail .head) (fun w hw=>SY hV aQ hw) underlying152 bC rfl (fun _=>rfl) (fun _=>rfl) ez ah rfl ?_;intro v24;refine kq ?_;refine KQ.aU rfl rfl (fun w' aM=>⟨_,_,rfl,⟨done.map (4+ ·)++[0,1,2,3],?_,rfl⟩,?_⟩)
 ·rw[ku,List.range_add];exact List.perm_append_comm.trans ((List.Perm.refl _).append (dQ.map _))
 ·rw[aZ,<-MT ae,List.map_map];exact aM.all Y7
 obtain⟨r,hr,rfl⟩:∃r,rest[i]? =some r/\(dI V H).getD r default=e:=by
  rw[aG]at he;cases hr:rest[i]? with
  |none=>rw[hr]at he;cases he
  |some r=>rw[hr]at he;exact⟨r,rfl,by simpa using he⟩
 have Ad:r<H.aI.length:=by
  have :r∈List.range H.aI.length:=dQ.mem_iff.1 (List.mem_append_right _ (ax hr));simpa using this
 obtain⟨s,lP⟩:=KU hV Ad;rw[lP];have o_:done.length<=100000:=by have :=dQ.length_eq;simp at this;omega
 refine x9 ?_;refine xa ?_;refine si ?_;refine Ng ?_;refine xc ?_;refine KO.sw (z:=(Value.pointer none)) (sz:=1) (fk:=8) rfl rfl underlying152 bC aN aN ah ah rfl ?_;intro b17;refine KO.app (cf:=D7) (z:=Value.pointer none) (sz:=1) (fk:=8) (xs:=done.map fun r=>V.ps.getD (4+r) 0) rfl rfl rfl (.tail (.tail .head)) .head underlying152 bC aN (V.ps.getD (4+r) 0) rfl rfl rfl ez ah rfl ?_;intro Un;refine He ?_;refine KQ.round (rest.eraseIdx i,done++[r],Un,some (s,bN (V.ps.getD (4+r) 0))) ?_ ?_ ⟨rfl,rfl,rfl,trivial⟩ (fun _ h=>?_)
 ·dsimp only;refine List.Perm.trans ?_ dQ;rw[aR];refine(List.Perm.refl done).append ?_;obtain⟨hi,rfl⟩:=aw.1 hr;exact p6 hi
 ·dsimp only;have hi:=(aw.1 hr).1;rw[List.length_eraseIdx,if_pos hi];omega
 ·dsimp only;rw[aZ,<-oY];exact h.all ft
theorem FL:∀(i:Nat) (a c:Value) (cs:List Value),i+2<=cs.length->pY i [a,c] cs=(cs.set i a).set (i+1) c
 |0,a,c,x::y::cs,_=>rfl
 |0,a,c,[x],h=>by simp at h
 |0,a,c,[],h=>by simp at h
 |i+1,a,c,x::cs,h=>by
  simp only[List.length_cons]at h;rw[pY,FL i a c cs ae];rfl
 |i+1,a,c,[],h=>by simp at h
theorem Gr{bd:Nat}{V:uo}{H:Ho}(hV:jA V H){u:Nat}(hu:u<5):pY (12+2*u) [.slice none 0 0,.slice none 0 0] (fe bd V H)=fe bd {V with us:=V.us.set u (.slice none 0 0,.slice none 0 0)} H:=by
 have Je:=hV.us;obtain⟨p,hp⟩:∃e,V.us[u]? =some e:=⟨_,ak ae⟩;rw[FL _ _ _ _ Rp,(o7 (bd:=bd) hV hp).2.2.1];have lI:jA {V with us:=V.us.set u (.slice none 0 0,p.2)} H:=⟨hV.ps,by simp[hV.us],hV.bs,hV.ways,hV.ay,hV.batch,hV.bT,hV.aC⟩;have iq:(V.us.set u (.slice none 0 0,p.2))[u]? =some (.slice none 0 0,p.2):=by rw[List.getElem?_set_self ae]
 rw[show 12+2*u+1=13+2*u by omega];have :=(o7 (bd:=bd) lI iq).2.2.2 (.slice none 0 0);rw[this];simp only[List.set_set]
theorem LJ{w0 w:World}{L:List HP}{V:uo}{H:Ho}(hV:jA V H){u:Nat}(hu:u<5)(h:St w0 (bI cX (V.us.map (·.1)) (H.ay.map (·.aT))::bI cV (V.us.map (·.2)) (H.ay.map (·.aY))::L) w):
 St w0 (bI cX ((V.us.set u (.slice none 0 0,.slice none 0 0)).map (·.1)) ((H.ay.set u cy).map (·.aT))::bI cV ((V.us.set u (.slice none 0 0,.slice none 0 0)).map (·.2)) ((H.ay.set u cy).map (·.aY))::L) w:=by
 have Je:=hV.us;have wE:=hV.ay;obtain⟨p,hp⟩:∃e,V.us[u]? =some e:=⟨_,ak ae⟩;obtain⟨x,hx⟩:∃e,H.ay[u]? =some e:=⟨_,ak ae⟩;rw[List.map_set,List.map_set,List.map_set,List.map_set];have h1:=cM (i:=u) (p:=p.1) (x:=x.aT) (by rw[aG,hp];rfl) (by rw[aG,hx];rfl) h;have h2:=kY (f:=cX) (i:=u) (p:=.slice none 0 0) (x:=[]) ez ez (cw (E:=142) (sz:=6) (cf:=D5) h1.drop);have h3:=cM (i:=u) (p:=p.2) (x:=x.aY) (by rw[aG,hp];rfl) (by rw[aG,hx];rfl) (h2.all (M:=bI cV (V.us.map (·.2)) (H.ay.map (·.aY))::bI cX ((V.us.map (·.1)).set u (.slice none 0 0)) ((H.ay.map (·.aT)).set u [])::L) Y2);have h4:=kY (f:=cV) (i:=u) (p:=.slice none 0 0) (x:=[]) ez ez (cw (E:=146) (sz:=2) (cf:=Ex) h3.drop);exact h4.all Y7
theorem C7{w0 w:World}{bh bd:Nat}{H:Ho}{L:List HP}{V:uo}(hV:jA V H)(a:Int){u:Nat}(hu:u<5)(h:St w0 (bA bh (.cells (fe bd {V with us:=V.us.set u (.slice none 0 0,.slice none 0 0)} H).toArray 133 (0,0))::fb V.nv H.names::bP Value.string V.mb (dI V H)::bI jv V.ps (H.all.map fun q=>fw q a true)::bI cX (V.us.map (·.1)) (H.ay.map (·.aT))::bI cV (V.us.map (·.2)) (H.ay.map (·.aY))::bI dU V.bs H.batch::L) w):
 St w0 (dt bh bd (cA (cv H a) u cy)::L) w:=by
 have h1:=LJ (L:=bA bh (.cells (fe bd {V with us:=V.us.set u (.slice none 0 0,.slice none 0 0)} H).toArray 133 (0,0))::fb V.nv H.names::bP Value.string V.mb (dI V H)::bI jv V.ps (H.all.map fun q=>fw q a true)::bI dU V.bs H.batch::L) hV hu (h.all Y2);refine C8 (V:={V with us:=V.us.set u (.slice none 0 0,.slice none 0 0)}) (H:=cA (cv H a) u cy) ⟨?_,by simp[hV.us],hV.bs,?_,by simp[cA,cv,hV.ay],hV.batch,hV.bT,hV.aC⟩ (h1.all (M:=bA bh (.cells (fe bd {V with us:=V.us.set u (.slice none 0 0,.slice none 0 0)} H).toArray 133 (0,0))::fb V.nv H.names::bP Value.string V.mb (dI V H)::bI jv V.ps (H.all.map fun q=>fw q a true)::bI cX ((V.us.set u (.slice none 0 0,.slice none 0 0)).map (·.1)) ((H.ay.set u cy).map (·.aT))::bI cV ((V.us.set u (.slice none 0 0,.slice none 0 0)).map (·.2)) ((H.ay.set u cy).map (·.aY))::bI dU V.bs H.batch::L) Y2) rfl rfl rfl ?_ rfl rfl ?_ rfl rfl rfl rfl rfl rfl
 ·simp[cA,cv,hV.ps]
 ·simp[cA,cv,hV.ways]
 ·unfold dI;exact u7 _ _ _ (by simp[cA,cv])
 ·exact(r_ H a).symm
theorem La(w0:World)(L:List HP)(bh bd n:Nat)(H:Ho)(u:Int)(hB:cx n H)(hn:n<90000)(hl:∀x∈H.ay,x.aT.length+x.aY.length<=90000):
 KC prog 17 #[bN bh,.int .i64 u] w0 (dt bh bd H::L) (fun v M=>v=dj 70 (AS H u)/\M=dt bh bd (BP H u)::L):=by
 have Ik:=hB.oV;have ends:∀k:Int,k≠0->AS H u=k->(dj 70 k=dj 70 (AS H u)/\dt bh bd H::L=dt bh bd (BP H u)::L):=fun k hk he=>by
  have h0:¬AS H u=0:=by rw[he];exact hk
  unfold BP;rw[if_neg h0,he];exact⟨rfl,rfl⟩
 refine KC.mk (n:=58) func17 rfl ntmps17 ai ?_;refine iz ?_;refine Vc ?_;by_cases hu:u<0\/5<=u
 ·have he:AS H u=2:=by unfold AS;rw[if_pos hu]
  by_cases Wb:u<0
  ·refine JW ?_;refine sx ?_;refine qV ?_;refine K.bW rfl Y76 ?_;refine ya ?_;refine KQ.aU rfl rfl (fun w' aM=>⟨_,_,rfl,ends 2 ah he,aM⟩)
  ·refine Qo ?_;refine Fb ?_;refine qV ?_;refine K.bW rfl Kf ?_;refine ya ?_;refine KQ.aU rfl rfl (fun w' aM=>⟨_,_,rfl,ends 2 ah he,aM⟩)
 refine Qo ?_;refine Fb ?_;refine qV ?_;refine K.ct rfl Kf ?_;refine kO ?_;refine K.bV (fun _ h=>cn h) ?_;rintro⟨V,hV⟩;dsimp only;have K3:u.toNat<5:=by omega
 have UE:u=((u.toNat:Nat):Int):=by omega
 have Je:=hV.us;have wE:=hV.ay;have ku:=hV.ps;obtain⟨pv,Gl⟩:∃e,V.us[u.toNat]? =some e:=⟨_,ak ae⟩;obtain⟨x,Ei⟩:∃e,H.ay[u.toNat]? =some e:=⟨_,ak ae⟩;have vh:=hl x (ax Ei);have Nx:H.dW u.toNat=x:=by unfold Ho.dW;rw[au,Ei];rfl
 obtain⟨c1,c2,-,-⟩:=o7 (bd:=bd) hV Gl;refine K.fact (fun w hw=>bo (E:=142) (sz:=6) (cf:=D5) (v:=pv.1) (xs:=x.aT) (cM (f:=cX) (i:=u.toNat) (by rw[aG,Gl];rfl) (by rw[aG,Ei];rfl) (hw.pick (A:=bI cX (V.us.map (·.1)) (H.ay.map (·.aT))) aQ))) ?_;rintro⟨a1,k1,E5,-⟩;refine K.fact (fun w hw=>bo (E:=146) (sz:=2) (cf:=Ex) (v:=pv.2) (xs:=x.aY) (cM (f:=cV) (i:=u.toNat) (by rw[aG,Gl];rfl) (by rw[aG,Ei];rfl) (hw.pick (A:=bI cV (V.us.map (·.2)) (H.ay.map (·.aY))) aQ))) ?_;rintro⟨a2,k2,hv2,-⟩;rw[E5]at c1;rw[hv2]at c2;refine K.draw [.pure,.pure,.pure,.pure,.pure,.pure,.read,.pure,.pure,.pure,.pure,.pure,.pure,.pure,.read,.pure,.pure,.pure,.pure] [0,1,2,3,4,5,6,7,8,9,10,11,12,13,14,15,16,17,18] bC bC ?_;refine EK ?_;refine Xz ?_;refine XL ?_;refine KO.bO (i:=12+2*u.toNat) rfl rfl isAgg127 br Uh c1 rfl ?_;refine KO.len rfl underlying127 rfl ?_;refine EK ?_;refine Xz ?_;refine XK ?_;refine KO.bO (i:=13+2*u.toNat) rfl rfl isAgg128 br Uh c2 rfl ?_;refine KO.len rfl underlying128 rfl ?_;refine vO ?_;refine EF ?_;refine qV ?_;refine K.bn rfl (fun h3=>?_) (fun h3=>?_)
 ·have he:AS H u=8:=by unfold AS;rw[if_neg hu,Nx,if_pos ae]
  refine ya ?_;refine KQ.aU rfl rfl (fun w' aM=>⟨_,_,rfl,ends 8 ah he,bM V hV (aM.all Nv)⟩)
 refine kO ?_;cases vx:H.down with
 |true=>
  have he:AS H u=6:=by unfold AS;rw[if_neg hu,Nx,if_neg ae,if_pos vx]
  refine Hq ?_;refine qV ?_;refine K.bW rfl vx ?_;refine ya ?_;refine KQ.aU rfl rfl (fun w' aM=>⟨_,_,rfl,ends 6 ah he,bM V hV (aM.all Nv)⟩)
 |false=>
 have he:AS H u=0:=by unfold AS;rw[if_neg hu,Nx,if_neg ae,if_neg (by simp[vx])]
 refine Hq ?_;refine qV ?_;refine K.ct rfl vx ?_;refine TJ ?_;refine cW ?_;refine KO.cl (cp:=[]) rfl rfl rfl call63 rfl (U9 w0 L bh bd V H hV ae) ?_;rintro va L' ⟨js,MI,rfl⟩;refine KO.fact (fun w hw=>bo (E:=119) (sz:=1) (cf:=D7) (hw.pick .head)) ?_;rintro⟨ad,cap,rfl,had⟩;refine KO.len rfl underlying152 rfl ?_;refine oL ?_;have YX:js.length=V.ps.length:=by have :=MI.length_eq;simpa using this
 refine K.loop (fun k:Nat=>[(0,bN bh),(1,.int .i64 u),(42,.slice ad (js.map fun j=>V.ps.getD j 0).length cap),(43,.int .i64 ((js.map fun j=>V.ps.getD j 0).length:Nat)),(44,.int .i64 (k:Nat))])
  (fun k=>KJ (.slice ad (js.map fun j=>V.ps.getD j 0).length cap) (js.map fun j=>V.ps.getD j 0)::bI jv V.ps (kg u H.all (js.take k))::bA bh (.cells (fe bd V H).toArray 133 (0,0))::fb V.nv H.names::bP Value.string V.mb (dI V H)::bI cX (V.us.map (·.1)) (H.ay.map (·.aT))::bI cV (V.us.map (·.2)) (H.ay.map (·.aY))::bI dU V.bs H.batch::L)
  (fun k=>k<=js.length) (fun k=>js.length-k) 0 (aH _) ⟨rfl,rfl,rfl,rfl,rfl,trivial⟩ (fun _ h=>h.all Y7) ?_
 rintro k hk;refine lW ?_;refine K.bn rfl (fun h8=>?_) (fun h8=>?_)
 ·rw[aX]at h8;obtain⟨j,hj⟩:∃e,js[k]? =some e:=⟨js[k],ak ae⟩;have hjr:j<V.ps.length:=by have :=MI.mem_iff.1 (ax hj);simpa using this
  obtain⟨p,hp⟩:∃e,V.ps[j]? =some e:=⟨_,ak hjr⟩;have hpj:(js.map fun j=>V.ps.getD j 0)[k]? =some p:=by rw[aG,hj,Option.map_some,au,hp];rfl
  obtain⟨g,rfl⟩:=had Zs;have sv:=mL hV.ways;have hle:=wU u (js.take k) H.all;have hq:(kg u H.all (js.take k))[j]? =some ((kg u H.all (js.take k)).getD j default):=by rw[au,ak ae];rfl
  have hqb:=AA u (js.take k) H.all hB.qs _ (ax hq);have NA:=hqb.len;have Ab:=Az (u:=u) (l:=H.all) hj;generalize kg u H.all (js.take k)=lk at hq NA Ab;generalize lk.getD j default=q at hq NA Ab;refine si ?_;refine acn ?_;refine xc ?_;refine KO.cl (cp:=[]) rfl rfl rfl call64 rfl (KC.rD (φ:=fun v=>v=.tuple #[]) hp hq aQ (fun L=>PT w0 L p q u true ae)) ?_;rintro v' L' ⟨rfl,rfl⟩;refine pE ?_;refine KQ.round (k+1) ae ae ⟨rfl,rfl,rfl,rfl,rfl,trivial⟩ (fun _ h=>?_);rw[Ab];exact h.all Y2
 ·have mV:k=js.length:=by rw[aX]at h8;omega
  subst mV;rw[List.take_length,Dr u (by rw[mL hV.ways,<-ku];exact MI)];refine Z9 ?_;refine acg ?_;refine iD ?_;refine Xz ?_;refine KO.Ur (b:=bh) (off:=12+2*u.toNat) (us:=[.slice none 0 0,.slice none 0 0]) rfl rfl Uh rfl aN (by exact sizeOf130) aN aQ (by rw[r8 hV];simp;omega) (Gr hV K3) ?_;refine qO ?_;refine KQ.aU rfl rfl (fun w' aM=>⟨_,_,rfl,⟨by rw[he];rfl,rfl⟩,?_⟩);have e1:BP H u=cA (cv H u) u.toNat cy:=by unfold BP;rw[if_pos he]
  rw[e1];exact C7 hV u K3 (aM.all Y1)
theorem SX{w0 w:World}{L R:List HP}{bh bd:Nat}{V:uo}{H:Ho}(hV:jA V H){u:Nat}{p:Value×Value}(hp:V.us[u]? =some p)(hk:bB L (bA bh (.cells (fe bd V H).toArray 133 (0,0))) R)(hw:St w0 L w){ad:Addr}(ha:ad=⟨bh,12+2*u,none⟩):cz w ad [p.1,p.2]:=by
 obtain⟨c1,c2,-,-⟩:=o7 (bd:=bd) hV hp;subst ha;intro j c hj;rw[Addr.add_lit,World.cell?,(hw.nD hk).2]
 match j with
 |0=>simp at hj;subst hj;simpa using c1
 |1=>simp at hj;subst hj;rw[show 12+2*u+1=13+2*u by omega];simpa using c2
 |j+2=>simp at hj
theorem De(w0:World)(L:List HP)(bh bd n:Nat)(H:Ho)(D:Dk)(u:Int)(hT:ym w0)(hM:xg w0)(hB:cx n H)(hn:n+700<=90000)(hl:∀x∈H.ay,f_ x)(h3:D.places.length=300)(hd: -4000000000000000000<=D.left/\D.left<=9223372036854775807):
 KC prog 16 #[bN bh,.int .i64 u] w0 (dt bh bd H::ga bd D::L) (fun v M=>v=dj 70 (yS H D u)/\M=dt bh bd (uj H D u)::ga bd (xX H D u)::L):=by
 have Ik:=hB.oV;have aeN:=hB.used;have ends:∀k:Int,k≠0->ji H u=k->(dj 70 k=dj 70 (yS H D u)/\dt bh bd H::ga bd D::L=dt bh bd (uj H D u)::ga bd (xX H D u)::L):=fun k hk he=>by
  have h0:ji H u≠0:=by rw[he];exact hk
  unfold yS uj xX;rw[if_pos h0,if_pos h0,if_pos h0,he];exact⟨rfl,rfl⟩
 refine KC.mk (n:=113) func16 rfl ntmps16 ai ?_;refine x6 ?_;by_cases hu:u<0\/5<=u
 ·have he:ji H u=2:=by unfold ji;rw[if_pos hu]
  by_cases Wb:u<0
  ·refine JW ?_;refine Qh ?_;refine Iu ?_;refine AZ ?_;refine KQ.aU rfl rfl (fun w' aM=>⟨_,_,rfl,ends 2 ah he,aM⟩)
  ·refine HG ?_;refine K.bW rfl Kf ?_;refine Iu ?_;refine AZ ?_;refine KQ.aU rfl rfl (fun w' aM=>⟨_,_,rfl,ends 2 ah he,aM⟩)
 refine HG ?_;refine K.ct rfl Kf ?_;refine Z6 ?_;refine K.bV (fun _ h=>cn h) ?_;rintro⟨V,hV⟩;dsimp only;have K3:u.toNat<5:=by omega
 have UE:u=((u.toNat:Nat):Int):=by omega
 have Je:=hV.us;have wE:=hV.ay;have ku:=hV.ps;obtain⟨⟨v1,v2⟩,Gl⟩:∃e,V.us[u.toNat]? =some e:=⟨_,ak ae⟩;obtain⟨x,Ei⟩:∃e,H.ay[u.toNat]? =some e:=⟨_,ak ae⟩;have UC:=hl x (ax Ei);have Pk:=UC.many;have Nx:H.dW u.toNat=x:=by unfold Ho.dW;rw[au,Ei];rfl
 have g1:(V.us.map (·.1))[u.toNat]? =some v1:=by rw[aG,Gl];rfl
 have g2:(V.us.map (·.2))[u.toNat]? =some v2:=by rw[aG,Gl];rfl
 have g3:(H.ay.map (·.aT))[u.toNat]? =some x.aT:=by rw[aG,Ei];rfl
 have g4:(H.ay.map (·.aY))[u.toNat]? =some x.aY:=by rw[aG,Ei];rfl
 refine K.fact (fun w hw=>bo (E:=142) (sz:=6) (cf:=D5) (v:=v1) (xs:=x.aT) (cM (f:=cX) g1 g3 (hw.pick (A:=bI cX (V.us.map (·.1)) (H.ay.map (·.aT))) aQ))) ?_;rintro⟨a1,k1,rfl,afJ⟩;refine K.fact (fun w hw=>bo (E:=146) (sz:=2) (cf:=Ex) (v:=v2) (xs:=x.aY) (cM (f:=cV) g2 g4 (hw.pick (A:=bI cV (V.us.map (·.2)) (H.ay.map (·.aY))) aQ))) ?_;rintro⟨a2,k2,rfl,afI⟩;refine JO ?_;refine Xz ?_;refine KO.QW (cs:=#[.slice a1 x.aT.length k1,.slice a2 x.aY.length k2]) rfl rfl isAgg130 sizeOf130 rfl (fun w hw=>SX hV Gl (L:=Bh bh bd V H (ga bd D::L)) .head hw Uh) rfl ?_;refine KO.alloc rfl zeroValue130 aN rfl ?_;intro b5;refine KO.oQ rfl rfl rfl aN (by exact sizeOf130) aN br aN ?_;refine rK ?_;refine KO.fG (off:=0) rfl runUnderlying130 rfl rfl sizeOf127 rfl ?_;refine KO.ld rfl rfl isAgg127 br aN rfl ?_;refine KO.len rfl underlying127 rfl ?_;refine KO.fG (off:=1) rfl runUnderlying130 rfl rfl sizeOf128 rfl ?_;refine KO.ld rfl rfl isAgg128 br aN rfl ?_;refine KO.len rfl underlying128 rfl ?_;refine vO ?_;refine mM ?_;refine K.bn rfl (fun h4=>?_) (fun h4=>?_)
 ·have he:ji H u=8:=by unfold ji;rw[if_neg hu,Nx,if_pos ae]
  refine Iu ?_;refine AZ ?_;refine KQ.aU rfl rfl (fun w' aM=>⟨_,dt bh bd H::ga bd D::L,rfl,?_,?_⟩)
  ·exact ends 8 ah he
  ·exact bM V hV (aM.all Y1)
 have he:ji H u=0:=by unfold ji;rw[if_neg hu,Nx,if_neg ae]
 have aa0:yS H D u=ec H D:=by unfold yS;rw[if_neg (by rw[he];decide)]
 have aa1:xX H D u=gg H D (nU x):=by unfold xX;rw[if_neg (by rw[he];decide),Nx]
 have S9:uj H D u=if ec H D≠0 then eC H D else(eK (cA (cv (eC H D) u) u.toNat cy) (mB x)).1:=by unfold uj;rw[if_neg (by rw[he];decide),Nx]
 refine qP ?_;refine jL ?_;refine K.conv (L':=SL 142 6 D5 (.slice a1 x.aT.length k1) x.aT::SL 146 2 Ex (.slice a2 x.aY.length k2) x.aY::bA b5 (.cells [Value.slice a1 x.aT.length k1,.slice a2 x.aY.length k2].toArray 130 (0,0))::bA bh (.cells (fe bd V H).toArray 133 (0,0))::fb V.nv H.names::bP Value.string V.mb (dI V H)::bI jv V.ps H.all::bI cX ((V.us.map (·.1)).eraseIdx u.toNat) ((H.ay.map (·.aT)).eraseIdx u.toNat)::bI cV ((V.us.map (·.2)).eraseIdx u.toNat) ((H.ay.map (·.aY)).eraseIdx u.toNat)::bI dU V.bs H.batch::ga bd D::L) (fun w hw=>?_) ?_
 ·have h1:=cM (f:=cX) g1 g3 (hw.pick (A:=bI cX (V.us.map (·.1)) (H.ay.map (·.aT))) aQ);have h2:=cM (f:=cV) g2 g4 (h1.pick (A:=bI cV (V.us.map (·.2)) (H.ay.map (·.aY))) aQ);exact h2.all Y7
 refine di ?_;refine KO.fG (off:=1) rfl runUnderlying130 rfl rfl sizeOf128 rfl ?_;refine KO.ld rfl rfl isAgg128 aQ aN rfl ?_;refine KO.len rfl underlying128 rfl ?_;refine oL ?_;refine K.loop (fun p:Nat×Value=>[(0,bN bh),(1,.int .i64 u),(5,.pointer (some ⟨b5,0,none⟩)),(6,p.2),(40,.slice a2 x.aY.length k2),(41,.int .i64 (x.aY.length:Nat)),(42,.int .i64 (p.1:Nat))])
  (fun p=>ni p.2 ((x.aY.take p.1).map gh)::SL 142 6 D5 (.slice a1 x.aT.length k1) x.aT::SL 146 2 Ex (.slice a2 x.aY.length k2) x.aY::bA b5 (.cells [Value.slice a1 x.aT.length k1,.slice a2 x.aY.length k2].toArray 130 (0,0))::bA bh (.cells (fe bd V H).toArray 133 (0,0))::fb V.nv H.names::bP Value.string V.mb (dI V H)::bI jv V.ps H.all::bI cX ((V.us.map (·.1)).eraseIdx u.toNat) ((H.ay.map (·.aT)).eraseIdx u.toNat)::bI cV ((V.us.map (·.2)).eraseIdx u.toNat) ((H.ay.map (·.aY)).eraseIdx u.toNat)::bI dU V.bs H.batch::ga bd D::L) (fun p=>p.1<=x.aY.length) (fun p=>x.aY.length-p.1) (0,.slice none 0 0)
  (aH _) ⟨rfl,rfl,rfl,rfl,rfl,rfl,rfl,trivial⟩ (fun _ h=>?_) ?_
 ·have h1:=cw (E:=9) (sz:=1) (cf:=mf) h;exact h1
 rintro⟨k,v6⟩ hk;dsimp only at hk ⊢;refine lW ?_;refine K.bn rfl (fun h8=>?_) (fun h8=>?_)
 ·obtain⟨g,hg⟩:∃e,x.aY[k]? =some e:=⟨x.aY[k],ak ae⟩;obtain⟨ag,rfl⟩:=afI ae;have hgo:=UC.aY g (ax hg);obtain⟨gi,gq⟩:=g;dsimp only at hgo;have hq8:=(hP hgo.2.2).2;have hi:=cL (n:=gi) ⟨by omega,by omega⟩;have z2:(⟨#[32]⟩:aj).size=1:=rfl;have z3:(ck gi++⟨#[32]⟩:aj).size<=22:=by simp only[aV];omega
  refine si ?_;refine KO.gO rfl rfl runUnderlying128 sizeOf146 aN ae rfl ?_;refine KO.BE rfl rfl isAgg146 sizeOf146 aQ (fun _=>rfl) sE rfl ?_;refine KO.alloc rfl zeroValue146 aN rfl ?_;intro b8;refine KO.oQ rfl rfl rfl aN (by exact sizeOf146) aN br aN ?_;refine Z3 ?_;refine K.draw [.pure,.pure,.read,.ef,.pure,.pure,.read,.pure,.ef,.write,.pure] [0,1,2,5,6,3,4,7,8,9,10] bC bC ?_;refine Z1 ?_;refine KO.fG (off:=0) rfl runUnderlying146 rfl rfl sizeOf3 rfl ?_;refine KO.ld (v:=.int .i64 gi) rfl rfl isAgg3 br aN rfl ?_;refine KO.fG (off:=1) rfl runUnderlying146 rfl rfl sizeOf9 rfl ?_;refine KO.ld (v:=.string gq) rfl rfl isAgg9 br aN rfl ?_;refine KO.ce (cp:=[]) rfl rfl rfl call59 rfl (nF w0 _ gi hT ⟨by omega,by omega⟩) ?_;rintro v' L' ⟨rfl,rfl⟩;refine rM ?_;refine rM ?_;refine KO.sw (z:=(Value.string ⟨#[]⟩)) (sz:=1) (fk:=16) rfl rfl underlying115 bC aN aN ah ah rfl ?_;intro b54;refine KO.app (cf:=mf) (z:=Value.string ⟨#[]⟩) (sz:=1) (fk:=16) (xs:=(x.aY.take k).map gh) rfl rfl rfl (.tail (.tail .head)) .head underlying115 nh rfl (gh (gi,gq)) rfl rfl rfl ez ah rfl ?_;intro v9;refine qq ?_;refine KQ.round (k+1,v9) fZ fZ ⟨rfl,rfl,rfl,rfl,rfl,rfl,rfl,trivial⟩ (fun _ h=>?_);dsimp only
  rw[a_ hg,aZ];exact h.all Y4
 have mV:k=x.aY.length:=by omega
 subst mV;rw[List.take_length];refine Z9 ?_;refine di ?_;refine oK ?_;refine KO.fG (off:=0) rfl runUnderlying130 rfl rfl sizeOf127 rfl ?_;refine KO.ld rfl rfl isAgg127 aQ aN rfl ?_;refine KO.len rfl underlying127 rfl ?_;refine oL ?_;refine K.loop (fun p:Nat×Value=>[(0,bN bh),(1,.int .i64 u),(6,v6),(9,p.2),(58,.slice a1 x.aT.length k1),(59,.int .i64 (x.aT.length:Nat)),(60,.int .i64 (p.1:Nat))])
  (fun p=>SL 44 5 dy p.2 ((x.aT.take p.1).map (·.1))::ni v6 (x.aY.map gh)::SL 142 6 D5 (.slice a1 x.aT.length k1) x.aT::SL 146 2 Ex (.slice a2 x.aY.length k2) x.aY::bA bh (.cells (fe bd V H).toArray 133 (0,0))::fb V.nv H.names::bP Value.string V.mb (dI V H)::bI jv V.ps H.all::bI cX ((V.us.map (·.1)).eraseIdx u.toNat) ((H.ay.map (·.aT)).eraseIdx u.toNat)::bI cV ((V.us.map (·.2)).eraseIdx u.toNat) ((H.ay.map (·.aY)).eraseIdx u.toNat)::bI dU V.bs H.batch::ga bd D::L) (fun p=>p.1<=x.aT.length) (fun p=>x.aT.length-p.1) (0,.slice none 0 0)
  (aH _) ⟨rfl,rfl,rfl,rfl,rfl,rfl,rfl,trivial⟩ (fun _ h=>?_) ?_
 ·have h1:=cw (E:=44) (sz:=5) (cf:=dy) h;exact h1.all Y4
 rintro⟨k,v9⟩ hk;dsimp only at hk ⊢;refine lW ?_;refine K.bn rfl (fun UY=>?_) (fun UY=>?_)
 ·obtain⟨g,hg⟩:∃e,x.aT[k]? =some e:=⟨x.aT[k],ak ae⟩;obtain⟨ag,rfl⟩:=afJ ae;obtain⟨⟨mi,mp,mb,mq,mh⟩,pt⟩:=g;refine si ?_;refine KO.gO rfl rfl runUnderlying127 sizeOf142 aN ae rfl ?_;refine KO.BE rfl rfl isAgg142 sizeOf142 aQ (fun _=>rfl) sE rfl ?_;refine KO.alloc rfl zeroValue142 aN rfl ?_;intro Rm;refine KO.oQ rfl rfl rfl aN (by exact sizeOf142) aN br aN ?_;refine Z3 ?_;refine cW ?_;refine KO.fG (off:=0) rfl runUnderlying142 rfl rfl sizeOf44 rfl ?_
  (refine KO.I6 rfl rfl isAgg44 sizeOf44 br Y9 aN rfl ?_)
  refine KO.sw (z:=(Value.agg #[.int .i64 0,.int .i64 0,.string ⟨#[]⟩,.string ⟨#[]⟩,.int .i64 0])) (sz:=5) (fk:=56) rfl rfl underlying49 bC aN aN ah ah rfl ?_;intro b67;refine KO.app (cf:=dy) (z:=Value.agg #[.int .i64 0,.int .i64 0,.string ⟨#[]⟩,.string ⟨#[]⟩,.int .i64 0]) (sz:=5) (fk:=56) (xs:=(x.aT.take k).map (·.1)) rfl rfl rfl (.tail (.tail .head)) .head underlying49 bC aN (⟨mi,mp,mb,mq,mh⟩:Ms) rfl rfl rfl ez ah rfl ?_;intro v9';refine qq ?_;refine KQ.round (k+1,v9') fZ fZ ⟨rfl,rfl,rfl,rfl,rfl,rfl,rfl,trivial⟩ (fun _ h=>?_);dsimp only;rw[a_ hg,aZ];exact h.all Y4
 have mV:k=x.aT.length:=by omega
 subst mV;rw[List.take_length];refine K.conv (L':=SL 44 5 dy v9 (x.aT.map (·.1))::ni v6 (x.aY.map gh)::dt bh bd H::ga bd D::L) (fun w hw=>?_) ?_
 ·have h1:=fY (f:=cX) g1 g3 (hw.all (M:=cX (.slice a1 x.aT.length k1) x.aT::bI cX ((V.us.map (·.1)).eraseIdx u.toNat) ((H.ay.map (·.aT)).eraseIdx u.toNat)::cV (.slice a2 x.aY.length k2) x.aY::bI cV ((V.us.map (·.2)).eraseIdx u.toNat) ((H.ay.map (·.aY)).eraseIdx u.toNat)::SL 44 5 dy v9 (x.aT.map (·.1))::ni v6 (x.aY.map gh)::bA bh (.cells (fe bd V H).toArray 133 (0,0))::fb V.nv H.names::bP Value.string V.mb (dI V H)::bI jv V.ps H.all::bI dU V.bs H.batch::ga bd D::L) Y7);have h2:=fY (f:=cV) g2 g4 (h1.all (M:=cV (.slice a2 x.aY.length k2) x.aY::bI cV ((V.us.map (·.2)).eraseIdx u.toNat) ((H.ay.map (·.aY)).eraseIdx u.toNat)::SL 44 5 dy v9 (x.aT.map (·.1))::ni v6 (x.aY.map gh)::bA bh (.cells (fe bd V H).toArray 133 (0,0))::fb V.nv H.names::bP Value.string V.mb (dI V H)::bI jv V.ps H.all::bI cX (V.us.map (·.1)) (H.ay.map (·.aT))::bI dU V.bs H.batch::ga bd D::L) Y7);exact(bM V hV (h2.all (M:=Bh bh bd V H (SL 44 5 dy v9 (x.aT.map (·.1))::ni v6 (x.aY.map gh)::ga bd D::L)) Y7)).all Y2
 refine Z9 ?_;have oG:=UC.bad;have Wi:∀m∈x.aT.map (·.1),m.body.size<=maxLen/\m.queue.size<=maxLen:=fun m hm=>IK (eV oG m hm)
 have hgs:=UC.abl;have hpz:=UC.ZQ;have hrb:=UC.size;refine cW ?_;refine KO.ce (cp:=[]) rfl rfl rfl call60 rfl (oX w0 _ v9 (x.aT.map (·.1)) (fun w hw=>qX.FX (E:=44) (fun _=>rfl) .head hw) hT Wi ez) ?_;rintro v' L' hR;unfold Uj at hR;rw[oG]at hR;obtain⟨rfl,rfl⟩:=hR;refine JX ?_;refine Z3 ?_;refine Lz ?_;have z1:(⟨#[117,58]⟩:aj).size=2:=rfl;have z2:(⟨#[47]⟩:aj).size=1:=rfl;have z3:(⟨#[117,58]⟩++cK (x.aT.map (·.1)):aj).size<=70702:=by simp only[aV];omega
 have z4:(⟨#[117,58]⟩++cK (x.aT.map (·.1))++⟨#[47]⟩:aj).size<=70703:=by simp only[aV];omega
 have z5:(cK (x.aT.map (·.1))++⟨#[47]⟩:aj).size<=70701:=by simp only[aV];omega
 have hrU:(nU x).size<=80000:=UC.ZN.size;refine gY ?_;refine rM ?_;refine rM ?_;refine Z1 ?_;refine KO.ce (cp:=[]) rfl rfl rfl call62 rfl (zZ w0 _ _ v6 (x.aY.map gh) plus aQ ez ae) ?_;rintro v' L' ⟨rfl,rfl⟩;refine rM ?_;refine KO.cl (cp:=[]) rfl rfl rfl call61 rfl (KC.yC aQ aQ (OR w0 _ bh bd H D (nU x) hT h3 hd ae aeN)) ?_;rintro v' L' ⟨rfl,rfl⟩;refine yf ?_;refine K.bn rfl (fun h22=>?_) (fun h22=>?_)
 ·rw[if_pos h22]at S9;refine xd ?_;refine KQ.aU rfl rfl (fun w' aM=>⟨_,_,rfl,⟨by rw[aa0],rfl⟩,?_⟩);rw[S9,aa1];exact aM.all Y4
 rw[if_neg h22]at S9;have af0:ec H D=0:=by simpa using h22
 have kG:cx n (eC H D):=hB.log;have UG:=kG.oV;generalize Ev:eC H D=H1 at *;refine Z6 ?_;refine K.bV (fun _ h=>cn (h.pick br)) ?_;rintro⟨V1,iB⟩;dsimp only;have Pf:=iB.ps;refine cW ?_;refine KO.cl (cp:=[]) rfl rfl rfl call63 rfl (U9 w0 _ bh bd V1 H1 iB ae) ?_;rintro va L' ⟨js,MI,rfl⟩;refine KO.fact (fun w hw=>bo (E:=119) (sz:=1) (cf:=D7) (hw.pick .head)) ?_;rintro⟨ad,cap,rfl,had⟩;refine KO.len rfl underlying152 rfl ?_;refine oL ?_;have YX:js.length=V1.ps.length:=by have :=MI.length_eq;simpa using this
 refine K.loop (fun k:Nat=>[(0,bN bh),(1,.int .i64 u),(6,v6),(12,.string (cK (x.aT.map (·.1)))),(90,.slice ad (js.map fun j=>V1.ps.getD j 0).length cap),(91,.int .i64 ((js.map fun j=>V1.ps.getD j 0).length:Nat)),(92,.int .i64 (k:Nat))])
  (fun k=>KJ (.slice ad (js.map fun j=>V1.ps.getD j 0).length cap) (js.map fun j=>V1.ps.getD j 0)::bI jv V1.ps (kg u H1.all (js.take k))::bA bh (.cells (fe bd V1 H1).toArray 133 (0,0))::fb V1.nv H1.names::bP Value.string V1.mb (dI V1 H1)::bI cX (V1.us.map (·.1)) (H1.ay.map (·.aT))::bI cV (V1.us.map (·.2)) (H1.ay.map (·.aY))::bI dU V1.bs H1.batch::ni v6 (x.aY.map gh)::ga bd (gg H D (nU x))::L)
  (fun k=>k<=js.length) (fun k=>js.length-k) 0 (aH _) ⟨rfl,rfl,rfl,rfl,rfl,rfl,rfl,trivial⟩ (fun _ h=>h.all Y4) ?_
 rintro k hk;refine lW ?_;refine K.bn rfl (fun h8=>?_) (fun h8=>?_)
 ·rw[aX]at h8;obtain⟨j,hj⟩:∃e,js[k]? =some e:=⟨js[k],ak ae⟩;have hjr:j<V1.ps.length:=by have :=MI.mem_iff.1 (ax hj);simpa using this
  obtain⟨p,hp⟩:∃e,V1.ps[j]? =some e:=⟨_,ak hjr⟩;have hpj:(js.map fun j=>V1.ps.getD j 0)[k]? =some p:=by rw[aG,hj,Option.map_some,au,hp];rfl
  obtain⟨g,rfl⟩:=had Zs;have sv:=mL iB.ways;have hle:=wU u (js.take k) H1.all;have hq:(kg u H1.all (js.take k))[j]? =some ((kg u H1.all (js.take k)).getD j default):=by rw[au,ak ae];rfl
  have hqb:=AA u (js.take k) H1.all kG.qs _ (ax hq);have NA:=hqb.len;have Ab:=Az (u:=u) (l:=H1.all) hj;generalize kg u H1.all (js.take k)=lk at hq NA Ab;generalize lk.getD j default=q at hq NA Ab;refine si ?_;refine acn ?_;refine xc ?_;refine KO.cl (cp:=[]) rfl rfl rfl call64 rfl (KC.rD (φ:=fun v=>v=.tuple #[]) hp hq aQ (fun L=>PT w0 L p q u true ae)) ?_;rintro v' L' ⟨rfl,rfl⟩;refine pE ?_;refine KQ.round (k+1) ae ae ⟨rfl,rfl,rfl,rfl,rfl,rfl,rfl,trivial⟩ (fun _ h=>?_);rw[Ab];exact h.all Y2
 have mV:k=js.length:=by rw[aX]at h8;omega
 subst mV;rw[List.take_length,Dr u (by rw[mL iB.ways,<-Pf];exact MI)];refine Z9 ?_;refine acg ?_;refine iD ?_;refine Xz ?_;refine KO.Ur (b:=bh) (off:=12+2*u.toNat) (us:=[.slice none 0 0,.slice none 0 0]) rfl rfl Uh rfl aN (by exact sizeOf130) aN aQ (by rw[r8 iB];simp;omega) (Gr iB K3) ?_;refine Z0 ?_;refine K.conv (L':=dt bh bd (cA (cv H1 u) u.toNat cy)::ni v6 (x.aY.map gh)::ga bd (gg H D (nU x))::L) (fun w hw=>C7 iB u K3 (hw.all Y1)) ?_
 have Bm:cx n (cA (cv H1 u) u.toNat cy):=(kG.cv u).cA _ _;have Pc:∀l,wx (cZ 47 (mB x)).1=some l->n+l.length<=90000:=fun l Bj=>by
  rw[UC.read]at Bj;simp only[az]at Bj;subst Bj;simp;omega
 refine gY ?_;refine rM ?_;refine Z1 ?_;refine KO.ce (cp:=[]) rfl rfl rfl call62 rfl (zZ w0 _ _ v6 (x.aY.map gh) plus aQ ez ae) ?_;rintro v' L' ⟨rfl,rfl⟩;refine rM ?_;refine KO.cl (cp:=[]) rfl rfl rfl call65 rfl (KC.jN br (K_ w0 _ bh bd n (cA (cv H1 u) u.toNat cy) (mB x) hT hM ae Bm Pc ae)) ?_;rintro v' L' ⟨rfl,rfl⟩;refine qO ?_;refine KQ.aU rfl rfl (fun w' aM=>⟨_,_,rfl,⟨by rw[aa0,af0];rfl,rfl⟩,?_⟩);rw[S9,aa1];exact aM.all Y4
end Go.Proofs.YtjhogocabcdjbabGreatDoor
