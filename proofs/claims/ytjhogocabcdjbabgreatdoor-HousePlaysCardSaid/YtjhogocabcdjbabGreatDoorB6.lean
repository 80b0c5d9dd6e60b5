import Derived.Conc.Holds
import Derived.Leaving
import Derived.SevenTiedAt
import Derived.Test.YtjhogocabcdjbabGreatDoorB5
set_option linter.unusedSimpArgs false
set_option linter.unusedVariables false
set_option maxRecDepth 100000
set_option maxHeartbeats 8000000
namespace WB
open Go
section
variable {c kb k n:Nat} {H H0:Ho} {D:Dk}
theorem HI.B0(h:HI k H D H0)(hb:hF c kb k (H,D))(hk:k<4)(hK:kb<=1000000000000):cx (300+c+250*H0.used) H0/\WR H0:=by
 have h1:=hb.bV hk hK;rw[h.opened]at h1;exact⟨h1.B,h1.ways⟩
theorem pa{α:Type}{l:List α}{d:Nat}(hd:d<l.length)(x z:α)(b:Nat):(l.set d x).getD b z=if b=d then x else l.getD b z:=by
 rw[au,au,List.getElem?_set];by_cases e:b=d
 ·rw[if_pos e,if_pos e.symm,if_pos hd];rfl
 ·rw[if_neg e,if_neg fun e2=>e e2.symm]
theorem bc4(hB:cx n H){d:Nat}(hd:4<=d):cJ H d=[]:=by
 unfold cJ;rw[au,cc (by rw[hB.batch];exact hd)];rfl
theorem wY{u:Int}(he:yS H D u=0):ji H u=0/\ec H D=0:=by
 unfold yS at he;by_cases h1:ji H u≠0
 ·rw[if_pos h1]at he;exact absurd he h1
 ·rw[if_neg h1]at he;exact⟨by simpa using h1,he⟩
theorem Dz(u:Int):(uj H D u).ay=if yS H D u=0 then H.ay.set u.toNat cy else H.ay:=by
 by_cases he:yS H D u=0
 ·rw[if_pos he];obtain⟨h1,h2⟩:=wY he;unfold uj;rw[if_neg Yp,if_neg Vg];rw[(qh _ _).ay];unfold cA cv;dsimp only;rw[zV]
 ·rw[if_neg he];unfold yS at he;unfold uj;by_cases h1:ji H u≠0
  ·rw[if_pos h1]
  ·rw[if_neg h1]at he ⊢;rw[if_pos he,zV]
theorem tg{x:pI}(El:f_ x):(nU x).size<=700000:=by
 have dM:=El.size;rw[yA];have e1:(bZ 117).size=1:=rfl;have e2:(bZ 58).size=1:=rfl;simp only[aV];omega
theorem HI.Tr(h:HI k H D H0)(hb:hF c kb k (H,D)){u:Nat}(hu:u<5)(he:yS H D u≠0):HI k (uj H D u) (xX H D u) H0:=by
 unfold yS at he;unfold uj xX;by_cases h1:ji H u≠0
 ·rw[if_pos h1,if_pos h1];exact h
 ·rw[if_neg h1]at he;rw[if_neg h1,if_neg h1,if_pos he,aE];have El:=(hb.ay _ (ax (nb hb.B hu))).1;exact h.fail (tg El) (yU El) he
theorem HI.JE(h:HI k H D H0)(hb:hF c kb k (H,D))(hk:k<4)(hK:kb<=1000000000000)(hc:c<=250){u:Nat}(hu:u<5)(he:yS H D u=0):
 ∃H3,HI k (uj H D u) (xX H D u) H3/\(G3 H3).bg.Perm (((H.dW u).aT.map (fun p=>(kM H p.1,p.1))++(G3 H0).bg).filter fun y=> !decide (Mz y∈(H.dW u).aY.map (·.1)))/\H3.batch=H0.batch/\H3.bT=H0.bT/\H3.aC=H0.aC/\H0.next<=H3.next/\∀p∈(H.dW u).aT,p.1.id/4<H3.next:=by
 obtain⟨h1,h2⟩:=wY he;have hB:=hb.B;have Ej:=nb hB hu;unfold uj xX;rw[if_neg (show ¬ji H (u:Int)≠0 by simpa using h1),if_neg (show ¬ji H (u:Int)≠0 by simpa using h1),if_neg (show ¬ec H D≠0 by simpa using h2),aE];dsimp only at Ej hB;generalize hx:H.dW u=x at Ej;obtain⟨El,YS⟩:=hb.ay x (ax Ej);have Wi:=tg El;obtain⟨eL,-,-,-⟩:=dK h2 (nU x);rw[eL];have ui:=h.unit u x Ej;have kG:cx (300+c+250*H.used) (cA (cv {H with used:=H.used+1} u) u cy):=by
  have :=hB.log (D:=D);rw[eL]at this;exact(this.cv _).cA _ _
 have E5:hv (cA (cv {H with used:=H.used+1} u) u cy)=((hv H).filter fun e=> !decide (e.put=(u:Int))).map (gI u):=An {H with used:=H.used+1} ae;have kx:bw (cA (cv {H with used:=H.used+1} u) u cy)=bw H:=by unfold bw cA cv;simp
 generalize Ev:cA (cv {H with used:=H.used+1} u) u cy=H1 at kG E5 kx;have Jj:H1.names=H.names:=by rw[<-Ev];rfl
 have iu:H1.id=H.id:=by rw[<-Ev];rfl
 have Je:H1.used=H.used+1:=by rw[<-Ev];rfl
 have Em:H1.next=H.next:=by rw[<-Ev];rfl
 have wE:H1.ay=H.ay.set u cy:=by rw[<-Ev];rfl
 have Pz:H1.batch=H.batch:=by rw[<-Ev];rfl
 have YP:H1.bT=H.bT:=by rw[<-Ev];rfl
 have hav:H1.aC=H.aC:=by rw[<-Ev];rfl
 have jy:∀e∈hv H,e.put≠(u:Int)->gI u e∈hv H1:=fun e he hp=>by
  rw[E5];exact List.mem_map_of_mem (aF.2 ⟨he,by simpa using hp⟩)
 have Gy:∀e∈hv H1,∃e'∈hv H,e'.put≠(u:Int)/\e=gI u e':=fun e he=>by
  rw[E5]at he;obtain⟨e',h5,rfl⟩:=aB.1 he;obtain⟨h6,h7⟩:=aF.1 h5;exact⟨e',h6,by simpa using h7,rfl⟩
 have Bi:((hv H1).map eb).Nodup:=by
  rw[E5,List.map_map,show(eb∘gI u)=eb from rfl];exact h.u4.sublist (List.filter_sublist.map _)
 obtain⟨H2,e2,p2,k2,n2,s2,x2,y2,z2,Bm⟩:=pq kG El Bi
  (fun p hp hh=>by
   obtain⟨i,hi⟩:=(ui.aT p hp).1 Yo
   exact⟨i,by rw[bH kx];exact hi⟩) ui.pn
  (fun p hp e he e3=>by
   obtain⟨e',h5,h6,rfl⟩:=Gy e he;obtain⟨-,-,e4,h7,-,h8,h9⟩:=ui.aT p hp;have :e'=e4:=jE h.u4 h5 h7 (by rw[show eb e'=p.1.id from e3];unfold eb;rw[h8])
   rw[this]at h6;exact h6 h9) ui.gn
  (fun g hg=>by
   obtain⟨i,d,e,h5,h6,h7,h8,-⟩:=ui.aY g hg
   exact⟨i,by rw[bH kx];exact d,_,jy e h5 ae,h6,h7⟩)
 have GK:=(h.B0 hb hk hK).1;have Ps:H0.id=H.id:=by rw[h.QX,h.hid]
 obtain⟨H3,e3,p3,k3,n3,s3,x3,y3,z3,hB3⟩:=pq GK El h.O9
  (fun p hp hh=>by
   obtain⟨i,hi⟩:=(ui.aT p hp).1 (by rw[hh,Ps])
   exact⟨i,by rw[bH h.keys];exact hi⟩) ui.pn
  (fun p hp e he e3=>by
   obtain⟨e',h5,-,h6,h7⟩:=h.in0 he;obtain⟨-,-,e4,h8,-,h9,Bn⟩:=ui.aT p hp;have :e'=e4:=jE h.u4 h5 h8 (by unfold eb at *;rw[h6,h9];exact e3)
   rw[this,Bn]at h7;omega) ui.gn
  (fun g hg=>by
   obtain⟨i,d,e,h5,h6,h7,h8,-⟩:=ui.aY g hg;obtain⟨e',h9,Bn,Ao⟩:=h.to0 h5 h8
   exact⟨i,by rw[bH h.keys];exact d,e',h9,by rw[Bn];exact h6,by unfold eb at *;rw[Ao];exact h7⟩)
 rw[e2];dsimp only;have qC:(k:Int)<4:=by omega
 have hj1:∀m,kM H1 m=kM H m:=ei kx iu;have hj0:∀m,kM H0 m=kM H m:=ei h.keys Ps;have hN1:(x.aT.map fun p=>(⟨kM H1 p.1,p.1,-1,-1⟩:En))=x.aT.map fun p=>⟨kM H p.1,p.1,-1,-1⟩:=by
  apply List.map_congr_left;intro p _;rw[hj1]
 have hN0:(x.aT.map fun p=>(⟨kM H0 p.1,p.1,-1,-1⟩:En))=x.aT.map fun p=>⟨kM H p.1,p.1,-1,-1⟩:=by
  apply List.map_congr_left;intro p _;rw[hj0]
 rw[hN1]at p2;rw[hN0]at p3;have hNj:(x.aT.map fun p=>(kM H p.1,p.1))=(x.aT.map fun p=>(⟨kM H p.1,p.1,-1,-1⟩:En)).map ru:=by rw[List.map_map];rfl
 rw[hNj];generalize hN:(x.aT.map fun p=>(⟨kM H p.1,p.1,-1,-1⟩:En))=N at p2 p3;have MQ:∀e∈N,e.put= -1/\e.gC= -1/\∃p∈x.aT,e.m=p.1:=fun e he=>by
  rw[<-hN]at he;obtain⟨p,hp,rfl⟩:=aB.1 he;exact⟨rfl,rfl,p,hp,rfl⟩
 have hNi:N.map eb=x.aT.map fun p=>p.1.id:=by rw[<-hN,List.map_map];rfl
 have NF:((hv H1).filter j9).map ru=WB.hk H:=by
  unfold WB.hk;rw[E5,List.filter_map,List.map_map,dm];rw[show(ru∘gI u)=ru from rfl];congr 1;apply List.filter_congr;intro e _;unfold j9 gI;dsimp only[Function.comp];by_cases e1:e.put=(u:Int)
  ·have :¬e.put<0:=by omega
   simp[e1]
  ·simp[e1]
 have WN:((hv H3).map ru).Perm ((N.map ru++(hv H0).map ru).filter fun y=> !decide (Mz y∈x.aY.map (·.1))):=by
  refine(p3.map ru).trans (List.Perm.of_eq ?_);rw[<-aZ,List.filter_map];rfl
 have Gj:(WB.hk H2).Perm ((hv H3).map ru):=by
  have a1:(WB.hk H2).Perm ((((N++hv H1).filter j9).map ru).filter fun y=> !decide (Mz y∈x.aY.map (·.1))):=by
   unfold WB.hk;refine((p2.filter j9).map ru).trans (List.Perm.of_eq ?_);rw[List.filter_map,dm,dm];congr 1;apply List.filter_congr;intro e _;rw[Bool.and_comm];rfl
  refine a1.trans (List.Perm.trans (List.Perm.filter _ ?_) WN.symm);rw[bY,aZ,NF];rw[bJ.2 (fun e he=>by unfold j9;simp[(MQ e he).1])];exact(List.Perm.refl _).append h.Bd
 have aaF:((hv H2).map eb).Nodup:=by
  refine(p2.map eb).nodup_iff.2 (List.Nodup.sublist (List.filter_sublist.map _) ?_);rw[aZ,List.nodup_append,hNi];refine⟨ui.pn,Bi,fun a ha b hb=>?_⟩;obtain⟨p,hp,rfl⟩:=aB.1 ha;obtain⟨e,he,rfl⟩:=aB.1 hb;obtain⟨e',h5,h6,rfl⟩:=Gy e he;obtain⟨-,-,e4,h7,-,h8,h9⟩:=ui.aT p hp;intro e5;have :e'=e4:=jE h.u4 h5 h7 (by unfold eb at *;rw[h8];exact e5.symm);rw[this]at h6;exact h6 h9
 have Er:∀e∈hv H2,(∃p∈x.aT,e.m=p.1)\/∃e'∈hv H,e.j=e'.j/\e.m=e'.m:=fun e he=>by
  rw[p2.mem_iff,aF]at he;rcases aO.1 he.1 with h5|h5
  ·exact .inl (MQ e h5).2.2
  ·obtain⟨e',h6,-,rfl⟩:=Gy e h5;exact .inr ⟨e',h6,rfl,rfl⟩
 have Gi:∀e∈hv H,e.put≠(u:Int)->eb e∉x.aY.map (·.1)->gI u e∈hv H2:=fun e he h5 h6=>by
  rw[p2.mem_iff,aF];exact⟨List.mem_append_right _ (jy e he h5),by rw[show eb (gI u e)=eb e from rfl];simpa using h6⟩
 have WE:∀e∈hv H,eb e∈x.aY.map (·.1)->e.put<0/\e.gC=(u:Int)/\4<=e.j:=fun e he h5=>by
  obtain⟨g,hg,h6⟩:=aB.1 h5;obtain⟨i,-,e4,h7,Ao,h8,h9,Bn⟩:=ui.aY g hg;have :e=e4:=jE h.u4 he h7 (by rw[h8];exact h6.symm);rw[this];exact⟨h9,Bn,by omega⟩
 have wH:∀s,H2.qI s=H.qI s:=fun s=>by rw[bH k2,bH kx]
 have hjj:∀m,kM H2 m=kM H m:=fun m=>by rw[ei k2 s2.id,hj1]
 have hle:H.next<=H2.next:=by rw[<-Em];exact x2
 refine⟨{H3 with used:=H0.used+1},?_,WN,s3.batch,s3.bT,s3.aC,x3,y3⟩;refine h.zU h2 Wi (yU El) (El.VM ae) (by rw[xA];exact e3) (by rw[s2.id,iu]) (by rw[s2.used,Je]) (by rw[n2,Jj];exact n3.trans h.names) (by rw[k2,kx];exact k3.trans h.keys) (by rw[s2.batch,Pz];exact s3.batch.trans h.bt) (by rw[s2.bT,YP];exact s3.bT.trans h.sn) (by rw[s2.aC,hav];exact s3.aC.trans h.av) (k2.trans kx)
  (fun e he=>?_) Gj aaF (fun e he hj=>?_) (fun e he hj=>?_) (fun e he hj=>?_) (z3 _ (by have :=h.nx;omega) y2) (fun v y hy=>?_) (fun d i hi=>?_)
 ·rw[p3.mem_iff,aF]at he;rcases aO.1 he.1 with h5|h5
  ·exact⟨(MQ e h5).1,(MQ e h5).2.1⟩
  ·exact h.pc e h5
 ·rcases Er e he with⟨p,hp,h5⟩|⟨e',h6,h5,h7⟩
  ·rw[h5,(ui.aT p hp).2.1,h.hid]
  ·rw[h7];exact h.wy e' h6 (by rw[<-h5];exact hj)
 ·rcases Er e he with⟨p,hp,h5⟩|⟨e',h6,h5,h7⟩
  ·rw[h5];exact y2 p hp
  ·rw[h7]at hj ⊢;have :=h.lt e' h6 hj;omega
 ·rw[p3.mem_iff,aF]at he;rcases aO.1 he.1 with h5|h5
  ·obtain⟨-,-,p,hp,h6⟩:=MQ e h5;rw[h6];exact y3 p hp
  ·have :=h.Mj e h5 hj;omega
 ·rw[s2.ay,wE]at hy;rcases uC Y36 hy with⟨rfl,rfl⟩|⟨oo,hy⟩
  ·exact UJ.nil _ _
  ·have vi:=h.unit v y hy;have Wa:((v:Nat):Int)≠(u:Int):=fun e=>oo ae
   refine⟨fun p hp=>?_,vi.pn,fun g hg=>?_,vi.gn⟩
   ·obtain⟨a,b,e,fX,e3,e4,e5⟩:=vi.aT p hp;have UH:e.put≠(u:Int):=by rw[e5];exact Wa
    refine⟨fun hh=>by rw[wH];exact a (by rw[hh,s2.id,iu]),by rw[s2.id,iu];exact b,_,Gi e fX UH (fun hh=>?_),by rw[hjj];exact e3,e4,?_⟩
    ·have :=(WE e fX hh).1;omega
    ·unfold gI;dsimp only;rw[if_neg UH];exact e5
   ·obtain⟨i',d,e,fX,e3,e4,e5,e6⟩:=vi.aY g hg;have UH:e.put≠(u:Int):=by omega
    refine⟨i',by rw[wH];exact d,_,Gi e fX UH (fun hh=>?_),e3,e4,?_,?_⟩
    ·have :=(WE e fX hh).2.1;exact Wa (by rw[<-e6,this])
    ·unfold gI;dsimp only;rw[if_neg UH];exact e5
    ·unfold gI;dsimp only;rw[if_neg (by rw[e6];exact Wa)];exact e6
 ·have UQ:cJ H2 d=cJ H d:=by unfold cJ;rw[s2.batch,Pz]
  rw[UQ]at hi;obtain⟨y,hy,a,b⟩:=h.bin d i hi;refine⟨y,Gj.mem_iff.2 (WN.mem_iff.2 (aF.2 ⟨List.mem_append_right _ (h.Bd.mem_iff.1 hy),?_⟩)),a,b⟩;have Ra:d<4:=by
   rcases Nat.lt_or_ge d 4 with h5|h5
   ·exact h5
   ·rw[bc4 hB h5]at hi;cases hi
  obtain⟨e,he,rfl⟩:=aB.1 hy;have :eb e∉x.aY.map (·.1):=fun hh=>by
   have :=(WE e (aF.1 he).1 hh).2.2;have :e.j=d:=a;omega
  show(!decide (eb e∈x.aY.map (·.1)))=true
  rw[decide_eq_false this];rfl
end
section
variable {c kb k n:Nat} {H H0:Ho} {D:Dk}
theorem Cy{H H':Ho}(h:H'.id=H.id)(a:Int):cb H' a=cb H a:=by unfold cb;rw[h]
theorem ox{a:Int}(h:gJ H a=true):cb H a=true/\H.down=false/\cJ H a.toNat=[]/\eX (H.iY a.toNat)≠[]:=by
 unfold gJ at h;rw[decide_eq_true_eq]at h;obtain⟨h1,h2⟩:=h;unfold tT at h1;split at h1
 ·cases h1
 ·rename_i h3;split at h1
  ·cases h1
  ·rename_i h4;split at h1
   ·cases h1
   ·rename_i h5;exact⟨by simpa using h3,by simpa using h4,h2,fun h6=>h5 ⟨h2,h6⟩⟩
theorem N1(hB:cx n H){j:Nat}(hj:j<4){m:Ms}(hm:m∈eX (H.iY j)):(j,m)∈hk H:=by
 unfold eX at hm;obtain⟨e,he,rfl⟩:=aB.1 hm;obtain⟨h1,h2⟩:=aF.1 he;unfold gA at h2;simp only[bm,decide_eq_true_eq]at h2;unfold hk;refine aB.2 ⟨kZ j e,aF.2 ⟨vQ.2 ⟨H.iY j,pB hB.ways hj,e,h1,rfl⟩,?_⟩,rfl⟩;unfold j9 kZ;simpa using h2.1
theorem HI.made(h:HI k H D H0)(hb:hF c kb k (H,D)){a:Int}(hn:gJ H a=true)(he:ec H D=0):
 ∃H3,HI k (qE H D a) (xY H D a) H3/\hv H3=hv H0/\H3.batch=H0.batch.set a.toNat (cG H a.toNat)/\H3.bT=H0.bT.set a.toNat (gD H0 a.toNat+1)/\H3.aC=H0.aC/\H3.next=H0.next/\cG H a.toNat≠[]/\(∀i∈cG H a.toNat,∃y∈(G3 H0).bg,y.1=a.toNat/\Mz y=i)/\cJ (qE H D a) a.toNat=cG H a.toNat/\gD (qE H D a) a.toNat=gD H a.toNat+1/\(qE H D a).iY a.toNat=H.iY a.toNat:=by
 obtain⟨h1,-,h3,h4⟩:=ox hn;have hr:=b_.1 h1;have hB:=hb.B;dsimp only at hB;have hj:a.toNat<4:=by omega
 have oo:cG H a.toNat≠[]:=by
  unfold cG;intro h5;rw[List.map_eq_nil_iff,List.take_eq_nil_iff]at h5;rcases h5 with h5|h5
  ·cases h5
  ·exact h4 h5
 have yM:∀i∈cG H a.toNat,∃m,(a.toNat,m)∈hk H/\m.id=i:=fun i hi=>by
  unfold cG at hi;obtain⟨m,hm,rfl⟩:=aB.1 hi;exact⟨m,N1 hB hj (List.mem_of_mem_take hm),rfl⟩
 have hint:∀i∈cG H a.toNat,o5 i:=fun i hi=>by
  unfold cG at hi;obtain⟨m,hm,rfl⟩:=aB.1 hi;have h5:=List.mem_of_mem_take hm;unfold eX at h5;obtain⟨e,he,rfl⟩:=aB.1 h5;have :=(hB.w hj).ids e (aF.1 he).1;exact⟨by omega,by omega⟩
 have hlen:(cG H a.toNat).length<=3:=by unfold cG;simp;omega
 have hbl:H.batch.length=4:=hB.batch;have hsl:H.bT.length=4:=hB.bT;obtain⟨eL,-,-,-⟩:=dK he (ic a (cG H a.toNat));have dM:(ic a (cG H a.toNat)).size<=700000:=by
  have :=(lx (k:=a) ⟨hr.1,hr.2.1⟩ hlen hint).size;omega
 have lH:fp 250 (ic a (cG H a.toNat)):=(lx (k:=a) ⟨hr.1,hr.2.1⟩ hlen hint).mono ae;have e0:H0.id=H.id:=by rw[h.QX,h.hid]
 unfold qE xY;rw[if_pos hn,if_pos hn];unfold nZ;rw[if_pos he,eL];obtain⟨i,r,YZ⟩:=List.exists_cons_of_ne_nil oo;have p1:hplays {H with used:=H.used+1} (ic a (cG H a.toNat))=({H with used:=H.used+1,batch:=H.batch.set a.toNat (cG H a.toNat),bT:=H.bT.set a.toNat (gD H a.toNat+1)},true):=by
  rw[YZ];exact oi (H:={H with used:=H.used+1}) h1 Y39
 have p0:hplays H0 (ic a (cG H a.toNat))=({H0 with batch:=H0.batch.set a.toNat (cG H a.toNat),bT:=H0.bT.set a.toNat (gD H0 a.toNat+1)},true):=by
  rw[YZ];exact oi (H:=H0) Y31 Y39
 rw[p1];dsimp only;have YP:gD H0 a.toNat=gD H a.toNat:=by unfold gD;rw[h.sn]
 refine⟨{H0 with batch:=H0.batch.set a.toNat (cG H a.toNat),bT:=H0.bT.set a.toNat (gD H0 a.toNat+1),used:=H0.used+1},?_,rfl,rfl,rfl,rfl,rfl,oo,fun i hi=>?_,?_,?_,rfl⟩
 ·refine h.zU he dM (ED _ _) lH p0 rfl rfl h.names h.keys (by dsimp only;rw[h.bt]) (by dsimp only;rw[YP,h.sn]) h.av rfl h.pc h.Bd h.u4 h.wy h.lt h.Mj h.nx (fun u x hx=>(h.unit u x hx).same rfl rfl rfl) fun d i hi=>?_
  have e5:cJ ({H with used:=H.used+1,batch:=H.batch.set a.toNat (cG H a.toNat),bT:=H.bT.set a.toNat (gD H a.toNat+1)}:Ho) d=if d=a.toNat then cG H a.toNat else cJ H d:=by
   unfold cJ;exact pa ae _ _ _
  rw[e5]at hi;split at hi
  ·rename_i e6;obtain⟨m,hm,e7⟩:=yM i hi;exact⟨(a.toNat,m),hm,e6.symm,e7⟩
  ·exact h.bin d i hi
 ·obtain⟨m,hm,e7⟩:=yM i hi;exact⟨(a.toNat,m),h.Bd.mem_iff.1 hm,rfl,e7⟩
 ·unfold cJ;rw[show({H with used:=H.used+1,batch:=H.batch.set a.toNat (cG H a.toNat),bT:=H.bT.set a.toNat (gD H a.toNat+1)}:Ho).batch=H.batch.set a.toNat (cG H a.toNat)from rfl,pa ae,if_pos rfl]
 ·show(H.bT.set a.toNat (gD H a.toNat+1)).getD a.toNat 0=gD H a.toNat+1
  rw[pa ae,if_pos rfl]
theorem HI.UB(h:HI k H D H0)(hb:hF c kb k (H,D)){a:Int}(hn:gJ H a=false\/ec H D≠0):HI k (qE H D a) (xY H D a) H0:=by
 unfold qE xY;by_cases h1:gJ H a=true
 ·rw[if_pos h1,if_pos h1];rcases hn with hn|hn
  ·rw[hn]at h1;cases h1
  ·have hr:=b_.1 (ox h1).1;have hB:=hb.B;dsimp only at hB;have hj:a.toNat<4:=by omega
   unfold nZ;rw[if_neg hn];refine h.fail ?_ (ED _ _) hn
   have :=(lx (k:=a) (l:=cG H a.toNat) ⟨hr.1,hr.2.1⟩ (by unfold cG;simp;omega) (fun i hi=>by
    unfold cG at hi;obtain⟨m,hm,rfl⟩:=aB.1 hi;have h5:=List.mem_of_mem_take hm;unfold eX at h5;obtain⟨e,he,rfl⟩:=aB.1 h5;have :=(hB.w hj).ids e (aF.1 he).1
    exact⟨by omega,by omega⟩)).size
   omega
 ·rw[if_neg h1,if_neg h1];exact h
theorem tS{a num:Int}(h:mJ H a num=0):cb H a=true/\H.down=false/\cJ H a.toNat≠[]/\num=gD H a.toNat:=by
 unfold mJ at h;split at h
 ·cases h
 ·rename_i h1;split at h
  ·cases h
  ·rename_i h2;split at h
   ·cases h
   ·rename_i h3;refine⟨by simpa using h1,by simpa using h2,fun h4=>h3 (.inl h4),Decidable.byContradiction fun h4=>h3 (.inr h4)⟩
theorem y_{j:Nat}(hB:cx n H)(hj:j<4)(hn:((hv H).map eb).Nodup){b:List Int}(hb:∀e∈hv H,eb e∈b->e.j=j):(hv (H.iG j (dx (H.iY j) b))).Perm ((hv H).filter fun e=> !decide (eb e∈b)):=by
 unfold hv;rw[ko (by rw[hB.ways];exact hj)];exact Ci b (pB hB.ways hj) hn hb
theorem HI.known(h:HI k H D H0)(hb:hF c kb k (H,D))(hk:k<4)(hK:kb<=1000000000000){a num:Int}(hp:mJ H a num=0)(he:ec H D=0):
 ∃H3,HI k (G8 H D a num) (JG H D a num) H3/\(G3 H3).bg.Perm ((G3 H0).bg.filter fun y=> !decide (Mz y∈cJ H0 a.toNat))/\H3.batch=H0.batch.set a.toNat []/\H3.bT=H0.bT/\H3.aC=H0.aC/\H3.next=H0.next:=by
 obtain⟨h1,-,h3,h4⟩:=tS hp;have hr:=b_.1 h1;have hB:=hb.B;dsimp only at hB;have GK:=(h.B0 hb hk hK).1;have hj:a.toNat<4:=by omega
 have hbl:H.batch.length=4:=hB.batch;have e0:H0.id=H.id:=by rw[h.QX,h.hid]
 have ebc:cJ H0 a.toNat=cJ H a.toNat:=by unfold cJ;rw[h.bt]
 obtain⟨eL,-,-,-⟩:=dK he (sk a);have lH:fp 250 (sk a):=(uV (k:=a) ⟨hr.1,hr.2.1⟩).mono ae;have dM:(sk a).size<=700000:=by have :=lH.size;omega
 have yM:∀e∈hv H,eb e∈cJ H a.toNat->e.j=a.toNat/\e.put<0:=fun e he hm=>by
  obtain⟨y,hy,a1,a2⟩:=h.bin _ _ hm;obtain⟨e',he',rfl⟩:=aB.1 hy;obtain⟨b1,b2⟩:=aF.1 he';have :e=e':=jE h.u4 he b1 a2.symm;rw[this];exact⟨a1,by unfold j9 at b2;simpa using b2⟩
 have afg:∀e∈hv H0,eb e∈cJ H a.toNat->e.j=a.toNat:=fun e he hm=>by
  obtain⟨e',b1,b2,b3,-⟩:=h.in0 he;rw[<-b2];exact(yM e' b1 (by unfold eb at *;rw[b3];exact hm)).1
 unfold G8 JG;rw[if_neg (show ¬mJ H a num≠0 by simpa using hp),if_neg (show ¬mJ H a num≠0 by simpa using hp)];unfold nZ;rw[if_pos he,eL];rw[mG (H:={H with used:=H.used+1}) h1];dsimp only;have q0:=mG (H:=H0) (k:=a) Y31;rw[ebc]at q0;have v0:(hv (H0.iG a.toNat (dx (H0.iY a.toNat) (cJ H a.toNat)))).Perm ((hv H0).filter fun e=> !decide (eb e∈cJ H a.toNat)):=y_ GK hj h.O9 afg;have v1:(hv (H.iG a.toNat (dx (H.iY a.toNat) (cJ H a.toNat)))).Perm ((hv H).filter fun e=> !decide (eb e∈cJ H a.toNat)):=y_ hB hj h.u4 fun e he hm=>(yM e he hm).1
 generalize kF:({({H with used:=H.used+1}:Ho).iG a.toNat (dx (({H with used:=H.used+1}:Ho).iY a.toNat) (cJ {H with used:=H.used+1} a.toNat))with batch:=H.batch.set a.toNat []}:Ho)=H';generalize NI:({H0.iG a.toNat (dx (H0.iY a.toNat) (cJ H a.toNat))with batch:=H0.batch.set a.toNat []}:Ho)=H3 at q0;have v3:(hv H3).Perm ((hv H0).filter fun e=> !decide (eb e∈cJ H a.toNat)):=by rw[<-NI];exact v0
 have v2:(hv H').Perm ((hv H).filter fun e=> !decide (eb e∈cJ H a.toNat)):=by rw[<-kF];exact v1
 have WO:((hv H3).map ru).Perm (((hv H0).map ru).filter fun y=> !decide (Mz y∈cJ H a.toNat)):=by
  refine(v3.map ru).trans (List.Perm.of_eq ?_);rw[List.filter_map];rfl
 have Gj:(WB.hk H').Perm ((hv H3).map ru):=by
  refine List.Perm.trans ?_ WO.symm;refine List.Perm.trans ?_ (h.Bd.filter _);unfold WB.hk;refine((v2.filter _).map _).trans (List.Perm.of_eq ?_);rw[List.filter_map,dm,dm];congr 1;apply List.filter_congr;intro e _;rw[Bool.and_comm];rfl
 have k1:bw H'=bw H:=by rw[<-kF];rfl
 have hid:H'.id=H.id:=by rw[<-kF];rfl
 have wF:∀e∈hv H',e∈hv H:=fun e he=>(aF.1 (v2.mem_iff.1 he)).1
 refine⟨{H3 with used:=H0.used+1},?_,by rw[ebc];exact WO,by rw[<-NI],by rw[<-NI];rfl,by rw[<-NI];rfl,by rw[<-NI];rfl⟩;refine h.zU he dM (Lt _) lH q0 hid QJ (by rw[<-kF,<-NI];exact h.names) (by rw[k1,<-h.keys,<-NI];rfl) (by rw[<-kF,<-NI];dsimp only;rw[h.bt]) (by rw[<-kF,<-NI];exact h.sn) (by rw[<-kF,<-NI];exact h.av) k1
  (fun e he=>h.pc e (aF.1 (v3.mem_iff.1 he)).1) Gj ((v2.map eb).nodup_iff.2 (h.u4.sublist (List.filter_sublist.map _))) (fun e he=>h.wy e (wF e he)) (fun e he hj=>by rw[show H'.next=H.next from by rw[<-kF];rfl];exact h.lt e (wF e he) hj)
  (fun e he hj=>by rw[show H3.next=H0.next from by rw[<-NI];rfl];exact h.Mj e (aF.1 (v3.mem_iff.1 he)).1 hj) (by rw[<-kF,<-NI];exact h.nx) (fun u x hx=>?_) fun d i hi=>?_
 ·have hx:H.ay[u]? =some x:=by rw[<-kF]at hx;exact hx
  have ui:=h.unit u x hx;have Gi:∀e∈hv H,(0<=e.put\/4<=e.j)->e∈hv H':=fun e he hh=>by
   rw[v2.mem_iff,aF];have :eb e∉cJ H a.toNat:=fun hm=>by
    have :=yM e he hm;omega
   exact⟨he,by rw[decide_eq_false this];rfl⟩
  refine⟨fun p hp=>?_,ui.pn,fun g hg=>?_,ui.gn⟩
  ·obtain⟨a1,a2,e,a3,a4,a5,a6⟩:=ui.aT p hp;exact⟨fun hh=>by rw[bH k1];exact a1 (by rw[hh,hid]),by rw[hid];exact a2,e,Gi e a3 (.inl ae),by rw[ei k1 hid];exact a4,a5,a6⟩
  ·obtain⟨i,a1,e,a2,a3,a4⟩:=ui.aY g hg;exact⟨i,by rw[bH k1];exact a1,e,Gi e a2 (.inr ae),a3,a4⟩
 ·have e5:cJ H' d=if d=a.toNat then[]else cJ H d:=by
   rw[<-kF];unfold cJ;exact pa ae _ _ _
  rw[e5]at hi;split at hi
  ·cases hi
  ·rename_i hd;obtain⟨y,hy,a1,a2⟩:=h.bin d i hi;refine⟨y,Gj.mem_iff.2 (WO.mem_iff.2 (aF.2 ⟨h.Bd.mem_iff.1 hy,?_⟩)),a1,a2⟩;have :Mz y∉cJ H a.toNat:=fun hm=>by
    obtain⟨e,he,rfl⟩:=aB.1 hy;exact hd (a1.symm.trans (yM e (aF.1 he).1 hm).1)
   rw[decide_eq_false this];rfl
theorem HI.OX(h:HI k H D H0){a num:Int}(hp:mJ H a num≠0\/ec H D≠0):HI k (G8 H D a num) (JG H D a num) H0:=by
 unfold G8 JG;by_cases h1:mJ H a num≠0
 ·rw[if_pos h1,if_pos h1];exact h
 ·rw[if_neg h1,if_neg h1];have hp:ec H D≠0:=hp.resolve_left h1;unfold nZ;rw[if_neg hp];have hr:=b_.1 (tS Yp).1;refine h.fail ?_ (Lt _) hp;have :=(uV (k:=a) ⟨hr.1,hr.2.1⟩).size;omega
theorem sd{a num:Int}{l:List Ms}(h:DH H a num l=true):cb H a=true/\H.down=false/\num=fv H a.toNat+1/\jM l=none/\(∀m∈l,jw H m=false)/\AX H l=false:=by
 unfold DH at h;rw[decide_eq_true_eq]at h;obtain⟨h1,h2⟩:=h;unfold qn at h1;split at h1
 ·cases h1
 ·rename_i g1;split at h1
  ·cases h1
  ·rename_i g2;split at h1
   ·rename_i g3;omega
   ·split at h1
    ·cases h1
    ·rename_i g4;split at h1
     ·cases h1
     ·rename_i g5;split at h1
      ·cases h1
      ·rename_i g6;have g7:jM l=none:=Decidable.byContradiction fun g=>g5 (.inl g)
       have g8:l.any (jw H)=false:=by
        cases hh:l.any (jw H)with
        |false=>rfl
        |true=>exact absurd (.inr hh) g5
       rw[List.any_eq_false]at g8;exact⟨by simpa using g1,by simpa using g2,by omega,g7,fun m hm=>by simpa using g8 m hm,by simpa using g6⟩
theorem yV:∀(l:List Ms) (r:List (aj×Int)),∀t∈dh H l r,t=cr\/∃i,H.qI t=some i
 |[],_,t,h=>by cases h
 |m::l,r,t,h=>by
  unfold dh at h;split at h
  ·rcases aK.1 h with rfl|h
   ·exact .inl rfl
   ·exact yV l r t h
  ·rename_i h1;rcases aK.1 h with rfl|h
   ·right;unfold toDead at h1;cases hq:H.qI m.queue with
    |none=>rw[hq]at h1;exact absurd rfl h1
    |some i=>exact⟨i,rfl⟩
   ·exact yV l _ t h
theorem AW{l:List Ms}(h:AX H l=false):(l.map (·.id)).Nodup/\∀m∈l,∀x∈H.aI,tu x.2 m.id=false:=by
 unfold AX at h;rw[List.any_eq_false]at h;have key:∀(i:Nat) m,l[i]? =some m->Bx H l i m=false:=fun i m hm=>by
  have :=h (m,i) (List.mem_zipIdx_iff_getElem?.2 hm);simpa using this
 constructor
 ·rw[List.nodup_iff_pairwise_ne,List.pairwise_map,List.pairwise_iff_getElem];intro i j hi hj hij e;have :=key j l[j] (ak hj);unfold Bx at this;rw[Bool.or_eq_false_iff,List.any_eq_false]at this;have h3:l[i]∈l.take j:=List.mem_take_iff_getElem.2 ⟨i,by omega,rfl⟩;have :=this.1 _ h3;unfold sV at this;simp[e]at this
 ·intro m hm x hx;obtain⟨i,hi,rfl⟩:=List.getElem_of_mem hm;have :=key i l[i] (ak hi);unfold Bx at this;rw[Bool.or_eq_false_iff,List.any_eq_false]at this;have h8:=this.2;rw[List.any_eq_false]at h8;simpa using h8 x hx
theorem HI.M4(h:HI k H D H0)(hb:hF c kb k (H,D))(hk:k<4)(hK:kb<=1000000000000){a num:Int}{l:List Ms}(hl:l.length<=250)(hw:DH H a num l=true)(he:ec H D=0):
 ∃H3 P,HI k (vF H D a num l) (Bq H D a num l) H3/\P.map (·.2)=l/\(∀y∈P,4<=y.1)/\(G3 H3).bg.Perm (P++(G3 H0).bg)/\H3.batch=H0.batch/\H3.bT=H0.bT/\H3.aC=H0.aC.set a.toNat (fv H0 a.toNat+1)/\H3.next=H0.next/\fv (vF H D a num l) a.toNat=fv H a.toNat+1:=by
 obtain⟨h1,-,h3,h4,h5,h6⟩:=sd hw;obtain⟨t1,t2⟩:=AW h6;have hr:=b_.1 h1;have hB:=hb.B;dsimp only at hB;have GK:=(h.B0 hb hk hK).1;have hj:a.toNat<4:=by omega
 have e0:H0.id=H.id:=by rw[h.QX,h.hid]
 have eav:fv H0 a.toNat=fv H a.toNat:=by unfold fv;rw[h.av]
 have Q5:=eV h4;have ug:=lb (H:=H) Q5 [];have xy:=lf H l [];have htq:∀t∈dh H l [],∃i,H.qI t=some i:=fun t ht=>by
  rcases yV l [] t ht with rfl|hh
  ·exact h.dead
  ·exact hh
 obtain⟨eL,-,-,-⟩:=dK he (lN H a l);obtain⟨lH,dM⟩:=uU (k:=a) ⟨hr.1,hr.2.1⟩ h4 hl ug xy;have hz:∀x∈l.zip (dh H l []),((0<=x.1.pri/\x.1.pri<=9)/\0<=x.1.id/\x.1.id<=1099511627776)/\∃i,H.qI x.2=some i:=fun x hx=>by
  obtain⟨x1,x2⟩:=x;have h7:=List.of_mem_zip hx;obtain⟨m1,m2,m3,m4,-⟩:=bG (Q5 _ h7.1);exact⟨⟨⟨m3,m4⟩,m1,m2⟩,htq _ h7.2⟩
 have hBl:cx (300+c+250*H.used) {H with used:=H.used+1}:=by
  have :=hB.log (D:=D);rw[eL]at this;exact this
 obtain⟨H2,e2,p2,k2,n2,x2,s2,-⟩:=pz (l.zip (dh H l [])) hBl hz;obtain⟨H3,e3,p3,k3,n3,x3,s3,-⟩:=pz (l.zip (dh H l [])) GK fun x hx=>by
  obtain⟨b1,i,b2⟩:=hz x hx;exact⟨b1,i,by rw[bH h.keys];exact b2⟩
 have ek0:∀s,H0.qI s=H.qI s:=fun s=>bH h.keys s
 have ek2:∀s,({H with used:=H.used+1}:Ho).qI s=H.qI s:=fun s=>rfl
 have hN0:((l.zip (dh H l [])).map fun x=>(⟨4+(H0.qI x.2).getD 0,x.1,-1,-1⟩:En))=(l.zip (dh H l [])).map fun x=>⟨4+(H.qI x.2).getD 0,x.1,-1,-1⟩:=by
  apply List.map_congr_left;intro p _;rw[ek0]
 rw[hN0]at p3;have p2:(hv H2).Perm (((l.zip (dh H l [])).map fun x=>(⟨4+(H.qI x.2).getD 0,x.1,-1,-1⟩:En))++hv H):=p2;generalize hN:((l.zip (dh H l [])).map fun x=>(⟨4+(H.qI x.2).getD 0,x.1,-1,-1⟩:En))=N at p2 p3;have MQ:∀e∈N,e.put= -1/\e.gC= -1/\4<=e.j/\e.m∈l:=fun e he=>by
  rw[<-hN]at he;obtain⟨p,hp,rfl⟩:=aB.1 he;obtain⟨p1,p2⟩:=p;exact⟨rfl,rfl,by dsimp only;omega,(List.of_mem_zip hp).1⟩
 have Jc:(l.zip (dh H l [])).map (·.1)=l:=List.map_fst_zip (by rw[xy];exact aP _);have hNm:N.map (·.m)=l:=by
  rw[<-hN,List.map_map];exact Jc
 have hNi:N.map eb=l.map (·.id):=by
  rw[<-hNm,List.map_map];rfl
 have Jo:∀m∈l,∀e∈hv H,eb e≠m.id:=fun m hm e he e5=>by
  have g1:=h5 m hm;unfold jw at g1;rw[Bool.or_eq_false_iff]at g1;have g2:m.id%4≠H.id:=by simpa using g1.2
  rcases Nat.lt_or_ge e.j 4 with h7|h7
  ·have :=h.wy e he h7;unfold eb at e5;rw[e5,<-h.hid]at this;exact g2 this
  ·obtain⟨q,a1,x,a2,a3⟩:=vQ.1 he;unfold Ho.all at a1;rw[bp (by rw[hB.ways];exact h7),aG]at a1;obtain⟨z,b1,b2⟩:=Option.map_eq_some_iff.1 a1;have g3:=t2 m hm z (ax b1);rw[b2]at g3;unfold tu at g3;rw[List.any_eq_false]at g3;have :=g3 x a2;unfold K2 at this;have g4:x.m.id=m.id:=by rw[<-e5,a3];rfl
   simp[g4]at this
 have q0:hplays H0 (lN H a l)=({H3 with aC:=H0.aC.set a.toNat (fv H0 a.toNat+1)},true):=oj Y31 h4 ug xy e3;have q1:hplays {H with used:=H.used+1} (lN H a l)=({H2 with aC:=H.aC.set a.toNat (fv H a.toNat+1)},true):=oj (H:={H with used:=H.used+1}) h1 h4 ug xy e2;unfold vF Bq;rw[if_pos hw,if_pos hw];unfold nZ;rw[if_pos he,eL,q1];dsimp only;have WO:((hv H3).map ru).Perm (N.map ru++(hv H0).map ru):=by rw[<-aZ];exact p3.map ru
 have Gj:(WB.hk H2).Perm ((hv H3).map ru):=by
  refine List.Perm.trans ?_ WO.symm;refine List.Perm.trans ?_ ((List.Perm.refl _).append h.Bd);unfold WB.hk;refine((p2.filter _).map _).trans (List.Perm.of_eq ?_);rw[bY,aZ,bJ.2 (fun e he=>by unfold j9;simp[(MQ e he).1])]
 have ry:H2.id=H.id:=s2.id;have kx:bw H2=bw H:=k2;have jy:∀e∈hv H,e∈hv H2:=fun e he=>p2.mem_iff.2 (List.mem_append_right _ he)
 have sM:∀e∈hv H2,(4<=e.j/\e.m∈l)\/e∈hv H:=fun e he=>by
  rcases aO.1 (p2.mem_iff.1 he)with g1|g1
  ·exact .inl ⟨(MQ e g1).2.2.1,(MQ e g1).2.2.2⟩
  ·exact .inr g1
 have xU:∀m∈l,m.id%4≠(k:Int):=fun m hm=>by
  have g1:=h5 m hm;unfold jw at g1;rw[Bool.or_eq_false_iff]at g1;rw[<-h.hid];simpa using g1.2
 refine⟨{H3 with aC:=H0.aC.set a.toNat (fv H0 a.toNat+1),used:=H0.used+1},N.map ru,?_,by rw[List.map_map];exact hNm,fun y hy=>?_,WO,s3.batch,s3.bT,rfl,x3,?_⟩
 ·refine h.zU he (Nat.le_trans dM ah) (Lr _ Q5 ug) lH q0 ry s2.used (by dsimp only;rw[n2];exact n3.trans h.names) (by show bw H3=bw H2;rw[kx];exact k3.trans h.keys) (by dsimp only;rw[s2.batch];exact s3.batch.trans h.bt) (by dsimp only;rw[s2.bT];exact s3.bT.trans h.sn) (by dsimp only;rw[eav,h.av]) kx
   (fun e he=>?_) Gj ?_ (fun e he hj=>?_) (fun e he hj=>?_) (fun e he hj=>?_) (by dsimp only;rw[x3,x2];exact h.nx) (fun u x hx=>?_) fun d i hi=>?_
  ·rcases aO.1 (p3.mem_iff.1 he)with g1|g1
   ·exact⟨(MQ e g1).1,(MQ e g1).2.1⟩
   ·exact h.pc e g1
  ·refine(p2.map eb).nodup_iff.2 ?_;rw[aZ,List.nodup_append,hNi];refine⟨t1,h.u4,fun x hx y hy=>?_⟩;obtain⟨m,hm,rfl⟩:=aB.1 hx;obtain⟨e,he,rfl⟩:=aB.1 hy;exact fun e5=>Jo m hm e he e5.symm
  ·rcases sM e he with g1|g1
   ·omega
   ·exact h.wy e g1 hj
  ·rcases sM e he with g1|g1
   ·exact absurd hj (xU _ g1.2)
   ·rw[show({H2 with aC:=H.aC.set a.toNat (fv H a.toNat+1)}:Ho).next=H.next from x2];exact h.lt e g1 hj
  ·rcases aO.1 (p3.mem_iff.1 he)with g1|g1
   ·exact absurd hj (xU _ (MQ e g1).2.2.2)
   ·rw[show({H3 with aC:=H0.aC.set a.toNat (fv H0 a.toNat+1)}:Ho).next=H0.next from x3];exact h.Mj e g1 hj
  ·have hx:H.ay[u]? =some x:=by rw[<-show H2.ay=H.ay from s2.ay];exact hx
   have ui:=h.unit u x hx;refine UJ.same (H:=H2) ⟨fun p hp=>?_,ui.pn,fun g hg=>?_,ui.gn⟩ rfl rfl rfl
   ·obtain⟨a1,a2,e,a3,a4⟩:=ui.aT p hp;exact⟨fun hh=>by rw[bH kx];exact a1 (by rw[hh,ry]),by rw[ry];exact a2,e,jy e a3,by rw[ei kx ry];exact a4⟩
   ·obtain⟨i,a1,e,a2,a3⟩:=ui.aY g hg;exact⟨i,by rw[bH kx];exact a1,e,jy e a2,a3⟩
  ·have hi:i∈cJ H d:=by unfold cJ at hi ⊢;rw[<-show H2.batch=H.batch from s2.batch];exact hi
   obtain⟨y,hy,a1,a2⟩:=h.bin d i hi;exact⟨y,Gj.mem_iff.2 (WO.mem_iff.2 (List.mem_append_right _ (h.Bd.mem_iff.1 hy))),a1,a2⟩
 ·obtain⟨e,he,rfl⟩:=aB.1 hy;exact(MQ e he).2.2.1
 ·unfold fv;rw[show({H2 with aC:=H.aC.set a.toNat (H.aC.getD a.toNat 0+1)}:Ho).aC=H.aC.set a.toNat (H.aC.getD a.toNat 0+1)from rfl,pa (by rw[hB.aC];exact hj),if_pos rfl]
theorem HI.U3(h:HI k H D H0){a num:Int}{l:List Ms}(hl:l.length<=250)(hp:DH H a num l=false\/ec H D≠0):HI k (vF H D a num l) (Bq H D a num l) H0:=by
 unfold vF Bq;by_cases h1:DH H a num l=true
 ·rw[if_pos h1,if_pos h1];rcases hp with hp|hp
  ·rw[hp]at h1;cases h1
  ·obtain⟨g1,-,-,h4,-,-⟩:=sd h1;have hr:=b_.1 g1;have Q5:=eV h4;have ug:=lb (H:=H) Q5 [];obtain⟨lH,dM⟩:=uU (k:=a) ⟨hr.1,hr.2.1⟩ h4 hl ug (lf H l []);unfold nZ;rw[if_neg hp];exact h.fail (Nat.le_trans dM ah) (Lr _ Q5 ug) hp
 ·rw[if_neg h1,if_neg h1];exact h
end
def iZ (l:List Ri):List Ri:=(l.filter fun e=>decide (e.put<0)).map fun e=>⟨e.m,-1,-1⟩
theorem G7(l:List Ri){u:Int}(hu:0<=u):iZ (dL l u true)=iZ l:=by
 unfold iZ dL;rw[if_neg ae,List.filter_map,List.map_map,dm];have e:((fun e:Ri=>(⟨e.m,-1,-1⟩:Ri))∘fB u)=fun e=>⟨e.m,-1,-1⟩:=rfl
 rw[e];congr 1;apply List.filter_congr;intro e _;unfold fB kL;dsimp only[Function.comp];by_cases h:e.put=u
 ·have :¬u<0:=by omega
  simp[h,this]
 ·simp[h]
def DK (e:Ri):Prop:=(-1<=e.put/\e.put<5)/\ -1<=e.gC/\e.gC<5
def FH (l:List Ri):List Ri:=(List.range 5).foldl (fun l (u:Nat)=>dL l (u:Int) true) l
theorem Tl{l:List Ri}{k:Nat}(h:∀e∈l,(e.put= -1\/(k:Int)<=e.put)/\(e.gC= -1\/(k:Int)<=e.gC)):∀e∈dL l (k:Int) true,(e.put= -1\/((k+1:Nat):Int)<=e.put)/\(e.gC= -1\/((k+1:Nat):Int)<=e.gC):=fun e he=>by
 unfold dL at he;rw[if_neg ae]at he;obtain⟨a,ha,rfl⟩:=aB.1 he;obtain⟨h1,h2⟩:=aF.1 ha;have h3:=h a h1;unfold kL at h2;simp only[Bool.and_true,Bool.not_true,Bool.and_false,Bool.or_false,Bool.not_eq_true',decide_eq_false_iff_not]at h2;unfold fB;dsimp only;rw[if_neg h2];constructor
 ·omega
 ·split<;>omega
theorem zC{l:List Ri}(h:∀e∈l,DK e)(u:Int)(b:Bool):∀e∈dL l u b,DK e:=fun e he=>by
 unfold dL at he;split at he
 ·exact h e he
 ·obtain⟨a,ha,rfl⟩:=aB.1 he;have :=h a (aF.1 ha).1;unfold DK fB at *;dsimp only;constructor
  ·split<;>omega
  ·split<;>omega
theorem L8{l:List Ri}(h:∀e∈l,DK e):FH l=iZ l:=by
 have key:∀k,k<=5->iZ ((List.range k).foldl (fun l (u:Nat)=>dL l (u:Int) true) l)=iZ l/\(∀e∈(List.range k).foldl (fun l (u:Nat)=>dL l (u:Int) true) l,((e.put= -1\/(k:Int)<=e.put)/\(e.gC= -1\/(k:Int)<=e.gC))/\DK e):=by
  intro k
  induction k with
  |zero=>
   intro _;refine⟨rfl,fun e he=>⟨?_,h e he⟩⟩;have :=h e he;unfold DK at this;omega
  |succ k ih=>
   intro hk;obtain⟨h1,h2⟩:=ih ae;rw[List.range_succ,List.foldl_append,List.foldl_cons,List.foldl_nil];refine⟨(G7 _ ae).trans h1,fun e he=>⟨Tl (fun e he=>(h2 e he).1) e he,zC (fun e he=>(h2 e he).2) _ _ e he⟩⟩
 obtain⟨h1,h2⟩:=key 5 (aP 5)
 show FH l=_
 unfold FH;rw[<-h1];generalize (List.range 5).foldl (fun l (u:Nat)=>dL l (u:Int) true) l=m at h2;unfold iZ;have e1:∀e∈m,e.put= -1/\e.gC= -1:=fun e he=>by
  obtain⟨h3,h4⟩:=h2 e he;unfold DK at h4;omega
 rw[bJ.2 fun e he=>by simp[(e1 e he).1]];symm
 conv=>rhs;rw[<-List.map_id m]
 apply List.map_congr_left;intro e he;obtain⟨a,b⟩:=e1 e he;cases e
 simp only at a b;subst a;subst b;rfl
theorem P1(l:List Ri)(m:Ms):iZ (eT l m (-1))=eT (iZ l) m (-1):=by
 unfold iZ eT sY;simp
theorem uI{l:List Ri}(h:(l.map (·.m.id)).Nodup)(i:Int):dR l i=l.filter fun e=> !decide (e.m.id=i):=by
 unfold dR;cases hr:pT l i with
 |none=>
  symm;rw[bJ];intro e he;unfold pT at hr;have :=List.findIdx?_eq_none_iff.1 hr e he;unfold sZ at this;simpa using this
 |some k=>
  obtain⟨hk,hb,_⟩:=List.findIdx?_eq_some_iff_getElem.1 hr;have :=kf (key:=fun x:Ri=>x.m.id) h (ak hk);dsimp only;rw[this];unfold sZ at hb;simp only[decide_eq_true_eq]at hb;rw[hb]
theorem Tv(l:List Ri):((iZ l).map (·.m.id)).Sublist (l.map (·.m.id)):=by
 unfold iZ;rw[List.map_map];exact List.filter_sublist.map _
theorem G6{l:List Ri}(h:(l.map (·.m.id)).Nodup)(i:Int):iZ (dR l i)=dR (iZ l) i:=by
 rw[uI h,uI (h.sublist (Tv l))];unfold iZ;rw[List.filter_map,dm,dm];congr 1;apply List.filter_congr;intro e _;exact Bool.and_comm _ _
theorem Cu(l:List Ri)(i:Int):((dR l i).map (·.m.id)).Sublist (l.map (·.m.id)):=by
 unfold dR;split
 ·exact .refl _
 ·exact(List.eraseIdx_sublist _ _).map _
def l8 (A:List (List Ri)) (l:List (Ms×Nat)):List (List Ri):=l.foldl (fun A d=>A.set d.2 (eT (A.getD d.2 []) d.1 (-1))) A
def sG (A:List (List Ri)) (l:List (Int×Nat)):List (List Ri):=l.foldl (fun A g=>A.set g.2 (dR (A.getD g.2 []) g.1)) A
theorem Ap(A:List (List Ri))(j:Nat):(A.map iZ).getD j []=iZ (A.getD j []):=by
 rw[au,aG,au];cases A[j]? <;>rfl
theorem zI:∀(l:List (Ms×Nat)) (A:List (List Ri)),(l8 A l).map iZ=l8 (A.map iZ) l
 |[],_=>rfl
 |d::l,A=>by
  show(l8 (A.set d.2 _) l).map iZ=l8 ((A.map iZ).set d.2 _) l
  rw[zI l,List.map_set,P1,Ap]
theorem Fp:∀(l:List (Int×Nat)) (A:List (List Ri)),(∀a∈A,(a.map (·.m.id)).Nodup)->(sG A l).map iZ=sG (A.map iZ) l
 |[],_,_=>rfl
 |g::l,A,h=>by
  have hg:((A.getD g.2 []).map (·.m.id)).Nodup:=by
   rw[au];cases hj:A[g.2]? with
   |none=>exact List.nodup_nil
   |some a=>exact h a (ax hj)
  show(sG (A.set g.2 _) l).map iZ=sG ((A.map iZ).set g.2 _) l
  rw[Fp l,List.map_set,G6 hg,Ap];intro a ha;rcases aD ha with h1|rfl
  ·exact h a h1
  ·exact hg.sublist (Cu _ _)
structure QA (L:List Qu) (A:List (List Ri)):Prop where
 len:L.length=A.length
 rel:∀(j:Nat) q l,L[j]? =some q->A[j]? =some l->∃n,ej n q l
theorem QA.set{L:List Qu}{A:List (List Ri)}(h:QA L A){q:Qu}{l:List Ri}(hq:∃n,ej n q l)(j:Nat):QA (L.set j q) (A.set j l):=by
 refine⟨by simp[h.len],fun i q' l' h1 h2=>?_⟩;rw[List.getElem?_set]at h1 h2;by_cases e:j=i
 ·rw[if_pos e]at h1 h2;split at h1
  ·rw[if_pos (by rw[<-h.len];assumption)]at h2;cases h1;cases h2
   exact hq
  ·cases h1
 ·rw[if_neg e]at h1 h2;exact h.rel i q' l' h1 h2
theorem QA.map{L:List Qu}{A:List (List Ri)}(h:QA L A){f:Qu->Qu}{g:List Ri->List Ri}(hf:∀n q l,ej n q l->∃n,ej n (f q) (g l)):QA (L.map f) (A.map g):=by
 refine⟨by simp[h.len],fun j q l h1 h2=>?_⟩;rw[aG]at h1 h2;obtain⟨q0,h3,rfl⟩:=Option.map_eq_some_iff.1 h1;obtain⟨l0,h4,rfl⟩:=Option.map_eq_some_iff.1 h2;obtain⟨n,hn⟩:=h.rel j q0 l0 h3 h4;exact hf n q0 l0 hn
theorem QA.get{L:List Qu}{A:List (List Ri)}(h:QA L A){j:Nat}{q:Qu}(hq:L[j]? =some q):∃n,ej n q (A.getD j []):=by
 have hj:=(aw.1 hq).1;have h2:A[j]? =some (A.getD j []):=by rw[au,ak (by rw[<-h.len];exact hj)];rfl
 exact h.rel j q _ hq h2
theorem QA.snoc{L:List Qu}{A:List (List Ri)}(h:QA L A):QA (L++[⟨[],0⟩]) (A++[[]]):=by
 refine⟨by simp[h.len],fun j q l h1 h2=>?_⟩;rcases Nat.lt_or_ge j L.length with hj|hj
 ·rw[List.getElem?_append_left hj]at h1;rw[List.getElem?_append_left (by rw[<-h.len];exact hj)]at h2;exact h.rel j q l h1 h2
 ·rw[bp hj]at h1;rw[bp (by rw[<-h.len];exact hj),<-h.len]at h2;have :=(aw.1 h1).1;have h0:j-L.length=0:=by simp at this;omega
  rw[h0]at h1 h2;cases h1;cases h2
  exact⟨0,FJ⟩
theorem QA.mem{L:List Qu}{A:List (List Ri)}(h:QA L A){j:Nat}{e:Ri}(he:e∈A.getD j []):∃e'∈vw L,e'.j=j/\e'.m=e.m/\e'.put=e.put/\e'.gC=e.gC:=by
 rw[au]at he;cases hj:A[j]? with
 |none=>rw[hj]at he;cases he
 |some l=>
  rw[hj]at he;have hl:=(aw.1 hj).1;have hlL:j<L.length:=by rw[h.len];exact hl
  have hq:L[j]? =some L[j]:=ak hlL;obtain⟨n,hn⟩:=h.rel j _ l hq hj;have h1:=(nN hn.rk).mem_iff.2 he;rw[<-hn.rel]at h1;obtain⟨x,hx,rfl⟩:=aB.1 h1;exact⟨kZ j x,vQ.2 ⟨_,hq,x,hx,rfl⟩,rfl,rfl,rfl,rfl⟩
theorem QA.nodup{L:List Qu}{A:List (List Ri)}(h:QA L A):∀a∈A,(a.map (·.m.id)).Nodup:=fun a ha=>by
 obtain⟨j,hj,rfl⟩:=List.getElem_of_mem ha;have hjL:j<L.length:=by rw[h.len];exact hj
 obtain⟨n,hn⟩:=h.rel j L[j] A[j] (ak hjL) (ak hj);exact hn.ids
theorem QA.uE{q:Qu}{l:List Ri}:∀(is:List Int) {q:Qu} {l:List Ri} {n:Int},ej n q l->ej n (dx q is) (is.foldl dR l)
 |[],_,_,_,h=>h
 |i::is,_,_,_,h=>QA.uE (q:=q) (l:=l) is (h.take i).2.2
section
variable {n:Nat} {H H1:Ho} {A:List (List Ri)}
theorem Ot(hB:cx n H){m:Ms}(hr:bD m=true)(hq:m.bF=H.id->∃i,H.qI m.queue=some i)(h:gG H m=some H1):∃q,H.all[kM H m]? =some q/\H1.all=H.all.set (kM H m) (dr q m (-1)):=by
 obtain⟨m1,m2,m3,m4,-,-,m7,m8⟩:=bG hr;unfold gG at h;unfold kM;dsimp only at h;by_cases hm:m.bF≠H.id
 ·rw[if_pos hm]at h ⊢;cases h
  have hj:m.bF.toNat<4:=by omega
  refine⟨H.iY m.bF.toNat,pB hB.ways hj,?_⟩;rw[ko (by show m.bF.toNat<H.ways.length;rw[hB.ways];exact hj)]
 ·rw[if_neg hm]at h ⊢;obtain⟨i,hi⟩:=hq (by simpa using hm);rw[hi]at h ⊢;dsimp only at h;cases h
  refine⟨H.dZ i,l9 hB.ways (fC hi).1,?_⟩;rw[iy (by exact hB.ways)];rfl
theorem D1:∀(l:List Ms) {n:Nat} {H:Ho} {A:List (List Ri)},cx n H->QA H.all A->(∀m∈l,bD m=true/\(m.bF=H.id->∃i,H.qI m.queue=some i))->(l.map (·.id)).Nodup->(∀m∈l,∀e∈hv H,eb e≠m.id)->
 QA (fW H l).1.all (l8 A (l.map fun m=>(m,kM H m)))
 |[],_,_,_,_,h,_,_,_=>h
 |m::l,n,H,A,hB,h,hl,hn,hf=>by
  obtain⟨hr,hq⟩:=hl m ai;obtain⟨H1,e1,p1,k1,n1,x1,s1⟩:=CN hB hr hq;obtain⟨q,UG,wH⟩:=Ot hB hr hq e1;rw[aJ,bL]at hn;have h1:QA H1.all (A.set (kM H m) (eT (A.getD (kM H m) []) m (-1))):=by
   rw[wH];obtain⟨k,hk⟩:=h.get UG;have hm:=bG hr;refine h.set ⟨k+1,hk.oD ⟨hm.2.2.1,hm.2.2.2.1⟩ (fun e he=>?_) (-1)⟩ _;obtain⟨e',a,-,b,-⟩:=h.mem he;have :=hf m ai e' a;unfold eb at this;rw[b]at this;exact this
  have :=D1 l (hB.R6 hr e1) h1 (fun m' Il=>by
   obtain⟨a,b⟩:=hl m' (by simp[Il])
   exact⟨a,fun hh=>by rw[bH k1];exact b (by rw[hh,s1.id])⟩) hn.2 (fun m' Il e he=>by
   rcases aK.1 (p1.mem_iff.1 he)with rfl|he
   ·exact fun e2=>hn.1 (by rw[show m.id=m'.id from e2];exact List.mem_map_of_mem (f:=fun m:Ms=>m.id) Il)
   ·exact hf m' (by simp[Il]) e he)
  rw[fW,e1];have e2:(l.map fun m=>(m,kM H1 m))=l.map fun m=>(m,kM H m):=List.map_congr_left fun m' _=>by rw[ei k1 s1.id]
  rw[e2]at this;exact this
theorem MS{g:Int×aj}(hg:o5 g.1){i:Nat}(hq:H.qI g.2=some i)(h:gV H (gh g)=some H1):H1=H.eA i (eF (H.dZ i) g.1):=by
 unfold gV at h;rw[Lp]at h;dsimp only at h;rw[jD hg]at h;dsimp only at h;rw[hq]at h;dsimp only at h;split at h
 ·cases h;rfl
 ·cases h
theorem Ld:∀(l:List (Int×aj)) {H H':Ho} {A:List (List Ri)},H.ways.length=4->QA H.all A->(∀g∈l,o5 g.1/\∃i,H.qI g.2=some i)->gH H (l.map gh)=(H',true)->
 QA H'.all (sG A (l.map fun g=>(g.1,4+(H.qI g.2).getD 0)))
 |[],H,H',A,_,h,_,e=>by cases e;exact h
 |g::l,H,H',A,hw,h,hl,e=>by
  obtain⟨hg,i,hi⟩:=hl g ai;rw[aJ,gH]at e;cases e1:gV H (gh g)with
  |none=>rw[e1]at e;cases e
  |some H1=>
   rw[e1]at e;dsimp only at e;have :=MS hg hi e1;subst this;have k1:bw (H.eA i (eF (H.dZ i) g.1))=bw H:=by unfold bw;exact ia i _
   have h1:QA (H.eA i (eF (H.dZ i) g.1)).all (A.set (4+i) (dR (A.getD (4+i) []) g.1)):=by
    rw[iy hw];obtain⟨k,hk⟩:=h.get (l9 hw (fC hi).1);exact h.set ⟨k,(hk.take g.1).2.2⟩ _
   have :=Ld l (H:=H.eA i (eF (H.dZ i) g.1)) hw h1 (fun g' Q9=>by
    obtain⟨a,j,b⟩:=hl g' (by simp[Q9])
    exact⟨a,j,by rw[bH k1];exact b⟩) e
   have e2:(l.map fun g'=>(g'.1,4+((H.eA i (eF (H.dZ i) g.1)).qI g'.2).getD 0))=l.map fun g'=>(g'.1,4+(H.qI g'.2).getD 0):=List.map_congr_left fun g' _=>by rw[bH k1]
   rw[e2]at this;rw[aJ,hi];exact this
theorem Ll{x:pI}{A:List (List Ri)}(hB:cx n H)(hx:f_ x)(hqa:QA H.all A)(hn:((hv H).map eb).Nodup)(hp:∀p∈x.aT,p.1.bF=H.id->∃i,H.qI p.1.queue=some i)(hpn:(x.aT.map fun p=>p.1.id).Nodup)(hpf:∀p∈x.aT,∀e∈hv H,eb e≠p.1.id)(WG:(x.aY.map (·.1)).Nodup)(hg:∀g∈x.aY,∃i,H.qI g.2=some i/\∃e∈hv H,e.j=4+i/\eb e=g.1):
 QA (eK H (mB x)).1.all (sG (l8 A (x.aT.map fun p=>(p.1,kM H p.1))) (x.aY.map fun g=>(g.1,4+(H.qI g.2).getD 0))):=by
 have hl:∀m∈x.aT.map (·.1),bD m=true/\(m.bF=H.id->∃i,H.qI m.queue=some i):=fun m hm=>by
  obtain⟨p,vM,rfl⟩:=aB.1 hm;exact⟨hx.aT p vM,hp p vM⟩
 have h1:=D1 (x.aT.map (·.1)) hB hqa hl (by rw[List.map_map];exact hpn) (fun m hm e he=>by
  obtain⟨p,vM,rfl⟩:=aB.1 hm
  exact hpf p vM e he)
 obtain⟨H1,e1,p1,k1,n1,s1,-,-,-,kG⟩:=vY (x.aT.map (·.1)) hB hl;rw[List.map_map,e1]at h1;obtain⟨H2,e2,-⟩:=pq hB hx hn hp hpn hpf WG hg;have Bl:eK H (mB x)=if cY (x.aY.map gh) plus=⟨#[]⟩then(H1,true)else gH H1 (dH 43 (cY (x.aY.map gh) plus)):=by
  unfold eK;have Pc:=hx.read;rw[hx.cut]at Pc ⊢;dsimp only at Pc ⊢;rw[if_neg ai,Pc];dsimp only;rw[e1];rfl
 by_cases h0:x.aY=[]
 ·rw[Bl,h0];exact h1
 ·obtain⟨t1,t2⟩:=Dh (fun g hg=>(hx.aY g hg).2.2) h0;rw[if_neg t1,t2]at Bl;have e3:gH H1 (x.aY.map gh)=(H2,true):=by rw[<-Bl,e2]
  have :=Ld x.aY kG.ways h1 (fun g Q9=>by
   obtain⟨i,hi,-⟩:=hg g Q9;have :=hx.aY g Q9
   exact⟨⟨by omega,by omega⟩,i,by rw[bH k1];exact hi⟩) e3
  have e4:(x.aY.map fun g=>(g.1,4+(H1.qI g.2).getD 0))=x.aY.map fun g=>(g.1,4+(H.qI g.2).getD 0):=List.map_congr_left fun g' _=>by rw[bH k1]
  rw[e4]at this;rw[e2];exact this
theorem AI:∀(l:List (Ms×aj)) {H:Ho} {A:List (List Ri)},H.ways.length=4->QA H.all A->(∀x∈l,(0<=x.1.pri/\x.1.pri<=9)/\∃i,H.qI x.2=some i)->(l.map (·.1.id)).Nodup->(∀x∈l,∀a∈A,∀e∈a,e.m.id≠x.1.id)->
 QA (ep H l).1.all (l8 A (l.map fun x=>(x.1,4+(H.qI x.2).getD 0)))
 |[],_,_,_,h,_,_,_=>h
 |(m,t)::l,H,A,hw,h,hl,hn,hf=>by
  obtain⟨hm,i,hi⟩:=hl (m,t) ai;have k1:bw (H.eA i (dr (H.dZ i) m (-1)))=bw H:=by unfold bw;exact ia i _
  rw[aJ,bL]at hn;have wF:∀e∈A.getD (4+i) [],∃a∈A,e∈a:=fun e he=>by
   rw[au]at he;cases hj:A[4+i]? with
   |none=>rw[hj]at he;cases he
   |some a=>rw[hj]at he;exact⟨a,ax hj,he⟩
  have h1:QA (H.eA i (dr (H.dZ i) m (-1))).all (A.set (4+i) (eT (A.getD (4+i) []) m (-1))):=by
   rw[iy hw];obtain⟨k,hk⟩:=h.get (l9 hw (fC hi).1);refine h.set ⟨k+1,hk.oD hm (fun e he=>?_) (-1)⟩ _;obtain⟨a,ha,he⟩:=wF e he;exact hf (m,t) ai a ha e he
  have :=AI l (H:=H.eA i (dr (H.dZ i) m (-1))) hw h1 (fun x hx=>by
   obtain⟨a,j,b⟩:=hl x vP
   exact⟨a,j,by rw[bH k1];exact b⟩) hn.2 (fun x hx a ha e he=>by
   rcases aD ha with h2|rfl
   ·exact hf x vP a h2 e he
   ·rcases aO.1 he with he|he
    ·obtain⟨a,ha,he⟩:=wF e he;exact hf x vP a ha e he
    ·rw[List.mem_singleton]at he;subst he
     exact fun e2=>hn.1 (by rw[show m.id=x.1.id from e2];exact List.mem_map_of_mem (f:=fun x:Ms×aj=>x.1.id) hx))
  rw[ep,hi];have e2:(l.map fun x=>(x.1,4+((H.eA i (dr (H.dZ i) m (-1))).qI x.2).getD 0))=l.map fun x=>(x.1,4+(H.qI x.2).getD 0):=List.map_congr_left fun x _=>by rw[bH k1]
  rw[e2]at this;rw[aJ];dsimp only;rw[hi];exact this
end
open Go Go.RowKit
structure UR (H:Ho) (x:pI) (ds:List Dd):Prop where
 aT:x.aT.map (fun p=>(p.1,kM H p.1))=(ds.filter (·.put)).map fun d=>(d.m,d.q)
 aY:x.aY.map (fun g=>(g.1,(H.qI g.2).map (4+ ·)))=(ds.filter fun d=> !d.put).map fun d=>(d.m.id,some d.q)
structure HR (H:Ho) (R:Rh) (H0:Ho):Prop where
 id:H.id=R.id
 nm:iX H.names R.names
 nd:∀x∈R.names,x.name≠cr
 ky:bw H=R.keys
 qa:QA H.all R.all
 q0:QA H0.all (R.all.map iZ)
 nx:H.next=R.count
 n0:H0.next=R.fD
 bt:H.batch=R.bQ
 dn:∀l∈R.bQ,l.Nodup/\l.length<=3
 sn:H.bT=R.made
 av:H.aC=R.aC
 us:((H.used:Nat):Int)=R.used
 dw:H.down=R.down
 rg:∀l∈R.all,∀e∈l,DK e
 un:R.ay.length=5
 ur:∀u,u<5->UR H (H.dW u) (R.uq u)
structure DR (D:Dk) (R:Rh):Prop where
 cut:D.cut=R.off
 left:R.off=true->D.left=R.left/\0<=R.left
 rl: -9223372036854775808<=R.left/\R.left<=9223372036854775807
section
variable {c kb k n:Nat} {H H0:Ho} {D:Dk} {R:Rh}
theorem HR.kI(h:HR H R H0)(s:aj):H.qI s=R.kI s:=by
 rw[oC];unfold Rh.kI;rw[<-h.ky];rfl
theorem DR.same(h:DR D R){R':Rh}(e1:R'.off=R.off)(e2:R'.left=R.left):DR D R':=⟨by rw[e1];exact h.cut,by rw[e1,e2];exact h.left,by rw[e2];exact h.rl⟩
theorem HR.log(h:HR H R H0)(hd:DR D R):ec H D=eB R:=by
 have hu:=h.us;unfold ec jQ eB ou lL;rw[h.dw,hd.cut];cases R.down with
 |true=>rfl
 |false=>
  simp only[Bool.false_eq_true,if_false];by_cases h3:300<=H.used
  ·rw[if_pos h3,if_pos (show 300<=R.used by omega)];rfl
  ·rw[if_neg h3,if_neg (show ¬300<=R.used by omega)];cases ho:R.off with
   |false=>simp
   |true=>
    have :=hd.left ho;rw[this.1];simp
theorem HR.ok(h:HR H R H0)(hd:DR D R)(h0:eB R=0)(s:aj):HR {H with used:=H.used+1} (eP R) H0/\DR (gg H D s) (eP R)/\eP R={R with left:=wrap64 (R.left-1),used:=R.used+1}:=by
 have hL:ec H D=0:=by rw[h.log hd,h0]
 obtain⟨-,eD,hu,ho⟩:=dK hL s;have e:eP R={R with left:=wrap64 (R.left-1),used:=R.used+1}:=by
  unfold eB at h0;unfold eP;split at h0
  ·cases h0
  ·rename_i g1;rw[if_neg g1];split at h0
   ·cases h0
   ·rename_i g2;rw[if_neg g2];split at h0
    ·cases h0
    ·rename_i g3;rw[if_neg g3]
 rw[e];refine⟨⟨h.id,h.nm,h.nd,h.ky,h.qa,h.q0,h.nx,h.n0,h.bt,h.dn,h.sn,h.av,?_,h.dw,h.rg,h.un,fun u hu=>?_⟩,?_,rfl⟩
 ·have :=h.us;dsimp only;omega
 ·have :=h.ur u hu;exact⟨this.aT,this.aY⟩
 ·rw[eD];unfold fq;rw[if_neg ho];refine⟨hd.cut,fun h1=>?_,wrap64_in _⟩;have h2:=hd.left h1;have h3:=hd.rl;dsimp only;have h4:R.left≠0:=fun e4=>ho (by unfold lL;rw[hd.cut,show R.off=true from h1,h2.1,e4];rfl)
  have h5:wrap64 (R.left-1)=R.left-1:=by unfold wrap64;omega
  rw[h5,h2.1];exact⟨rfl,by omega⟩
theorem HR.bad(h:HR H R H0)(hd:DR D R)(h0:eB R≠0)(s:aj):HR (eC H D) (eP R) H0/\DR (gg H D s) (eP R):=by
 have hL:=h.log hd;have hdw:=h.dw;have Je:=h.us;unfold eB at h0;unfold eP eC gg jQ;rw[hdw];by_cases g1:R.down=true
 ·rw[if_pos g1,if_pos g1,if_pos ah,if_pos ah];exact⟨h,hd⟩
 ·rw[if_neg g1]at h0 ⊢;rw[if_neg g1];by_cases g2:300<=R.used
  ·rw[if_pos g2,if_pos (show 300<=H.used by omega),if_pos ah,if_pos ah];exact⟨h,hd⟩
  ·rw[if_neg g2]at h0 ⊢;rw[if_neg (show ¬300<=H.used by omega),if_neg (show ¬(0:Int)≠0 by decide),if_neg (show ¬(0:Int)≠0 by decide)];by_cases g3:R.off=true/\R.left=0
   ·rw[if_pos g3];have h2:=hd.left g3.1;have ho:lL D=true:=by unfold lL;rw[hd.cut,g3.1,h2.1,g3.2];rfl
    rw[if_pos (by unfold ou;rw[if_pos ho];decide)];refine⟨⟨h.id,h.nm,h.nd,h.ky,h.qa,h.q0,h.nx,h.n0,h.bt,h.dn,h.sn,h.av,h.us,rfl,h.rg,h.un,fun u hu=>?_⟩,?_⟩
    ·have :=h.ur u hu;exact⟨this.aT,this.aY⟩
    ·unfold fq;rw[if_pos ho];split
     ·exact⟨hd.cut,hd.left,hd.rl⟩
     ·exact⟨hd.cut,hd.left,hd.rl⟩
   ·rw[if_neg g3]at h0;exact absurd rfl h0
theorem UR.ext{x:pI}{ds:List Dd}(h:UR H x ds){H':Ho}(hq:∀s i,H.qI s=some i->H'.qI s=some i)(hi:H'.id=H.id)(hp:∀p∈x.aT,p.1.bF=H.id->∃i,H.qI p.1.queue=some i):UR H' x ds:=by
 refine⟨h.aT▸List.map_congr_left fun p vM=>?_,h.aY▸List.map_congr_left fun g hg=>?_⟩
 ·unfold kM;rw[hi];by_cases e:p.1.bF≠H.id
  ·rw[if_pos e,if_pos e]
  ·rw[if_neg e,if_neg e];obtain⟨i,h1⟩:=hp p vM (by simpa using e);rw[h1,hq _ _ h1]
 ·have h1:(g.1,(H.qI g.2).map (4+ ·))∈(ds.filter fun d=> !d.put).map fun d=>(d.m.id,some d.q):=by
   rw[<-h.aY];exact List.mem_map_of_mem (f:=fun g:Int×aj=>(g.1,(H.qI g.2).map (4+ ·))) hg
  obtain⟨d,-,h2⟩:=aB.1 h1;simp only[Prod.mk.injEq]at h2;obtain⟨i,h3,-⟩:=Option.map_eq_some_iff.1 h2.2.symm;rw[h3,hq _ _ h3]
theorem Rv(l:List Qu):vw (l++[⟨[],0⟩])=vw l:=by
 unfold vw;rw[List.zipIdx_append,List.flatMap_append];simp[Re]
theorem qc{x:Nm}(h:cu H.names x=0):eS H x={H with names:=eE H.names x,aI:=if x.gK=⟨#[]⟩/\H.qI x.name=none then H.aI++[(x.name,⟨[],0⟩)]else H.aI}:=by
 unfold eS;rw[if_pos h]
theorem K5{x:Nm}(h:cu H.names x=0):hv (eS H x)=hv H:=by
 rw[qc h];unfold hv Ho.all;dsimp only;split
 ·rw[aZ,<-aR];exact Rv _
 ·rfl
theorem K4{x:Nm}(h:cu H.names x=0){s:aj}{i:Nat}(hi:H.qI s=some i):(eS H x).qI s=some i:=by
 rw[qc h];by_cases hc:x.gK=⟨#[]⟩/\H.qI x.name=none
 ·rw[if_pos hc];exact KH hi
 ·rw[if_neg hc];exact hi
theorem MC{x:Nm}(h:cu H.names x=0){H':Ho}(h':cu H'.names x=0)(hk:bw H'=bw H):bw (eS H' x)=bw (eS H x):=by
 rw[qc h,qc h'];unfold bw at *;dsimp only;rw[show H'.qI x.name=H.qI x.name from bH (H:=H) (H':=H') hk x.name];split
 ·rw[aZ,aZ,hk]
 ·exact hk
theorem UJ.ext{u:Nat}{x:pI}(h:UJ H u x){H':Ho}(hq:∀s i,H.qI s=some i->H'.qI s=some i)(hi:H'.id=H.id)(hh:hv H'=hv H):UJ H' u x:=by
 refine⟨fun p hp=>?_,h.pn,fun g hg=>?_,h.gn⟩
 ·obtain⟨a,b,e,he,r1,r2⟩:=h.aT p hp;refine⟨fun h1=>?_,by rw[hi];exact b,e,by rw[hh];exact he,?_,r2⟩
  ·obtain⟨i,h2⟩:=a (by rw[h1,hi]);exact⟨i,hq _ _ h2⟩
  ·rw[r1];unfold kM;rw[hi];by_cases e1:p.1.bF≠H.id
   ·rw[if_pos e1,if_pos e1]
   ·rw[if_neg e1,if_neg e1];obtain⟨i,h2⟩:=a (by simpa using e1);rw[h2,hq _ _ h2]
 ·obtain⟨i,a,b⟩:=h.aY g hg;exact⟨i,hq _ _ a,by rw[hh];exact b⟩
theorem rp{x:Nm}(h:jG H D x=0):fh H x=0/\ec H D=0/\cu H.names x=0/\x.name≠cr:=by
 unfold jG at h;by_cases h1:fh H x≠0
 ·rw[if_pos h1]at h;exact absurd h h1
 ·rw[if_neg h1]at h;have h1:fh H x=0:=by simpa using h1
  refine⟨h1,h,?_⟩;unfold fh at h1;by_cases h2:cu H.names x≠0
  ·rw[if_pos h2]at h1;exact absurd h1 h2
  ·rw[if_neg h2]at h1;refine⟨by simpa using h2,fun e=>?_⟩;rw[if_pos e]at h1;cases h1
theorem F1{x:Nm}(h:jG H D x=0):jF H D x=eS {H with used:=H.used+1} x/\jZ H D x=gg H D (jY x):=by
 obtain⟨h1,h2,h3,-⟩:=rp h;obtain⟨eL,-,-,-⟩:=dK h2 (jY x);have h1':¬fh H x≠0:=by simpa using h1
 unfold jF jZ nZ;rw[if_neg h1',if_neg h1',if_pos h2,eL,xB (H:={H with used:=H.used+1}) h3];exact⟨rfl,rfl⟩
theorem HI.Om(h:HI k H D H0)(h2:ec H D=0){s:aj}(hs:s.size<=700000)(hb:p7 124 s)(lH:fp 250 s){H3:Ho}(hp:hplays H0 s=(H3,true)):
 (∃R,kt (gg H D s) R/\nS (gx k) R {H3 with used:=H0.used+1}/\H.used+1=R.length)/\ij (k:Int) (gg H D s)={H3 with used:=H0.used+1}:=by
 obtain⟨R,r1,r2,r3⟩:=h.RZ;obtain⟨-,eD,hu,ho⟩:=dK h2 s;have d:=r1.abm (dC:=H.dC) hs hb lH ho (by rw[<-r3];exact hu);have p:=r2.snoc hp;rw[eD,r3];exact⟨⟨_,d,p,by simp⟩,tB d p⟩
theorem vX{x:Nm}(h:cu H.names x=0):fp 250 (jY x)/\p7 124 (jY x)/\(jY x).size<=700000:=by
 have h1:=mo h;have h2:=zE h1;exact⟨h2.mono ah,P8 h1,by have :=h2.size;omega⟩
theorem HI.name(h:HI k H D H0){x:Nm}(he:jG H D x=0):HI k (jF H D x) (jZ H D x) {eS H0 x with used:=H0.used+1}:=by
 obtain⟨h1,h2,h3,h4⟩:=rp he;obtain⟨e1,e2⟩:=F1 he;have Zd:cu H0.names x=0:=by rw[h.names];exact h3
 obtain⟨q1,q2,q3⟩:=vX h3;obtain⟨i,hi⟩:=h.dead;have tH:hv (eS {H with used:=H.used+1} x)=hv H:=K5 (H:={H with used:=H.used+1}) h3;have Ny:hv (eS H0 x)=hv H0:=K5 Zd;have s1:=r6 {H with used:=H.used+1} x;have s0:=r6 H0 x;have hn:∀{H:Ho},(eS H x).next=H.next:=fun {H}=>by unfold eS;split<;>rfl
 have Jj:∀{H:Ho},cu H.names x=0->(eS H x).names=eE H.names x:=fun {H} hh=>by rw[qc hh]
 have hqI:∀s i,H.qI s=some i->(eS {H with used:=H.used+1} x).qI s=some i:=fun s i hi=>K4 (H:={H with used:=H.used+1}) h3 hi
 rw[e1,e2];refine⟨s1.id.trans h.hid,?_,?_,?_,s0.batch.trans (h.bt.trans s1.batch.symm),s0.bT.trans (h.sn.trans s1.bT.symm),s0.aC.trans (h.av.trans s1.aC.symm),⟨i,hqI _ _ hi⟩,fun e he=>h.pc e (Ny▸he),?_,?_,fun e he=>h.wy e (tH▸he),fun e he=>?_,fun e he=>?_,?_,fun u y hy=>?_,fun d j hj=>?_⟩
 ·rw[s1.used];exact(h.Om h2 q3 q2 q1 (xB Zd)).1
 ·show(eS H0 x).names=_
  rw[Jj Zd,Jj (H:={H with used:=H.used+1}) h3,h.names]
 ·exact MC (H:={H with used:=H.used+1}) h3 Zd h.keys
 ·have :hk (eS {H with used:=H.used+1} x)=hk H:=by unfold hk;rw[tH]
  rw[this]
  show(hk H).Perm ((hv (eS H0 x)).map ru)
  rw[Ny];exact h.Bd
 ·rw[tH];exact h.u4
 ·rw[tH]at he;rw[hn];exact h.lt e he
 ·have he:e∈hv (eS H0 x):=he;rw[Ny]at he
  show _->_<(eS H0 x).next
  rw[hn];exact h.Mj e he
 ·show(eS H0 x).next<=_
  rw[hn,hn];exact h.nx
 ·have :H.ay[u]? =some y:=by rw[<-hy,s1.ay]
  exact(h.unit u y this).ext hqI s1.id tH
 ·have e5:cJ (eS {H with used:=H.used+1} x) d=cJ H d:=by unfold cJ;rw[s1.batch]
  rw[e5]at hj;obtain⟨y,a,b⟩:=h.bin d j hj;exact⟨y,by unfold hk;rw[tH];exact a,b⟩
theorem HI.ZY(h:HI k H D H0){x:Nm}(he:jG H D x≠0):HI k (jF H D x) (jZ H D x) H0:=by
 unfold jG at he;unfold jF jZ;by_cases h1:fh H x≠0
 ·rw[if_pos h1,if_pos h1];exact h
 ·rw[if_neg h1]at he;rw[if_neg h1,if_neg h1];unfold nZ;rw[if_neg he];have h2:cu H.names x=0:=by
   unfold fh at h1;by_cases h2:cu H.names x≠0
   ·rw[if_pos h2]at h1;exact absurd h2 h1
   ·simpa using h2
  obtain⟨q1,q2,q3⟩:=vX h2;exact h.fail q3 q2 he
theorem zY{l:List Nm}{s:aj}{y:Nm}(h:y∈fU l s):y∈l:=by
 unfold fU at h;split at h
 ·exact(List.eraseIdx_sublist _ _).subset h
 ·exact h
theorem Mn{l:List Nm}{x y:Nm}(h:y∈iN l x):y=x\/y∈l:=by
 unfold iN at h;split at h
 ·rcases aO.1 h with h|h
  ·exact .inr (zY h)
  ·exact .inl (List.mem_singleton.1 h)
 ·exact .inr h
theorem HR.jG(h:HR H R H0)(hd:DR D R)(x:Nm):jG H D x=ln R x:=by
 unfold WB.jG fh ln;rw[h.nm.may,h.log hd];by_cases h1:cu H.names x≠0
 ·rw[if_pos h1,if_pos h1,if_pos h1]
 ·rw[if_neg h1,if_neg h1];by_cases h2:x.name=cr
  ·rw[if_pos h2,if_pos h2];rfl
  ·rw[if_neg h2,if_neg h2];rfl
theorem HR.name(h:HR H R H0)(hi:HI k H D H0)(hd:DR D R)(x:Nm):∃H3,HI k (jF H D x) (jZ H D x) H3/\HR (jF H D x) (jt R x) H3/\DR (jZ H D x) (jt R x):=by
 have hE:=h.jG hd x;by_cases he:WB.jG H D x=0
 ·refine⟨_,hi.name he,?_⟩;obtain⟨h1,h2,h3,h4⟩:=rp he;obtain⟨e1,e2⟩:=F1 he;have hW:eB R=0:=by rw[<-h.log hd];exact h2
  obtain⟨g1,g2,g3⟩:=h.ok hd hW (jY x);have eR:jt R x=sI (eP R) x:=by
   unfold jt;rw[if_neg (by rw[h.nm.may];simpa using h3),if_neg h4,if_neg Y70]
  rw[e1,e2,eR];have Zd:cu H0.names x=0:=by rw[hi.names];exact h3
  generalize Ev:({H with used:=H.used+1}:Ho)=H1 at *;have h31:cu H1.names x=0:=by rw[<-Ev];exact h3
  have hqI:∀s i,H1.qI s=some i->(eS H1 x).qI s=some i:=fun s i hi=>K4 h31 hi
  have s1:=r6 H1 x;have wE:H1.ay=H.ay:=by rw[<-Ev]
  have UE:∀(u:Nat) (y:pI),H1.ay[u]? =some y->∀p∈y.aT,p.1.bF=H1.id->∃i,H1.qI p.1.queue=some i:=fun u y hy p hp hh=>by
   rw[wE]at hy;obtain⟨i,Q7⟩:=((hi.unit u y hy).aT p hp).1 (by rw[hh,<-Ev]);exact⟨i,by rw[<-Ev];exact Q7⟩
  have aeB:H0.qI x.name=H1.qI x.name:=by rw[<-Ev];exact bH (H:=H) hi.keys _
  have kR:H1.qI x.name=(eP R).kI x.name:=g1.kI x.name;generalize eP R=R1 at *;have YL:∀u,u<5->UR (eS H1 x) ((eS H1 x).dW u) (R1.uq u):=fun u hu=>by
   have e5:(eS H1 x).dW u=H1.dW u:=by unfold Ho.dW;rw[s1.ay]
   rw[e5];refine(g1.ur u hu).ext hqI s1.id ?_;cases hy:H1.ay[u]? with
   |some y=>
    have :H1.dW u=y:=by unfold Ho.dW;rw[au,hy];rfl
    rw[this];exact UE u y hy
   |none=>
    have :H1.dW u=default:=by unfold Ho.dW;rw[au,hy];rfl
    rw[this];intro p hp;cases hp
  have Jj:iX (eE H1.names x) (iN R1.names x):=g1.nm.set x;have C_:∀y∈iN R1.names x,y.name≠cr:=fun y hy=>by
   rcases Mn hy with rfl|hy
   ·exact h4
   ·exact g1.nd y hy
  rw[qc h31]at YL ⊢;rw[qc Zd,aeB];unfold sI;dsimp only;rw[kR]at YL ⊢;by_cases hc:x.gK=⟨#[]⟩/\R1.kI x.name=none
  ·rw[if_pos hc]at YL ⊢;rw[if_pos hc,if_pos hc];refine⟨⟨g1.id,Jj,C_,?_,?_,?_,g1.nx,g1.n0,g1.bt,g1.dn,g1.sn,g1.av,g1.us,g1.dw,fun l hl=>?_,g1.un,YL⟩,g2.same rfl rfl⟩
   ·unfold bw sK;dsimp only;rw[aZ,<-g1.ky];rfl
   ·unfold sK Ho.all;dsimp only;rw[aZ,<-aR];exact g1.qa.snoc
   ·unfold sK Ho.all;dsimp only;rw[aZ,<-aR,aZ];exact g1.q0.snoc
   ·rcases aO.1 hl with hl|hl
    ·exact g1.rg l hl
    ·rw[List.mem_singleton]at hl;subst hl;intro e fX;cases fX
  ·rw[if_neg hc]at YL ⊢;rw[if_neg hc,if_neg hc];exact⟨⟨g1.id,Jj,C_,g1.ky,g1.qa,g1.q0,g1.nx,g1.n0,g1.bt,g1.dn,g1.sn,g1.av,g1.us,g1.dw,g1.rg,g1.un,YL⟩,g2.same rfl rfl⟩
 ·refine⟨H0,hi.ZY he,?_⟩;unfold WB.jG at he;unfold jF jZ jt;rw[h.nm.may];by_cases h1:fh H x≠0
  ·rw[if_pos h1,if_pos h1];unfold fh at h1;by_cases h2:cu H.names x≠0
   ·rw[if_pos h2];exact⟨h,hd⟩
   ·rw[if_neg h2]at h1 ⊢;by_cases h3:x.name=cr
    ·rw[if_pos h3];exact⟨h,hd⟩
    ·rw[if_neg h3]at h1;exact absurd rfl h1
  ·rw[if_neg h1]at he;rw[if_neg h1,if_neg h1];unfold fh at h1;by_cases h2:cu H.names x≠0
   ·rw[if_pos h2]at h1;exact absurd h2 h1
   ·rw[if_neg h2]at h1 ⊢;by_cases h3:x.name=cr
    ·rw[if_pos h3]at h1;exact absurd ah h1
    ·have hW:eB R≠0:=by rw[<-h.log hd];exact he
     rw[if_neg h3,if_pos hW];unfold nZ;rw[if_neg he];exact h.bad hd hW _
theorem Kk{l:List Nm}{s:aj}(hr:∀x∈l,bK x=true)(h:l.any (fun x=>decide (x.name=s))=true):cH s=true:=by
 rw[List.any_eq_true]at h;obtain⟨x,hx,e⟩:=h;rw[decide_eq_true_eq]at e;rw[<-e];exact(gu (hr x hx)).1
theorem Ch(hs:dF H.names){s:aj}(h:oy H s=0):lu H.names s=0:=by
 unfold oy at h;split at h
 ·rename_i h1;rw[List.any_eq_true]at h1;obtain⟨x,hx,e⟩:=h1;rw[decide_eq_true_eq]at e;have :lk H.names s=some x:=by rw[<-e];exact tM (mg hs) hx
  rw[<-gk hs]at this;unfold lu;cases hh:fc H.names s (bE H.names s)with
  |true=>rfl
  |false=>rw[(oZ _ _).2 hh]at this;cases this
 ·cases h
theorem xC(hs:dF H.names){s:aj}(h:oy H s=0):hplays H (tt s)=(ot H s,true):=by
 unfold hplays tt;rw[n_ ah];dsimp only;rw[if_neg ah,if_pos rfl];unfold wP;rw[Ch hs h];rfl
theorem KF{s:aj}(h:cH s=true):fp 250 (tt s)/\p7 124 (tt s)/\(tt s).size<=700000:=by
 have h1:=(hP h).2;have h2:fp 1 (tt s):=oa ah ah ah ae;exact⟨h2.mono ah,dO (dO (d_ ah) (d_ ah)) (ux ah h),by have :=h2.size;omega⟩
theorem HR.Vu(h:HR H R H0)(hd:DR D R)(s:aj):Vu H D s=zx R s:=by
 unfold WB.Vu oy zx;rw[h.log hd,h.nm.lk,gk h.nm.sorted];have h1:(H.names.any fun x=>decide (x.name=s))=true↔lk H.names s≠none:=by
  unfold lk;rw[Ne,List.find?_eq_none,List.any_eq_true];simp
 by_cases h2:lk H.names s=none
 ·rw[if_pos h2,if_neg (show ¬(H.names.any fun x=>decide (x.name=s))=true from fun g=>(h1.1 g) h2)];rfl
 ·rw[if_neg h2,if_pos (h1.2 h2),if_neg ah];by_cases h3:eB R≠0
  ·rw[if_pos h3]
  ·rw[if_neg h3,h.nm.abC];have :=Ch (H:=H) h.nm.sorted (s:=s) (by unfold oy;rw[if_pos (h1.2 h2)]);rw[this];simpa using h3
theorem HR.IA(h:HR H R H0)(hi:HI k H D H0)(hd:DR D R)(hr:∀x∈H.names,bK x=true)(s:aj):∃H3,HI k (QT H D s) (Up H D s) H3/\HR (QT H D s) (DW R s) H3/\DR (Up H D s) (DW R s):=by
 have h1:(H.names.any fun x=>decide (x.name=s))=true↔lk R.names s≠none:=by
  rw[h.nm.lk,gk h.nm.sorted];unfold lk;rw[Ne,List.find?_eq_none,List.any_eq_true];simp
 unfold QT Up DW;by_cases h2:lk R.names s=none
 ·have h3:oy H s≠0:=by unfold oy;rw[if_neg (fun g=>(h1.1 g) h2)];decide
  rw[if_pos h3,if_pos h3,if_pos h2];exact⟨H0,hi,h,hd⟩
 ·have h3:oy H s=0:=by unfold oy;rw[if_pos (h1.2 h2)]
  rw[if_neg Yq,if_neg Yq,if_neg h2];obtain⟨q1,q2,q3⟩:=KF (Kk hr (h1.2 h2));unfold nZ;by_cases hW:eB R≠0
  ·have he:ec H D≠0:=by rw[h.log hd];exact hW
   rw[if_neg he,if_pos hW];obtain⟨a,b⟩:=h.bad hd hW (tt s);exact⟨H0,hi.fail q3 q2 he,a,b⟩
  ·have hW:eB R=0:=by simpa using hW
   have he:ec H D=0:=by rw[h.log hd];exact hW
   obtain⟨g1,g2,g3⟩:=h.ok hd hW (tt s);obtain⟨eL,-,-,-⟩:=dK he (tt s);have s0:dF H0.names:=by rw[hi.names];exact h.nm.sorted
   have u0:oy H0 s=0:=by unfold oy at h3 ⊢;rw[hi.names];exact h3
   rw[if_pos he,if_neg Y70,eL,xC (H:={H with used:=H.used+1}) h.nm.sorted h3];refine⟨{ot H0 s with used:=H0.used+1},?_,?_,g2.same rfl rfl⟩
   ·refine hi.zU he q3 q2 q1 (xC s0 u0) rfl rfl ?_ hi.keys hi.bt hi.sn hi.av rfl hi.pc hi.Bd hi.u4 hi.wy hi.lt hi.Mj hi.nx (fun u x hx=>(hi.unit u x hx).same rfl rfl rfl) hi.bin;unfold ot;dsimp only;rw[hi.names]
   ·refine⟨g1.id,h.nm.drop s,fun x hx=>h.nd x (zY hx),g1.ky,g1.qa,g1.q0,g1.nx,g1.n0,g1.bt,g1.dn,g1.sn,g1.av,g1.us,g1.dw,g1.rg,g1.un,fun u hu=>?_⟩;have :=g1.ur u hu;exact⟨this.aT,this.aY⟩
end
def gmW (g:Gm):Nat:=if g.f.Xu=true then 1 else 2
def ad3 (W:Wo):Nat:=(W.mc.map gmW).sum
def abq:Nat->Wo->Wo
 |0,W=>W
 |f+1,W=>if W.mc=[]then W else abq f (deW W 0)
def abp (W:Wo):Wo:=abq (ad3 W) W
def clA (W:Wo) (k:Nat):Wo:=if(W.H k).down=true then reH (W.xL k (W.H k,kN (W.D k) (-1))) k else W.xL k (W.H k,kN (W.D k) (-1))
def clP (W:Wo) (k dst:Nat):Wo:=if seE W k dst=0 then abp (seW W k dst)else seW W k dst
def clU (W:Wo):Wo:=abp ((List.range W.hs.length).foldl clA W)
def clQ (n:Nat) (W:Wo) (k:Nat):Wo:=(List.range n).foldl (fun W dst=>clP W k dst) W
def clR (W:Wo):Wo:=(List.range W.hs.length).foldl (clQ W.hs.length) (clU W)
def calm:Nat->Wo->Wo
 |0,W=>W
 |r+1,W=>calm r (clR W)
def Wy (H:Ho):List Ms:=H.aI.flatMap fun q=>ig q.2
def abG (W:Wo) (k dst:Nat):Bool:=decide (cJ (W.H k) dst≠[]/\W.is dst=true/\cb (W.H k) dst=true/\gD (W.H k) dst<=(if cb (W.H dst) k=true then fv (W.H dst) k else 0))
def V3 (W:Wo) (k dst:Nat):List Ms:=if cb (W.H k) dst=true then(ig ((W.H k).iY dst)).filter fun m=> !abG W k dst|| !decide (m.id∈cJ (W.H k) dst)else[]
def aez (W:Wo) (k:Nat):List Ms:=Wy (W.H k)++(List.range 4).flatMap (V3 W k)
def aiN (W:Wo):List Ms:=(List.range W.hs.length).flatMap (aez W)
def nmL (k n:Nat):List Nm:=[⟨PO,O5,((k:Int)+1)%n⟩,⟨O5,⟨#[]⟩,-1⟩,⟨IS,⟨#[]⟩,-1⟩]
def CC (C0:Nat->Ho):Nat->Cr:=fun k=>G3 (C0 k)
def aim (C0:Nat->Ho) (k:Nat) (H:Ho):Nat->Ho:=fun i=>if i=k then H else C0 i
structure GI (n:Nat) (W:Wo) (C0:Nat->Ho) (T:List Ms):Prop where
 hn:W.hs.length=n
 hi:∀(k:Nat) x,W.hs[k]? =some x->HI k x.1 x.2 (C0 k)
 gc:GC n (CC C0) W.mc T
 fresh:∀(k:Nat) x,W.hs[k]? =some x->∀(u:Nat) y,x.1.ay[u]? =some y->∀p∈y.aT,p.1.id∉T.map (·.id)
 YF:∀(k:Nat) x,W.hs[k]? =some x->x.1.names=nmL k n
section
variable {c kb n:Nat} {W:Wo} {C0:Nat->Ho} {T:List Ms}
end
section
variable {c kb n:Nat} {W:Wo} {C0:Nat->Ho} {T:List Ms}
def agS (T:List Ms) (x:pI):List Ms:=(x.aT.map (·.1)++T).filter fun m=> !decide (m.id∈x.aY.map (·.1))
end
section
variable {c kb n:Nat} {W:Wo} {C0:Nat->Ho} {T:List Ms}
def UnS (W W':Wo):Prop:= ∀i,(W'.H i).ay=(W.H i).ay
end
theorem hF.put{c kb k:Nat}{x:Ho×Dk}(h:hF c kb k x)(u:Int)(s:aj)(pri:Int)(body:aj)(hm:∀y∈x.1.ay,y.aT.length+y.aY.length<=600):hF (c+1) kb k (lA x.1 u s pri body,x.2):=by
 by_cases he:gN x.1 u s pri body=0
 ·obtain⟨iq,Bf,Jk,-⟩:=IQ he;obtain⟨hj,-,-⟩:=tv h.B iq;have hB:=h.B.put u s pri body;have e1:lA x.1 u s pri body=cA {x.1.eN (mD x.1 s) (dr (x.1.rI (mD x.1 s)) (fR x.1 s pri body) u)with next:=x.1.next+1} u.toNat ⟨(x.1.dW u.toNat).aT++[(fR x.1 s pri body,(jX x.1 s).2.1)],(x.1.dW u.toNat).aY⟩:=by
   unfold lA;rw[if_pos he];unfold lU;rw[if_pos Bf]
  rw[e1]at hB ⊢;refine⟨(yu _ _).trans h.id,hB.le (by show _<=300+(c+1)+250*(x.1.eN _ _).used;rw[oR];omega),h.len,h.left,h.size,h.nT,fun y hy=>?_,?_,?_⟩
  ·have hy:y∈(x.1.eN (mD x.1 s) (dr (x.1.rI (mD x.1 s)) (fR x.1 s pri body) u)).ay.set u.toNat ⟨(x.1.dW u.toNat).aT++[(fR x.1 s pri body,(jX x.1 s).2.1)],(x.1.dW u.toNat).aY⟩:=hy;rw[jr]at hy;rcases aD hy with h1|rfl
   ·exact⟨(h.ay y h1).1,by have :=(h.ay y h1).2;omega⟩
   ·rcases Nat.lt_or_ge u.toNat x.1.ay.length with hu|hu
    ·have h2:=nb h.B (u:=u.toNat) (by have :=h.B.ay;omega);have h3:=ax h2;obtain⟨a,b⟩:=h.ay _ h3;have h4:=hm _ h3;refine⟨⟨fun p hp=>?_,a.aY,by dsimp only;simp;omega⟩,by dsimp only;simp;omega⟩;rcases aO.1 hp with hp|hp
     ·exact a.aT p hp
     ·simp at hp;subst hp;exact Jk
    ·have :(x.1.dW u.toNat)=⟨[],[]⟩:=by unfold Ho.dW;rw[au,cc hu];rfl
     rw[this];refine⟨⟨fun p hp=>?_,(fun g hg=>by cases hg),by simp⟩,by simp⟩;simp at hp;subst hp;exact Jk
  ·refine WR.of (H:=x.1.eN (mD x.1 s) (dr (x.1.rI (mD x.1 s)) (fR x.1 s pri body) u)) ?_ rfl;unfold Ho.eN;split
   ·rename_i h4;refine h.ways.iG fun e he=>?_
    rcases CM he with rfl|he
    ·exact Jk
    ·rw[abR h.B.ways h4]at he;exact h.ways.at' _ e he
   ·exact h.ways.of rfl
  ·have h1:(x.1.eN (mD x.1 s) (dr (x.1.rI (mD x.1 s)) (fR x.1 s pri body) u)).aI.length=x.1.aI.length:=Cs _ _;have h2:(x.1.eN (mD x.1 s) (dr (x.1.rI (mD x.1 s)) (fR x.1 s pri body) u)).used=x.1.used:=oR _ _
   show(x.1.eN _ _).aI.length<=2+(x.1.eN _ _).used
   rw[h1,h2];exact h.ql
 ·have :lA x.1 u s pri body=x.1:=by unfold lA;rw[if_neg he]
  rw[this];exact h.mono (Nat.le_succ c) (aP _)
theorem W3{H:Ho}{u:Int}{s:aj}(he:gX H u s=0):∃i,H.qI s=some i/\l7 (H.dZ i)=0/\H.down=false/\(s=cr\/cP H.names s=true):=by
 have h0:=he;unfold gX at h0;split at h0
 ·cases h0
 ·cases hq:H.qI s with
  |none=>rw[hq]at h0;cases h0
  |some i=>
   rw[hq]at h0;dsimp only at h0;split at h0
   ·cases h0
   ·rename_i h1;split at h0
    ·cases h0
    ·rename_i h2;refine⟨i,rfl,h0,by simpa using h2,?_⟩;by_cases hd:s=cr
     ·exact .inl hd
     ·cases hl:cP H.names s with
      |true=>exact .inr rfl
      |false=>exact absurd ⟨hd,hl⟩ h1
theorem hF.get{c kb k:Nat}{x:Ho×Dk}(h:hF c kb k x)(u:Int){s:aj}(hs:cH s=true)(hm:∀y∈x.1.ay,y.aT.length+y.aY.length<=600):hF (c+1) kb k (kH x.1 u s,x.2):=by
 by_cases he:gX x.1 u s=0
 ·obtain⟨i,Jf,Bf,-,-⟩:=W3 he;have hB:=h.B.get u s;obtain⟨q,Y_⟩:∃q,uY (x.1.dZ i)=some q:=by
   unfold l7 at Bf;split at Bf
   ·cases Bf
   ·rename_i q NF;exact⟨q,NF⟩
  obtain⟨mV,-,-⟩:=List.findIdx?_eq_some_iff_getElem.1 Y_;have hgm:l6 (x.1.dZ i)=((x.1.dZ i).l[q]).m:=by unfold l6;rw[Y_];dsimp only;rw[j_ (ak mV)]
  have ry:=(h.B.qa (fC Jf).1).ids _ (List.getElem_mem mV);rw[<-hgm]at ry;have e1:kH x.1 u s=cA (x.1.eA i (lz (x.1.dZ i) u)) u.toNat ⟨(x.1.dW u.toNat).aT,(x.1.dW u.toNat).aY++[((l6 (x.1.dZ i)).id,s)]⟩:=by
   unfold kH;rw[if_pos he,Jf];rfl
  rw[e1]at hB ⊢;refine⟨h.id,hB.le (by show _<=300+(c+1)+250*x.1.used;omega),h.len,h.left,h.size,h.nT,fun y hy=>?_,h.ways.of rfl,by show(x.1.eA _ _).aI.length<=_;rw[zk];exact h.ql⟩;have hy:y∈x.1.ay.set u.toNat ⟨(x.1.dW u.toNat).aT,(x.1.dW u.toNat).aY++[((l6 (x.1.dZ i)).id,s)]⟩:=hy;rcases aD hy with h1|rfl
  ·exact⟨(h.ay y h1).1,by have :=(h.ay y h1).2;omega⟩
  ·rcases Nat.lt_or_ge u.toNat x.1.ay.length with hu|hu
   ·have h2:=nb h.B (u:=u.toNat) (by have :=h.B.ay;omega);have h3:=ax h2;obtain⟨a,b⟩:=h.ay _ h3;have h4:=hm _ h3;refine⟨⟨a.aT,fun g hg=>?_,by dsimp only;simp;omega⟩,by dsimp only;omega⟩;rcases aO.1 hg with hg|hg
    ·exact a.aY g hg
    ·simp at hg;subst hg;exact⟨ry.1,ry.2,hs⟩
   ·have :(x.1.dW u.toNat)=⟨[],[]⟩:=by unfold Ho.dW;rw[au,cc hu];rfl
    rw[this];refine⟨⟨(fun p hp=>by cases hp),fun g hg=>?_,by simp⟩,by simp⟩;simp at hg;subst hg;exact⟨ry.1,ry.2,hs⟩
 ·have :kH x.1 u s=x.1:=by unfold kH;rw[if_neg he]
  rw[this];exact h.mono (Nat.le_succ c) (aP _)
theorem hF.bk{c kb k:Nat}{x:Ho×Dk}(h:hF c kb k x)(u:Int):hF c kb k (BP x.1 u,x.2):=by
 have hB:=h.B.bk u;unfold BP at hB ⊢;split
 ·rename_i h0;rw[if_pos h0]at hB;refine⟨h.id,hB.le (by show _<=300+c+250*x.1.used;omega),h.len,h.left,h.size,h.nT,fun y hy=>?_,fun q hq=>?_,by show(cv x.1 u).aI.length<=2+x.1.used;unfold cv;simpa using h.ql⟩
  ·have hy:y∈x.1.ay.set u.toNat cy:=hy;rcases aD hy with h1|rfl
   ·exact h.ay y h1
   ·exact⟨⟨(fun p hp=>by cases hp),(fun g hg=>by cases hg),by decide⟩,aH _⟩
  ·have hq:q∈x.1.ways.map fun q=>fw q u true:=hq
   obtain⟨q0,h1,rfl⟩:=aB.1 hq;intro e he;unfold fw at he;split at he
   ·exact h.ways q0 h1 e he
   ·obtain⟨e0,h2,rfl⟩:=aB.1 he;exact h.ways q0 h1 e0 (aF.1 h2).1
 ·exact h
theorem hF.cm{c kb k:Nat}{x:Ho×Dk}(h:hF c kb k x)(hc:c<=240){u:Nat}(hu:u<5):hF c (kb+1) k (uj x.1 x.2 u,xX x.1 x.2 u):=by
 have Ej:=nb h.B hu;have hum:=ax Ej;obtain⟨El,YS⟩:=h.ay _ hum;have lH:fp 250 (nU (x.1.dW u)):=El.VM ae;have hw:=h.write lH (yU El);by_cases h1:ji x.1 u≠0
 ·unfold uj xX;rw[if_pos h1,if_pos h1];exact h.mono (aP _) (Nat.le_succ _)
 by_cases h2:ec x.1 x.2≠0
 ·unfold uj xX;rw[if_neg h1,if_neg h1,if_pos h2,aE];unfold nZ at hw;rw[if_neg h2]at hw;exact hw
 have hB:=h.B.cm (D:=x.2) (u:Int) fun y hy=>(h.ay y hy).1
 have wE:=Dz (H:=x.1) (D:=x.2) (u:Int);have h1':ji x.1 u=0:=by simpa using h1
 have h2':ec x.1 x.2=0:=by simpa using h2
 have he:yS x.1 x.2 u=0:=by unfold yS;rw[if_neg h1];exact h2'
 rw[if_pos he,aE]at wE;rw[aE]at hB;have eD:xX x.1 x.2 u=gg x.1 x.2 (nU (x.1.dW u)):=by unfold xX;rw[if_neg h1,aE]
 have eH:uj x.1 x.2 u=(eK (cA (cv (eC x.1 x.2) u) u cy) (mB (x.1.dW u))).1:=by
  unfold uj;rw[if_neg h1,if_neg h2,aE]
 obtain⟨eL,-,-,-⟩:=dK h2' (nU (x.1.dW u));have eU:(uj x.1 x.2 u).used=x.1.used+1:=by
  rw[eH,(qh _ _).used,eL];rfl
 refine⟨?_,hB.le (by dsimp only;rw[eU];omega),by dsimp only;rw[eD];exact hw.len,by dsimp only;rw[eD];exact hw.left,by dsimp only;rw[eD];exact hw.size,by dsimp only;rw[eD];exact hw.nT,fun y hy=>?_,?_,?_⟩
 ·dsimp only;rw[eH,(qh _ _).id,eL];exact h.id
 ·dsimp only at hy;rw[wE]at hy;rcases aD hy with h3|rfl
  ·exact h.ay y h3
  ·exact⟨⟨(fun p hp=>by cases hp),(fun g hg=>by cases hg),by decide⟩,aH _⟩
 ·dsimp only;rw[eH];refine GD ?_ _;intro q hq;have hq:q∈(eC x.1 x.2).ways.map fun q=>fw q u true:=hq
  rw[CV]at hq;obtain⟨q0,h1,rfl⟩:=aB.1 hq;intro e he;unfold fw at he;split at he
  ·exact h.ways q0 h1 e he
  ·obtain⟨e0,h2,rfl⟩:=aB.1 he;exact h.ways q0 h1 e0 (aF.1 h2).1
 ·dsimp only;rw[eU,eH,Gz];have h3:(cA (cv (eC x.1 x.2) u) u cy).aI.length=x.1.aI.length:=by
   rw[eL];unfold cA cv;simp
  rw[h3];have :=h.ql;omega
structure DJ where
 n:Nat
 W:Wo
 T:List (Int×Ms)
 P:List (List Ms)
 G:List (List Int)
 ks:List Int
 Ls:List (List Int)
 ok:Bool
def xS:aj:=⟨#[120]⟩
def q3S (k:Nat):aj:=if k=0 then O5 else if k=1 then IS else PO
def ZT (ks:List Int) (x:Int):Option Nat:=ks.findIdx? fun k=>decide (k=x)
def aet (ks:List Int) (x:Int):List Int:=match ZT ks x with|some _=>ks|none=>ks++[x]
def aes (ks:List Int) (Ls:List (List Int)) (x id:Int):List (List Int):=match ZT ks x with|some i=>Ls.set i (Ls.getD i []++[id])|none=>Ls++[[id]]
structure OvS where
 T:List (Int×Ms)
 ks:List Int
 Ls:List (List Int)
def ovP (k:Nat) (s:OvS) (m:Ms):OvS:=
 if m.bF≠(k:Int)then⟨iU s.T m.id m,aet s.ks ((k:Int)*100+m.pri),aes s.ks s.Ls ((k:Int)*100+m.pri) m.id⟩else⟨iU s.T m.id m,s.ks,s.Ls⟩
def ovG (s:List (Int×Ms)×Bool) (id:Int):List (Int×Ms)×Bool:=(JA s.1 id,s.2&&(gj s.1 id).isSome)
def ix (k u:Nat):Nat:=k *5+u
def Vy (S:DJ) (k u:Nat):DJ:=
 let o:=(S.P.getD (ix k u) []).foldl (ovP k) ⟨S.T,S.ks,S.Ls⟩;let g:=(S.G.getD (ix k u) []).foldl ovG (o.T,S.ok)
 {S with T:=g.1,ks:=o.ks,Ls:=o.Ls,ok:=g.2,P:=S.P.set (ix k u) [],G:=S.G.set (ix k u) []}
def ZW {α:Type} (P:List (List α)) (k:Nat):List (List α):=(List.range 5).foldl (fun P u=>P.set (ix k u) []) P
def Ft (S:DJ) (k:Nat):DJ:={S with P:=ZW S.P k,G:=ZW S.G k}
def Vx (n k:Nat) (id pri:Int) (q:aj):Ms:=if q=PO then⟨id,pri,xS,O5,((k:Int)+1)%n⟩else⟨id,pri,xS,q,k⟩
def ZB (S:DJ) (k u:Nat) (q:aj) (pri:Int):DJ:=
 let S1:={S with W:=S.W.xL k (lA (S.W.H k) u q pri xS,S.W.D k)}
 if gN (S.W.H k) u q pri xS=0 then {S1 with P:=S.P.set (ix k u) (S.P.getD (ix k u) []++[Vx S.n k (D4 (S.W.H k) u q pri xS) pri q])}else S1
def ZC (S:DJ) (k u:Nat) (q:aj):DJ:=
 let m:=getM (S.W.H k) u q;let S1:={S with W:=S.W.xL k (kH (S.W.H k) u q,S.W.D k)}
 if gX (S.W.H k) u q=0 then {S1 with ok:=S.ok&&decide ((gj S.T m.id).getD iP=m),G:=S.G.set (ix k u) (S.G.getD (ix k u) []++[m.id])}else S1
def ZD (S:DJ) (k u:Nat):DJ:=
 let S1:={S with W:=S.W.xL k (uj (S.W.H k) (S.W.D k) u,xX (S.W.H k) (S.W.D k) u)}
 if yS (S.W.H k) (S.W.D k) u=0 then Vy S1 k u else S1
def aec (S:DJ) (k u:Nat):DJ:=
 let S1:={S with W:=S.W.xL k (BP (S.W.H k) u,S.W.D k)}
 if AS (S.W.H k) u=0 then {S1 with P:=S.P.set (ix k u) [],G:=S.G.set (ix k u) []}else S1
def Vz (S:DJ) (k:Nat):DJ:=if(S.W.H k).down=true then Ft S k else S
def VA (S:DJ):DJ:={(List.range S.n).foldl Vz S with W:=calm 1 S.W}
def taI (S:DJ) (x:AcK):Int:=if 0<S.W.mc.length then pk x.n (S.W.mc.length:Nat)else 0
def RB (S:DJ) (x:AcK):Nat:=(pk x.k (S.n:Nat)).toNat
def taU (x:AcK):Nat:=(pk x.unit 5).toNat
def aeb (S:DJ) (x:AcK):DJ:=
 if x.cR=0 then ZB S (RB S x) (taU x) (q3S (pk x.n 3).toNat) (pk x.m 3)
 else if x.cR=1 then ZC S (RB S x) (taU x) (if pk x.m 5=0 then cr else q3S (pk x.n 2).toNat)
 else if x.cR=2 then ZD S (RB S x) (taU x)
 else if x.cR=3 then aec S (RB S x) (taU x)
 else if x.cR=4 then {S with W:=seW S.W (RB S x) (((RB S x:Nat)+1)%(S.n:Int))}
 else if x.cR=5 then {S with W:=deW S.W (taI S x)}
 else if x.cR=6 then {S with W:=loW S.W (taI S x)}
 else if x.cR=7 then {S with W:=twW S.W (taI S x)}
 else if x.cR=8 then {S with W:=ad6 S.W (RB S x) (pk x.n 4) (pk x.m 150-1)}
 else if x.cR=9 then {Ft S (RB S x)with W:=wRe S.W (RB S x)}
 else if x.cR=10 then VA S
 else S
section
variable {c kb k n:Nat} {H H0:Ho} {D:Dk} {R:Rh}
theorem HR.lqa(h:HR H R H0){j:Nat}(hj:j<H.all.length):H.all[j]? =some (H.rI j)/\R.all[j]? =some (R.lq j)/\∃n,ej n (H.rI j) (R.lq j):=by
 have h1:H.all[j]? =some (H.rI j):=by unfold Ho.rI;rw[au,ak hj];rfl
 have h2:R.all[j]? =some (R.lq j):=nB (by rw[<-h.qa.len];exact hj);exact⟨h1,h2,h.qa.rel j _ _ h1 h2⟩
theorem HR.res(h:HR H R H0)(s:aj):fg H.names (H.names.length+1) s=dP R s:=by
 unfold dP;exact(h.nm.res s).symm
theorem HR.pl(h:HR H R H0)(s:aj):(jX H s).2.2=(if(dP R s).2.2≠0 then(dP R s).2.2 else if lS R s=R.id/\dJ R.names (dP R s).1=false then 7 else 0)/\
 ((jX H s).2.2=0->mD H s=cT R s/\∀pri body,fR H s pri body=CB R s pri body):=by
 have hid:=h.id;unfold mD cT fR CB;have e:jX H s=if(dP R s).2.2≠0 then(⟨#[]⟩,0,(dP R s).2.2)else if(dP R s).2.1<0\/(dP R s).2.1=R.id then
  if dJ R.names (dP R s).1=false then(⟨#[]⟩,0,7)else((dP R s).1,-1,0)else((dP R s).1,(dP R s).2.1,0):=by
  unfold jX;rw[h.res,hid,h.nm.local]
 rw[e];unfold lS;generalize dP R s=r;by_cases h1:r.2.2≠0
 ·rw[if_pos h1,if_pos h1];exact⟨rfl,fun h2=>absurd h2 h1⟩
 ·rw[if_neg h1,if_neg h1];by_cases h2:r.2.1<0\/r.2.1=R.id
  ·rw[if_pos h2];have h3:(if r.2.1<0 then R.id else r.2.1)=R.id:=by split<;>omega
   rw[h3];cases h4:dJ R.names r.1 with
   |false=>simp
   |true=>
    simp only[Bool.true_eq_false,if_false,and_false,true_and];refine fun _=>⟨?_,fun pri body=>?_⟩
    ·rw[if_pos ah,if_pos trivial,h.kI]
    ·rw[if_pos ah,h.nx,hid]
  ·rw[if_neg h2];have h3:¬r.2.1<0:=fun hh=>h2 (.inl hh)
   have h4:¬r.2.1=R.id:=fun hh=>h2 (.inr hh)
   rw[if_neg h3,if_neg (fun hh=>h4 hh.1),if_neg h4];refine⟨rfl,fun _=>⟨?_,fun pri body=>?_⟩⟩
   ·rw[if_neg h3]
   ·rw[if_neg h3,h.nx,hid]
theorem HR.gN(h:HR H R H0)(hB:cx n H)(u:Int)(s:aj)(pri:Int)(body:aj):gN H u s pri body=fO R u s pri body:=by
 obtain⟨h1,h2⟩:=h.pl s;unfold WB.gN fO;by_cases g1:u<0\/5<=u
 ·rw[if_pos g1,if_pos (show ¬(0<=u/\u<=4)by omega)]
 ·rw[if_neg g1,if_neg (show ¬ ¬(0<=u/\u<=4)by omega)];by_cases g2:(pri<0\/9<pri)\/fJ body=false
  ·rw[if_pos g2,if_pos (by
    rintro⟨a,b,c⟩;rcases g2 with g2|g2
    ·omega
    ·rw[c]at g2;cases g2)]
  ·rw[if_neg g2,if_neg (show ¬ ¬(0<=pri/\pri<=9/\fJ body=true)from fun g=>g ⟨by omega,by omega,by
    cases hb:fJ body with
    |true=>rfl
    |false=>exact absurd (.inr hb) g2⟩)]
   rw[h1];by_cases g3:(dP R s).2.2≠0
   ·rw[if_pos g3,if_pos g3,if_pos g3]
   ·rw[if_neg g3]at h1 ⊢;rw[if_neg g3];by_cases g4:lS R s=R.id/\dJ R.names (dP R s).1=false
    ·rw[if_pos g4,if_pos g4];rfl
    ·rw[if_neg g4]at h1 ⊢;rw[if_neg g4,if_neg ai,h.dw];by_cases g5:R.down=true
     ·rw[if_pos g5,if_pos g5]
     ·rw[if_neg g5,if_neg g5];obtain⟨h3,h4⟩:=h2 h1;rw[h3,h4];obtain⟨a,b,m,hq⟩:=h.lqa (j:=cT R s) (by rw[<-h3];exact(tv hB h1).1);exact hq.gN _
theorem Oc(h:HR H R H0)(hB:cx n H){s:aj}(h1:(jX H s).2.2=0):cT R s<H.all.length:=by
 rw[<-((h.pl s).2 h1).1];exact(tv hB h1).1
theorem pP{α β:Type}{f:α->β}{l:List α}{j:Nat}{a x:α}(h:l[j]? =some a)(e:f x=f a):(l.set j x).map f=l.map f:=by
 rw[List.map_set,e];exact zh (by rw[aG,h];rfl)
theorem uA{us:List pI}{u v:Nat}(hu:u<us.length)(y:pI):(us.set u y).getD v default=if v=u then y else us.getD v default:=by
 rw[au,au,List.getElem?_set];by_cases e:v=u
 ·rw[if_pos e,if_pos e.symm,if_pos hu];rfl
 ·rw[if_neg e,if_neg fun e2=>e e2.symm]
theorem DO{R:Rh}(h:R.ay.length=5){u v:Nat}(hu:u<5)(l:List Dd):(R.ay.set u l).getD v []=if v=u then l else R.uq v:=by
 unfold Rh.uq;rw[au,au,List.getElem?_set];by_cases e:v=u
 ·rw[if_pos e,if_pos e.symm,if_pos ae];rfl
 ·rw[if_neg e,if_neg fun e2=>e e2.symm]
theorem UR.keys{x:pI}{ds:List Dd}(h:UR H x ds){H':Ho}(hk:bw H'=bw H)(hi:H'.id=H.id):UR H' x ds:=by
 refine⟨h.aT▸List.map_congr_left fun p _=>by rw[ei hk hi],h.aY▸List.map_congr_left fun g _=>by rw[bH hk]⟩
theorem JF(l:List Ri)(m:Ms){u:Int}(hu:0<=u):iZ (eT l m u)=iZ l:=by
 unfold iZ eT sY;rw[bY];have :¬u<0:=by omega
 simp[this]
theorem HR.put(h:HR H R H0)(hi:HI k H D H0)(hB:cx n H)(hd:DR D R)(u:Int)(s:aj)(pri:Int)(body:aj):D4 H u s pri body=rf R u s pri body/\HI k (lA H u s pri body) D H0/\HR (lA H u s pri body) (n7 R u s pri body) H0/\DR D (n7 R u s pri body):=by
 have hE:=h.gN hB u s pri body;unfold D4 rf;by_cases he:WB.gN H u s pri body=0
 ·have Db:fO R u s pri body=0:=by rw[<-hE];exact he
  obtain⟨iq,Bf,Jk,-⟩:=IQ he;have QY:0<=u/\u<5:=by
   unfold WB.gN at he;by_cases g:u<0\/5<=u
   ·rw[if_pos g]at he;cases he
   ·omega
  obtain⟨w,rfl⟩:∃w:Nat,u=(w:Int):=⟨u.toNat,by omega⟩;have Aa:w<5:=by omega
  have BK:=(hi.put hB Aa he).1;obtain⟨h3,h4⟩:=(h.pl s).2 iq;have hj:=Oc h hB iq;rw[h3,h4]at Bf;rw[if_pos he,if_neg (by simpa using Db),h4];refine⟨rfl,BK,?_⟩;have e1:lA H w s pri body=cA {H.eN (cT R s) (lU (H.rI (cT R s)) (CB R s pri body) w)with next:=H.next+1} w ⟨(H.dW w).aT++[(CB R s pri body,(jX H s).2.1)],(H.dW w).aY⟩:=by
   unfold lA;rw[if_pos he,h3,h4,aE]
  have e2:n7 R w s pri body={R.ff (cT R s) (eT (R.lq (cT R s)) (CB R s pri body) w)with count:=R.count+1,ay:=R.ay.set w (R.uq w++[⟨true,CB R s pri body,cT R s⟩])}:=by
   unfold n7;rw[if_neg (by simpa using Db),aE]
  have BJ:(CB R s pri body).id=R.count *4+R.id:=rfl;have hjo:kM H (CB R s pri body)=cT R s:=by
   unfold kM cT CB;dsimp only;rw[h.id,h.kI];by_cases g:lS R s=R.id
   ·rw[if_neg (by simpa using g),if_pos g]
   ·rw[if_pos g,if_neg g]
  rw[e1,e2];generalize CB R s pri body=m at *;generalize cT R s=j at *;obtain⟨a1,a2,nn,hq⟩:=h.lqa hj;generalize kF:cA {H.eN j (lU (H.rI j) m w)with next:=H.next+1} w ⟨(H.dW w).aT++[(m,(jX H s).2.1)],(H.dW w).aY⟩=H';have cU:H'.all=H.all.set j (lU (H.rI j) m w):=by
   have h3:H'.all=(H.eN j (lU (H.rI j) m w)).all:=by rw[<-kF];rfl
   rw[h3,AY hB.ways]
  have kx:bw H'=bw H:=by rw[<-kF];exact uG _ _
  have iu:H'.id=H.id:=by rw[<-kF];exact yu _ _
  have wE:H'.ay=H.ay.set w ⟨(H.dW w).aT++[(m,(jX H s).2.1)],(H.dW w).aY⟩:=by rw[<-kF];unfold cA;dsimp only;rw[jr]
  have hrq:iK (R.lq j) m=0:=by rw[<-hq.gN];exact Bf
  have BG:=hq.put m w;have er:q_ (R.lq j) m w=eT (R.lq j) m w:=by unfold q_;rw[if_pos hrq]
  rw[er]at BG;refine⟨⟨iu.trans h.id,?_,h.nd,kx.trans h.ky,?_,?_,?_,h.n0,?_,h.dn,?_,?_,?_,?_,fun l hl=>?_,by show(R.ay.set w _).length=5;rw[List.length_set];exact h.un,fun v hv=>?_⟩,hd.same rfl rfl⟩
  ·rw[show H'.names=H.names from by rw[<-kF];exact sS _ _];exact h.nm
  ·rw[cU];exact h.qa.set ⟨_,BG⟩ j
  ·show QA H0.all ((R.all.set j (eT (R.lq j) m w)).map iZ)
   rw[pP a2 (JF _ _ ae)];exact h.q0
  ·rw[show H'.next=H.next+1 from by rw[<-kF];rfl,h.nx]
  ·rw[show H'.batch=H.batch from by rw[<-kF];exact pR _ _];exact h.bt
  ·rw[show H'.bT=H.bT from by rw[<-kF];exact rR _ _];exact h.sn
  ·rw[show H'.aC=H.aC from by rw[<-kF];exact mr _ _];exact h.av
  ·rw[show H'.used=H.used from by rw[<-kF];exact oR _ _];exact h.us
  ·rw[show H'.down=H.down from by rw[<-kF];unfold cA Ho.eN;dsimp only;split<;>rfl];exact h.dw
  ·rcases aD hl with h1|rfl
   ·exact h.rg l h1
   ·intro e fX;rcases aO.1 fX with fX|fX
    ·exact h.rg _ (ax a2) e fX
    ·rw[List.mem_singleton]at fX;subst fX;unfold DK sY;dsimp only;refine⟨?_,by omega⟩;split<;>omega
  ·have e5:H'.dW v=if v=w then⟨(H.dW w).aT++[(m,(jX H s).2.1)],(H.dW w).aY⟩else H.dW v:=by
    unfold Ho.dW;rw[wE];exact uA (by rw[hB.ay];exact Aa) _
   rw[e5]
   show UR H' _ ((R.ay.set w (R.uq w++[⟨true,m,j⟩])).getD v [])
   rw[DO h.un Aa];by_cases ev:v=w
   ·rw[if_pos ev,if_pos ev];have ui:=(h.ur w Aa).keys kx iu;refine⟨?_,?_⟩
    ·dsimp only;rw[aZ,ui.aT,bY,aZ];simp only[aJ,List.map_nil,c_,List.filter_nil,if_true];rw[ei kx iu,hjo]
    ·dsimp only;rw[ui.aY,bY,aZ];simp
   ·rw[if_neg ev,if_neg ev];exact(h.ur v hv).keys kx iu
 ·have Db:fO R u s pri body≠0:=by rw[<-hE];exact he
  have e1:lA H u s pri body=H:=by unfold lA;rw[if_neg he]
  have e2:n7 R u s pri body=R:=by unfold n7;rw[if_pos Db]
  rw[if_neg he,if_pos Db,e1,e2];exact⟨rfl,hi,h,hd⟩
theorem HR.of(h:HR H R H0)(s:aj):kA R s=match H.qI s with|none=>none|some i=>if s≠cr/\cP H.names s=false then none else some (4+i):=by
 unfold kA;rw[h.nm.local,<-h.kI];cases H.qI s with
 |none=>split<;>rfl
 |some i=>
  dsimp only;by_cases g:s=cr\/cP H.names s=true
  ·rw[if_pos g,if_neg];· rfl
   rintro⟨a,b⟩;rcases g with g|g
   ·exact a g
   ·rw[b]at g;cases g
  ·rw[if_neg g,if_pos];refine⟨fun e=>g (.inl e),?_⟩;cases hl:cP H.names s with
   |false=>rfl
   |true=>exact absurd (.inr hl) g
theorem HR.YD(h:HR H R H0)(hB:cx n H){s:aj}{i:Nat}(hq:H.qI s=some i):H.rI (4+i)=H.dZ i/\R.all[4+i]? =some (R.lq (4+i))/\∃n,ej n (H.dZ i) (R.lq (4+i)):=by
 have h1:=l9 hB.ways (fC hq).1;have h2:=h.lqa (j:=4+i) (aw.1 h1).1;rw[h1]at h2;have h3:=h2.1;simp only[az]at h3;rw[<-h3]at h2;exact⟨h3.symm,h2.2.1,h2.2.2⟩
theorem HR.gX(h:HR H R H0)(hB:cx n H)(u:Int)(s:aj):gX H u s=gM R u s/\getM H u s=nr R u s:=by
 have key:WB.gX H u s=gM R u s:=by
  unfold WB.gX gM;rw[h.of];by_cases g1:u<0\/5<=u
  ·rw[if_pos g1,if_pos (show ¬(0<=u/\u<=4)by omega)]
  ·rw[if_neg g1,if_neg (show ¬ ¬(0<=u/\u<=4)by omega)];cases hq:H.qI s with
   |none=>rfl
   |some i=>
    dsimp only;by_cases g2:s≠cr/\cP H.names s=false
    ·rw[if_pos g2,if_pos g2]
    ·rw[if_neg g2,if_neg g2,h.dw];dsimp only;obtain⟨a,b,m,wH⟩:=h.YD hB hq;rw[(wH.get 0).2.1]
 refine⟨key,?_⟩;unfold getM;rw[key];by_cases hz:gM R u s=0
 ·rw[if_pos hz];unfold gM at hz;unfold nr;by_cases g1:¬(0<=u/\u<=4)
  ·rw[if_pos g1]at hz;cases hz
  ·rw[if_neg g1]at hz ⊢;cases ho:kA R s with
   |none=>rw[ho]at hz;cases hz
   |some q=>
    rw[ho]at hz;dsimp only at hz ⊢;rw[h.of]at ho;cases hq:H.qI s with
    |none=>rw[hq]at ho;cases ho
    |some i=>
     rw[hq]at ho;dsimp only at ho;split at ho
     ·cases ho
     ·cases ho
      by_cases g3:R.down=true
      ·rw[if_pos g3]at hz;cases hz
      ·rw[if_neg g3];obtain⟨a,b,m,wH⟩:=h.YD hB hq;rw[Option.getD_some,(wH.get 0).1]
 ·rw[if_neg hz];unfold gM at hz;unfold nr;by_cases g1:¬(0<=u/\u<=4)
  ·rw[if_pos g1]
  ·rw[if_neg g1]at hz ⊢;cases ho:kA R s with
   |none=>rfl
   |some q=>
    rw[ho]at hz;dsimp only at hz ⊢;by_cases g3:R.down=true
    ·rw[if_pos g3]
    ·rw[if_neg g3]at hz ⊢;unfold qy at hz;unfold kK;cases hr:l5 (R.lq q)with
     |none=>rfl
     |some x=>rw[hr]at hz;exact absurd rfl hz
theorem Tw{l:List Ri}{i:Nat}{x:Ri}(h:l[i]? =some x)(u:Int):iZ (l.set i {x with gC:=u})=iZ l:=by
 have e:∀l:List Ri,iZ l=((l.map fun e=>(e.m,e.put)).filter fun p=>decide (p.2<0)).map fun p=>⟨p.1,-1,-1⟩:=fun l=>by
  unfold iZ;rw[List.filter_map,List.map_map];rfl
 rw[e,e,pP (f:=fun e:Ri=>(e.m,e.put)) (x:={x with gC:=u}) h rfl]
theorem Tx{l:List Ri}{u:Int}(hu:0<=u):iZ (oA l u)=iZ l:=by
 unfold oA;cases hr:l5 l with
 |none=>rfl
 |some i=>
  dsimp only;rw[if_pos hu];have kD:i<l.length:=by
   obtain⟨j,hj,S4⟩:=List.getElem_of_mem (List.mem_of_find?_eq_some hr);exact rS Y25
  have hi:l[i]? =some (lp l i):=by rw[pW (ak kD)];exact ak kD
  exact Tw hi u
theorem RV{l:List Ri}(h:∀e∈l,DK e){u:Int}(hu:0<=u/\u<5):∀e∈oA l u,DK e:=fun e he=>by
 unfold oA at he;cases hr:l5 l with
 |none=>rw[hr]at he;exact h e he
 |some i=>
  rw[hr]at he;dsimp only at he;rw[if_pos hu.1]at he;have kD:i<l.length:=by
   obtain⟨j,hj,S4⟩:=List.getElem_of_mem (List.mem_of_find?_eq_some hr);exact rS Y25
  have hi:l[i]? =some (lp l i):=by rw[pW (ak kD)];exact ak kD
  rcases aD he with h1|rfl
  ·exact h e h1
  ·have :=h _ (ax hi);unfold DK at *;exact⟨this.1,by dsimp only;omega⟩
theorem HR.get(h:HR H R H0)(hi:HI k H D H0)(hB:cx n H)(hd:DR D R)(u:Int)(s:aj):HI k (kH H u s) D H0/\HR (kH H u s) (nt R u s) H0/\DR D (nt R u s):=by
 obtain⟨hE,hM⟩:=h.gX hB u s;by_cases he:WB.gX H u s=0
 ·have Db:gM R u s=0:=by rw[<-hE];exact he
  have QY:0<=u/\u<5:=by
   unfold WB.gX at he;by_cases g:u<0\/5<=u
   ·rw[if_pos g]at he;cases he
   ·omega
  obtain⟨w,rfl⟩:∃w:Nat,u=(w:Int):=⟨u.toNat,by omega⟩;have Aa:w<5:=by omega
  have BK:=(hi.get hB Aa he).1;obtain⟨i,Jf,UK⟩:∃i,H.qI s=some i/\kA R s=some (4+i):=by
   rw[h.of];unfold WB.gX at he;rw[if_neg ae]at he;cases hq:H.qI s with
   |none=>rw[hq]at he;cases he
   |some i=>
    rw[hq]at he;dsimp only at he ⊢;by_cases g:s≠cr/\cP H.names s=false
    ·rw[if_pos g]at he;cases he
    ·rw[if_neg g];exact⟨i,rfl,rfl⟩
  refine⟨BK,?_⟩;obtain⟨b1,b2,nn,hq⟩:=h.YD hB Jf;obtain⟨c1,c2,c3⟩:=hq.get w;have e1:kH H w s=cA (H.eA i (lz (H.dZ i) w)) w ⟨(H.dW w).aT,(H.dW w).aY++[((kK (R.lq (4+i))).id,s)]⟩:=by
   unfold kH;rw[if_pos he,Jf,Option.getD_some,c1,aE]
  have e2:nt R w s={R.ff (4+i) (oA (R.lq (4+i)) w)with ay:=R.ay.set w (R.uq w++[⟨false,kK (R.lq (4+i)),4+i⟩])}:=by
   unfold nt;rw[if_neg (by simpa using Db),UK,aE]
  rw[e1,e2];generalize kK (R.lq (4+i))=m at *;generalize kF:cA (H.eA i (lz (H.dZ i) w)) w ⟨(H.dW w).aT,(H.dW w).aY++[(m.id,s)]⟩=H';have cU:H'.all=H.all.set (4+i) (lz (H.dZ i) w):=by
   have h3:H'.all=(H.eA i (lz (H.dZ i) w)).all:=by rw[<-kF];rfl
   rw[h3,iy hB.ways]
  have kx:bw H'=bw H:=by rw[<-kF];exact ia _ _
  have iu:H'.id=H.id:=by rw[<-kF];rfl
  have wE:H'.ay=H.ay.set w ⟨(H.dW w).aT,(H.dW w).aY++[(m.id,s)]⟩:=by rw[<-kF];rfl
  refine⟨⟨iu.trans h.id,?_,h.nd,kx.trans h.ky,?_,?_,?_,h.n0,?_,h.dn,?_,?_,?_,?_,fun l hl=>?_,by show(R.ay.set w _).length=5;rw[List.length_set];exact h.un,fun v hv=>?_⟩,hd.same rfl rfl⟩
  ·rw[show H'.names=H.names from by rw[<-kF];rfl];exact h.nm
  ·rw[cU];exact h.qa.set ⟨_,c3⟩ (4+i)
  ·show QA H0.all ((R.all.set (4+i) (oA (R.lq (4+i)) w)).map iZ)
   rw[pP b2 (Tx ae)];exact h.q0
  ·rw[show H'.next=H.next from by rw[<-kF];rfl];exact h.nx
  ·rw[show H'.batch=H.batch from by rw[<-kF];rfl];exact h.bt
  ·rw[show H'.bT=H.bT from by rw[<-kF];rfl];exact h.sn
  ·rw[show H'.aC=H.aC from by rw[<-kF];rfl];exact h.av
  ·rw[show H'.used=H.used from by rw[<-kF];rfl];exact h.us
  ·rw[show H'.down=H.down from by rw[<-kF];rfl];exact h.dw
  ·rcases aD hl with h1|rfl
   ·exact h.rg l h1
   ·exact RV (h.rg _ (ax b2)) QY
  ·have e5:H'.dW v=if v=w then⟨(H.dW w).aT,(H.dW w).aY++[(m.id,s)]⟩else H.dW v:=by
    unfold Ho.dW;rw[wE];exact uA (by rw[hB.ay];exact Aa) _
   rw[e5]
   show UR H' _ ((R.ay.set w (R.uq w++[⟨false,m,4+i⟩])).getD v [])
   rw[DO h.un Aa];by_cases ev:v=w
   ·rw[if_pos ev,if_pos ev];have ui:=(h.ur w Aa).keys kx iu;refine⟨?_,?_⟩
    ·dsimp only;rw[ui.aT,bY,aZ];simp
    ·dsimp only;rw[aZ,ui.aY,bY,aZ];simp only[aJ,List.map_nil,c_,List.filter_nil];rw[bH kx,Jf];rfl
   ·rw[if_neg ev,if_neg ev];exact(h.ur v hv).keys kx iu
 ·have Db:gM R u s≠0:=by rw[<-hE];exact he
  have e1:kH H u s=H:=by unfold kH;rw[if_neg he]
  have e2:nt R u s=R:=by unfold nt;rw[if_pos Db]
  rw[e1,e2];exact⟨hi,h,hd⟩
theorem UR.len{x:pI}{ds:List Dd}(h:UR H x ds):x.aT.length+x.aY.length=ds.length:=by
 have h1:=congrArg List.length h.aT;have h2:=congrArg List.length h.aY;simp only[aX]at h1 h2;rw[h1,h2];have h3:=(List.filter_append_perm (fun d:Dd=>d.put) ds).length_eq;rw[aW]at h3;exact h3
theorem HR.YA(h:HR H R H0){u:Int}(hu:0<=u/\u<5):(H.dW u.toNat).aT.length+(H.dW u.toNat).aY.length=0↔R.uq u.toNat=[]:=by
 rw[(h.ur u.toNat ae).len,List.length_eq_zero_iff]
theorem HR.AS(h:HR H R H0)(u:Int):AS H u=oU R u:=by
 unfold WB.AS oU;by_cases g1:u<0\/5<=u
 ·rw[if_pos g1,if_pos (show ¬(0<=u/\u<=4)by omega)]
 ·rw[if_neg g1,if_neg (show ¬ ¬(0<=u/\u<=4)by omega),h.dw];by_cases g2:R.uq u.toNat=[]
  ·rw[if_pos g2,if_pos ((h.YA ae).2 g2)]
  ·rw[if_neg g2,if_neg (fun g=>g2 ((h.YA ae).1 g))]
theorem UR.nil(H:Ho):UR H cy []:=⟨rfl,rfl⟩
theorem HR.taken(h:HR H R H0)(hB:cx n H){w:Nat}(hw:w<5):HR (cA (cv H w) w cy) (cO R w) H0:=by
 have kx:bw (cA (cv H w) w cy)=bw H:=by unfold bw cA cv;simp
 refine⟨h.id,h.nm,h.nd,kx.trans h.ky,?_,?_,h.nx,h.n0,h.bt,h.dn,h.sn,h.av,h.us,h.dw,fun l hl=>?_,by show(R.ay.set w _).length=5;rw[List.length_set];exact h.un,fun v hv=>?_⟩
 ·show QA (cv H w).all (R.all.map fun l=>dL l (w:Int) true)
  rw[r_];exact h.qa.map fun n q l hq=>⟨n,hq.ends _ _⟩
 ·show QA H0.all ((R.all.map fun l=>dL l (w:Int) true).map iZ)
  rw[List.map_map];have :(iZ∘fun l=>dL l (w:Int) true)=iZ:=by funext l;exact G7 l ae
  rw[this];exact h.q0
 ·obtain⟨a,ha,rfl⟩:=aB.1 hl;exact zC (h.rg a ha) _ _
 ·have e5:(cA (cv H w) w cy).dW v=if v=w then cy else H.dW v:=by
   unfold Ho.dW cA cv;exact uA (by rw[hB.ay];exact hw) _
  rw[e5]
  show UR _ _ ((R.ay.set w []).getD v [])
  rw[DO h.un hw];by_cases ev:v=w
  ·rw[if_pos ev,if_pos ev];exact UR.nil _
  ·rw[if_neg ev,if_neg ev];exact(h.ur v hv).keys kx rfl
theorem HR.back(h:HR H R H0)(hi:HI k H D H0)(hB:cx n H)(hd:DR D R)(u:Int):HI k (BP H u) D H0/\HR (BP H u) (xO R u) H0/\DR D (xO R u):=by
 have hE:=h.AS u;by_cases he:WB.AS H u=0
 ·have Db:oU R u=0:=by rw[<-hE];exact he
  have QY:0<=u/\u<5:=by
   unfold WB.AS at he;by_cases g:u<0\/5<=u
   ·rw[if_pos g]at he;cases he
   ·omega
  obtain⟨w,rfl⟩:∃w:Nat,u=(w:Int):=⟨u.toNat,by omega⟩;have Aa:w<5:=by omega
  have e1:BP H w=cA (cv H w) w cy:=by unfold BP;rw[if_pos he,aE]
  have e2:xO R w=cO R w:=by unfold xO;rw[if_neg (by simpa using Db),aE]
  refine⟨hi.back hB Aa he,?_⟩;rw[e1,e2];exact⟨h.taken hB Aa,hd.same rfl rfl⟩
 ·have Db:oU R u≠0:=by rw[<-hE];exact he
  have e1:BP H u=H:=by unfold BP;rw[if_neg he]
  have e2:xO R u=R:=by unfold xO;rw[if_pos Db]
  rw[e1,e2];exact⟨hi,h,hd⟩
end
section
variable {c kb k n:Nat} {H H0:Ho} {D:Dk} {R:Rh}
def G_ (b:Int) (l:List Dd):Int:=(l.filter (·.put)).foldl (fun b d=>max b (d.m.id/4+1)) b
def qz (l:List Dd):List (Ms×Nat):=(l.filter (·.put)).map fun d=>(d.m,d.q)
def Di (l:List Dd):List (Int×Nat):=(l.filter fun d=> !d.put).map fun d=>(d.m.id,d.q)
theorem vZ:∀(l:List Dd) (R:Rh),l.foldl dS R={R with all:=l8 R.all (qz l),fD:=G_ R.fD l}
 |[],R=>rfl
 |d::l,R=>by
  rw[List.foldl_cons,vZ l];unfold dS qz G_;rw[c_];cases hd:d.put with
  |true=>rfl
  |false=>rfl
theorem vS:∀(l:List Dd) (R:Rh),l.foldl dY R={R with all:=sG R.all (Di l)}
 |[],R=>rfl
 |d::l,R=>by
  rw[List.foldl_cons,vS l];unfold dY Di;rw[c_];cases hd:d.put with
  |true=>rfl
  |false=>rfl
theorem foldl_max(l:List Dd)(b:Int):b<=l.foldl (fun b d=>max b (d.m.id/4+1)) b/\(∀d∈l,d.m.id/4<l.foldl (fun b d=>max b (d.m.id/4+1)) b)/\∀k:Int,b<=k->(∀d∈l,d.m.id/4<k)->l.foldl (fun b d=>max b (d.m.id/4+1)) b<=k:=by
 induction l generalizing b with
 |nil=>exact⟨Int.le_refl _,(fun d hd=>by cases hd),fun k hk _=>hk⟩
 |cons d l ih=>
  rw[List.foldl_cons];obtain⟨a1,a2,a3⟩:=ih (max b (d.m.id/4+1));refine⟨by omega,fun e he=>?_,fun k hk hl=>a3 k (by have :=hl d ai;omega) fun e he=>hl e (by simp[he])⟩;rcases aK.1 he with rfl|he
  ·omega
  ·exact a2 e he
theorem UR.qz{x:pI}{ds:List Dd}(h:UR H x ds):(x.aT.map fun p=>(p.1,kM H p.1))=qz ds:=h.aT
theorem UR.Di{x:pI}{ds:List Dd}(h:UR H x ds):(x.aY.map fun g=>(g.1,4+(H.qI g.2).getD 0))=Di ds:=by
 have h1:=congrArg (List.map fun p:Int×Option Nat=>(p.1,p.2.getD 4)) h.aY;rw[List.map_map,List.map_map]at h1;unfold WB.Di;refine Eq.trans (List.map_congr_left fun g _=>?_) h1;dsimp only[Function.comp];cases H.qI g.2<;>rfl
theorem zJ:∀(l:List (Ms×Nat)) {A:List (List Ri)},(∀a∈A,∀e∈a,DK e)->∀a∈l8 A l,∀e∈a,DK e
 |[],_,h=>h
 |d::l,A,h=>zJ l (A:=A.set d.2 _) fun a ha e he=>by
  rcases aD ha with h1|rfl
  ·exact h a h1 e he
  ·rcases aO.1 he with he|he
   ·rw[au]at he;cases hj:A[d.2]? with
    |none=>rw[hj]at he;cases he
    |some a=>rw[hj]at he;exact h a (ax hj) e he
   ·rw[List.mem_singleton]at he;subst he;unfold DK sY;dsimp only;refine⟨?_,by omega⟩;split<;>omega
theorem Fq:∀(l:List (Int×Nat)) {A:List (List Ri)},(∀a∈A,∀e∈a,DK e)->∀a∈sG A l,∀e∈a,DK e
 |[],_,h=>h
 |d::l,A,h=>Fq l (A:=A.set d.2 _) fun a ha e he=>by
  rcases aD ha with h1|rfl
  ·exact h a h1 e he
  ·have he:=vU he;rw[au]at he;cases hj:A[d.2]? with
   |none=>rw[hj]at he;cases he
   |some a=>rw[hj]at he;exact h a (ax hj) e he
theorem HR.yS(h:HR H R H0)(hd:DR D R)(u:Int):yS H D u=lT R u:=by
 unfold WB.yS ji lT;rw[h.log hd];by_cases g1:u<0\/5<=u
 ·rw[if_pos g1,if_pos (show(2:Int)≠0 by decide),if_pos (show ¬(0<=u/\u<=4)by omega)]
 ·rw[if_neg g1,if_neg (show ¬ ¬(0<=u/\u<=4)by omega)];by_cases g2:R.uq u.toNat=[]
  ·rw[if_pos g2,if_pos ((h.YA ae).2 g2)];rfl
  ·rw[if_neg g2,if_neg (fun g=>g2 ((h.YA ae).1 g)),if_neg (show ¬(0:Int)≠0 by decide)]
theorem HI.ends(h:HI k H D H0)(hb:hF c kb k (H,D))(hk:k<4)(hK:kb<=1000000000000){w:Nat}(hw:w<5)(h2:ec H D=0){B:List (List Ri)}{A0:List (List Ri)}(h1:QA (cv H w).all B)(h0:QA H0.all A0):
 QA (eK (cA (cv {H with used:=H.used+1} w) w cy) (mB (H.dW w))).1.all (sG (l8 B ((H.dW w).aT.map fun p=>(p.1,kM H p.1))) ((H.dW w).aY.map fun g=>(g.1,4+(H.qI g.2).getD 0)))/\
 QA (eK H0 (mB (H.dW w))).1.all (sG (l8 A0 ((H.dW w).aT.map fun p=>(p.1,kM H p.1))) ((H.dW w).aY.map fun g=>(g.1,4+(H.qI g.2).getD 0)))/\
 (∀a∈l8 B ((H.dW w).aT.map fun p=>(p.1,kM H p.1)),(a.map (·.m.id)).Nodup)/\
 (∃H2,eK (cA (cv {H with used:=H.used+1} w) w cy) (mB (H.dW w))=(H2,true)/\bw H2=bw H/\H2.names=H.names/\nQ (cA (cv {H with used:=H.used+1} w) w cy) H2/\H2.next=H.next)/\
 (∃H3,eK H0 (mB (H.dW w))=(H3,true)/\H0.next<=H3.next/\(∀p∈(H.dW w).aT,p.1.id/4<H3.next)/\(∀k:Int,H0.next<=k->(∀p∈(H.dW w).aT,p.1.id/4<k)->H3.next<=k)):=by
 have hB:=hb.B;have Ej:=nb hB hw;dsimp only at Ej hB;generalize hx:H.dW w=x at Ej;obtain⟨El,YS⟩:=hb.ay x (ax Ej);obtain⟨eL,-,-,-⟩:=dK h2 (nU x);have ui:=h.unit w x Ej;have kG:cx (300+c+250*H.used) (cA (cv {H with used:=H.used+1} w) w cy):=by
  have :=hB.log (D:=D);rw[eL]at this;exact(this.cv _).cA _ _
 have E5:hv (cA (cv {H with used:=H.used+1} w) w cy)=((hv H).filter fun e=> !decide (e.put=(w:Int))).map (gI w):=An {H with used:=H.used+1} ae;have kx:bw (cA (cv {H with used:=H.used+1} w) w cy)=bw H:=by unfold bw cA cv;simp
 have sv:QA (cA (cv {H with used:=H.used+1} w) w cy).all B:=h1;generalize Ev:cA (cv {H with used:=H.used+1} w) w cy=H1 at kG E5 kx sv;have iu:H1.id=H.id:=by rw[<-Ev];rfl
 have Em:H1.next=H.next:=by rw[<-Ev];rfl
 have Jj:H1.names=H.names:=by rw[<-Ev];rfl
 have jy:∀e∈hv H,e.put≠(w:Int)->gI w e∈hv H1:=fun e he hp=>by
  rw[E5];exact List.mem_map_of_mem (aF.2 ⟨he,by simpa using hp⟩)
 have Gy:∀e∈hv H1,∃e'∈hv H,e'.put≠(w:Int)/\e=gI w e':=fun e he=>by
  rw[E5]at he;obtain⟨e',h5,rfl⟩:=aB.1 he;obtain⟨h6,h7⟩:=aF.1 h5;exact⟨e',h6,by simpa using h7,rfl⟩
 have Bi:((hv H1).map eb).Nodup:=by
  rw[E5,List.map_map,show(eb∘gI w)=eb from rfl];exact h.u4.sublist (List.filter_sublist.map _)
 have a1:∀p∈x.aT,p.1.bF=H1.id->∃i,H1.qI p.1.queue=some i:=fun p hp hh=>by
  obtain⟨i,hi⟩:=(ui.aT p hp).1 Yo;exact⟨i,by rw[bH kx];exact hi⟩
 have a2:∀p∈x.aT,∀e∈hv H1,eb e≠p.1.id:=fun p hp e he e3=>by
  obtain⟨e',h5,h6,rfl⟩:=Gy e he;obtain⟨-,-,e4,h7,-,h8,h9⟩:=ui.aT p hp;have :e'=e4:=jE h.u4 h5 h7 (by rw[show eb e'=p.1.id from e3];unfold eb;rw[h8]);rw[this]at h6;exact h6 h9
 have a3:∀g∈x.aY,∃i,H1.qI g.2=some i/\∃e∈hv H1,e.j=4+i/\eb e=g.1:=fun g hg=>by
  obtain⟨i,d,e,h5,h6,h7,h8,-⟩:=ui.aY g hg;exact⟨i,by rw[bH kx];exact d,_,jy e h5 ae,h6,h7⟩
 have GK:=(h.B0 hb hk hK).1;have Ps:H0.id=H.id:=by rw[h.QX,h.hid]
 have b1:∀p∈x.aT,p.1.bF=H0.id->∃i,H0.qI p.1.queue=some i:=fun p hp hh=>by
  obtain⟨i,hi⟩:=(ui.aT p hp).1 (by rw[hh,Ps]);exact⟨i,by rw[bH h.keys];exact hi⟩
 have b2:∀p∈x.aT,∀e∈hv H0,eb e≠p.1.id:=fun p hp e he e3=>by
  obtain⟨e',h5,-,h6,h7⟩:=h.in0 he;obtain⟨-,-,e4,h8,-,h9,Bn⟩:=ui.aT p hp;have :e'=e4:=jE h.u4 h5 h8 (by unfold eb at *;rw[h6,h9];exact e3);rw[this,Bn]at h7;omega
 have b3:∀g∈x.aY,∃i,H0.qI g.2=some i/\∃e∈hv H0,e.j=4+i/\eb e=g.1:=fun g hg=>by
  obtain⟨i,d,e,h5,h6,h7,h8,-⟩:=ui.aY g hg;obtain⟨e',h9,Bn,Ao⟩:=h.to0 h5 h8;exact⟨i,by rw[bH h.keys];exact d,e',h9,by rw[Bn];exact h6,by unfold eb at *;rw[Ao];exact h7⟩
 have eP1:(x.aT.map fun p=>(p.1,kM H1 p.1))=x.aT.map fun p=>(p.1,kM H p.1):=List.map_congr_left fun p _=>by rw[ei kx iu]
 have eG1:(x.aY.map fun g=>(g.1,4+(H1.qI g.2).getD 0))=x.aY.map fun g=>(g.1,4+(H.qI g.2).getD 0):=List.map_congr_left fun p _=>by rw[bH kx]
 have eP0:(x.aT.map fun p=>(p.1,kM H0 p.1))=x.aT.map fun p=>(p.1,kM H p.1):=List.map_congr_left fun p _=>by rw[ei h.keys Ps]
 have eG0:(x.aY.map fun g=>(g.1,4+(H0.qI g.2).getD 0))=x.aY.map fun g=>(g.1,4+(H.qI g.2).getD 0):=List.map_congr_left fun p _=>by rw[bH h.keys]
 have q1:=Ll kG El sv Bi a1 ui.pn a2 ui.gn a3;have q0:=Ll GK El h0 h.O9 b1 ui.pn b2 ui.gn b3;rw[eP1,eG1]at q1;rw[eP0,eG0]at q0
 have q2:=(D1 (x.aT.map (·.1)) kG sv (fun m hm=>by
  obtain⟨p,vM,rfl⟩:=aB.1 hm
  exact⟨El.aT p vM,a1 p vM⟩) (by rw[List.map_map];exact ui.pn) (fun m hm e he=>by
  obtain⟨p,vM,rfl⟩:=aB.1 hm
  exact a2 p vM e he)).nodup
 rw[List.map_map]at q2;have q2:∀a∈l8 B (x.aT.map fun p=>(p.1,kM H1 p.1)),(a.map (·.m.id)).Nodup:=q2;rw[eP1]at q2;obtain⟨H2,e2,-,k2,n2,s2,x2,-,z2,-⟩:=pq kG El Bi a1 ui.pn a2 ui.gn a3;obtain⟨H3,e3,-,-,-,-,x3,y3,z3,-⟩:=pq GK El h.O9 b1 ui.pn b2 ui.gn b3;refine⟨q1,q0,q2,⟨H2,e2,k2.trans kx,n2.trans Jj,s2,?_⟩,⟨H3,e3,x3,y3,z3⟩⟩;have h6:=z2 H1.next (Int.le_refl _) fun p hp=>by
  rw[Em];obtain⟨-,ME,e4,h7,-,h8,-⟩:=ui.aT p hp;have :=h.lt e4 h7 (by rw[h8,ME,h.hid]);rw[h8]at this;exact this
 rw[<-Em];omega
theorem HR.JE(h:HR H R H0)(hi:HI k H D H0)(hb:hF c kb k (H,D))(hk:k<4)(hK:kb<=1000000000000)(hc:c<=250)(hd:DR D R)(u:Int):∃H3,HI k (uj H D u) (xX H D u) H3/\HR (uj H D u) (qx R u) H3/\DR (xX H D u) (qx R u):=by
 have hE:=h.yS hd u;have hB:=hb.B;dsimp only at hB;by_cases he:WB.yS H D u=0
 ·have Db:lT R u=0:=by rw[<-hE];exact he
  obtain⟨h1,h2⟩:=wY he;have QY:0<=u/\u<5:=by
   unfold ji at h1;by_cases g:u<0\/5<=u
   ·rw[if_pos g]at h1;cases h1
   ·omega
  obtain⟨w,rfl⟩:∃w:Nat,u=(w:Int):=⟨u.toNat,by omega⟩;have Aa:w<5:=by omega
  obtain⟨H3,BK,-,hb3,SP,ha3,-⟩:=hi.JE hb hk hK hc Aa he;have hW:eB R=0:=by rw[<-h.log hd];exact h2
  have oo:R.uq w≠[]:=fun e=>by
   unfold lT at Db;rw[if_neg (show ¬ ¬(0<=(w:Int)/\(w:Int)<=4)by omega),aE,if_pos e]at Db;cases Db
  have eR:qx R w=(R.uq w).foldl dY ((R.uq w).foldl dS (cO (eP R) w)):=by
   unfold qx;rw[if_neg (show ¬ ¬(0<=(w:Int)/\(w:Int)<=4)by omega),aE,if_neg oo,if_neg (show ¬eB R≠0 by simpa using hW)]
  obtain⟨g1,g2,g3⟩:=h.ok hd hW (nU (H.dW w));have eD:xX H D w=gg H D (nU (H.dW w)):=by unfold xX;rw[if_neg (show ¬ji H (w:Int)≠0 by simpa using h1),aE]
  obtain⟨eL,-,-,-⟩:=dK h2 (nU (H.dW w));have eH:uj H D w=(eK (cA (cv {H with used:=H.used+1} w) w cy) (mB (H.dW w))).1:=by
   unfold uj;rw[if_neg (show ¬ji H (w:Int)≠0 by simpa using h1),if_neg (show ¬ec H D≠0 by simpa using h2),aE,eL]
  obtain⟨t1,t2⟩:f_ (H.dW w)/\True:=⟨(hb.ay _ (ax (nb hB Aa))).1,trivial⟩;have so:(H.dW w).aT.length<=c:=(hb.ay _ (ax (nb hB Aa))).2;have tk:=h.taken hB Aa;have q1:QA (cv H w).all (R.all.map fun l=>dL l (w:Int) true):=tk.qa;have q0:QA H0.all ((R.all.map fun l=>dL l (w:Int) true).map iZ):=tk.q0;obtain⟨r1,r0,rn,⟨H2,e2,k2,n2,s2,x2⟩,⟨H4,e4,x4,y4,z4⟩⟩:=hi.ends hb hk hK Aa h2 q1 q0;have hop:=BK.opened;rw[eD]at hop;have Nz:=(hi.Om h2 (tg t1) (yU t1) (t1.VM ae) (by rw[xA];exact e4)).2;rw[hop]at Nz;rw[e4]at r0;rw[eH,e2]at BK ⊢;rw[e2]at r1;dsimp only at r0 r1 BK ⊢;rw[eD]at BK ⊢;refine⟨H3,BK,?_,?_⟩
  ·have ur:=h.ur w Aa;rw[ur.qz,ur.Di]at r1 r0;rw[ur.qz]at rn;rw[eR,vZ,vS];have hR1:(cO (eP R) w).all=R.all.map fun l=>dL l (w:Int) true:=by rw[g3];rfl
   have hRb:(cO (eP R) w).fD=R.fD:=by rw[g3];rfl
   dsimp only;rw[hR1,hRb];have aeO:H2.ay=H.ay.set w cy:=s2.ay;refine⟨?_,?_,?_,?_,r1,?_,?_,?_,?_,?_,?_,?_,?_,?_,Fq _ (zJ _ fun a ha=>?_),?_,fun v hv=>?_⟩
   ·rw[g3];exact s2.id.trans h.id
   ·rw[g3,n2];exact h.nm
   ·rw[g3];exact h.nd
   ·rw[g3];exact k2.trans h.ky
   ·rw[Fp _ _ rn,zI,Nz];exact r0
   ·rw[g3];show H2.next=R.count;rw[x2];exact h.nx
   ·rw[Nz]
    show H4.next=G_ R.fD (R.uq w)
    obtain⟨b1,b2,b3⟩:=foldl_max ((R.uq w).filter (·.put)) R.fD;have YS:∀d∈(R.uq w).filter (·.put),∃p∈(H.dW w).aT,p.1=d.m:=fun d hd=>by
     have :(d.m,d.q)∈qz (R.uq w):=by unfold qz;exact List.mem_map_of_mem (f:=fun d:Dd=>(d.m,d.q)) hd
     rw[<-ur.qz]at this;obtain⟨p,hp,e⟩:=aB.1 this;exact⟨p,hp,(Prod.mk.inj e).1⟩
    have hmp:∀p∈(H.dW w).aT,∃d∈(R.uq w).filter (·.put),d.m=p.1:=fun p hp=>by
     have :(p.1,kM H p.1)∈qz (R.uq w):=by rw[<-ur.qz];exact List.mem_map_of_mem (f:=fun p:Ms×Int=>(p.1,kM H p.1)) hp
     unfold qz at this;obtain⟨d,hd,e⟩:=aB.1 this;exact⟨d,hd,(Prod.mk.inj e).1⟩
    rw[h.n0]at x4 z4;have c1:=z4 (G_ R.fD (R.uq w)) b1 fun p hp=>by
     obtain⟨d,hd,e⟩:=hmp p hp;rw[<-e];exact b2 d hd
    have c2:=b3 H4.next x4 fun d hd=>by
     obtain⟨p,hp,e⟩:=YS d hd;rw[<-e];exact y4 p hp
    unfold G_ at c1 ⊢;omega
   ·rw[g3];exact s2.batch.trans h.bt
   ·rw[g3];exact h.dn
   ·rw[g3];exact s2.bT.trans h.sn
   ·rw[g3];exact s2.aC.trans h.av
   ·rw[g3];rw[s2.used];show((H.used+1:Nat):Int)=R.used+1;have :=h.us;omega
   ·rw[g3];exact s2.down.trans h.dw
   ·obtain⟨b,iw,rfl⟩:=aB.1 ha;exact zC (h.rg b iw) _ _
   ·rw[g3];show(R.ay.set w []).length=5;rw[List.length_set];exact h.un
   ·have e5:H2.dW v=if v=w then cy else H.dW v:=by
     unfold Ho.dW;rw[aeO];exact uA (by rw[hB.ay];exact Aa) _
    rw[e5,g3]
    show UR _ _ ((R.ay.set w []).getD v [])
    rw[DO h.un Aa];by_cases ev:v=w
    ·rw[if_pos ev,if_pos ev];exact UR.nil _
    ·rw[if_neg ev,if_neg ev];exact(h.ur v hv).keys k2 s2.id
  ·rw[eR,vZ,vS];exact g2.same rfl rfl
 ·have Db:lT R u≠0:=by rw[<-hE];exact he
  by_cases QY:0<=u/\u<5
  ·obtain⟨w,rfl⟩:∃w:Nat,u=(w:Int):=⟨u.toNat,by omega⟩;have Aa:w<5:=by omega
   refine⟨H0,hi.Tr hb Aa he,?_⟩;unfold WB.yS at he;unfold uj xX qx;unfold lT at Db;rw[if_neg (show ¬ ¬(0<=(w:Int)/\(w:Int)<=4)by omega)]at Db ⊢;by_cases h1:ji H w≠0
   ·rw[if_pos h1,if_pos h1];unfold ji at h1;rw[if_neg (show ¬((w:Int)<0\/5<=(w:Int))by omega)]at h1;by_cases g:(H.dW (w:Int).toNat).aT.length+(H.dW (w:Int).toNat).aY.length=0
    ·rw[if_pos ((h.YA ae).1 g)];exact⟨h,hd⟩
    ·rw[if_neg g]at h1;exact absurd rfl h1
   ·rw[if_neg h1]at he;rw[if_neg h1,if_neg h1,if_pos he];have hW:eB R≠0:=by rw[<-h.log hd];exact he
    have oo:R.uq (w:Int).toNat≠[]:=fun e=>by
     apply h1;unfold ji;rw[if_neg (show ¬((w:Int)<0\/5<=(w:Int))by omega),if_pos ((h.YA ae).2 e)];decide
    rw[if_neg oo,if_pos hW];exact h.bad hd hW _
  ·have h1:ji H u≠0:=by unfold ji;rw[if_pos (show u<0\/5<=u by omega)];decide
   refine⟨H0,?_⟩;unfold uj xX qx;rw[if_pos h1,if_pos h1,if_pos (show ¬(0<=u/\u<=4)by omega)];exact⟨hi,h,hd⟩
end
section
variable {c kb k n:Nat} {H H0:Ho} {D:Dk} {R:Rh}
theorem HR.right(h:HR H R H0)(a:Int):cb H a=dA R a:=by
 unfold cb dA;rw[h.id,Bool.eq_iff_iff];simp only[bm,decide_eq_true_eq];omega
theorem HR.bc(h:HR H R H0)(j:Nat):cJ H j=R.jJ j:=by unfold cJ Rh.jJ;rw[h.bt]
theorem HR.ZI(h:HR H R H0)(j:Nat):gD H j=R.md j:=by unfold gD Rh.md;rw[h.sn]
theorem HR.U8(h:HR H R H0)(j:Nat):fv H j=R.ar j:=by unfold fv Rh.ar;rw[h.av]
theorem HR.mc(h:HR H R H0)(hB:cx n H){j:Nat}(hj:j<4):R.all[j]? =some (R.lq j)/\∃n,ej n (H.iY j) (R.lq j):=by
 have h1:=pB hB.ways hj;have h2:=h.lqa (j:=j) (aw.1 h1).1;rw[h1]at h2;have h3:=h2.1;simp only[az]at h3;rw[<-h3]at h2;exact h2.2
theorem HR.dbn(h:HR H R H0)(j:Nat):(R.jJ j).Nodup:=by
 unfold Rh.jJ;rw[au];cases hj:R.bQ[j]? with
 |none=>exact List.nodup_nil
 |some l=>exact(h.dn l (ax hj)).1
theorem IT{a:Int}(h:dA R a=true):0<=a/\a.toNat<4:=by
 unfold dA at h;simp only[bm,decide_eq_true_eq]at h;omega
theorem AL(m:Ms):∀{ds:List Int},ds.Nodup->rF m ds=if m.id∈ds then[m]else[]
 |[],_=>rfl
 |i::ds,h=>by
  rw[bL]at h;have ih:=AL m h.2;unfold rF at ih ⊢;rw[bj,ih];by_cases e:m.id=i
  ·subst e;rw[if_pos rfl,if_neg h.1,if_pos ai];rfl
  ·rw[if_neg e];by_cases e2:m.id∈ds
   ·rw[if_pos e2,if_pos (List.mem_cons_of_mem _ e2)];rfl
   ·rw[if_neg e2,if_neg (by simp[e,e2])];rfl
theorem xF{p:Ms->Bool}:∀l:List Ms,(l.flatMap fun m=>if p m=true then[m]else[])=l.filter p
 |[]=>rfl
 |m::l=>by
  rw[bj,xF l,c_];split<;>rfl
theorem HR.btl(h:HR H R H0)(hB:cx n H){a:Int}(ha:a.toNat<4):(ig (H.iY a.toNat)).filter (O6 (cJ H a.toNat))=zA R a:=by
 obtain⟨-,m,hq⟩:=h.mc hB ha;unfold zA;rw[hq.kept,h.bc,<-xF];congr 1;funext m;rw[AL m (h.dbn _)];unfold O6;simp
theorem HR.btP(h:HR H R H0)(hB:cx n H)(a:Int):tT H a=(if dA R a=false then 2 else if R.down=true then 6 else if R.jJ a.toNat=[]/\eO (R.lq a.toNat)=[]then 8 else 0)/\gJ H a=jT R a:=by
 have e1:tT H a=(if dA R a=false then 2 else if R.down=true then 6 else if R.jJ a.toNat=[]/\eO (R.lq a.toNat)=[]then 8 else 0):=by
  unfold tT;rw[h.right,h.dw,h.bc];cases ho:dA R a with
  |false=>rfl
  |true=>
   obtain⟨-,m,hq⟩:=h.mc hB (IT ho).2;rw[hq.there]
 refine⟨e1,?_⟩;unfold gJ jT;rw[e1,h.bc];cases dA R a with
 |false=>rfl
 |true=>
  cases R.down with
  |true=>rfl
  |false=>
   by_cases g1:R.jJ a.toNat=[]
   ·by_cases g2:eO (R.lq a.toNat)=[]
    ·simp[g1,g2]
    ·simp[g1,g2]
   ·simp[g1]
theorem HR.AO(h:HR H R H0)(hB:cx n H)(hd:DR D R)(a:Int):AO H D a=jU R a:=by
 obtain⟨h1,h2⟩:=h.btP hB a;unfold WB.AO jU;rw[h1,h2,h.log hd];unfold jT;cases dA R a with
 |false=>rfl
 |true=>
  cases R.down with
  |true=>rfl
  |false=>
   by_cases g1:R.jJ a.toNat=[]
   ·by_cases g2:eO (R.lq a.toNat)=[]
    ·simp[g1,g2]
    ·simp[g1,g2]
   ·simp[g1]
theorem LL{q:Qu}{l:List Ri}{m:Int}(h:ej m q l):(((eO l).take 3).map (·.id)).Nodup:=by
 rw[<-h.there];unfold eX;have h1:=h.R4;refine List.Nodup.sublist ?_ h1;refine((List.take_sublist _ _).map _).trans ?_;rw[List.map_map];exact List.filter_sublist.map _
theorem HI.Z_(h:HI k H D H0)(hb:hF c kb k (H,D)){a:Int}(hn:gJ H a=true):
 (ic a (cG H a.toNat)).size<=700000/\fp 250 (ic a (cG H a.toNat))/\
 hplays {H with used:=H.used+1} (ic a (cG H a.toNat))=({H with used:=H.used+1,batch:=H.batch.set a.toNat (cG H a.toNat),bT:=H.bT.set a.toNat (gD H a.toNat+1)},true)/\
 hplays H0 (ic a (cG H a.toNat))=({H0 with batch:=H0.batch.set a.toNat (cG H a.toNat),bT:=H0.bT.set a.toNat (gD H0 a.toNat+1)},true):=by
 obtain⟨h1,-,h3,h4⟩:=ox hn;have hr:=b_.1 h1;have hB:=hb.B;dsimp only at hB;have hj:a.toNat<4:=by omega
 have oo:cG H a.toNat≠[]:=by
  unfold cG;intro h5;rw[List.map_eq_nil_iff,List.take_eq_nil_iff]at h5;rcases h5 with h5|h5
  ·cases h5
  ·exact h4 h5
 have hint:∀i∈cG H a.toNat,o5 i:=fun i hi=>by
  unfold cG at hi;obtain⟨m,hm,rfl⟩:=aB.1 hi;have h5:=List.mem_of_mem_take hm;unfold eX at h5;obtain⟨e,he,rfl⟩:=aB.1 h5;have :=(hB.w hj).ids e (aF.1 he).1;exact⟨by omega,by omega⟩
 have hlen:(cG H a.toNat).length<=3:=by unfold cG;simp;omega
 have e0:H0.id=H.id:=by rw[h.QX,h.hid]
 obtain⟨i,r,YZ⟩:=List.exists_cons_of_ne_nil oo;refine⟨?_,(lx (k:=a) ⟨hr.1,hr.2.1⟩ hlen hint).mono ae,?_,?_⟩
 ·have :=(lx (k:=a) ⟨hr.1,hr.2.1⟩ hlen hint).size;omega
 ·rw[YZ];exact oi (H:={H with used:=H.used+1}) h1 Y39
 ·rw[YZ];exact oi (H:=H0) Y31 Y39
theorem HR.batch(h:HR H R H0)(hi:HI k H D H0)(hb:hF c kb k (H,D))(hd:DR D R)(a:Int):∃H3,HI k (qE H D a) (xY H D a) H3/\HR (qE H D a) (jb R a) H3/\DR (xY H D a) (jb R a):=by
 have hB:=hb.B;dsimp only at hB;obtain⟨-,hN⟩:=h.btP hB a;cases hn:gJ H a with
 |false=>
  refine⟨H0,hi.UB hb (.inl hn),?_⟩;unfold qE xY jb;rw[<-hN,hn];exact⟨h,hd⟩
 |true=>
  by_cases hW:eB R≠0
  ·have he:ec H D≠0:=by rw[h.log hd];exact hW
   refine⟨H0,hi.UB hb (.inr he),?_⟩;unfold qE xY jb;rw[<-hN,hn,if_pos rfl,if_pos rfl,if_neg (show ¬true=false by decide),if_pos hW];unfold nZ;rw[if_neg he];exact h.bad hd hW _
  ·have hW:eB R=0:=by simpa using hW
   have he:ec H D=0:=by rw[h.log hd];exact hW
   obtain⟨H3,BK,-⟩:=hi.made hb hn he;obtain⟨p1,p2,p3,p4⟩:=hi.Z_ hb hn;have hop:=BK.opened;have eD:xY H D a=gg H D (ic a (cG H a.toNat)):=by unfold xY;rw[if_pos hn]
   obtain⟨eL,-,-,-⟩:=dK he (ic a (cG H a.toNat));have eH:qE H D a={H with used:=H.used+1,batch:=H.batch.set a.toNat (cG H a.toNat),bT:=H.bT.set a.toNat (gD H a.toNat+1)}:=by
    unfold qE nZ;rw[if_pos hn,if_pos he,eL,p3]
   have Nz:=(hi.Om he p1 (ED _ _) p2 p4).2;rw[eD]at hop;rw[hop]at Nz;obtain⟨g1,g2,g3⟩:=h.ok hd hW (ic a (cG H a.toNat));have aaD:=(ox hn).1;rw[h.right]at aaD;obtain⟨-,m,hq⟩:=h.mc hB (IT aaD).2;have agd:cG H a.toNat=((eO (R.lq a.toNat)).take 3).map (·.id):=by unfold cG;rw[hq.there]
   have eR:jb R a={eP R with bQ:=R.bQ.set a.toNat (((eO (R.lq a.toNat)).take 3).map (·.id)),made:=R.made.set a.toNat (R.md a.toNat+1)}:=by
    unfold jb;rw[<-hN,hn,if_neg (show ¬true=false by decide),if_neg Y70]
   rw[eH,eD]at BK ⊢;rw[eR];refine⟨H3,BK,?_,g2.same rfl rfl⟩;rw[Nz];refine⟨g1.id,g1.nm,g1.nd,g1.ky,g1.qa,g1.q0,g1.nx,g1.n0,?_,fun l hl=>?_,?_,g1.av,g1.us,g1.dw,g1.rg,g1.un,fun u hu=>?_⟩
   ·show H.batch.set a.toNat (cG H a.toNat)=R.bQ.set a.toNat _
    rw[h.bt,agd]
   ·rcases aD hl with h1|rfl
    ·exact h.dn l h1
    ·exact⟨LL hq,by simp;omega⟩
   ·show H.bT.set a.toNat (gD H a.toNat+1)=R.made.set a.toNat _
    rw[h.sn,h.ZI]
   ·have :=g1.ur u hu;exact⟨this.aT,this.aY⟩
theorem HR.Xn(h:HR H R H0)(hi:HI k H D H0)(hb:hF c kb k (H,D)){a:Int}(WQ:cx n (qE H D a))(hd:DR D R):WB.AO H D a=jU R a/\Rg H D a=uT R a/\Rj H D a=nu R a:=by
 have hE:=h.AO hb.B hd a;obtain⟨H3,-,h3,-⟩:=h.batch hi hb hd a;refine⟨hE,?_,?_⟩
 ·unfold Rg uT;rw[hE];by_cases g:jU R a=0
  ·rw[if_pos g,if_neg (by simpa using g)];exact h3.ZI _
  ·rw[if_neg g,if_pos g]
 ·unfold Rj nu;rw[hE];by_cases g:jU R a=0
  ·rw[if_pos g,if_neg (by simpa using g)];have ha:a.toNat<4:=by
    unfold jU at g;cases ho:dA R a with
    |false=>rw[ho]at g;cases g
    |true=>exact(IT ho).2
   exact h3.btl WQ ha
  ·rw[if_neg g,if_pos g]
theorem HR.Xk(h:HR H R H0)(hd:DR D R)(a num:Int):Xk H D a num=sJ R a num:=by
 unfold WB.Xk mJ sJ;rw[h.right,h.dw,h.bc,h.ZI,h.log hd];cases dA R a with
 |false=>rfl
 |true=>
  cases R.down with
  |true=>rfl
  |false=>
   by_cases g:R.jJ a.toNat=[]\/num≠R.md a.toNat
   ·simp[g]
   ·rw[if_neg (show ¬(true=false)by decide),if_neg (show ¬(false=true)by decide),if_neg g,if_neg (show ¬(0:Int)≠0 by decide),if_neg (show ¬(true=false)by decide),if_neg (show ¬(false=true)by decide),if_neg g]
theorem DC:∀(is:List Int) {l:List Ri},(l.map (·.m.id)).Nodup->iZ (is.foldl dR l)=is.foldl dR (iZ l)
 |[],_,_=>rfl
 |i::is,l,h=>by
  rw[List.foldl_cons,List.foldl_cons,DC is (h.sublist (Cu l i)),G6 h]
theorem zq{e:Ri}:∀(is:List Int) {l:List Ri},e∈is.foldl dR l->e∈l
 |[],_,h=>h
 |i::is,_,h=>vU (zq is h)
theorem HR.known(h:HR H R H0)(hi:HI k H D H0)(hb:hF c kb k (H,D))(hk:k<4)(hK:kb<=1000000000000)(hd:DR D R)(a num:Int):∃H3,HI k (G8 H D a num) (JG H D a num) H3/\HR (G8 H D a num) (uR R a num) H3/\DR (JG H D a num) (uR R a num):=by
 have hB:=hb.B;dsimp only at hB;have qf:mJ H a num=(if dA R a=false then 2 else if R.down=true then 6 else if R.jJ a.toNat=[]\/num≠R.md a.toNat then 8 else 0):=by
  unfold mJ;rw[h.right,h.dw,h.bc,h.ZI]
 by_cases hp:mJ H a num≠0
 ·refine⟨H0,hi.OX (.inl hp),?_⟩;unfold G8 JG uR;rw[if_pos hp,if_pos hp];rw[qf]at hp;by_cases g1:dA R a=false
  ·rw[if_pos g1];exact⟨h,hd⟩
  ·rw[if_neg g1]at hp ⊢;by_cases g2:R.down=true
   ·rw[if_pos g2];exact⟨h,hd⟩
   ·rw[if_neg g2]at hp ⊢;by_cases g3:R.jJ a.toNat=[]\/num≠R.md a.toNat
    ·rw[if_pos g3];exact⟨h,hd⟩
    ·rw[if_neg g3]at hp;exact absurd rfl hp
 ·have hp:mJ H a num=0:=by simpa using hp
  have eR:uR R a num=if eB R≠0 then eP R else {(eP R).ff a.toNat ((R.jJ a.toNat).foldl dR (R.lq a.toNat))with bQ:=R.bQ.set a.toNat []}:=by
   unfold uR;have iq:=hp;rw[qf]at iq;by_cases g1:dA R a=false
   ·rw[if_pos g1]at iq;cases iq
   ·rw[if_neg g1]at iq ⊢;by_cases g2:R.down=true
    ·rw[if_pos g2]at iq;cases iq
    ·rw[if_neg g2]at iq ⊢;by_cases g3:R.jJ a.toNat=[]\/num≠R.md a.toNat
     ·rw[if_pos g3]at iq;cases iq
     ·rw[if_neg g3]
  obtain⟨p1,-,-,-⟩:=tS hp;have hr:=b_.1 p1;have hj:a.toNat<4:=by omega
  have eH:G8 H D a num=nZ H D (sk a):=by unfold G8;rw[if_neg (by simpa using hp)]
  have eD:JG H D a num=gg H D (sk a):=by unfold JG;rw[if_neg (by simpa using hp)]
  by_cases hW:eB R≠0
  ·have he:ec H D≠0:=by rw[h.log hd];exact hW
   refine⟨H0,hi.OX (.inr he),?_⟩;rw[eH,eD,eR,if_pos hW];unfold nZ;rw[if_neg he];exact h.bad hd hW _
  ·have hW:eB R=0:=by simpa using hW
   have he:ec H D=0:=by rw[h.log hd];exact hW
   obtain⟨H3,BK,-⟩:=hi.known hb hk hK hp he;have hop:=BK.opened;obtain⟨eL,-,-,-⟩:=dK he (sk a);have e0:H0.id=H.id:=by rw[hi.QX,hi.hid]
   have q1:=mG (H:={H with used:=H.used+1}) p1;have q0:=mG (H:=H0) (k:=a) (by rw[Cy e0];exact p1);have qM:=uV (k:=a) ⟨hr.1,hr.2.1⟩;have Nz:=(hi.Om he (by have :=qM.size;omega) (Lt _) (qM.mono ae) q0).2;rw[eD]at hop;rw[hop]at Nz;obtain⟨g1,g2,g3⟩:=h.ok hd hW (sk a);have eH2:G8 H D a num={({H with used:=H.used+1}:Ho).iG a.toNat (dx (H.iY a.toNat) (cJ H a.toNat))with batch:=H.batch.set a.toNat []}:=by
    rw[eH];unfold nZ;rw[if_pos he,eL,q1];rfl
   rw[eH2,eD]at BK ⊢;rw[eR,if_neg Y70];refine⟨H3,BK,?_,g2.same rfl rfl⟩;obtain⟨a2,m,hq⟩:=h.mc hB hj;have GK:=(hi.B0 hb hk hK).1;have Bf:=hi.opened;obtain⟨m0,Bf⟩:=h.q0.get (pB GK.ways hj);rw[Ap,show R.all.getD a.toNat []=R.lq a.toNat from rfl]at Bf;have ebc:cJ H0 a.toNat=R.jJ a.toNat:=by rw[<-h.bc];unfold cJ;rw[hi.bt]
   rw[Nz];have W_:(eP R).all=R.all:=(ib R).2.2.2.1;refine⟨g1.id,g1.nm,g1.nd,g1.ky,?_,?_,g1.nx,g1.n0,?_,fun l hl=>?_,g1.sn,g1.av,g1.us,g1.dw,fun l hl=>?_,g1.un,fun u hu=>?_⟩
   ·show QA (({H with used:=H.used+1}:Ho).iG a.toNat (dx (H.iY a.toNat) (cJ H a.toNat))).all ((eP R).all.set a.toNat _)
    rw[ko (by show a.toNat<H.ways.length;rw[hB.ways];exact hj),W_,h.bc];exact h.qa.set ⟨m,QA.uE (q:=H.iY a.toNat) (l:=R.lq a.toNat) _ hq⟩ _
   ·show QA (H0.iG a.toNat (dx (H0.iY a.toNat) (cJ H0 a.toNat))).all (((eP R).all.set a.toNat _).map iZ)
    rw[ko (by rw[GK.ways];exact hj),W_,ebc,List.map_set,DC _ hq.ids];exact h.q0.set ⟨m0,QA.uE (q:=H0.iY a.toNat) (l:=iZ (R.lq a.toNat)) _ Bf⟩ _
   ·show H.batch.set a.toNat []=R.bQ.set a.toNat []
    rw[h.bt]
   ·rcases aD hl with h1|rfl
    ·exact h.dn l h1
    ·exact⟨List.nodup_nil,aH _⟩
   ·have hl:l∈(eP R).all.set a.toNat _:=hl;rw[W_]at hl;rcases aD hl with h1|rfl
    ·exact h.rg l h1
    ·exact fun e he=>h.rg _ (ax a2) e (zq _ he)
   ·have :=g1.ur u hu;exact⟨this.aT,this.aY⟩
end
section
variable {c kb k n:Nat} {H H0:Ho} {D:Dk} {R:Rh}
theorem Lv(h:H.id=R.id)(l:List Ms):(jM l≠none\/l.any (jw H)=true)↔l.any (gS R)=true:=by
 rw[List.any_eq_true,List.any_eq_true];have h1:jM l≠none↔ ∃m∈l,bD m=false:=by
  unfold jM;rw[Ne,List.findIdx?_eq_none_iff];simp
 rw[h1];unfold jw gS;rw[h];constructor
 ·rintro(⟨m,hm,e⟩|⟨m,hm,e⟩)
  ·exact⟨m,hm,by simp[e]⟩
  ·refine⟨m,hm,?_⟩;simp only[Bool.or_eq_true,decide_eq_true_eq,Bool.not_eq_true',decide_eq_false_iff_not]at e ⊢;rcases e with e|e
   ·exact .inl (.inr e)
   ·exact .inr e
 ·rintro⟨m,hm,e⟩;simp only[Bool.or_eq_true,decide_eq_true_eq,Bool.not_eq_true',decide_eq_false_iff_not]at e;rcases e with(e|e)|e
  ·exact .inl ⟨m,hm,e⟩
  ·exact .inr ⟨m,hm,by simp[e]⟩
  ·exact .inr ⟨m,hm,by simp[e]⟩
theorem y9:∀(l:List Ms) (p:Int->Bool),h_ (l.map (·.id)) p=true↔ ∃(i:Nat) (m:Ms),l[i]? =some m/\(p m.id=true\/∃x∈l.take i,x.id=m.id)
 |[],p=>by simp[h_]
 |a::l,p=>by
  rw[aJ,h_,Bool.or_eq_true,y9 l];constructor
  ·rintro(h|⟨i,m,h1,h2⟩)
   ·exact⟨0,a,rfl,.inl h⟩
   ·refine⟨i+1,m,h1,?_⟩;rcases h2 with h2|⟨x,hx,e⟩
    ·rw[Bool.or_eq_true,decide_eq_true_eq]at h2;rcases h2 with h2|h2
     ·exact .inl h2
     ·exact .inr ⟨a,by simp,h2.symm⟩
    ·exact .inr ⟨x,by simp[hx],e⟩
  ·rintro⟨i,m,h1,h2⟩;cases i with
   |zero=>
    simp at h1;subst h1;rcases h2 with h2|⟨x,hx,-⟩
    ·exact .inl h2
    ·cases hx
   |succ i=>
    refine .inr ⟨i,m,by simpa using h1,?_⟩;rcases h2 with h2|⟨x,hx,e⟩
    ·exact .inl Ug
    ·rw[List.take_succ_cons,aK]at hx;rcases hx with rfl|hx
     ·exact .inl (by simp[e])
     ·exact .inr ⟨x,hx,e⟩
theorem HR.seen(h:HR H R H0)(hB:cx n H)(i:Int):(H.aI.any fun x=>tu x.2 i)=iS R i:=by
 have sv:=h.qa.len;have e:H.all.drop 4=H.aI.map (·.2):=by
  unfold Ho.all;rw[List.drop_append_of_le_length (by rw[hB.ways];omega),List.drop_eq_nil_of_le (by rw[hB.ways];omega)];rfl
 have e2:(H.aI.any fun x=>tu x.2 i)=(H.all.drop 4).any fun q=>tu q i:=by rw[e,List.any_map];rfl
 rw[e2];unfold iS;rw[Bool.eq_iff_iff,List.any_eq_true,List.any_eq_true];constructor
 ·rintro⟨q,hq,hp⟩;obtain⟨j,hj,rfl⟩:=List.getElem_of_mem hq;rw[bf]at hj;rw[List.getElem_drop]at hp;obtain⟨m,hm⟩:=h.qa.rel (4+j) H.all[4+j] R.all[4+j] (ak ae) (ak ae);refine⟨R.all[4+j],List.mem_of_getElem? (i:=j) Y14,?_⟩;unfold tu at hp;rw[List.any_eq_true]at hp ⊢;obtain⟨x,hx,V9⟩:=hp;exact⟨toRi x,hm.mem hx,V9⟩
 ·rintro⟨q,hq,hp⟩;obtain⟨j,hj,rfl⟩:=List.getElem_of_mem hq;rw[bf]at hj;rw[List.getElem_drop]at hp;obtain⟨m,hm⟩:=h.qa.rel (4+j) H.all[4+j] R.all[4+j] (ak ae) (ak ae);refine⟨H.all[4+j],List.mem_of_getElem? (i:=j) Y14,?_⟩;rw[hm.has];rw[List.any_eq_true]at hp;obtain⟨x,hx,V9⟩:=hp;have :R.all[4+j].any (sZ i)=true:=List.any_eq_true.2 ⟨x,hx,V9⟩;rw[<-nJ]at this;exact this
theorem HR.Zy(h:HR H R H0)(hB:cx n H)(l:List Ms):AX H l=h_ (l.map (·.id)) (iS R):=by
 rw[Bool.eq_iff_iff,y9];unfold AX;rw[List.any_eq_true];constructor
 ·rintro⟨⟨m,i⟩,hx,ht⟩;rw[List.mem_zipIdx_iff_getElem?]at hx;refine⟨i,m,hx,?_⟩;unfold Bx at ht;rw[Bool.or_eq_true,h.seen hB,List.any_eq_true]at ht;rcases ht with⟨x,hx,e⟩|ht
  ·unfold sV at e;exact .inr ⟨x,hx,by simpa using e⟩
  ·exact .inl ht
 ·rintro⟨i,m,h1,h2⟩;refine⟨(m,i),List.mem_zipIdx_iff_getElem?.2 h1,?_⟩;unfold Bx;rw[Bool.or_eq_true,h.seen hB,List.any_eq_true];rcases h2 with h2|⟨x,hx,e⟩
  ·exact .inr h2
  ·exact .inl ⟨x,hx,by unfold sV;simpa using e⟩
theorem HR.arP(h:HR H R H0)(hB:cx n H)(a num:Int)(l:List Ms):qn H a num l=(if dA R a=false then 2 else if R.down=true then 6 else if num<=R.ar a.toNat then 0 else if R.ar a.toNat+1<num then 10
 else if l.any (gS R)=true then 1 else if h_ (l.map (·.id)) (iS R)=true then 9 else 0):=by
 unfold qn;rw[h.right,h.dw,h.U8,h.Zy hB];by_cases g:l.any (gS R)=true
 ·rw[if_pos g,if_pos ((Lv h.id l).2 g)]
 ·rw[if_neg g,if_neg (fun g2=>g ((Lv h.id l).1 g2))]
theorem HR.abL(h:HR H R H0)(hB:cx n H)(a num:Int)(l:List Ms):DH H a num l=pV R a num l:=by
 unfold DH pV rV;rw[h.arP hB,h.U8];cases dA R a with
 |false=>rfl
 |true=>
  cases R.down with
  |true=>rfl
  |false=>
   rw[if_neg (show ¬(true=false)by decide),if_neg (show ¬(false=true)by decide)];by_cases g1:num<=R.ar a.toNat
   ·rw[if_pos g1];have :¬num=R.ar a.toNat+1:=by omega
    have g2:¬R.ar a.toNat<num:=by omega
    simp[this,g2]
   ·rw[if_neg g1];by_cases g2:R.ar a.toNat+1<num
    ·rw[if_pos g2];have :¬num=R.ar a.toNat+1:=by omega
     simp[this]
    ·rw[if_neg g2];have g3:num=R.ar a.toNat+1:=by omega
     cases l.any (gS R)with
     |true=>simp
     |false=>
      cases h_ (l.map (·.id)) (iS R)with
      |true=>simp
      |false=>
       have :R.ar a.toNat<num:=by omega
       simp[g3];omega
theorem HR.EE(h:HR H R H0)(hB:cx n H)(hd:DR D R)(a num:Int)(l:List Ms):EE H D a num l=nw R a num l:=by
 have hw:=h.abL hB a num l;unfold WB.EE nw;rw[hw,h.arP hB,h.log hd];unfold pV rV;cases dA R a with
 |false=>rfl
 |true=>
  cases R.down with
  |true=>rfl
  |false=>
   rw[if_neg (show ¬(true=false)by decide),if_neg (show ¬(false=true)by decide),if_neg (show ¬(true=false)by decide),if_neg (show ¬(false=true)by decide)];by_cases g1:num<=R.ar a.toNat
   ·rw[if_pos g1,if_pos g1];have :¬num=R.ar a.toNat+1:=by omega
    simp[this]
   ·rw[if_neg g1,if_neg g1];by_cases g2:R.ar a.toNat+1<num
    ·rw[if_pos g2,if_pos g2];rfl
    ·rw[if_neg g2,if_neg g2];have g3:num=R.ar a.toNat+1:=by omega
     cases l.any (gS R)with
     |true=>rfl
     |false=>
      cases h_ (l.map (·.id)) (iS R)with
      |true=>rfl
      |false=>simp[g3]
def vE:Rh->List Ms->List (Ms×Nat)
 |_,[]=>[]
 |R,m::l=>(m,fP R m)::vE (dB R m) l
theorem G4:∀(l:List Ms) (R:Rh),l.foldl dB R={R with all:=l8 R.all (vE R l)}
 |[],_=>rfl
 |m::l,R=>by
  rw[List.foldl_cons,G4 l];rfl
structure Zt (H:Ho) (R:Rh) (r:List (aj×Int)):Prop where
 ky:bw H=R.keys
 al:R.all.length=4+R.keys.length
 loc:∀s,dJ R.names s=cP H.names s/\(cP H.names s=true->(∃i,H.qI s=some i)/\s≠cr)
 len:∀s i,dJ R.names s=true->H.qI s=some i->((R.lq (4+i)).length:Int)=((H.dZ i).l.length:Int)+FB r s
theorem Zt.kI{r:List (aj×Int)}(h:Zt H R r)(s:aj):R.kI s=H.qI s:=by
 rw[oC];unfold Rh.kI;rw[<-h.ky];rfl
theorem Oo{s t:aj}{i:Nat}(h1:H.qI s=some i)(h2:H.qI t=some i):s=t:=(fC h1).2.symm.trans (fC h2).2
theorem G5{m:Ms}{i:Nat}(hd:fP R m<R.all.length):((dB R m).lq (4+i)).length=if fP R m=4+i then(R.lq (4+i)).length+1 else(R.lq (4+i)).length:=by
 unfold dB Rh.ff Rh.lq;dsimp only;rw[pa hd];by_cases e:fP R m=4+i
 ·rw[if_pos e,if_pos e.symm,e];unfold eT;simp
 ·rw[if_neg e,if_neg fun e2=>e e2.symm]
theorem tV:∀(l:List Ms) {R:Rh} {r:List (aj×Int)},Zt H R r->(∃i,H.qI cr=some i)->(l.zip (dh H l r)).map (fun x=>(x.1,4+(H.qI x.2).getD 0))=vE R l
 |[],_,_,_,_=>rfl
 |m::l,R,r,h,hdd=>by
  obtain⟨kd,YW⟩:=hdd;have ajD:kd<R.keys.length:=by rw[<-h.ky];unfold bw;rw[aX];exact(fC YW).1
  have sv:=h.al;obtain⟨l1,l2⟩:=h.loc m.queue;have same:bw H=(dB R m).keys/\(dB R m).all.length=4+(dB R m).keys.length/\(dB R m).names=R.names:=⟨h.ky,by rw[M1];exact h.al,rfl⟩;unfold vE dh;by_cases ht:toDead H m r=true
  ·rw[if_pos ht];have qi:fP R m=4+kd:=by
    unfold fP;rw[h.kI,h.kI,YW,if_neg]
    ·rfl
    ·rintro⟨a,b⟩;obtain⟨⟨i,hi⟩,-⟩:=l2 (by rw[<-l1];exact a);unfold toDead at ht;rw[hi]at ht b;dsimp only[Option.getD_some]at ht b;rw[<-l1,a]at ht;have :=h.len m.queue i a hi;simp at ht;omega
   rw[List.zip_cons_cons,aJ,YW,qi]
   have inv:Zt H (dB R m) r:=⟨same.1,same.2.1,h.loc,fun s i hs hi=>by
    rw[G5 (by rw[qi];omega),if_neg]
    ·exact h.len s i hs hi
    ·rw[qi];intro e;have e2:kd=i:=by omega
     subst e2;obtain⟨a,b⟩:=h.loc s
     exact(b (by rw[<-a];exact hs)).2 (Oo hi YW)⟩
   rw[tV l inv ⟨kd,YW⟩];rfl
  ·rw[if_neg ht];have ht:toDead H m r=false:=by simpa using ht
   unfold toDead at ht;cases hq:H.qI m.queue with
   |none=>rw[hq]at ht;cases ht
   |some i=>
    rw[hq]at ht;dsimp only at ht;rw[Bool.or_eq_false_iff]at ht;have Gu:cP H.names m.queue=true:=by simpa using ht.1
    have dN:((H.dZ i).l.length:Int)+FB r m.queue<20:=by have :=ht.2;simp at this;omega
    have hlen:=h.len m.queue i (by rw[l1];exact Gu) hq;have kD:i<R.keys.length:=by rw[<-h.ky];unfold bw;rw[aX];exact(fC hq).1
    have qi:fP R m=4+i:=by
     unfold fP;rw[h.kI,hq,if_pos]
     ·rfl
     ·exact⟨by rw[l1];exact Gu,by rw[Option.getD_some];omega⟩
    rw[List.zip_cons_cons,aJ,hq,qi]
    have inv:Zt H (dB R m) (iU r m.queue (FB r m.queue+1)):=⟨same.1,same.2.1,h.loc,fun s j hs hj=>by
     rw[G5 (by rw[qi];omega),Kx,qi];have :=h.len s j hs hj;by_cases e:m.queue=s
     ·subst e;rw[hq]at hj;cases hj
      rw[if_pos rfl,if_pos rfl];omega
     ·rw[if_neg e,if_neg]
      ·exact this
      ·intro e2;have e3:i=j:=by omega
       subst e3
       exact e (Oo hq hj)⟩
    rw[tV l inv ⟨kd,YW⟩];rfl
theorem HR.u9(h:HR H R H0)(hB:cx n H)(s:aj):dJ R.names s=cP H.names s/\(cP H.names s=true->(∃i,H.qI s=some i)/\s≠cr):=by
 refine⟨h.nm.local s,fun lP=>?_⟩;have hs:dJ R.names s=true:=by rw[h.nm.local];exact lP
 unfold dJ at hs;cases hk:lk R.names s with
 |none=>rw[hk]at hs;cases hs
 |some x=>
  rw[hk]at hs;obtain⟨hm,rfl⟩:=I2 hk;exact⟨hB.loc x (h.nm.perm.mem_iff.1 hm) (of_decide_eq_true hs),h.nd x hm⟩
theorem HR.rmI(h:HR H R H0)(hB:cx n H):Zt H R []:=by
 have sv:=h.qa.len;refine⟨h.ky,?_,h.u9 hB,fun s i hs hi=>?_⟩
 ·rw[<-sv,mL hB.ways,<-h.ky];unfold bw;simp
 ·obtain⟨-,-,m,hq⟩:=h.YD hB hi;rw[hq.I4,show FB [] s=0 from rfl];omega
theorem HR.M4(h:HR H R H0)(hi:HI k H D H0)(hb:hF c kb k (H,D))(hk:k<4)(hK:kb<=1000000000000)(hd:DR D R)(a num:Int){l:List Ms}(hl:l.length<=250):∃H3,HI k (vF H D a num l) (Bq H D a num l) H3/\HR (vF H D a num l) (qJ R a num l) H3/\DR (Bq H D a num l) (qJ R a num l):=by
 have hB:=hb.B;dsimp only at hB;have hG:=h.abL hB a num l;cases hw:DH H a num l with
 |false=>
  refine⟨H0,hi.U3 hl (.inl hw),?_⟩;unfold vF Bq qJ;rw[<-hG,hw,if_pos (show false=false from rfl)];exact⟨h,hd⟩
 |true=>
  have eR:qJ R a num l=if eB R≠0 then eP R else l.foldl dB {eP R with aC:=R.aC.set a.toNat (R.ar a.toNat+1)}:=by
   unfold qJ;rw[<-hG,hw,if_neg (show ¬true=false by decide)]
  have eH:vF H D a num l=nZ H D (lN H a l):=by unfold vF;rw[if_pos hw]
  have eD:Bq H D a num l=gg H D (lN H a l):=by unfold Bq;rw[if_pos hw]
  by_cases hW:eB R≠0
  ·have he:ec H D≠0:=by rw[h.log hd];exact hW
   refine⟨H0,hi.U3 hl (.inr he),?_⟩;rw[eH,eD,eR,if_pos hW];unfold nZ;rw[if_neg he];exact h.bad hd hW _
  ·have hW:eB R=0:=by simpa using hW
   have he:ec H D=0:=by rw[h.log hd];exact hW
   obtain⟨H3,P,BK,-⟩:=hi.M4 hb hk hK hl hw he;have hop:=BK.opened;obtain⟨h1,-,h3,h4,h5,h6⟩:=sd hw;obtain⟨t1,t2⟩:=AW h6;have hr:=b_.1 h1;have GK:=(hi.B0 hb hk hK).1;have e0:H0.id=H.id:=by rw[hi.QX,hi.hid]
   have Q5:=eV h4;have ug:=lb (H:=H) Q5 [];have xy:=lf H l [];have htq:∀t∈dh H l [],∃i,H.qI t=some i:=fun t ht=>by
    rcases yV l [] t ht with rfl|hh
    ·exact hi.dead
    ·exact hh
   obtain⟨eL,-,-,-⟩:=dK he (lN H a l);obtain⟨lH,dM⟩:=uU (k:=a) ⟨hr.1,hr.2.1⟩ h4 hl ug xy;have hz:∀x∈l.zip (dh H l []),((0<=x.1.pri/\x.1.pri<=9)/\0<=x.1.id/\x.1.id<=1099511627776)/\∃i,H.qI x.2=some i:=fun x hx=>by
    obtain⟨x1,x2⟩:=x;have h7:=List.of_mem_zip hx;obtain⟨m1,m2,m3,m4,-⟩:=bG (Q5 _ h7.1);exact⟨⟨⟨m3,m4⟩,m1,m2⟩,htq _ h7.2⟩
   have hBl:cx (300+c+250*H.used) {H with used:=H.used+1}:=by
    have :=hB.log (D:=D);rw[eL]at this;exact this
   obtain⟨H2,e2,-,k2,n2,x2,s2,-⟩:=pz (l.zip (dh H l [])) hBl hz;obtain⟨H4,e4,-,k4,n4,x4,s4,-⟩:=pz (l.zip (dh H l [])) GK fun x hx=>by
    obtain⟨b1,i,b2⟩:=hz x hx;exact⟨b1,i,by rw[bH hi.keys];exact b2⟩
   have Jc:(l.zip (dh H l [])).map (·.1.id)=l.map (·.id):=by
    rw[show(fun x:Ms×aj=>x.1.id)=(fun m:Ms=>m.id)∘(fun x=>x.1)from rfl,<-List.map_map,List.map_fst_zip (by rw[xy];exact aP _)]
   have Jo:∀m∈l,∀e∈hv H,eb e≠m.id:=fun m hm e he e5=>by
    have g1:=h5 m hm;unfold jw at g1;rw[Bool.or_eq_false_iff]at g1;have g2:m.id%4≠H.id:=by simpa using g1.2
    rcases Nat.lt_or_ge e.j 4 with h7|h7
    ·have :=hi.wy e he h7;unfold eb at e5;rw[e5,<-hi.hid]at this;exact g2 this
    ·obtain⟨q,a1,x,a2,a3⟩:=vQ.1 he;unfold Ho.all at a1;rw[bp (by rw[hB.ways];exact h7),aG]at a1;obtain⟨z,b1,b2⟩:=Option.map_eq_some_iff.1 a1;have g3:=t2 m hm z (ax b1);rw[b2]at g3;unfold tu at g3;rw[List.any_eq_false]at g3;have :=g3 x a2;unfold K2 at this;have g4:x.m.id=m.id:=by rw[<-e5,a3];rfl
     simp[g4]at this
   have hfA:∀x∈l.zip (dh H l []),∀b∈R.all,∀e∈b,e.m.id≠x.1.id:=fun x hx b hb e he=>by
    obtain⟨x1,x2⟩:=x;obtain⟨j,hj,rfl⟩:=List.getElem_of_mem hb;obtain⟨e',f1,-,f2,-⟩:=h.qa.mem (j:=j) (e:=e) (by rw[au,ak hj];exact he);have :=Jo x1 (List.of_mem_zip hx).1 e' f1;unfold eb at this;rw[f2]at this;exact this
   have afo:∀x∈l.zip (dh H l []),∀b∈R.all.map iZ,∀e∈b,e.m.id≠x.1.id:=fun x hx b hb e he=>by
    obtain⟨b0,UT,rfl⟩:=aB.1 hb;unfold iZ at he;obtain⟨e1,E6,rfl⟩:=aB.1 he;exact hfA x hx b0 UT e1 (aF.1 E6).1
   have r1:=AI (l.zip (dh H l [])) (H:={H with used:=H.used+1}) (A:=R.all) hB.ways h.qa (fun x hx=>⟨(hz x hx).1.1,(hz x hx).2⟩) (by rw[Jc];exact t1) hfA
   have r0:=AI (l.zip (dh H l [])) (H:=H0) (A:=R.all.map iZ) GK.ways h.q0 (fun x hx=>⟨(hz x hx).1.1,by
    obtain⟨-,i,b2⟩:=hz x hx
    exact⟨i,by rw[bH hi.keys];exact b2⟩⟩) (by rw[Jc];exact t1) afo
   have ed:=tV l (h.rmI hB) hi.dead;have ed0:(l.zip (dh H l [])).map (fun x=>(x.1,4+(H0.qI x.2).getD 0))=vE R l:=by
    rw[<-ed];exact List.map_congr_left fun x _=>by rw[bH hi.keys]
   have ed1:(l.zip (dh H l [])).map (fun x=>(x.1,4+(({H with used:=H.used+1}:Ho).qI x.2).getD 0))=vE R l:=ed;rw[ed1,e2]at r1;rw[ed0,e4,<-zI]at r0;have q0:hplays H0 (lN H a l)=({H4 with aC:=H0.aC.set a.toNat (fv H0 a.toNat+1)},true):=oj Y31 h4 ug xy e4;have q1:hplays {H with used:=H.used+1} (lN H a l)=({H2 with aC:=H.aC.set a.toNat (fv H a.toNat+1)},true):=oj (H:={H with used:=H.used+1}) h1 h4 ug xy e2;have Nz:ij (k:Int) (gg H D (lN H a l))=_:=(hi.Om he (Nat.le_trans dM ah) (Lr _ Q5 ug) lH q0).2;rw[eD]at hop;rw[hop]at Nz;obtain⟨g1,g2,g3⟩:=h.ok hd hW (lN H a l);have eH2:vF H D a num l={H2 with aC:=H.aC.set a.toNat (fv H a.toNat+1)}:=by
    rw[eH];unfold nZ;rw[if_pos he,eL,q1]
   rw[eH2,eD]at BK ⊢;rw[eR,if_neg Y70,G4];have hcd:∀(l:List Ms) {R1 R2:Rh},R1.names=R2.names->R1.keys=R2.keys->R1.all=R2.all->vE R1 l=vE R2 l:=by
    intro l
    induction l with
    |nil=>intros;rfl
    |cons m l ih=>
     intro R1 R2 a1 a2 a3;have wQ:fP R1 m=fP R2 m:=by unfold fP Rh.lq Rh.kI;rw[a1,a2,a3]
     unfold vE;rw[wQ,ih (R1:=dB R1 m) (R2:=dB R2 m) a1 a2 (by unfold dB Rh.ff Rh.lq;dsimp only;rw[a3,wQ])]
   have w:=ib R;rw[hcd l (R1:={eP R with aC:=R.aC.set a.toNat (R.ar a.toNat+1)}) (R2:=R) w.2.1 w.2.2.1 w.2.2.2.1];refine⟨H3,BK,?_,g2.same rfl rfl⟩;rw[Nz];refine⟨s2.id.trans g1.id,?_,g1.nd,k2.trans g1.ky,?_,?_,x2.trans g1.nx,x4.trans g1.n0,s2.batch.trans g1.bt,g1.dn,s2.bT.trans g1.sn,?_,?_,s2.down.trans g1.dw,?_,g1.un,fun u hu=>?_⟩
   ·show iX H2.names _
    rw[n2];exact g1.nm
   ·show QA H2.all (l8 (eP R).all _)
    rw[w.2.2.2.1];exact r1
   ·show QA H4.all ((l8 (eP R).all _).map iZ)
    rw[w.2.2.2.1];exact r0
   ·show H.aC.set a.toNat (fv H a.toNat+1)=R.aC.set a.toNat _
    rw[h.av,h.U8]
   ·show((H2.used:Nat):Int)=_
    rw[s2.used];exact g1.us
   ·exact zJ _ g1.rg
   ·have e5:({H2 with aC:=H.aC.set a.toNat (fv H a.toNat+1)}:Ho).dW u=H.dW u:=by unfold Ho.dW;rw[show({H2 with aC:=H.aC.set a.toNat (fv H a.toNat+1)}:Ho).ay=H.ay from s2.ay]
    rw[e5];exact(g1.ur u hu).keys (H:={H with used:=H.used+1}) k2 s2.id
theorem HR.xZ(h:HR H R H0)(hi:HI k H D H0)(hb:hF c kb k (H,D))(hk:k<4)(hK:kb<=1000000000000)(hd:DR D R)(a num:Int){l:List Ms}(hl:l.length<=250):xZ H D a num l=rh R a num l:=by
 have hB:=hb.B;dsimp only at hB;have hE:=h.EE hB hd a num l;unfold WB.xZ rh;rw[hE];by_cases g:nw R a num l=0
 ·rw[if_pos g,if_neg (by simpa using g)];cases hw:DH H a num l with
  |false=>
   have e1:vF H D a num l=H:=by unfold vF;rw[hw,if_neg ah]
   rw[e1,h.U8,if_pos];have h1:=hw;unfold DH at h1;rw[decide_eq_false_iff_not]at h1;have h2:qn H a num l=0:=by
    rw[<-hE]at g;unfold WB.EE at g;by_cases g2:qn H a num l≠0
    ·rw[if_pos g2]at g;exact absurd g g2
    ·simpa using g2
   rw[<-h.U8];omega
  |true=>
   have he:ec H D=0:=by
    rw[<-hE]at g;unfold WB.EE at g;by_cases g2:qn H a num l≠0
    ·rw[if_pos g2]at g;exact absurd g g2
    ·rw[if_neg g2,if_pos hw]at g;exact g
   obtain⟨H3,P,-,-,-,-,-,-,-,-,e⟩:=hi.M4 hb hk hK hl hw he;have h3:=(sd hw).2.2.1;rw[e,h.U8];rw[h.U8]at h3;rw[if_neg ae]
 ·rw[if_neg g,if_pos g]
end
section
variable {c kb k n:Nat} {H H0:Ho} {D:Dk} {R:Rh}
theorem Ty(l:List Ri):iZ (iZ l)=iZ l:=by
 have e:∀e∈iZ l,decide (e.put<0)=true:=fun e he=>by
  unfold iZ at he;obtain⟨a,-,rfl⟩:=aB.1 he;rfl
 have e2:iZ (iZ l)=(iZ l).map fun e=>⟨e.m,-1,-1⟩:=by
  show((iZ l).filter _).map _=_
  rw[bJ.2 e]
 rw[e2];unfold iZ;rw[List.map_map];rfl
theorem Xi(l:List Ri):∀e∈iZ l,DK e:=fun e he=>by
 unfold iZ at he;obtain⟨a,-,rfl⟩:=aB.1 he;unfold DK;dsimp only;omega
theorem JL(R:Rh)(hu:R.ay.length=5)(hg:∀l∈R.all,∀e∈l,DK e):(dX R).all=R.all.map iZ/\(dX R).ay.length=5/\(∀u,u<5->(dX R).uq u=[])/\(dX R).id=R.id/\(dX R).names=R.names/\(dX R).keys=R.keys/\(dX R).count=R.fD/\(dX R).fD=R.fD/\(dX R).bQ=R.bQ/\(dX R).made=R.made/\(dX R).aC=R.aC/\(dX R).used=R.used/\(dX R).down=false/\(dX R).off=R.off/\(dX R).left=R.left:=by
 have e:List.range 5=[0,1,2,3,4]:=rfl;have ea:(dX R).all=R.all.map FH:=by
  unfold dX FH;rw[e];simp only[List.foldl_cons,List.foldl_nil,cO,List.map_map];rfl
 have eu:(dX R).ay=((((R.ay.set 0 []).set 1 []).set 2 []).set 3 []).set 4 []:=by
  unfold dX;rw[e];rfl
 refine⟨?_,by rw[eu];simpa using hu,fun u h5=>?_,rfl,rfl,rfl,rfl,rfl,rfl,rfl,rfl,rfl,rfl,rfl,rfl⟩
 ·rw[ea];exact List.map_congr_left fun l hl=>L8 (hg l hl)
 ·unfold Rh.uq;rw[eu,au];obtain⟨a,b,c,d,f,hh⟩:∃a b c d f,R.ay=[a,b,c,d,f]:=by
   match hr:R.ay,hu with
   |[a,b,c,d,f],_=>exact⟨a,b,c,d,f,rfl⟩
  rw[hh]
  match u,h5 with
  |0,_=>rfl
  |1,_=>rfl
  |2,_=>rfl
  |3,_=>rfl
  |4,_=>rfl
theorem HR.Qb(h:HR H R H0)(hi:HI k H D H0):HR H0 (dX R) H0:=by
 obtain⟨a1,a2,a3,a4,a5,a6,a7,a8,a9,a10,a11,a12,a13,-,-⟩:=JL R h.un h.rg;obtain⟨Rr,r1,r2,r3⟩:=hi.RZ;have hu:=r2.used;have hs:=r2.same;refine⟨?_,?_,?_,?_,?_,?_,?_,?_,?_,?_,?_,?_,?_,?_,?_,a2,fun u hu=>?_⟩
 ·rw[a4,hi.QX,<-h.id,hi.hid]
 ·rw[a5,hi.names];exact h.nm
 ·rw[a5];exact h.nd
 ·rw[a6,hi.keys];exact h.ky
 ·rw[a1];exact h.q0
 ·rw[a1,List.map_map,show iZ∘iZ=iZ from funext Ty];exact h.q0
 ·rw[a7];exact h.n0
 ·rw[a8];exact h.n0
 ·rw[a9,hi.bt];exact h.bt
 ·rw[a9];exact h.dn
 ·rw[a10,hi.sn];exact h.sn
 ·rw[a11,hi.av];exact h.av
 ·rw[a12,<-h.us,hu,r3]
  show((0+Rr.length:Nat):Int)=_
  omega
 ·rw[a13,hs.2.1];rfl
 ·rw[a1];intro l hl;obtain⟨b,-,rfl⟩:=aB.1 hl;exact Xi b
 ·rw[a3 u hu];have :H0.dW u=⟨[],[]⟩:=by
   unfold Ho.dW;rw[hi.DP]
   match u,hu with
   |0,_=>rfl
   |1,_=>rfl
   |2,_=>rfl
   |3,_=>rfl
   |4,_=>rfl
  rw[this];exact UR.nil _
theorem DR.Qb(h:DR D R):DR D (dX R):=h.same rfl rfl
theorem HR.cut(h:HR H R H0)(n m:Int):HR {H with dC:=m} (FE R n) H0:=
 ⟨h.id,h.nm,h.nd,h.ky,h.qa,h.q0,h.nx,h.n0,h.bt,h.dn,h.sn,h.av,h.us,h.dw,h.rg,h.un,fun u hu=>⟨(h.ur u hu).aT,(h.ur u hu).aY⟩⟩
theorem DR.agk(D:Dk)(R:Rh)(n:Int)(hn: -9223372036854775808<=n/\n<=9223372036854775807):DR (kN D n) (FE R n):=by
 refine⟨rfl,fun ho=>?_,hn⟩;have :0<=n:=of_decide_eq_true ho;exact⟨by show max n 0=n;omega,this⟩
structure HPI (i j:Nat) (id:Int) (H:Ho) (D:Dk) (R:Rh):Prop where
 ex:∃(k:Nat) (H0:Ho),id=(k:Int)/\k<4/\HI k H D H0/\hF i (i+j) k (H,D)/\HR H R H0/\DR D R/\∀y∈H.ay,y.aT.length+y.aY.length<=i
theorem HR.Uz(h:HR H R H0){l:List Ri}(hl:l∈R.all):∃q∈H.all,∃n,ej n q l:=by
 obtain⟨j,hj,rfl⟩:=List.getElem_of_mem hl;have hjH:j<H.all.length:=by rw[h.qa.len];exact hj
 exact⟨H.all[j],List.getElem_mem hjH,h.qa.rel j _ _ (ak hjH) (ak hj)⟩
theorem HR.Kq(h:HR H R H0)(hB:cx n H){l:List Dd}(hl:l∈R.ay):∃x∈H.ay,UR H x l:=by
 obtain⟨u,hu,rfl⟩:=List.getElem_of_mem hl;have QY:u<5:=by rw[<-h.un];exact hu
 have e:R.uq u=R.ay[u]:=by unfold Rh.uq;rw[au,ak hu];rfl
 have :=h.ur u QY;rw[e]at this;exact⟨H.dW u,ax (nb hB QY),this⟩
theorem HR.rhB(h:HR H R H0)(hi:HI k H D H0)(hb:hF c kb k (H,D))(hc:c<=100)(hk:k<4)(hK:kb<=1000000000000)(hd:DR D R)(hm:∀y∈H.ay,y.aT.length+y.aY.length<=c):gd 79000 R:=by
 have hB:=hb.B;dsimp only at hB;have hu3:=hB.used;have GK:=(hi.B0 hb hk hK).1;have hq:=hb.ql;dsimp only at hq;have mV:R.keys.length=H.aI.length:=by rw[<-h.ky];unfold bw;simp
 have sv:R.all.length=4+R.keys.length:=by rw[<-h.qa.len,mL hB.ways,mV]
 have Em:=hB.next
 have Wq:=GK.next
 have Je:=h.us;have Td:cx 79000 H:=hB.le ae;refine⟨by rw[<-h.id];have :=hB.id;omega,by rw[h.nm.len];exact hB.fT,fun x hx=>hB.right x (h.nm.perm.mem_iff.1 hx),sv,by omega,by rw[<-h.ky];exact hB.nodup,?_,fun s hs=>?_,fun l hl=>?_,fun l hl e he=>?_,h.un,fun l hl=>?_,fun l hl d hdd=>?_,by rw[<-h.nx];exact Em,by rw[<-h.n0];exact Wq,by rw[<-h.bt];exact hB.batch,fun l hl=>(h.dn l hl).2,⟨by rw[<-h.sn];exact hB.bT,by rw[<-h.sn];exact Td.ext.VC⟩,⟨by rw[<-h.av];exact hB.aC,by rw[<-h.av];exact Td.ext.arr⟩,by rw[<-Je];omega,hd.rl⟩
 ·obtain⟨i,hi⟩:=hi.dead;exact⟨i,by rw[<-h.kI];exact hi⟩
 ·obtain⟨a,b⟩:=h.u9 hB s;obtain⟨⟨i,hi⟩,-⟩:=b (by rw[<-a];exact hs);exact⟨i,by rw[<-h.kI];exact hi⟩
 ·obtain⟨q,UG,m,wH⟩:=h.Uz hl;rw[<-wH.I4];exact(Td.qs q UG).len
 ·obtain⟨q,UG,m,wH⟩:=h.Uz hl;have h1:=(nN wH.rk).mem_iff.2 he;rw[<-wH.rel]at h1;obtain⟨x,hx,rfl⟩:=aB.1 h1;exact(Td.qs q UG).ids x hx
 ·obtain⟨x,hx,hu⟩:=h.Kq hB hl;have :=hm x hx;have :=hu.len;omega
 ·obtain⟨x,hx,hu⟩:=h.Kq hB hl;have qM:=(hb.ay x hx).1;obtain⟨u,QY,Ej⟩:=List.getElem_of_mem hx;have ui:=hi.unit u x (by rw[ak QY,Ej]);cases hp:d.put with
  |true=>
   have h1:(d.m,d.q)∈x.aT.map fun p=>(p.1,kM H p.1):=by
    rw[hu.aT];exact List.mem_map_of_mem (f:=fun d:Dd=>(d.m,d.q)) (aF.2 ⟨hdd,hp⟩)
   obtain⟨p,om,iq⟩:=aB.1 h1;simp only[Prod.mk.injEq]at iq;have hr:=bG (qM.aT p om);rw[iq.1]at hr;refine⟨?_,hr.1,hr.2.1⟩;rw[<-iq.2,iq.1];unfold kM;by_cases e:d.m.bF≠H.id
   ·rw[if_pos e];omega
   ·rw[if_neg e];obtain⟨i,h2⟩:=(ui.aT p om).1 (by rw[iq.1];simpa using e);rw[iq.1]at h2;have :=(fC h2).1;rw[h2,Option.getD_some];omega
  |false=>
   have h1:(d.m.id,some d.q)∈x.aY.map fun g=>(g.1,(H.qI g.2).map (4+ ·)):=by
    rw[hu.aY];exact List.mem_map_of_mem (f:=fun d:Dd=>(d.m.id,some d.q)) (aF.2 ⟨hdd,by simp[hp]⟩)
   obtain⟨g,Al,Pt⟩:=aB.1 h1;simp only[Prod.mk.injEq]at Pt;have hr:=qM.aY g Al;rw[Pt.1]at hr;refine⟨?_,hr.1,hr.2.1⟩;obtain⟨i,h2,h3⟩:=Option.map_eq_some_iff.1 Pt.2;have :=(fC h2).1;omega
theorem As{α β:Type}{f:α->List β}{n:Nat}:∀{l:List α},(∀x∈l,(f x).length<=n)->(l.flatMap f).length<=n *l.length
 |[],_=>by simp
 |a::l,h=>by
  have h1:=h a ai;have h2:=As fun x hx=>h x (List.mem_cons_of_mem _ hx)
  rw[bj,aW,List.length_cons,Nat.mul_succ];omega
theorem HR.iQ(h:HR H R H0)(hB:cx n H)(s:aj):iQ H s=jR R s/\lQ H s=jm R s:=by
 have key:WB.iQ H s=jR R s:=by
  unfold WB.iQ jR;rw[h.of];cases hq:H.qI s with
  |none=>rfl
  |some i=>
   dsimp only;by_cases g:s≠cr/\cP H.names s=false
   ·rw[if_pos g,if_pos g]
   ·rw[if_neg g,if_neg g]
 refine⟨key,?_⟩;unfold lQ;rw[key];by_cases hz:jR R s=0
 ·rw[if_pos hz];unfold jR at hz;unfold jm;cases ho:kA R s with
  |none=>rw[ho]at hz;cases hz
  |some q=>
   rw[h.of]at ho;cases hq:H.qI s with
   |none=>rw[hq]at ho;cases ho
   |some i=>
    rw[hq]at ho;dsimp only at ho;split at ho
    ·cases ho
    ·cases ho
     obtain⟨a,b,m,wH⟩:=h.YD hB hq;rw[Option.getD_some,wH.there]
 ·rw[if_neg hz];unfold jR at hz;unfold jm;cases ho:kA R s with
  |none=>rfl
  |some q=>rw[ho]at hz;exact absurd rfl hz
theorem HR.iV(h:HR H R H0)(hB:cx n H)(s:aj):iV H s=my R s:=by
 unfold WB.iV my;rw[<-h.kI];cases hq:H.qI s with
 |none=>rfl
 |some i=>
  obtain⟨a,b,m,wH⟩:=h.YD hB hq;exact wH.kept
theorem HR.alk(h:HR H R H0)(hi:HI k H D H0)(hb:hF c kb k (H,D))(hc:c<=100)(s:aj):Alk H R s:=by
 have hB:=hb.B;dsimp only at hB;have hu3:=hB.used;have hq:=hb.ql;dsimp only at hq;obtain⟨h1,h2⟩:=h.iQ hB s;have UM:(cS (H.aI.map (·.1))).flatMap (WB.iV H)=iT R:=by
  unfold iT;rw[<-h.ky];exact tL fun x _=>h.iV hB x
 refine⟨h1,h2,?_,UM,h.us,h.dw,h.nm,h.id,fun j hj _=>?_,fun j hj=>⟨h.bc j,fun _=>h.ZI j,h.U8 j⟩⟩
 ·rw[<-UM];have h3:((cS (H.aI.map (·.1))).flatMap (WB.iV H)).length<=79000*(cS (H.aI.map (·.1))).length:=As fun x _=>by
   unfold WB.iV;cases wH:H.qI x with
   |none=>exact aH _
   |some i=>
    have hl:=(hB.qa (fC wH).1).len;unfold ig;rw[aX];have :=List.length_filter_le (fun e:It=>decide (e.put<0)) (H.dZ i).l;omega
  have h4:(cS (H.aI.map (·.1))).length=H.aI.length:=by rw[(nj _).length_eq,aX]
  rw[h4]at h3;omega
 ·obtain⟨-,m,wH⟩:=h.mc hB hj;exact wH.kept
theorem PI(hB:cx n H){u:Int}{s:aj}(he:gX H u s=0):cH s=true:=by
 unfold gX at he;split at he
 ·cases he
 ·cases hq:H.qI s with
  |none=>rw[hq]at he;cases he
  |some i=>
   rw[hq]at he;dsimp only at he;by_cases g:s≠cr/\cP H.names s=false
   ·rw[if_pos g]at he;cases he
   ·by_cases e:s=cr
    ·rw[e];exact AG
    ·have hl:cP H.names s=true:=by
      cases hl:cP H.names s with
      |true=>rfl
      |false=>exact absurd ⟨e,hl⟩ g
     unfold cP at hl;rw[gk hB.sorted]at hl;cases hk:lk H.names s with
     |none=>rw[hk]at hl;cases hl
     |some x=>
      obtain⟨hm,rfl⟩:=I2 hk;exact(gu (hB.right x hm)).1
theorem pL{w:Nat}{x:pI}{i:Nat}(hm:∀y∈H.ay,y.aT.length+y.aY.length<=i)(hx:x.aT.length+x.aY.length<=i+1):∀y∈H.ay.set w x,y.aT.length+y.aY.length<=i+1:=fun y hy=>by
 rcases aD hy with h1|rfl
 ·have :=hm y h1;omega
 ·exact hx
theorem NY{i:Nat}(hm:∀y∈H.ay,y.aT.length+y.aY.length<=i)(w:Nat):(H.dW w).aT.length+(H.dW w).aY.length<=i:=by
 unfold Ho.dW;rw[au];cases hu:H.ay[w]? with
 |none=>exact aH _
 |some y=>exact hm y (ax hu)
theorem hF.name(h:hF c kb k (H,D))(x:Nm):hF c (kb+1) k (jF H D x,jZ H D x):=by
 unfold jF jZ;by_cases h1:fh H x≠0
 ·rw[if_pos h1,if_pos h1];exact h.mono (aP _) (Nat.le_succ _)
 ·rw[if_neg h1,if_neg h1];have h2:cu H.names x=0:=by
   unfold fh at h1;by_cases h2:cu H.names x≠0
   ·rw[if_pos h2]at h1;exact absurd h2 h1
   ·simpa using h2
  obtain⟨q1,q2,-⟩:=vX h2;exact h.write (x:=(H,D)) q1 q2
theorem hF.IA(h:hF c kb k (H,D))(s:aj):hF c (kb+1) k (QT H D s,Up H D s):=by
 unfold QT Up;by_cases h1:oy H s≠0
 ·rw[if_pos h1,if_pos h1];exact h.mono (aP _) (Nat.le_succ _)
 ·rw[if_neg h1,if_neg h1];have h2:H.names.any (fun x=>decide (x.name=s))=true:=by
   unfold oy at h1;split at h1
   ·assumption
   ·exact absurd ah h1
  obtain⟨q1,q2,-⟩:=KF (Kk h.B.right h2);exact h.write (x:=(H,D)) q1 q2
theorem F2{i:Nat}(hm:∀y∈H.ay,y.aT.length+y.aY.length<=i)(x:Nm):∀y∈(jF H D x).ay,y.aT.length+y.aY.length<=i:=by
 unfold jF;split
 ·exact hm
 ·rw[(uu H D _).2];exact hm
theorem Vt{i:Nat}(hm:∀y∈H.ay,y.aT.length+y.aY.length<=i)(s:aj):∀y∈(QT H D s).ay,y.aT.length+y.aY.length<=i:=by
 unfold QT;split
 ·exact hm
 ·rw[(uu H D _).2];exact hm
theorem y0(H:Ho)(D:Dk)(s:aj):(nZ H D s).ay=H.ay:=(uu H D s).2
theorem HR.act(h:HR H R H0)(hi:HI k H D H0)(hb:hF c kb k (H,D))(hd:DR D R)(hm:∀y∈H.ay,y.aT.length+y.aY.length<=c)(hc:c<=200)(hk:k<4)(hK:kb<=1000000000000)(x:Ac)(hf:vz x=true):
 E_ H D R x=true/\∃H3,HI k (Bp H D x) (BM H D x) H3/\hF (c+1) (kb+1) k (Bp H D x,BM H D x)/\HR (Bp H D x) (Dt R x) H3/\DR (BM H D x) (Dt R x)/\∀y∈(Bp H D x).ay,y.aT.length+y.aY.length<=c+1:=by
 obtain⟨f1,f2,f3,f4,f5⟩:=Au hf;have hB:=hb.B;dsimp only at hB;have hm6:∀y∈(H,D).1.ay,y.aT.length+y.aY.length<=600:=fun y hy=>by have :=hm y hy;omega
 have le1:c<=c+1:=Nat.le_succ c;have mono:∀{x:Ho×Dk},hF c (kb+1) k x->hF (c+1) (kb+1) k x:=fun hh=>hh.mono le1 (aP _)
 have KN:∀{x:Ho×Dk},hF c kb k x->hF (c+1) (kb+1) k x:=fun hh=>hh.mono le1 (Nat.le_succ _)
 have Uy:∀{x:Ho×Dk},hF (c+1) kb k x->hF (c+1) (kb+1) k x:=fun hh=>hh.mono (aP _) (Nat.le_succ _)
 have up:∀{us:List pI},(∀y∈us,y.aT.length+y.aY.length<=c)->∀y∈us,y.aT.length+y.aY.length<=c+1:=fun hh y hy=>by have :=hh y hy;omega
 unfold E_ Bp BM Dt;by_cases w0:x.cR=0
 ·simp only[if_pos w0];obtain⟨H3,a,b,d⟩:=h.name hi hd x.nm;exact⟨decide_eq_true (h.jG hd x.nm),H3,a,mono (hb.name x.nm),b,d,up (F2 hm x.nm)⟩
 simp only[if_neg w0];by_cases w1:x.cR=1
 ·simp only[if_pos w1];obtain⟨H3,a,b,d⟩:=h.IA hi hd hB.right x.nm.name;exact⟨decide_eq_true (h.Vu hd _),H3,a,mono (hb.IA _),b,d,up (Vt hm _)⟩
 simp only[if_neg w1];by_cases w2:x.cR=2
 ·simp only[if_pos w2,if_neg (show ¬x.cR=4 by omega),if_neg (show ¬x.cR=7 by omega),if_neg (show ¬x.cR=8 by omega)];obtain⟨p,a,b,d⟩:=h.put hi hB hd x.n x.nm.name x.m x.body;refine⟨by rw[h.gN hB,p];simp,H0,a,Uy (hb.put x.n x.nm.name x.m x.body hm6),b,d,?_⟩;unfold lA;split
  ·unfold cA;refine pL (H:={H.eN (mD H x.nm.name) (lU (H.rI (mD H x.nm.name)) (fR H x.nm.name x.m x.body) x.n)with next:=H.next+1}) (fun y hy=>hm y (by rw[<-jr (H:=H)];exact hy)) ?_;have :=NY hm x.n.toNat;simp;omega
  ·exact up hm
 simp only[if_neg w2];by_cases w3:x.cR=3
 ·simp only[if_pos w3,if_neg (show ¬x.cR=4 by omega),if_neg (show ¬x.cR=7 by omega),if_neg (show ¬x.cR=8 by omega)];obtain⟨a,b,d⟩:=h.get hi hB hd x.n x.nm.name;obtain⟨p1,p2⟩:=h.gX hB x.n x.nm.name;refine⟨by rw[p1,p2];simp,H0,a,?_,b,d,?_⟩
  ·by_cases he:WB.gX H x.n x.nm.name=0
   ·exact Uy (hb.get x.n (PI hB he) hm6)
   ·have :kH H x.n x.nm.name=H:=by unfold kH;rw[if_neg he]
    rw[this];exact KN hb
  ·unfold kH;split
   ·unfold cA;refine pL (H:=H.eA _ _) (fun y hy=>hm y hy) ?_;have :=NY hm x.n.toNat;simp;omega
   ·exact up hm
 simp only[if_neg w3];by_cases w4:x.cR=4
 ·simp only[if_pos w4];obtain⟨H3,a,b,d⟩:=h.JE hi hb hk hK ae hd x.n;refine⟨decide_eq_true (h.yS hd _),H3,a,?_,b,d,?_⟩
  ·by_cases hu:0<=x.n/\x.n<5
   ·obtain⟨w,hw⟩:∃w:Nat,x.n=(w:Int):=⟨x.n.toNat,by omega⟩;rw[hw];exact mono (hb.cm ae ae)
   ·have hp:ji H x.n≠0:=by unfold ji;rw[if_pos (show x.n<0\/5<=x.n by omega)];decide
    have e1:uj H D x.n=H:=by unfold uj;rw[if_pos hp]
    have e2:xX H D x.n=D:=by unfold xX;rw[if_pos hp]
    rw[e1,e2];exact KN hb
  ·rw[Dz];split
   ·exact pL hm (aH _)
   ·exact up hm
 simp only[if_neg w4];by_cases w5:x.cR=5
 ·simp only[if_pos w5,if_neg (show ¬x.cR=4 by omega),if_neg (show ¬x.cR=7 by omega),if_neg (show ¬x.cR=8 by omega)];obtain⟨a,b,d⟩:=h.back hi hB hd x.n;refine⟨decide_eq_true (h.AS _),H0,a,KN (hb.bk x.n),b,d,?_⟩;unfold BP;split
  ·unfold cA;exact pL (H:=cv H x.n) hm (aH _)
  ·exact up hm
 simp only[if_neg w5];by_cases w7:x.cR=7
 ·simp only[if_pos w7];obtain⟨H3,a,b,d⟩:=h.known hi hb hk hK hd x.n x.m;refine⟨decide_eq_true (h.Xk hd _ _),H3,a,mono (hb.ca x.n x.m),b,d,?_⟩;unfold G8;split
  ·exact up hm
  ·rw[y0];exact up hm
 simp only[if_neg w7];by_cases w8:x.cR=8
 ·simp only[if_pos w8];obtain⟨H3,a,b,d⟩:=h.M4 hi hb hk hK hd x.n x.m (l:=x.list) ae;refine⟨by rw[h.EE hB hd,h.xZ hi hb hk hK hd x.n x.m (l:=x.list) ae];simp,H3,a,mono (hb.ar x.n x.m ae),b,d,?_⟩;unfold vF;split
  ·rw[y0];exact up hm
  ·exact up hm
 simp only[if_neg w8];exact⟨trivial,H0,hi,KN hb,h,hd,up hm⟩
end
theorem aaC:Vk HPI where
 start:=fun {id} hid=>by
  obtain⟨k,rfl⟩:∃k:Nat,id=(k:Int):=⟨id.toNat,by omega⟩;rw[OB];have hB:cx 10 (gx (k:Int)):=Jt ae;have ae0:∀x∈(gx (k:Int)).all,x=⟨[],0⟩:=fun x hx=>by
   unfold Ho.all gx at hx;dsimp only at hx;rcases aO.1 hx with hx|hx
   ·exact List.eq_of_mem_replicate hx
   ·simpa using hx
  have Ny:hv (gx (k:Int))=[]:=rfl;have wE:∀y∈(gx (k:Int)).ay,y=⟨[],[]⟩:=fun y hy=>List.eq_of_mem_replicate hy
  refine⟨⟨k,gx k,rfl,by omega,?_,?_,?_,?_,fun y hy=>by rw[wE y hy];exact aP 0⟩⟩
  ·refine⟨rfl,⟨[],wW,.nil _,rfl⟩,rfl,rfl,rfl,rfl,rfl,⟨0,rfl⟩,(fun e he=>by rw[Ny]at he;cases he),by unfold hk;rw[Ny];exact .refl _,by rw[Ny];exact List.nodup_nil,(fun e he=>by rw[Ny]at he;cases he),(fun e he=>by rw[Ny]at he;cases he),(fun e he=>by rw[Ny]at he;cases he),Int.le_refl _,fun u x hx=>?_,fun d i hi=>?_⟩
   ·rw[wE x (ax hx)];exact UJ.nil _ _
   ·have :cJ (gx (k:Int)) d=[]:=by
     unfold cJ;rw[au];cases hd:(gx (k:Int)).batch[d]? with
     |none=>rfl
     |some l=>exact List.eq_of_mem_replicate (ax hd)
    rw[this]at hi;cases hi
  ·have qM:=GX;refine⟨rfl,hB.le (by show 10<=300+0+250*0;decide),qM.len,⟨show -(((0+0:Nat):Int))<=0 by omega,show(0:Int)<=9223372036854775807 by omega⟩,qM.size,qM.nT,fun u hu=>?_,Lc _,show 1<=2+0 by omega⟩;rw[wE u hu];exact⟨⟨(fun p hp=>by cases hp),(fun p hp=>by cases hp),by decide⟩,aH _⟩
  ·have hqa:QA (gx (k:Int)).all (List.replicate 5 []):=by
    refine⟨rfl,fun j q l h1 h2=>?_⟩;have :=ae0 q (ax h1);have h3:=List.eq_of_mem_replicate (ax h2);subst this;subst h3;exact⟨0,FJ⟩
   refine⟨rfl,.nil,(fun x hx=>by cases hx),rfl,hqa,?_,rfl,rfl,rfl,fun l hl=>?_,rfl,rfl,rfl,rfl,fun l hl e he=>?_,rfl,fun u hu=>?_⟩
   ·show QA _ ((List.replicate 5 []).map iZ)
    exact hqa
   ·have :l=[]:=List.eq_of_mem_replicate hl;subst this;exact⟨List.nodup_nil,aH _⟩
   ·have :l=[]:=List.eq_of_mem_replicate hl;subst this;cases he
   ·match u,hu with
    |0,_=>exact UR.nil _
    |1,_=>exact UR.nil _
    |2,_=>exact UR.nil _
    |3,_=>exact UR.nil _
    |4,_=>exact UR.nil _
  ·exact⟨rfl,(fun h=>absurd h (show ¬(false=true)by decide)),by show -9223372036854775808<=(0:Int)/\(0:Int)<=9223372036854775807;omega⟩
 bound:=fun {i j id H D R} ⟨k,H0,e,hk,hi,hb,h,hd,hm⟩ h1 h2=>by
  have hB:=hb.B;have hu3:=hB.used;have hl:=hb.left;have hq:=hb.ql;dsimp only at hB hu3 hl hq;exact⟨hB.le ae,fun y hy=>(hb.ay y hy).1,hb.ok ae,by omega,by omega,h.rhB hi hb h1 hk ae hd hm⟩
 alk:=fun {i j id H D R} ⟨k,H0,e,hk,hi,hb,h,hd,hm⟩ h1 h2 s=>h.alk hi hb h1 s
 name:=fun {j id H D R} ⟨k,H0,e,hk,hi,hb,h,hd,hm⟩ h1 x=>by
  obtain⟨H3,a,b,c⟩:=h.name hi hd x;exact⟨h.jG hd x,⟨k,H3,e,hk,a,hb.name x,b,c,F2 hm x⟩⟩
 act:=fun {i j id H D R} ⟨k,H0,e,hk,hi,hb,h,hd,hm⟩ h1 h2 x hf n6 n9 n10=>by
  obtain⟨a,H3,b1,b2,b3,b4,b5⟩:=h.act hi hb hd hm ae hk ae x hf;exact⟨a,⟨k,H3,e,hk,b1,b2.mono (aP _) ae,b3,b4,b5⟩⟩
 batch:=fun {i j id H D R} ⟨k,H0,e,hk,hi,hb,h,hd,hm⟩ h1 h2 a=>by
  have iw:hF (i+1) (i+1+j) k (qE H D a,xY H D a):=(hb.bt a).mono (Nat.le_succ i) ae;obtain⟨H3,a1,b,c⟩:=h.batch hi hb hd a;obtain⟨o1,o2,o3⟩:=h.Xn hi hb iw.B hd;refine⟨o1,o2,o3,⟨k,H3,e,hk,a1,iw,b,c,?_⟩⟩;have up:∀{us:List pI},(∀y∈us,y.aT.length+y.aY.length<=i)->∀y∈us,y.aT.length+y.aY.length<=i+1:=fun hh y hy=>by have :=hh y hy;omega
  unfold qE;split
  ·rw[y0];exact up hm
  ·exact up hm
 cut:=fun {i j id H D R} ⟨k,H0,e,hk,hi,hb,h,hd,hm⟩ n m hn=>
  ⟨k,H0,e,hk,(hi.cut n).dC m,((hb.cut hn.2).dC m).mono (Nat.le_succ i) ae,h.cut n m,DR.agk D R n hn,fun y hy=>Nat.le_succ_of_le (hm y hy)⟩
 opened:=fun {i j id H D R} ⟨k,H0,e,hk,hi,hb,h,hd,hm⟩ h1 h2=>by
  have ho:=hi.opened;have iw:=(hb.bV hk ae).mono (Nat.le_succ i) (show i+j<=i+1+j by omega);rw[e];dsimp only at iw;rw[ho]at iw ⊢;refine⟨k,H0,rfl,hk,hi.Oi,iw,h.Qb hi,hd.Qb,fun y hy=>?_⟩;rw[hi.DP]at hy;rw[List.eq_of_mem_replicate hy];exact aH _
 Uv:=fun {i j id H D R} ⟨k,H0,e,hk,hi,hb,h,hd,hm⟩ h1 h2=>by
  have Q7:=hi.cut (-1);have ho:=Q7.opened;have iw:=((hb.cut (n:= -1) ae).bV hk ae).mono (Nat.le_succ i) (show i+j<=i+1+j by omega);rw[e];dsimp only at iw;rw[ho]at iw ⊢;have h3:HR H {R with off:=false} H0:=⟨h.id,h.nm,h.nd,h.ky,h.qa,h.q0,h.nx,h.n0,h.bt,h.dn,h.sn,h.av,h.us,h.dw,h.rg,h.un,fun u hu=>⟨(h.ur u hu).aT,(h.ur u hu).aY⟩⟩;refine⟨k,H0,rfl,hk,Q7.Oi,iw,h3.Qb Q7,DR.Qb ⟨rfl,(fun h=>absurd h (show ¬(false=true)by decide)),hd.rl⟩,fun y hy=>?_⟩;rw[hi.DP]at hy;rw[List.eq_of_mem_replicate hy];exact aH _
end WB
namespace Go.Proofs.YtjhogocabcdjbabGreatDoor
open Tryz
open Go Go.RowKit WB
def AcR (w:World) (v:Value) (xs:List Ac):Prop:= ∃a cap,v=.slice a xs.length cap/\∀i x,xs[i]? =some x->∃ad la lc,a=some ad/\cz w (ad.add (i *9)) (qF x (.slice la x.list.length lc))/\x.list.length<=lc/\qX w 5 dy (.slice la x.list.length lc) x.list
theorem Pg(I:Nat->Nat->Int->Ho->Dk->Rh->Prop)(law:Vk I)(w0:World)(L:List HP)(id full:Int)(vl:Value)(xs:List Ac)(yM:∀w,St w0 L w->AcR w vl xs)(hxn:∀x∈xs,-9223372036854775808<=x.n/\x.n<=9223372036854775807)(hT:ym w0)(hM:xg w0)(hg:fM w0):
 KE prog 6 #[.int .i64 id,vl,.int .i64 full] w0 L (fun u M=>u=.bool true/\M=L):=by
 refine KE.mk (n:=183) func6 rfl ntmps6 ai ?_;intro w hw;have Rb:ym w:=hT.ext (Ext.bU hw.below);have Rc:xg w:=hM.ext (Ext.bU hw.below);have Io:fM w:=(Ext.bU hw.below).cell hg;obtain⟨sa,cap,rfl,hc⟩:=yM w hw;have fin:∀(w':World) (M:List HP),St w M w'->∃v L',Ending.returned (.bool true)=Ending.returned v/\(v=.bool true/\L'=L)/\St w0 L' w'/\Below w.heap.size w w':=fun w' M hs=>⟨_,_,rfl,⟨rfl,rfl⟩,hw.aA hs.below,hs.below⟩
 refine lg ?_;refine KO.len rfl underlying68 rfl ?_;refine JN ?_;refine Z3 ?_;refine K.bn rfl (fun h=>?_) (fun h=>?_)
 ·refine kr ?_;refine KQ.aU rfl rfl (fun w' hs=>fin w' _ hs)
 have hlen:xs.length<=80:=by omega
 refine qP ?_;refine KO.AR (pl:=[(0,300),(300,1),(301,1)]) rfl zeroValue28 runUnderlying28 (by intro w;simp[sizeOf3,sizeOf4,sizeOf26]) aN rfl ?_;refine KO.box rfl rfl aN rfl ?_;intro qU;refine jL ?_;refine K.conv (L':=[ga qU qD]) (fun w' h=>h) ?_
 by_cases hid:0<=id/\id<4
 ·refine gY ?_;refine KO.cl (cp:=[]) rfl rfl rfl call11 rfl (KC.jN br (K7 w _ qU id qD Rb Rc hid GX)) ?_;rintro v' L' ⟨bh,rfl,rfl⟩;refine Qc ?_;refine oK ?_;refine KO.cl (cp:=[]) rfl rfl rfl call11 rfl (Ae w _) ?_;rintro v' L' ⟨rfl,rfl⟩;refine qQ ?_;refine KO.ce (cp:=[]) rfl rfl rfl call29 rfl (cF w _ _ _ Io) ?_;rintro v' L' ⟨rfl,rfl⟩;refine pC ?_;refine A1 ?_;refine KO.on rfl rfl rfl ?_;refine KO.ZX rfl underlying29 rfl ?_;refine A6 ?_;refine HG ?_;refine K.ct rfl ez ?_;refine qp ?_;refine yi ?_;refine A1 ?_;refine KO.on rfl rfl rfl ?_;refine KO.Ay rfl underlying29 rfl ?_;refine A6 ?_;refine cW ?_;refine KO.cl (cp:=[]) rfl rfl rfl call30 rfl (RR w _ id) ?_;rintro v' L' ⟨bR,rfl,rfl⟩;refine oK ?_;refine rL ?_;refine KQ.next ?_
  have hI0:=law.start hid;obtain⟨fm,hfm⟩:∃fm:Int,fm=full%18446744073709551616%301:=⟨_,rfl⟩;have afn:0<=full%18446744073709551616:=Int.emod_nonneg _ ah;have ajV:0<=fm/\fm<=300:=by rw[hfm];omega
  refine K.cut (fun _:Nat×Ho×Dk×Rh=>[(0,.int .i64 id),(1,.slice sa xs.length cap),(7,bN qU),(8,bN bh),(12,fK bR)]) (fun s=>[dt bh qU s.2.1,ga qU s.2.2.1,gL bR s.2.2.2]) (fun s=>s.1<=300/\I 0 s.1 id s.2.1 s.2.2.1 s.2.2.2) ?_ ?_
  ·refine K.block ?_;refine K.loop (fun s:Nat×Ho×Dk×Rh=>[(0,.int .i64 id),(1,.slice sa xs.length cap),(2,.int .i64 full),(7,bN qU),(8,bN bh),(12,fK bR),(13,.int .i64 (s.1:Nat))]) (fun s=>[dt bh qU s.2.1,ga qU s.2.2.1,gL bR s.2.2.2]) (fun s=>(s.1:Int)<=fm/\I 0 s.1 id s.2.1 s.2.2.1 s.2.2.2) (fun s=>300-s.1) (0,ij id qD,qD,CA id)
    ⟨by dsimp only;omega,hI0⟩ ⟨rfl,rfl,rfl,rfl,rfl,rfl,rfl,trivial⟩ (fun _ h=>h.all Y7) ?_
   rintro⟨i,H,D,R⟩ ⟨hi,hI⟩;dsimp only at hi hI ⊢;refine lO ?_;refine KO.i2w rfl bC underlying73 rfl ?_;refine KO.aeq rfl rfl ah afn rfl ?_;rw[<-hfm];refine KO.u2i rfl bC underlying3 ae rfl ?_;refine qo ?_;refine K.bn rfl (fun UY=>?_) (fun UY=>?_)
   ·obtain⟨hB,hu,hD,hd,hq,hR⟩:=law.bound hI ae ae;obtain⟨oo,E9⟩:=law.name hI ae ⟨⟨#[113]⟩,⟨#[]⟩,-1⟩;have hmx:(1:Nat)<=maxLen:=by decide
    refine si ?_;refine X1 ?_;refine KO.alloc rfl zeroValue75 aN rfl ?_;intro b14;refine B5 ?_;refine Z0 ?_;refine K.sO [.pure,.read,.write,.pure,.read,.write,.write,.pure] [(2,4)] [[0,1,3,2,4,5,6,7],[0,1,3,4,2,5,6,7]] bC bC bC ⟨?_,?_,trivial⟩
    focus
     show KO _ _ _ _ _ _ _ _ _ _
     refine Z1 ?_;refine B7 ?_;refine Z1 ?_;refine KO.cl (cp:=[]) rfl rfl rfl call31 rfl (KC.yC aQ aQ (yL w _ bh qU 79000 H D ⟨⟨#[113]⟩,⟨#[]⟩,-1⟩ Rb Rc hB ae hD.len hd hmx (aH _))) ?_;rintro v' L' ⟨rfl,rfl⟩;refine Qp ?_;refine KO.cl (cp:=[]) rfl rfl rfl call32 rfl (KC.jN aQ (uO w _ bR 79000 R ⟨⟨#[113]⟩,⟨#[]⟩,-1⟩ hR ae hmx (aH _))) ?_;rintro v' L' ⟨rfl,rfl⟩;refine KO.ce (cp:=[]) rfl rfl rfl call29 rfl (cF w _ _ _ Io) ?_;rintro v' L' ⟨rfl,rfl⟩;rw[gW oo];refine oJ ?_
    rotate_left
    focus
     show KO _ _ _ _ _ _ _ _ _ _
     refine Z1 ?_;refine B7 ?_;refine Z1 ?_;refine B7 ?_;refine KO.cl (cp:=[]) rfl rfl rfl call31 rfl (KC.yC aQ aQ (yL w _ bh qU 79000 H D ⟨⟨#[113]⟩,⟨#[]⟩,-1⟩ Rb Rc hB ae hD.len hd hmx (aH _))) ?_;rintro v' L' ⟨rfl,rfl⟩;refine KO.cl (cp:=[]) rfl rfl rfl call32 rfl (KC.jN aQ (uO w _ bR 79000 R ⟨⟨#[113]⟩,⟨#[]⟩,-1⟩ hR ae hmx (aH _))) ?_;rintro v' L' ⟨rfl,rfl⟩;refine KO.ce (cp:=[]) rfl rfl rfl call29 rfl (cF w _ _ _ Io) ?_;rintro v' L' ⟨rfl,rfl⟩;rw[gW oo];refine oJ ?_
    rotate_left
    all_goals (
     refine oI ?_;refine Yg ?_;refine ES ?_
     refine KQ.round (i+1,jF H D ⟨⟨#[113]⟩,⟨#[]⟩,-1⟩,jZ H D ⟨⟨#[113]⟩,⟨#[]⟩,-1⟩,jt R ⟨⟨#[113]⟩,⟨#[]⟩,-1⟩) ⟨by dsimp only;omega,E9⟩ fZ ⟨rfl,rfl,rfl,rfl,rfl,rfl,rfl,trivial⟩ (fun _ h=>h.all Y8))
   ·refine U_ ?_;exact KQ.kT (i,H,D,R) ⟨by dsimp only;omega,hI⟩ ⟨rfl,rfl,rfl,rfl,rfl,trivial⟩ (fun _ h=>h.all ft)
  rintro⟨i0,H0,D0,R0⟩ ⟨S6,hI⟩;dsimp only at S6 hI ⊢;refine iz ?_;refine QG ?_;refine K.loop (fun s:Nat×Nat×Ho×Dk×Rh=>[(0,.int .i64 id),(1,.slice sa xs.length cap),(7,bN qU),(8,bN s.2.1),(12,fK bR),(15,.int .i64 (s.1:Nat))]) (fun s=>[dt s.2.1 qU s.2.2.1,ga qU s.2.2.2.1,gL bR s.2.2.2.2]) (fun s=>s.1<=xs.length/\∃j,j<=s.1/\I j i0 id s.2.2.1 s.2.2.2.1 s.2.2.2.2) (fun s=>xs.length-s.1) (0,bh,H0,D0,R0)
   ⟨aH _,0,aP _,hI⟩ ⟨rfl,rfl,rfl,rfl,rfl,rfl,trivial⟩ (fun _ h=>h.all ft) ?_
  rintro⟨i,bh,H,D,R⟩ ⟨hi,j,hj,hI⟩;dsimp only at hi hj hI ⊢;refine lO ?_;refine KO.len rfl underlying68 rfl ?_;refine qo ?_;refine K.bn rfl (fun NK=>?_) (fun NK=>?_)
  ·refine K.skip ?_;refine KQ.next ?_
   obtain⟨x,hx⟩:∃e,xs[i]? =some e:=⟨xs[i],ak ae⟩;obtain⟨ad,la,lc,rfl,eM,Jm,Pc⟩:=hc i x hx;refine K.kT (fun s:Nat×Ho×Dk×Rh=>[(0,.int .i64 id),(1,.slice (some ad) xs.length cap),(7,bN qU),(8,bN s.1),(12,fK bR),(15,.int .i64 (i:Nat))]) (fun s=>[dt s.1 qU s.2.1,ga qU s.2.2.1,gL bR s.2.2.2]) (fun s=> ∃j,j<=i+1/\I j i0 id s.2.1 s.2.2.1 s.2.2.2) ?_ ?_
   ·refine K.block ?_;refine lO ?_;refine KO.My rfl rfl runUnderlying68 sizeOf79 aN ae rfl ?_;refine KO.vf (cs:=(qF x (.slice la x.list.length lc)).toArray) rfl rfl isAgg79 sizeOf79 rfl eM rfl ?_;refine KO.alloc rfl zeroValue79 aN rfl ?_;intro JK;refine KO.oQ rfl rfl rfl aN (by exact sizeOf79) aN br aN ?_;refine Z0 ?_;have hrE:∀(M:List HP) w',St w M w'->qX w' 5 dy (.slice la x.list.length lc) x.list:=fun M w' hw'=>zG Pc (Ext.bU hw'.below)
    refine di ?_;refine KO.wB (cs:=qF x (.slice la x.list.length lc)) rfl rfl isAgg79 sizeOf79 br aN rfl ?_;refine KO.ce (cp:=[]) rfl rfl rfl call33 rfl (abu w _ _ x (fun w' hw'=>hrE _ w' hw')) ?_;rintro v' L' ⟨rfl,rfl⟩;refine oJ ?_;cases hf:vz x with
    |false=>
     refine JV ?_;refine U_ ?_;exact KQ.kT (bh,H,D,R) ⟨j,by omega,hI⟩ ⟨rfl,rfl,rfl,rfl,rfl,rfl,trivial⟩ (fun _ h=>h.all Y8)
    |true=>
     refine J4 ?_;obtain⟨hB,hu,hD,hd,hq,hR⟩:=law.bound hI ae ae;have hn:=hxn x (ax hx);refine di ?_;refine KO.fG (off:=0) rfl runUnderlying79 rfl rfl sizeOf3 rfl ?_;refine KO.bO (b:=JK) (cs:=qF x (.slice la x.list.length lc)) (i:=0) rfl rfl isAgg3 br (by rfl) rfl rfl ?_;refine jk ?_;refine KQ.next ?_
     refine K.cut (fun s:Nat×Ho×Dk×Rh=>[(8,bN s.1),(0,.int .i64 id),(1,.slice (some ad) xs.length cap),(7,bN qU),(12,fK bR),(15,.int .i64 (i:Nat)),(16,fK JK)]) (fun s=>[dt s.1 qU s.2.1,ga qU s.2.2.1,gL bR s.2.2.2,bA JK (.cells (qF x (.slice la x.list.length lc)).toArray 79 (0,0))]) (fun s=> ∃j,j<=i+1/\I j i0 id s.2.1 s.2.2.1 s.2.2.2) ?_ ?_
     ·refine K.block ?_;refine kO ?_;by_cases h6:x.cR=6
      ·refine nY ?_;refine K.bW rfl (by simp[h6]) ?_;refine kO ?_;obtain⟨hbE,hbN,hbL,E9⟩:=law.batch hI ae ae x.n;obtain⟨-,-,-,-,-,NH⟩:=law.bound E9 ae ae;have oq:(nu R x.n).length<1000000000:=by
        unfold nu;split
        ·simp
        ·have h2:(zA (jb R x.n) x.n).length<=3*(iL ((jb R x.n).lq x.n.toNat)).length:=by
          unfold zA;exact As fun m _=>Nat.le_trans (AN _ _) (NH.jJ _)
         have h3:=uL ((jb R x.n).lq x.n.toNat);have h4:=(NH.lq x.n.toNat).1;omega
       refine cW ?_;refine X_ ?_;refine KO.cl (cp:=[]) rfl rfl rfl call34 rfl (KC.jN aQ (L3 w _ bR 79000 R x.n hR ae)) ?_;rintro v' L' ⟨Un,rfl,rfl⟩;refine Hv ?_;refine jo ?_;refine ab_ ?_;refine KO.cl (cp:=[]) rfl rfl rfl call35 rfl (KC.yC aQ aQ (PF w _ bh qU 79000 H D x.n Rb Rc hB ae hD.len hd)) ?_;rintro v' L' ⟨v21,rfl,rfl⟩;rw[hbN,hbE,hbL];refine Hv ?_;refine EJ ?_;refine KO.ce (cp:=[]) rfl rfl rfl call29 rfl (cF w _ _ _ Io) ?_;rintro v' L' ⟨rfl,rfl⟩;rw[gW rfl];refine J5 ?_;refine qW ?_;refine Na ?_;refine tW ?_;refine Qm ?_;refine Z1 ?_;refine KO.on rfl rfl ai ?_;refine KO.ce (cp:=[]) rfl rfl rfl call36 rfl (oz w _ v21 Un (nu R x.n) (nu R x.n) (oM.of (fun _=>rfl) br) (oM.of (fun _=>rfl) aQ) oq oq) ?_;rintro v' L' ⟨rfl,rfl⟩;rw[gW rfl];refine B4 ?_;refine pC ?_;refine A8 ?_;refine Z3 ?_;refine X8 ?_;exact KQ.kT (bh,qE H D x.n,xY H D x.n,jb R x.n) ⟨j+1,by omega,E9⟩ ⟨rfl,rfl,rfl,rfl,rfl,rfl,rfl,trivial⟩ (fun _ h=>h.all Y8)
      refine nY ?_;refine K.ct rfl (by simp[h6]) ?_;refine kO ?_;by_cases h9:x.cR=9
      ·refine nY ?_;refine K.bW rfl (by simp[h9]) ?_;refine kO ?_;have E9:=law.cut hI x.n x.m hn;refine cW ?_;refine X_ ?_;refine KO.cl (cp:=[]) rfl rfl rfl call18 rfl (KC.jN aQ (U2 w _ qU D x.n hD.len)) ?_;rintro v' L' ⟨rfl,rfl⟩;refine EI ?_;refine ab_ ?_;refine KO.cl (cp:=[]) rfl rfl rfl call37 rfl (KC.jN aQ (RT w _ bR R x.n)) ?_;rintro v' L' ⟨rfl,rfl⟩;refine Z3 ?_;refine cW ?_;refine Qq ?_;refine KO.bO (b:=JK) (cs:=qF x (.slice la x.list.length lc)) (i:=3) rfl rfl isAgg3 aQ (by rfl) rfl rfl ?_;refine KO.cl (cp:=[]) rfl rfl rfl call19 rfl (KC.jN aQ (SN w _ bh qU H x.m)) ?_;rintro v' L' ⟨rfl,rfl⟩;refine Xw ?_;exact KQ.kT (bh,{H with dC:=x.m},kN D x.n,FE R x.n) ⟨j+1,by omega,E9⟩ ⟨rfl,rfl,rfl,rfl,rfl,rfl,rfl,trivial⟩ (fun _ h=>h.all Y7)
      refine nY ?_;refine K.ct rfl (by simp[h9]) ?_;refine kO ?_;by_cases Bn:x.cR=10
      ·refine nY ?_;refine K.bW rfl (by simp[Bn]) ?_;refine Z2 ?_;refine X_ ?_;refine EF ?_;refine jk ?_;refine KQ.next ?_
       refine K.cut (fun _:Dk×Rh=>[(8,bN bh),(0,.int .i64 id),(1,.slice (some ad) xs.length cap),(7,bN qU),(12,fK bR),(15,.int .i64 (i:Nat)),(16,fK JK)]) (fun s=>[dt bh qU H,ga qU s.1,gL bR s.2,bA JK (.cells (qF x (.slice la x.list.length lc)).toArray 79 (0,0))]) (fun s=>I (j+1) i0 id (ij id s.1) s.1 (dX s.2)/\E4 s.1/\gd 79000 s.2) ?_ ?_
       ·refine K.bn rfl (fun h0=>?_) (fun h0=>?_)
        ·refine kO ?_;have E9:=law.Uv hI ae ae;refine cW ?_;refine KO.cl (cp:=[]) rfl rfl rfl call18 rfl (KC.jN aQ (U2 w _ qU D (-1) hD.len)) ?_;rintro v' L' ⟨rfl,rfl⟩;refine Z3 ?_;refine K.bV (fun _ h=>cI (b:=bR) (R:=R) (h.pick aQ)) ?_;rintro⟨V,hV⟩;dsimp only;refine g_ ?_;refine KO.fG (off:=28) rfl runUnderlying97 rfl rfl sizeOf4 rfl ?_;refine KO.fu (i:=28) rfl rfl rfl aN Zr rfl br (by rfl) (by rw[fL hV];omega) ?_;rw[CD hV];refine jk ?_;have lI:dz V {R with off:=false}:=hV.same rfl rfl rfl rfl rfl rfl;exact KQ.kT (kN D (-1),{R with off:=false}) ⟨E9,⟨hD.len,by unfold kN;dsimp only;omega,hD.size,hD.nT⟩,⟨hR.id,hR.fT,hR.right,hR.al,hR.Ed,hR.nodup,hR.dead,hR.loc,hR.len,hR.ids,hR.un,hR.Bw,hR.dq,hR.count,hR.fD,hR.db,hR.GV,hR.md,hR.ar,hR.used,hR.left⟩⟩ ⟨rfl,rfl,rfl,rfl,rfl,rfl,rfl,trivial⟩ (fun _ h=>(bX V lI (h.all (M:=l4 bR V {R with off:=false} [dt bh qU H,ga qU (kN D (-1)),bA JK (.cells (qF x (.slice la x.list.length lc)).toArray 79 (0,0))]) Y7)).all Y7)
        ·refine B3 ?_;exact KQ.kT (D,R) ⟨law.opened hI ae ae,hD,hR⟩ ⟨rfl,rfl,rfl,rfl,rfl,rfl,rfl,trivial⟩ (fun _ h=>h.all Y7)
       rintro⟨D3,R3⟩ ⟨hI3,hD3,hR3⟩;dsimp only at hI3 hD3 hR3 ⊢;refine lO ?_;refine KO.cl (cp:=[]) rfl rfl rfl call11 rfl (KC.jN aQ (K7 w _ qU id D3 Rb Rc hid hD3)) ?_;rintro v' L' ⟨bh3,rfl,rfl⟩;refine JX ?_;refine A1 ?_;refine KO.on rfl rfl (by rfl) ?_;refine KO.Ay rfl underlying29 rfl ?_;refine ua ?_;refine K.ct rfl (by rfl) ?_;refine Nb ?_;refine cW ?_;refine KO.cl (cp:=[]) rfl rfl rfl call38 rfl (KC.jN aQ (Ob w _ bR 79000 R3 hR3 ae)) ?_;rintro v' L' ⟨rfl,rfl⟩;refine Xw ?_;exact KQ.kT (bh3,ij id D3,D3,dX R3) ⟨j+1,by omega,hI3⟩ ⟨rfl,rfl,rfl,rfl,rfl,rfl,rfl,trivial⟩ (fun _ h=>h.all Y8)
      refine nY ?_;refine K.ct rfl (by simp[Bn]) ?_;refine kO ?_;obtain⟨afK,E9⟩:=law.act hI ae ae x hf h6 h9 Bn;refine K.conv (L':=[dt bh qU H,ga qU D,gL bR R,Mb True,bA JK (.cells (qF x (.slice la x.list.length lc)).toArray 79 (0,0))]) (fun w h=>(St.BB trivial h).all Y7) ?_
      refine gY ?_;refine KO.wB (cs:=qF x (.slice la x.list.length lc)) rfl rfl isAgg79 sizeOf79 aQ aN rfl ?_;refine KO.cl (cp:=[]) rfl rfl rfl call39 rfl (Xb w [bA JK (.cells (qF x (.slice la x.list.length lc)).toArray 79 (0,0))] (Mb True) bh qU bR 79000 79000 H D R x la lc Rb Rc Io hB ae hu hD hd hR ae hf (fun w' R' hw'=>hrE _ w' hw') Jm) ?_;rintro v' L' ⟨rfl,rfl⟩;rw[afK];refine oJ ?_;refine X8 ?_;exact KQ.kT (bh,Bp H D x,BM H D x,Dt R x) ⟨j+1,by omega,E9⟩ ⟨rfl,rfl,rfl,rfl,rfl,rfl,rfl,trivial⟩ (fun _ h=>h.all Y8)
     rintro⟨bh2,H2,D2,R2⟩ ⟨j2,Et,E9⟩;dsimp only at E9 ⊢;obtain⟨Bm,hu2,hD2,wQ,wH,NH⟩:=law.bound E9 ae ae;refine lO ?_;refine Rn ?_;refine KO.bO (b:=JK) (cs:=qF x (.slice la x.list.length lc)) (i:=4) rfl rfl isAgg9 aQ (by rfl) rfl rfl ?_;refine KO.cl (cp:=[]) rfl rfl rfl call40 rfl (KC.yC br aQ (Ly w _ bh2 qU bR 79000 79000 H2 R2 x.nm.name Io Bm ae wH NH ae (law.alk E9 ae ae x.nm.name))) ?_;rintro v' L' ⟨rfl,rfl⟩;refine oJ ?_;refine X8 ?_;exact KQ.kT (bh2,H2,D2,R2) ⟨j2,Et,E9⟩ ⟨rfl,rfl,rfl,rfl,rfl,rfl,trivial⟩ (fun _ h=>h.all Y8)
   ·rintro⟨bh2,H2,D2,R2⟩ E9;dsimp only at E9 ⊢;refine ES ?_;refine KQ.round (i+1,bh2,H2,D2,R2) ⟨by dsimp only;omega,E9⟩ fZ ⟨rfl,rfl,rfl,rfl,rfl,rfl,trivial⟩ (fun _ h=>h.all ft)
  ·obtain⟨hB,hu,hD,hd,hq,hR⟩:=law.bound hI ae ae;refine Z9 ?_;refine gY ?_;refine KO.cl (cp:=[]) rfl rfl rfl call40 rfl (KC.yC br aQ (Ly w _ bh qU bR 79000 79000 H R cr Io hB ae hq hR ae (law.alk hI ae ae cr))) ?_;rintro v' L' ⟨rfl,rfl⟩;refine kq ?_;refine KQ.aU rfl rfl (fun w' hs=>fin w' _ hs)
 ·refine gY ?_;refine KO.cl (cp:=[]) rfl rfl rfl call11 rfl (Ji w _ qU id hid) ?_;rintro v' L' ⟨rfl,rfl⟩;refine Qc ?_;refine oK ?_;refine KO.cl (cp:=[]) rfl rfl rfl call11 rfl (Ae w _) ?_;rintro v' L' ⟨rfl,rfl⟩;refine qQ ?_;refine KO.ce (cp:=[]) rfl rfl rfl call29 rfl (cF w _ _ _ Io) ?_;rintro v' L' ⟨rfl,rfl⟩;refine pC ?_;refine A1 ?_;refine KO.on rfl rfl rfl ?_;refine KO.ZX rfl underlying29 rfl ?_;refine A6 ?_;by_cases h8:id<0
  ·refine JW ?_;refine B2 ?_;refine K.bW rfl (by simp[h8]) ?_;refine m_ ?_;refine KO.ce (cp:=[]) rfl rfl rfl call29 rfl (cF w _ _ _ Io) ?_;rintro v' L' ⟨rfl,rfl⟩;refine A1 ?_;refine KO.on rfl rfl rfl ?_;refine KO.BL rfl underlying29 rfl ?_;refine uk ?_;refine AZ ?_;refine KQ.aU rfl rfl (fun w' hs=>fin w' _ hs)
  ·have h9:id>=4:=by omega
   refine HG ?_;refine K.bW rfl (by simp[h8,h9]) ?_;refine m_ ?_;refine KO.ce (cp:=[]) rfl rfl rfl call29 rfl (cF w _ _ _ Io) ?_;rintro v' L' ⟨rfl,rfl⟩;refine A1 ?_;refine KO.on rfl rfl rfl ?_;refine KO.BL rfl underlying29 rfl ?_;refine uk ?_;refine AZ ?_;refine KQ.aU rfl rfl (fun w' hs=>fin w' _ hs)
end Go.Proofs.YtjhogocabcdjbabGreatDoor
namespace WB
open Go
theorem ve{a:Assume}{C:Checked}{os:Os}{f:FuncId}{r:Reach}{Pre:World->Array Value->Prop}{acK:World->Array Value->Value->World->Prop}(h:ReturnsInHanded a C os f r Pre acK):ReturnsInLeavingWide a C os f r Pre acK:=fun enter=>by
 obtain⟨h1,h2,h3,h4,h5⟩:=h enter;refine⟨h1,h2,h3,h4,fun w tape i hf=>?_⟩;obtain⟨n,v,w',k1,k2,k3,k4,⟨j,last,k5,k6,k7⟩,k8⟩:=h5 w tape i hf;exact⟨n,v,w',k1,k2,k3,k4,⟨j,last,k5,k6,k7.2.1,onlyLeaving_of_quiet k7.1,k7.2.2⟩,k8⟩
theorem xT(Lk:Looks){p:Pinned}{s:OpenSpec}{c:OpenClaim}(kinds:List LaidKind)(tests:Bool)(Lb:Bool×String)(lk:Bool)(hc:c.holds p s)(hw:c.wfByText s=true)(aeT:c.laidByTextAt Lk p kinds tests)(gP:c.start=.entering)(hnb:c.noBlocks=false/\c.again=false)(hm:p.checked.prog.mainIs=some (Lb.1,Lb.2.toList))(hn:(!Lb.1&&Lb.2.isEmpty&& !lk)=false)(hl:∀f fn,p.checked.prog.funcNamed c.func=some f->p.checked.prog.funcs[f]? =some fn->lk=p.checked.prog.looks []/\∀(j:Nat) t,fn.params[j]? =some t->p.checked.prog.wantsStandIn t=false)(hg:true=c.goesBy p.checked.prog):
 Claim7.holds p (.plain s) {stood:={row:=c,standIns:=[],harness:=Lb,looks:=lk},kinds:=[],alts:=[],goes:=true,laidByText:=true,laidKinds:=kinds,laidTests:=tests,laidLooks:=Lk}:=by
 have h6:Claim7.isSixth {stood:={row:=c,standIns:=[],harness:=Lb,looks:=lk},kinds:=[]}=false:=by simpa[Claim7.isSixth]using hn
 exact⟨Claim7.tied_new_at Lk kinds tests (Claim7.new_of_sixth hc Lb lk gP hnb hm h6 hl) hw,(fun D hD=>by cases hD),aeT,(fun h=>by cases h),hg⟩
theorem Ti{P:Program}{c:OpenClaim}{f:FuncId}(hf:P.funcNamed c.func=some f)(hu:P.unfollowed f=true)(hg:P.funcs.any Func.goes=true):true=c.goesBy P:=by
 unfold OpenClaim.goesBy Program.goesAt Program.goesFrom;rw[hf];simp[Program.goes,hu,hg]
theorem Mq{P:Program}{f:FuncId}{fn:Func}{s:ChangeSpec}{c:OpenClaim}(a1:(c.wf (OpenSpec.ofChange s)&&laidOutB P&&mapsRowed P)=true)(a2:(fn.params.all (P.readableRec ·)&&namedTie P c.named s.vars&&(c.stops==[])&&(P.stops==[])&&(c.knobs==[])&&(P.stopKnobs==[]))=true)(a3:(c.inPlace==P.inPlace f)=true)(a4:(c.unfollowed==P.unfollowed f)=true)(a5:(c.recurses==P.recurses f)=true)(a6:(c.named==P.varsNamed f)=true)(a7:((c.maps==(fn.params.toList++s.plain.varTypes P).any (P.mapsRec ·))&&(c.ifaces==(fn.params.toList++s.plain.varTypes P).any (P.ifacesRec ·))&&(c.mapsOut==P.mapsAmong fn.resultTypes.toList)&&
  (c.loops==(fn.params.toList++s.plain.varTypes P).any (P.loopsFrom ·))&&(c.wideKeys==(fn.params.toList++s.plain.varTypes P++fn.resultTypes.toList).any (P.wideKeysFrom ·))&&
  s.vars.all (P.varReadable ·)&&fn.resultTypes.all (fun t=>P.readableRec t&&decide (t<P.types.size))&&(c.ifacesOut==fn.resultTypes.toList.any (P.ifacesRec ·))&&(c.loopsOut==fn.resultTypes.toList.any (P.loopsFrom ·))&&(c.plainKeys==P.plainKeys)&&c.shortTexts.isNone)=true)(a8:(P.stopsHeard&&P.mayEnter&&(c.lifted==P.liftsFinal)&&(P.make==some c.make))=true)(a9:((c.kinds==(if c.domain.isEmpty then[]else fn.params.toList.map fun t=>match P.underlying t with|some (.int k)=>some k|_=>none))&&(c.pinned==c.pinnedBy)&&
  (c.veiled==(fn.params.toList++s.plain.varTypes P++fn.resultTypes.toList).any (P.veiledRec ·))&&c.veiledFits P fn.params.toList (fn.params.toList++s.plain.varTypes P++fn.resultTypes.toList))=true):
 joinedFacts P f fn s c=true:=by
 unfold joinedFacts;simp only[bm]at a1 a2 a7 a8 a9 ⊢
 grind
end WB
