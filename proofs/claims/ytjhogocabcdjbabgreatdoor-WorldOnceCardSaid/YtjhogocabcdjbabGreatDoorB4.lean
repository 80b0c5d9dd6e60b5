import Derived.Test.YtjhogocabcdjbabGreatDoorB3
set_option linter.unusedSimpArgs false
set_option linter.unusedVariables false
set_option maxRecDepth 100000
set_option maxHeartbeats 8000000
namespace WB
open Go
section
variable {W:ak->Prop} {id:Int} {c:Nat} {H H0:Ho} {D:Dk} {R:List ak} {T:List Int} {P G:Nat->List Int}
theorem nr{D:Dk}:kK D=0↔ ¬ju D=true:=by
 unfold kK;split<;>simp_all
theorem fO{D:Dk}{k:Nat}{s:ak}{cZ:Int}:(dG D k s cZ).left=if ju D=true then D.left else D.left-1:=by
 unfold dG;split
 ·split<;>rfl
 ·rfl
theorem dU.fail(h:dU W id c H H0 D R T P G){s:ak}(hs:s.size<=700000)(hb:oO 124 s)(he:dV H D≠0):dU W id c (dD H D) H0 (fY H D s) R T P G:=by
 unfold dV at he;unfold dD fY;by_cases h1:eT H≠0
 ·rw[if_pos h1,if_pos h1];exact h
 ·rw[if_neg h1]at he;rw[if_neg h1,if_neg h1,if_pos he];have hr:=(sh (H:=H) K6).2;have ho:ju D=true:=by
   cases hd:ju D with
   |true=>rfl
   |false=>exact absurd (nr.2 (by rw[hd];simp)) he
  refine(h.G5.NB (D':=dG D H.used (dA H.used s) H.cZ) ?_ ?_)
  ·rw[h.used];exact h.dk.bad hs hb ho (by rw[<-h.used];exact hr)
  ·rw[fO,if_pos ho];exact h.left
theorem dU.uz(h:dU W id c H H0 D R T P G)(SN:0<=id/\id<4)(hc:c<=200){u:Nat}(hu:u<5):
 ∃H0' R',dU W id (c+1) (oU H D u) H0' (qn H D u) R' (if vA H D u=0 then S6 T (P u) (G u)else T) (if vA H D u=0 then upd P u []else P) (if vA H D u=0 then upd G u []else G):=by
 unfold vA oU qn;by_cases h1:lI H u≠0
 ·rw[if_pos h1,if_pos h1,if_pos h1,if_neg h1,if_neg h1,if_neg h1];exact⟨H0,R,h.up⟩
 rw[if_neg h1,if_neg h1,if_neg h1];have lN:=fW h.B hu;rw[aE];generalize hx:H.fa u=x at lN;have zE:=UI.ok h lN hc;have dr:=zE.size;have OU:(ku x).size<=700000:=by
  rw[sj];have e1:(b_ 117).size=1:=rfl;have e2:(b_ 58).size=1:=rfl;simp only[aQ];omega
 by_cases h2:dV H D≠0
 ·rw[if_pos h2,if_neg h2,if_neg h2,if_neg h2];exact⟨H0,R,(h.fail OU (sW zE) h2).up⟩
 rw[if_neg h2];have h2:dV H D=0:=by simpa using h2
 rw[if_pos h2,if_pos h2,if_pos h2];have h3:eT H=0:=by
  unfold dV at h2;by_cases h4:eT H=0
  ·exact h4
  ·rw[if_pos h4]at h2;exact absurd h2 h4
 have h4:kK D=0:=by unfold dV at h2;rw[if_neg Xh]at h2;exact h2
 have ho:¬ju D=true:=nr.1 h4;have eL:dD H D={H with used:=H.used+1}:=by
  unfold dD;rw[if_neg Xh,if_neg (by simpa using h4)]
 have eD:fY H D (ku x)=dG D H.used (dA H.used (ku x)) H.cZ:=by
  unfold fY;rw[if_neg Xh]
 rw[eL,eD];obtain⟨ui,up,ug⟩:=h.unit u x lN;have hB:=h.B;have gP:cF (1000+250*c) (cM (cK {H with used:=H.used+1} u) u cN):=by
  have :=hB.log (D:=D);rw[eL]at this;exact(this.cK _).cM _ _
 have GD:hv (cM (cK {H with used:=H.used+1} u) u cN)=((hv H).filter fun e=> !decide (e.put=(u:Int))).map (dB u):=sQ {H with used:=H.used+1} ae;have iF:bL (cM (cK {H with used:=H.used+1} u) u cN)=bL H:=by unfold bL cM cK;simp
 generalize Bd:cM (cK {H with used:=H.used+1} u) u cN=H1 at gP GD iF;have pA:H1.names=H.names:=by rw[<-Bd];rfl
 have eX:H1.id=H.id:=by rw[<-Bd];rfl
 have Ce:H1.used=H.used+1:=by rw[<-Bd];rfl
 have qN:H1.next=H.next:=by rw[<-Bd];rfl
 have iy:H1.aA=H.aA.set u cN:=by rw[<-Bd];rfl
 have Gx:H1.ways=H.ways.map fun q=>c8 q u true:=by rw[<-Bd];rfl
 have fq:∀e∈hv H,e.put≠(u:Int)->dB u e∈hv H1:=fun e he hp=>by
  rw[GD];exact cO (aB.2 ⟨he,by simpa using hp⟩)
 have yF:∀e∈hv H1,∃e'∈hv H,e'.put≠(u:Int)/\e=dB u e':=fun e he=>by
  rw[GD]at he;obtain⟨e',h5,rfl⟩:=ay.1 he;obtain⟨h6,h7⟩:=aB.1 h5;exact⟨e',h6,by simpa using h7,rfl⟩
 have zH:((hv H1).map c_).Nodup:=by
  rw[GD,List.map_map,show(c_∘dB u)=c_ from rfl];exact h.kz.sublist (List.filter_sublist.map _)
 obtain⟨H2,e2,p2,k2,n2,w2,s2,x2,y2,w5⟩:=E4 gP zE zH
  (fun p hp=>by
   obtain⟨-,b,i,d,-⟩:=ui.aO p hp
   exact⟨by rw[eX];exact b,i,by rw[bE iF];exact d⟩) ui.pn
  (fun p hp e he e3=>by
   obtain⟨e',h5,h6,rfl⟩:=yF e he;obtain⟨-,-,i,-,e4,h7,-,h8,h9⟩:=ui.aO p hp;have :e'=e4:=eB h.kz h5 h7 (by rw[show c_ e'=p.1.id from e3];unfold c_;rw[h8])
   rw[this]at h6;exact h6 h9) ui.gn
  (fun g hg=>by
   obtain⟨-,i,d,e,h5,h6,h7,h8,-⟩:=ui.bf g hg
   exact⟨i,by rw[bE iF];exact d,_,fq e h5 ae,h6,h7⟩)
 have Db:=h.B0 SN hc;have QL:H0.id=H.id:=by rw[h.pl.same.1,h.hid];rfl
 obtain⟨H3,e3,p3,k3,n3,w3,s3,x3,y3,Q6⟩:=E4 Db zE h.Gv
  (fun p hp=>by
   obtain⟨-,b,i,d,-⟩:=ui.aO p hp
   exact⟨by rw[QL];exact b,i,by rw[bE h.keys];exact d⟩) ui.pn
  (fun p hp e he e3=>by
   obtain⟨e',h5,-,h6,h7⟩:=h.T_ he;obtain⟨-,-,i,-,e4,h8,-,h9,Cv⟩:=ui.aO p hp;have :e'=e4:=eB h.kz h5 h8 (by unfold c_ at *;rw[h6,h9];exact e3)
   rw[this,Cv]at h7;omega) ui.gn
  (fun g hg=>by
   obtain⟨-,i,d,e,h5,h6,h7,h8,-⟩:=ui.bf g hg;obtain⟨e',h9,Cv,FP⟩:=h.to0 h5 h8
   exact⟨i,by rw[bE h.keys];exact d,e',h9,by rw[Cv];exact h6,by unfold c_ at *;rw[FP];exact h7⟩)
 rw[e2];dsimp only;have hp4:H3.used=H0.used:=s3.used;have SI:H0.used=R.length:=by rw[h.pl.used];simp[bO]
 have mG:jD (bO id) (R++[ku x]) {H3 with used:=H0.used+1}:=h.pl.snoc (by rw[u9];exact e3);have WH:x.aO.length<=c:=by have :=ui.many;omega
 have X4:R.length<300:=by have :=h.rl;omega
 have hdk:gT (dG D H.used (dA H.used (ku x)) H.cZ) (R++[ku x]):=by
  rw[h.used];exact h.dk.U4 OU (sW zE) (zE.TH ae) ho X4
 have aco:(x.aO.map fun p=>(⟨4+(H1.qI p.1.queue).getD 0,p.1,-1,-1⟩:En))=x.aO.map fun p=>⟨4+(H0.qI p.1.queue).getD 0,p.1,-1,-1⟩:=by
  apply List.map_congr_left;intro p _;rw[bE iF,bE h.keys]
 rw[aco]at p2;generalize hN:(x.aO.map fun p=>(⟨4+(H0.qI p.1.queue).getD 0,p.1,-1,-1⟩:En))=N at p2 p3;have Cs:∀e∈N,e.put= -1/\e.ft= -1/\∃p∈x.aO,e.m=p.1:=fun e he=>by
  rw[<-hN]at he;obtain⟨p,hp,rfl⟩:=ay.1 he;exact⟨rfl,rfl,p,hp,rfl⟩
 have WX:N.map c_=x.aO.map fun p=>p.1.id:=by rw[<-hN,List.map_map];rfl
 have Ba:((hv H1).filter eb).map jX=hk H:=by
  unfold hk;rw[GD,List.filter_map,List.map_map,bm];rw[show(jX∘dB u)=jX from rfl];congr 1;apply List.filter_congr;intro e _;unfold eb dB;dsimp only[Function.comp];by_cases e1:e.put=(u:Int)
  ·have :¬e.put<0:=by omega
   simp[e1]
  ·simp[e1]
 have yB:(hk H2).Perm ((hv H3).map jX):=by
  let g:Nat×Ms->Bool:=fun y=> !decide (y.2.id∈x.bf.map (·.1))
  have a1:(hk H2).Perm ((((N++hv H1).filter eb).map jX).filter g):=by
   unfold hk;refine((p2.filter eb).map jX).trans (List.Perm.of_eq ?_);rw[List.filter_map,bm,bm];congr 1;apply List.filter_congr;intro e _;rw[Bool.and_comm];rfl
  have a2:((hv H3).map jX).Perm (((N++hv H0).map jX).filter g):=by
   refine(p3.map jX).trans (List.Perm.of_eq ?_);rw[List.filter_map];rfl
  refine a1.trans (List.Perm.trans (List.Perm.filter g ?_) a2.symm);rw[bU,aN,aN,Ba];rw[bo.2 (fun e he=>by unfold eb;simp[(Cs e he).1])];exact(List.Perm.refl _).append h.o7
 have II:((hv H2).map c_).Nodup:=by
  refine(p2.map c_).nodup_iff.2 (List.Nodup.sublist (List.filter_sublist.map _) ?_);rw[aN,List.nodup_append,WX];refine⟨ui.pn,zH,fun a ha b hb=>?_⟩;obtain⟨p,hp,rfl⟩:=ay.1 ha;obtain⟨e,he,rfl⟩:=ay.1 hb;obtain⟨e',h5,h6,rfl⟩:=yF e he;obtain⟨-,-,i,-,e4,h7,-,h8,h9⟩:=ui.aO p hp;intro e5;have :e'=e4:=eB h.kz h5 h7 (by unfold c_ at *;rw[h8];exact e5.symm);rw[this]at h6;exact h6 h9
 have IJ:∀e∈hv H2,(∃p∈x.aO,e.m=p.1)\/∃e'∈hv H,e.m=e'.m:=fun e he=>by
  rw[p2.mem_iff,aB]at he;rcases aH.1 he.1 with h5|h5
  ·exact .inl (Cs e h5).2.2
  ·obtain⟨e',h6,-,rfl⟩:=yF e h5;exact .inr ⟨e',h6,rfl⟩
 have u7:∀e∈hv H,e.put≠(u:Int)->c_ e∉x.bf.map (·.1)->dB u e∈hv H2:=fun e he h5 h6=>by
  rw[p2.mem_iff,aB];exact⟨List.mem_append_right _ (fq e he h5),by rw[show c_ (dB u e)=c_ e from rfl];simpa using h6⟩
 have Kk:∀e∈hv H,c_ e∈x.bf.map (·.1)->e.put<0/\e.ft=(u:Int):=fun e he h5=>by
  obtain⟨g,hg,h6⟩:=ay.1 h5;obtain⟨-,i,-,e4,h7,-,h8,h9,Cv⟩:=ui.bf g hg;have :e=e4:=eB h.kz he h7 (by rw[h8];exact h6.symm);rw[this];exact⟨h9,Cv⟩
 refine⟨{H3 with used:=H0.used+1},R++[ku x],by rw[s2.id,eX,h.hid],w5.le ae,hdk,by have :=h.rl;simp;omega,?_,mG,by rw[s2.used,Ce,h.used];simp,by rw[n2,pA];exact n3.trans h.names,?_,⟨fun q hq=>?_,fun q hq=>?_⟩,fun e he=>?_,yB,II,fun e he=>?_,fun e he=>?_,fun v y hy=>?_,rC _ (rM _ h.tn),?_,fun s' aT=>?_⟩
 ·rw[fO,if_neg ho];have :=h.left;omega
 ·rw[k2,iF];exact k3.trans h.keys
 ·rw[w2,Gx]at hq;obtain⟨q0,h0,rfl⟩:=ay.1 hq;have :=h.ways.1 q0 h0;unfold c8;split
  ·exact this
  ·dsimp only;rw[this];rfl
 ·exact h.ways.2 q (by rw[<-w3];exact hq)
 ·have he:e∈hv H3:=he;rw[p3.mem_iff,aB]at he;rcases aH.1 he.1 with h5|h5
  ·exact⟨(Cs e h5).1,(Cs e h5).2.1⟩
  ·exact h.iA e h5
 ·have hle:H.next<=H2.next:=by rw[<-qN];exact x2
  rcases IJ e he with⟨p,hp,h5⟩|⟨e',h6,h5⟩
  ·rw[h5];obtain⟨-,-,i,-,e4,h7,-,h8,-⟩:=ui.aO p hp;have :=h.lt e4 h7;rw[h8]at this;exact⟨this.1,this.2.1,by omega⟩
  ·rw[h5];have :=h.lt e' h6;exact⟨this.1,this.2.1,by omega⟩
 ·have he:e∈hv H3:=he
  show e.m.id/4<H3.next
  rw[p3.mem_iff,aB]at he;rcases aH.1 he.1 with h5|h5
  ·obtain⟨-,-,p,hp,h6⟩:=Cs e h5;rw[h6];exact y3 p hp
  ·have :=h.zS e h5;omega
 ·rw[s2.aA,iy]at hy;rcases fR Oz hy with⟨rfl,rfl⟩|⟨gh,hy⟩
  ·exact⟨UI.nil _ _ _,by rw[tA];rfl,by rw[tA];rfl⟩
  ·obtain⟨vi,vp,vg⟩:=h.unit v y hy;have Gz:((v:Nat):Int)≠(u:Int):=fun e=>gh ae
   have Qx:∀s,H2.qI s=H.qI s:=fun s=>by rw[bE k2,bE iF]
   refine⟨⟨by have :=vi.many;omega,fun p hp=>?_,vi.pn,fun g hg=>?_,vi.gn⟩,by rw[tz gh];exact vp,by rw[tz gh];exact vg⟩
   ·obtain⟨a,b,i',d,e,ei,e3,e4,e5⟩:=vi.aO p hp;have A4:e.put≠(u:Int):=by rw[e5];exact Gz
    refine⟨a,by rw[s2.id,eX];exact b,i',by rw[Qx];exact d,_,u7 e ei A4 (fun hh=>?_),e3,e4,?_⟩
    ·have :=(Kk e ei hh).1;omega
    ·unfold dB;dsimp only;rw[if_neg A4];exact e5
   ·obtain⟨a,i',d,e,ei,e3,e4,e5,e6⟩:=vi.bf g hg;have A4:e.put≠(u:Int):=by omega
    refine⟨a,i',by rw[Qx];exact d,_,u7 e ei A4 (fun hh=>?_),e3,e4,?_,?_⟩
    ·have :=(Kk e ei hh).2;exact Gz (by rw[<-e6,this])
    ·unfold dB;dsimp only;rw[if_neg A4];exact e5
    ·unfold dB;dsimp only;rw[if_neg (by rw[e6];exact Gz)];exact e6
 ·have hnk:((hk H2).map (·.2.id)).Nodup:=by rw[Cm];exact II.sublist (List.filter_sublist.map _)
  unfold S6;refine(List.perm_ext_iff_of_nodup (rC _ (rM _ h.tn)) hnk).2 fun a=>?_
  rw[E5,Fg,<-up,<-ug,<-WX];have a1:((hk H2).map (·.2.id)).Perm (((N++hv H0).filter fun e=> !decide (c_ e∈x.bf.map (·.1))).map c_):=by
   refine(yB.map _).trans ?_;rw[List.map_map];exact p3.map _
  rw[a1.mem_iff];have a2:a∈T↔a∈(hv H0).map c_:=by
   rw[(h.te.trans (h.o7.map _)).mem_iff,List.map_map];rfl
  rw[a2];constructor
  ·rintro⟨h5,h6⟩;have h7:a∈(N++hv H0).map c_:=by rw[aN,aH];exact h6
   obtain⟨e,h8,rfl⟩:=ay.1 h7;exact ay.2 ⟨e,aB.2 ⟨h8,by simpa using h5⟩,rfl⟩
  ·intro Cv;obtain⟨e,h5,rfl⟩:=ay.1 Cv;obtain⟨h6,h7⟩:=aB.1 h5;refine⟨by simpa using h7,?_⟩;rw[<-aH,<-aN];exact cO h6
 ·rw[pz (H:=H) (by rw[n2,pA]) (by rw[s2.id,eX])];exact h.loc s' aT
end
theorem cF.name{n:Nat}{H:Ho}(h:cF n H)(D:Dk)(x:Nm):cF (n+1) (mX H D x):=by
 unfold mX;split
 ·exact h.le ae
 ·rename_i h1;have hr:cc x=true:=by
   cases hr:cc x with
   |true=>rfl
   |false=>
    have :cG H.names x≠0:=fun h0=>by rw[jc h0]at hr;cases hr
    unfold jI at h1;rw[if_pos this]at h1;exact absurd this h1
  unfold oJ;split
  ·exact(h.log (D:=D)).AO (rb hr) ae
  ·exact(h.log (D:=D)).le ae
theorem vy{D:Dk}{k:Nat}{s:ak}{cZ:Int}:(dG D k s cZ).cut=D.cut:=by
 unfold dG;split
 ·split<;>rfl
 ·rfl
theorem tO{H:Ho}{D:Dk}{x:Nm}{R:List ak}(hd:gT D R)(hc:D.cut=false)(hu:H.used=R.length)(hr:R.length<300)(rv:H.down=false)(hs:cG H.names x=0)(hn:x.name≠cz):
 yg H D x=0/\mX H D x=iL {H with used:=H.used+1} x/\gT (iu H D x) (R++[lz x])/\(iu H D x).cut=false/\(iu H D x).left=D.left-1:=by
 have e1:jI H x=0:=by unfold jI;rw[if_neg (by simpa using hs),if_neg hn]
 have e2:eT H=0:=by unfold eT;rw[if_neg Wd,if_neg ae]
 have ho:¬ju D=true:=by unfold ju;simp[hc]
 have e3:kK D=0:=nr.2 ho;have e4:dV H D=0:=by unfold dV;rw[if_neg (by simpa using e2)];exact e3
 have e5:dD H D={H with used:=H.used+1}:=by unfold dD;rw[if_neg (by simpa using e2),if_neg (by simpa using e3)]
 have e6:iu H D x=dG D H.used (dA H.used (lz x)) H.cZ:=by unfold iu fY;rw[if_neg (by simpa using e1),if_neg (by simpa using e2)]
 have ib:=jc hs;have lE:=rb ib;refine⟨by unfold yg;rw[if_neg (by simpa using e1)];exact e4,?_,?_,?_,?_⟩
 ·unfold mX oJ;rw[if_neg (by simpa using e1),if_pos e4,e5,mj (H:={H with used:=H.used+1}) hs]
 ·rw[e6,hu];exact hd.U4 (by have :=lE.size;omega) (NT ib) (lE.mono ae) ho hr
 ·rw[e6,vy];exact hc
 ·rw[e6,fO,if_neg ho]
def gU:ak:=⟨#[105,110]⟩
def gK:ak:=⟨#[111,117,116]⟩
def kS:ak:=⟨#[102,97,114]⟩
def jk (j:Int) (i:Nat):Nm:=if i=0 then⟨gU,⟨#[]⟩,-1⟩else if i=1 then⟨gK,⟨#[]⟩,-1⟩else⟨kS,gU,j⟩
def ff (j:Int) (s:Ho×Dk):Nat->Ho×Dk
 |0=>s
 |i+1=>(mX (ff j s i).1 (ff j s i).2 (jk j i),iu (ff j s i).1 (ff j s i).2 (jk j i))
def dO (id j:Int) (u:Nat) (ns:List Nm) (qs:List (ak×Qu)):Ho:=⟨id,u,false,-1,0,ns,qs,List.replicate 4 ⟨[],0⟩,List.replicate 5 ⟨[],[]⟩,List.replicate 4 [],List.replicate 4 0,List.replicate 4 0⟩
def dp (id j:Int):Ho:=dO id j 3 [⟨kS,gU,j⟩,⟨gU,⟨#[]⟩,-1⟩,⟨gK,⟨#[]⟩,-1⟩] [(cz,⟨[],0⟩),(gU,⟨[],0⟩),(gK,⟨[],0⟩)]
def yf (j:Int):List ak:=[lz (jk j 0),lz (jk j 1),lz (jk j 2)]
theorem iR(id j:Int)(hj:0<=j/\j<4):
 (∀i,i<3->yg (ff j (bO id,bD) i).1 (ff j (bO id,bD) i).2 (jk j i)=0)/\(ff j (bO id,bD) 3).1=dp id j/\gT (ff j (bO id,bD) 3).2 (yf j)/\(ff j (bO id,bD) 3).2.left= -3/\(ff j (bO id,bD) 3).2.cut=false:=by
 have s0:cG (bO id).names (jk j 0)=0:=by show cG [] ⟨gU,⟨#[]⟩,-1⟩=0;decide+kernel
 obtain⟨a1,b1,c1,d1,l1⟩:=tO (H:=bO id) (x:=jk j 0) uy rfl rfl aj rfl s0 (by show ¬gU=cz;decide);have b1':mX (bO id) bD (jk j 0)=dO id j 1 [⟨gU,⟨#[]⟩,-1⟩] [(cz,⟨[],0⟩),(gU,⟨[],0⟩)]:=b1.trans bC;have s1:cG (dO id j 1 [⟨gU,⟨#[]⟩,-1⟩] [(cz,⟨[],0⟩),(gU,⟨[],0⟩)]).names (jk j 1)=0:=by show cG [⟨gU,⟨#[]⟩,-1⟩] ⟨gK,⟨#[]⟩,-1⟩=0;decide+kernel
 obtain⟨a2,b2,c2,d2,l2⟩:=tO (H:=dO id j 1 [⟨gU,⟨#[]⟩,-1⟩] [(cz,⟨[],0⟩),(gU,⟨[],0⟩)]) (x:=jk j 1) c1 d1 rfl aj rfl s1 (by show ¬gK=cz;decide);have b2':mX (dO id j 1 [⟨gU,⟨#[]⟩,-1⟩] [(cz,⟨[],0⟩),(gU,⟨[],0⟩)]) (iu (bO id) bD (jk j 0)) (jk j 1)=dO id j 2 [⟨gU,⟨#[]⟩,-1⟩,⟨gK,⟨#[]⟩,-1⟩] [(cz,⟨[],0⟩),(gU,⟨[],0⟩),(gK,⟨[],0⟩)]:=b2.trans bC;have EK:j=0\/j=1\/j=2\/j=3:=by omega
 have s2:cG (dO id j 2 [⟨gU,⟨#[]⟩,-1⟩,⟨gK,⟨#[]⟩,-1⟩] [(cz,⟨[],0⟩),(gU,⟨[],0⟩),(gK,⟨[],0⟩)]).names (jk j 2)=0:=by
  show cG [⟨gU,⟨#[]⟩,-1⟩,⟨gK,⟨#[]⟩,-1⟩] ⟨kS,gU,j⟩=0
  rcases EK with rfl|rfl|rfl|rfl<;>decide+kernel
 obtain⟨a3,b3,c3,d3,l3⟩:=tO (H:=dO id j 2 [⟨gU,⟨#[]⟩,-1⟩,⟨gK,⟨#[]⟩,-1⟩] [(cz,⟨[],0⟩),(gU,⟨[],0⟩),(gK,⟨[],0⟩)]) (x:=jk j 2) c2 d2 rfl aj rfl s2 (by show ¬kS=cz;decide);have b3':iL {dO id j 2 [⟨gU,⟨#[]⟩,-1⟩,⟨gK,⟨#[]⟩,-1⟩] [(cz,⟨[],0⟩),(gU,⟨[],0⟩),(gK,⟨[],0⟩)]with used:=(dO id j 2 [⟨gU,⟨#[]⟩,-1⟩,⟨gK,⟨#[]⟩,-1⟩] [(cz,⟨[],0⟩),(gU,⟨[],0⟩),(gK,⟨[],0⟩)]).used+1} (jk j 2)=dp id j:=by
  rcases EK with rfl|rfl|rfl|rfl<;>kernel_rfl
 have e0:ff j (bO id,bD) 0=(bO id,bD):=rfl;have e1:ff j (bO id,bD) 1=(dO id j 1 [⟨gU,⟨#[]⟩,-1⟩] [(cz,⟨[],0⟩),(gU,⟨[],0⟩)],iu (bO id) bD (jk j 0)):=by
  rw[ff,e0];dsimp only;rw[b1']
 have e2:ff j (bO id,bD) 2=(dO id j 2 [⟨gU,⟨#[]⟩,-1⟩,⟨gK,⟨#[]⟩,-1⟩] [(cz,⟨[],0⟩),(gU,⟨[],0⟩),(gK,⟨[],0⟩)],iu (dO id j 1 [⟨gU,⟨#[]⟩,-1⟩] [(cz,⟨[],0⟩),(gU,⟨[],0⟩)]) (iu (bO id) bD (jk j 0)) (jk j 1)):=by
  rw[ff,e1];dsimp only;rw[b2']
 rw[show ff j (bO id,bD) 3=(mX (ff j (bO id,bD) 2).1 (ff j (bO id,bD) 2).2 (jk j 2),iu (ff j (bO id,bD) 2).1 (ff j (bO id,bD) 2).2 (jk j 2))from rfl,e2];dsimp only;refine⟨fun i hi=>?_,b3.trans b3',c3,by rw[l3,l2,l1];rfl,d3⟩
 match i,hi with
 |0,_=>rw[e0];exact a1
 |1,_=>rw[e1];exact a2
 |2,_=>rw[e2];exact a3
theorem wU{id:Int}(h:0<=id/\id<4)(j:Int):∀i,cF (10+i) (ff j (bO id,bD) i).1
 |0=>Ct h
 |i+1=>((wU h j i).name _ _).le ae
theorem sy(id j:Int)(hj:0<=j/\j<4):jD (bO id) (yf j) (dp id j):=by
 have EK:j=0\/j=1\/j=2\/j=3:=by omega
 refine .cons (mj (x:=jk j 0) (by show cG [] ⟨gU,⟨#[]⟩,-1⟩=0;decide+kernel)) ?_;rw[show({iL (bO id) (jk j 0)with used:=(bO id).used+1}:Ho)=dO id j 1 [⟨gU,⟨#[]⟩,-1⟩] [(cz,⟨[],0⟩),(gU,⟨[],0⟩)]by kernel_rfl];refine .cons (mj (x:=jk j 1) (by show cG [⟨gU,⟨#[]⟩,-1⟩] ⟨gK,⟨#[]⟩,-1⟩=0;decide+kernel)) ?_;rw[show({iL (dO id j 1 [⟨gU,⟨#[]⟩,-1⟩] [(cz,⟨[],0⟩),(gU,⟨[],0⟩)]) (jk j 1)with used:=(dO id j 1 [⟨gU,⟨#[]⟩,-1⟩] [(cz,⟨[],0⟩),(gU,⟨[],0⟩)]).used+1}:Ho)=dO id j 2 [⟨gU,⟨#[]⟩,-1⟩,⟨gK,⟨#[]⟩,-1⟩] [(cz,⟨[],0⟩),(gU,⟨[],0⟩),(gK,⟨[],0⟩)]by kernel_rfl];refine .cons (mj (x:=jk j 2) (by show cG [⟨gU,⟨#[]⟩,-1⟩,⟨gK,⟨#[]⟩,-1⟩] ⟨kS,gU,j⟩=0;rcases EK with rfl|rfl|rfl|rfl<;>decide+kernel)) ?_;rw[show({iL (dO id j 2 [⟨gU,⟨#[]⟩,-1⟩,⟨gK,⟨#[]⟩,-1⟩] [(cz,⟨[],0⟩),(gU,⟨[],0⟩),(gK,⟨[],0⟩)]) (jk j 2)with used:=(dO id j 2 [⟨gU,⟨#[]⟩,-1⟩,⟨gK,⟨#[]⟩,-1⟩] [(cz,⟨[],0⟩),(gU,⟨[],0⟩),(gK,⟨[],0⟩)]).used+1}:Ho)=dp id j by rcases EK with rfl|rfl|rfl|rfl<;>kernel_rfl];exact .nil _
def LB (s:ak):Prop:=s=gU\/s=gK
theorem dU.start{id j:Int}(SN:0<=id/\id<4)(hj:0<=j/\j<4):dU LB id 0 (dp id j) (dp id j) (ff j (bO id,bD) 3).2 (yf j) [] (fun _=>[]) (fun _=>[]):=by
 obtain⟨-,hH,hD,hl,-⟩:=iR id j hj;have hB:cF 13 (dp id j):=by rw[<-hH];exact wU SN j 3
 have FL:hv (dp id j)=[]:=by kernel_rfl
 have qB:hk (dp id j)=[]:=by unfold hk;rw[FL];rfl
 refine⟨rfl,hB.le ae,hD,by simp[yf],by rw[hl];decide,sy id j hj,rfl,rfl,rfl,⟨fun q hq=>?_,fun q hq=>?_⟩,fun e he=>?_,by rw[qB,FL];exact .refl _,by rw[FL];exact .nil,fun e he=>?_,fun e he=>?_,fun u x hx=>?_,.nil,by rw[qB];exact .refl _,fun s hs=>?_⟩
 ·have :q=⟨[],0⟩:=List.eq_of_mem_replicate hq;rw[this]
 ·have :q=⟨[],0⟩:=List.eq_of_mem_replicate hq;rw[this]
 ·rw[FL]at he;cases he
 ·rw[FL]at he;cases he
 ·rw[FL]at he;cases he
 ·have :x=⟨[],[]⟩:=List.eq_of_mem_replicate (ax hx);subst this;exact⟨UI.nil _ _ _,rfl,rfl⟩
 ·have EK:j=0\/j=1\/j=2\/j=3:=by omega
  rcases hs with rfl|rfl
  ·refine⟨by decide+kernel,?_⟩;rcases EK with rfl|rfl|rfl|rfl<;>kernel_rfl
  ·refine⟨by decide+kernel,?_⟩;rcases EK with rfl|rfl|rfl|rfl<;>kernel_rfl
open Go Go.RowKit Go.ChangeMaps Go.MapKept
section
variable {κ:Type} [DecidableEq κ] {d:TypeDesc} {kv:κ->Value} {w0 w:World} {L:List HP} {P:Program} {b:Nat} {m:List (κ×Value)}
theorem JN(K:KeyLaw d kv)(h:St w0 (bV kv b m::L) w){t k E ty:TypeId}(ht:P.underlying t=some (.map k E))(hk:P.underlying k=some d)(s:κ):
 ∃w',(Builtin.delete_ #[t,k] ty #[.map (some b),kv s]).run P w=.ok (.tuple #[]) w'/\St w0 (bV kv b (pH m s)::L) w':=by
 obtain⟨es,h⟩:=h.Bp;obtain⟨fP,h⟩:=h.Bp;obtain⟨hr,h⟩:=h.split.rf;obtain⟨_,hb⟩:=h.look;have up:∀(o:Obj),St w0 (bI b o::L) {w with heap:=w.heap.setIfInBounds b o}:=fun o=>
  h.upd rfl rfl rfl aj (by have :=h.lt;simp[this]) (fun k hk=>by simp[Array.getElem?_setIfInBounds,Ne.symm hk])
 rcases IX K s _ m 0 hr.Nx with⟨h2,h3,h4,h5⟩|⟨j,e,_,h3,h4,h5,_,h6⟩
 ·refine⟨{w with heap:=w.heap.setIfInBounds b (.map es fP)},?_,?_⟩
  ·simp[Builtin.delete_,run_underlying ht,run_getObj_map hb,run_checkKey hk (K.isKey s),run_findKey hk h3,run_setObj_map _ hb,Result.andThen]
  ·rw[h5];exact St.zZ es (St.zZ fP (St.join (St.vN hr (up (.map es fP)))))
 ·have hj:j<es.size:=by have :=(au.1 h3).1;simpa using this
  have e1:(es.eraseIdx j hj).toList=es.toList.eraseIdx j:=by simp
  refine⟨_,?_,St.zZ (es.eraseIdx j hj) (St.zZ fP (St.join (St.vN (p:=W0 kv (es.eraseIdx j hj).toList fP (pH m s)) ?_ (up (.map (es.eraseIdx j hj) fP)))))⟩
  ·simp[Builtin.delete_,run_underlying ht,run_getObj_map hb,run_checkKey hk (K.isKey s),run_findKey hk h5,run_setObj_map _ hb,Result.andThen,Array.eraseIdxIfInBounds,hj]
  ·rw[e1];exact⟨h6,fun e he=>hr.La e ((List.eraseIdx_sublist _ _).subset he),hr.nodup.sublist ((List.eraseIdx_sublist _ _).map _)⟩
end
section
variable {κ:Type} [DecidableEq κ] {kd:TypeDesc} {kv:κ->Value}
variable {P:Program} {ops:Array Oper} {d:Bool} {Q:Exit->Act->World->Prop} {n:Nat} {D:List Deferred} {w0:World} {G:Env} {L R:List HP} {l:List (Kd×Oper)} {k:Kd}
 {t:Nat} {ty T KT E:TypeId} {pos:String} {af:Array Edge} {x y u:Operand} {v z:Value} {b:Nat} {m:List (κ×Value)}
theorem KO.adC(K:KeyLaw kd kv)(s:κ)(hk:(!d||k== .write)=true)(hx:ev G x=some (.map (some b)))(hy:ev G y=some (kv s))(hT:P.underlying T=some (.map KT E))(hK:P.underlying KT=some kd)(hp:bF L (bV kv b m) R)(h:KO P ops d Q n D w0 G (bV kv b (pH m s)::R) l):KO P ops d Q n D w0 G L ((k,⟨none,.call ⟨.builtin .delete,#[x,y],#[T,KT]⟩,ty,pos,af,none⟩)::l):=
 KO.wn hk (fun a w ha hw=>by
  obtain⟨w',hr,hs⟩:=JN (P:=P) (ty:=ty) K (hw.pick hp) hT hK s
  exact⟨w',.tuple #[],by simp[execOp,resolve,invoke,builtin,ha.eval hx,ha.eval hy,hr],hs⟩) h
end
def afp (T:List Int):List (Int×Value):=T.map fun k=>(k,.bool true)
open Go Go.RowKit
section
variable {P:Program} {ops:Array Oper} {d:Bool} {Q:Exit->Act->World->Prop} {n:Nat} {D:List Deferred} {w0:World} {G:Env} {L R:List HP} {l:List (Kd×Oper)} {k:Kd}
 {t:Nat} {ty T:TypeId} {pos:String} {af:Array Edge} {x y z:Operand} {i:Nat} {a c:Int} {kk kk':IntKind}
theorem KO.Uc{cs us:List Value}{len sz:Nat}{E:TypeId}(hx:ev G x=some (.agg cs.toArray))(hy:ev G y=some (.int kk a))(hT:P.underlying T=some (.array len E))(hA:∀w,(isAgg E).run P w=.ok true w)(hs:∀w,(Go.sizeOf E).run P w=.ok sz w)(ha:a=(i:Int))(hi:i<len)(hv:(cs.drop (i *sz)).take sz=us)(ht:Nat.blt t n=true)(h:KO P ops d Q n D w0 ((t,.agg us.toArray)::G) L l):KO P ops d Q n D w0 G L ((k,⟨some t,.index T x y,ty,pos,af,none⟩)::l):=
 KO.val (fun a' w qC=>by
  subst ha;have h1:(0:Int)<=(i:Int)/\(i:Int)<(len:Int):=⟨by omega,by omega⟩;have h2:cs.toArray.extract (i *sz) (i *sz+sz)=us.toArray:=by rw[<-hv,List.extract_toArray,List.extract_eq_take_drop,Nat.add_sub_cancel_left]
  simp[execOp,qC.eval hx,qC.eval hy,Instr.index,asIntOf,run_underlying hT,h1,hs w,part,hA w];rw[<-h2];simp;intro h3;omega
  ) ht h
end
theorem Mn(j:Int)(i:Nat):(jk j i).name.size<=3/\(jk j i).jz.size<=3:=by
 unfold jk;split
 ·exact⟨by decide,by decide⟩
 ·split
  ·exact⟨by decide,by decide⟩
  ·exact⟨by show kS.size<=3;decide,by show gU.size<=3;decide⟩
theorem abz(j:Int):[(jk j 0),(jk j 1),(jk j 2)].flatMap Nm.cells=[Value.string ⟨#[105,110]⟩,.string ⟨#[]⟩,.int .i64 (-1),.string ⟨#[111,117,116]⟩,.string ⟨#[]⟩,.int .i64 (-1),.string ⟨#[102,97,114]⟩,.string ⟨#[105,110]⟩,.int .i64 j]:=rfl
theorem P3(j:Int):∀i,i<3->(([(jk j 0),(jk j 1),(jk j 2)].flatMap Nm.cells).drop (i *3)).take 3=(jk j i).cells
 |0,_=>rfl
 |1,_=>rfl
 |2,_=>rfl
theorem Mr(H:Ho)(D:Dk)(x:Nm):(iu H D x).places.length=D.places.length/\D.left-1<=(iu H D x).left/\(iu H D x).left<=D.left:=by
 unfold iu;split
 ·exact⟨rfl,by omega,Int.le_refl _⟩
 ·unfold fY;split
  ·exact⟨rfl,by omega,Int.le_refl _⟩
  ·refine⟨?_,?_,?_⟩
   ·unfold dG;split
    ·split
     ·simp
     ·rfl
    ·simp
   ·rw[fO];split<;>omega
   ·rw[fO];split<;>omega
theorem Mq(id j:Int):∀i,(ff j (bO id,bD) i).2.places.length=300/\ -(i:Int)<=(ff j (bO id,bD) i).2.left/\(ff j (bO id,bD) i).2.left<=0
 |0=>⟨List.length_replicate,by show -((0:Nat):Int)<=0;omega,Int.le_refl 0⟩
 |i+1=>by
  obtain⟨a,b,c⟩:=Mq id j i;obtain⟨a',b',c'⟩:=Mr (ff j (bO id,bD) i).1 (ff j (bO id,bD) i).2 (jk j i);exact⟨a'.trans a,by simp only[ff];push_cast;omega,by simp only[ff];omega⟩
end WB
namespace Go.Proofs.YtjhogocabcdjbabGreatDoor
open Tryz
open Go Go.RowKit WB
theorem Iw(w0:World)(L:List HP)(bh bd:Nat)(id k m:Int)(hT:o0 w0)(hM:o2 w0)(hid:0<=id/\id<4)(hk:0<=k/\k<4)(hm:1<=m/\m<=4):
 KC prog 12 #[bp bh,.int .i64 k,.int .i64 m] w0 (dy bh bd (bO id)::fv bd bD::L) (fun u M=>u=.bool true/\M=dy bh bd (ff ((k+1)%m) (bO id,bD) 3).1::fv bd (ff ((k+1)%m) (bO id,bD) 3).2::L):=by
 have hj:0<=(k+1)%m/\(k+1)%m<4:=⟨Int.emod_nonneg _ ae,by have :=Int.emod_lt_of_pos (k+1) (show 0<m by omega);omega⟩;obtain⟨he,-⟩:=iR id ((k+1)%m) hj;have hB:=wU hid ((k+1)%m);have hD:=Mq id ((k+1)%m);have hz:=Mn ((k+1)%m);have hcut:=P3 ((k+1)%m);have kJ:=abz ((k+1)%m);generalize hjd:(k+1)%m=j at hj he hB hD hz hcut kJ ⊢;have hmx:(1000000:Nat)<=maxLen:=by decide
 generalize agN:[jk j 0,jk j 1,jk j 2].flatMap Nm.cells=cs at hcut kJ;refine KC.mk (n:=25) func12 rfl ntmps12 aj ?_;refine Z3 ?_;refine lZ ?_;refine R0 ?_;refine R0 ?_;refine Z1 ?_;refine xc ?_;refine Z1 ?_;refine KO.rem rfl rfl ae ae rfl ?_;rw[hjd];refine R0 ?_;refine KO.Zp (v:=.agg cs.toArray) rfl (by intro w;rw[kJ];go_simp;rfl) rfl ?_;refine mK ?_;refine K.loop (fun i:Nat=>[(0,bp bh),(16,.agg cs.toArray),(17,.int .i64 (i:Nat))])
  (fun i=>dy bh bd (ff j (bO id,bD) i).1::fv bd (ff j (bO id,bD) i).2::L) (fun i=>i<=3) (fun i=>3-i) 0
  (aV _) ⟨rfl,rfl,rfl,trivial⟩ (fun _ h=>h) ?_
 intro i hi;refine hF ?_;refine K.br rfl (fun h=>?_) (fun h=>?_)
 ·have UE:i<3:=by omega
  obtain⟨mM,wV⟩:=hz i;obtain⟨d1,d2,d3⟩:=hD i;have WT:=he i UE;have SS:=hcut i UE;have hBi:=hB i;have kj:ff j (bO id,bD) (i+1)=(mX (ff j (bO id,bD) i).1 (ff j (bO id,bD) i).2 (jk j i),iu (ff j (bO id,bD) i).1 (ff j (bO id,bD) i).2 (jk j i)):=rfl;generalize jk j i=x at mM wV WT SS kj;generalize ff j (bO id,bD) i=s at d1 d2 d3 WT hBi kj;obtain⟨Hi,Di⟩:=s;obtain⟨xn,xt,xh⟩:=x;dsimp only at mM wV WT d1 d2 d3 hBi kj;refine oY ?_;refine KO.Uc (i:=i) rfl rfl underlying137 isAgg75 sizeOf75 rfl UE SS rfl ?_;refine KO.alloc rfl zeroValue75 aP rfl ?_;intro b8;refine KO.oL rfl rfl rfl aP (by exact sizeOf75) aP bQ aP ?_;refine Fi ?_;refine VC ?_;refine KO.cl (cp:=[]) rfl rfl rfl call31 rfl (KC.Mc bn bn (QE w0 _ bh bd (10+i) Hi Di ⟨xn,xt,xh⟩ hT hM hBi ae d1 ⟨by omega,by omega⟩ gV gV)) ?_;rintro v' L' ⟨rfl,rfl⟩;rw[WT];refine CP ?_;refine Hj ?_;refine qF ?_;refine KQ.round (i+1) ae ae ⟨rfl,rfl,rfl,trivial⟩ (fun _ h=>?_);rw[kj];exact h.all Y1
 ·obtain rfl:i=3:=by omega
  refine Hv ?_;refine KQ.bB rfl rfl (fun w' aT=>⟨_,_,rfl,⟨rfl,rfl⟩,aT⟩)
end Go.Proofs.YtjhogocabcdjbabGreatDoor
namespace WB
open Go
def qS:ak:=⟨#[113]⟩
def aS:ak:=⟨#[97]⟩
def bS:ak:=⟨#[98]⟩
def nmQ:Nm:=⟨qS,⟨#[]⟩,-1⟩
def ka (u:Nat) (nx:Int) (q:Qu) (u0 u2:ox):Ho:=⟨1,u,false,-1,nx,[nmQ],[(cz,⟨[],0⟩),(qS,q)],List.replicate 4 ⟨[],0⟩,[u0,⟨[],[]⟩,u2,⟨[],[]⟩,⟨[],[]⟩],List.replicate 4 [],List.replicate 4 0,List.replicate 4 0⟩
def Wx:Ms:=⟨1,3,aS,qS,1⟩
def kbM:Ms:=⟨5,3,bS,qS,1⟩
def k1:Ho:=ka 1 0 ⟨[],0⟩ ⟨[],[]⟩ ⟨[],[]⟩
def k2:Ho:=ka 1 1 ⟨[⟨Wx,0,0,-1⟩],1⟩ ⟨[(Wx,-1)],[]⟩ ⟨[],[]⟩
def k3:Ho:=ka 2 1 ⟨[⟨Wx,1,-1,-1⟩],2⟩ ⟨[],[]⟩ ⟨[],[]⟩
def k4:Ho:=ka 2 2 ⟨[⟨Wx,1,-1,-1⟩,⟨kbM,2,2,-1⟩],3⟩ ⟨[],[]⟩ ⟨[(kbM,-1)],[]⟩
def k5:Ho:=ka 2 1 ⟨[⟨Wx,0,-1,-1⟩],1⟩ ⟨[],[]⟩ ⟨[],[]⟩
def kd1:Dk:=iu (bO 1) bD nmQ
def kd3:Dk:=qn k2 kd1 0
def kU:ox:=⟨[(Wx,-1)],[]⟩
theorem Nz:H9 bD:=uy.ok ⟨by show(-4000000000000000000:Int)<=0;omega,by show(0:Int)<=9223372036854775807;omega⟩
theorem Mi(id:Int):iQ id bD=bO id:=rk uy (.nil _)
end WB
namespace Go.Proofs.YtjhogocabcdjbabGreatDoor
open Tryz
open Go Go.RowKit WB
theorem IP(w0:World)(L R:List HP)(bh bd:Nat)(H:Ho)(hp:bF L (dy bh bd H) R):KE prog 76 #[bp bh] w0 L (fun u M=>u=.bool H.down/\M=L):=by
 refine KE.mk (n:=7) func76 rfl ntmps76 aj ?_;intro w hw;obtain⟨V,hV,hc⟩:=nd hw hp;have hc3:=hc 3 _ rfl;refine oX ?_;refine VA ?_;refine iW ?_;refine KQ.bB rfl rfl (fun w' hs=>⟨_,_,rfl,⟨rfl,rfl⟩,hw.aC hs.below,hs.below⟩)
def Ap (H:Ho) (k:Int):Int:=if cb H k=true then 0 else 2
def fQ (H:Ho) (k:Int):List Ms:=if cb H k=true then cT (H.iq k.toNat)else[]
theorem Ev(w0:World)(L:List HP)(bh bd n:Nat)(H:Ho)(k:Int)(hB:cF n H)(hn:n<=80000):
 KC prog 27 #[bp bh,.int .i64 k] w0 (dy bh bd H::L) (fun u M=> ∃v,u=.tuple #[v,cI 70 (Ap H k)]/\M=SL 44 5 dh v (fQ H k)::dy bh bd H::L):=by
 unfold Ap fQ;refine KC.mk (n:=18) func27 rfl ntmps27 aj ?_;refine rN ?_;refine kE ?_;cases hk:cb H k with
 |false=>
  refine iX ?_;refine KO.ce (cp:=[]) rfl rfl rfl call79 rfl (dX w0 _ _ bh bd H k bQ) ?_;rintro v' L' ⟨rfl,rfl⟩;rw[hk];refine oV ?_;refine Ac ?_;refine ou ?_;refine KQ.eE rfl rfl rfl (fun w' aT=>⟨_,_,rfl,⟨_,rfl,rfl⟩,cD aT⟩)
 |true=>
  obtain⟨qB,oe,-⟩:=bX.1 hk;obtain⟨j,rfl⟩:∃j:Nat,k=(j:Int):=⟨k.toNat,by omega⟩;have hj:j<4:=by omega
  refine iX ?_;refine KO.ce (cp:=[]) rfl rfl rfl call79 rfl (dX w0 _ _ bh bd H (j:Int) bQ) ?_;rintro v' L' ⟨rfl,rfl⟩;rw[hk];refine Fm ?_;refine K.cq (fun _ h=>cx h) ?_;rintro⟨V,hV⟩;dsimp only;have oS:=hV.ps;obtain⟨p,hp⟩:∃p,V.ps[j]? =some p:=⟨_,ao ae⟩;have hw:=od (bd:=bd) hV hj hp;have fg:=qW hV.ways hj;have FM:=(hB.w hj).len;refine nD ?_;refine R9 ?_;refine KO.db (i:=8+j) rfl rfl isAgg119 bQ zz hw rfl ?_;refine KO.ce (cp:=[]) rfl rfl rfl call67 rfl (KE.E0 (A:=fun v=>JS v (cT (H.iq j))) (φ:=fun _=>True) hp fg bn (fun L=>KE.mono (Gq w0 _ _ p (H.iq j) .head ae) (fun v M h=>⟨trivial,h⟩))) ?_;rintro va L' ⟨-,rfl⟩;refine pO ?_;refine KQ.eE rfl rfl rfl (fun w' aT=>⟨_,_,rfl,⟨_,rfl,rfl⟩,?_⟩);have h1:=bR V hV (L:=JS va (cT (H.iq j))::L) (aT.all Y7);exact h1.all Y7
def Vu (H:Ho) (k:Int):Int:=if cb H k=true then 0 else 2
def ig (H:Ho) (k:Int):Int:=if cb H k=true then dc H k.toNat else 0
theorem GR(w0:World)(L R:List HP)(bh bd:Nat)(H:Ho)(k:Int)(hp:bF L (dy bh bd H) R):
 KE prog 111 #[bp bh,.int .i64 k] w0 L (fun u M=>u=.tuple #[.int .i64 (ig H k),cI 70 (Vu H k)]/\M=L):=by
 unfold Vu ig;refine KE.mk (n:=17) func111 rfl ntmps111 aj ?_;intro w hw;have hri:=dX w0 L R bh bd H k hp;obtain⟨V,hV,hc⟩:=nd hw hp;refine rN ?_;refine kE ?_;cases hk:cb H k with
 |false=>
  rw[hk]at hri;refine iX ?_;refine KO.ce (cp:=[]) rfl rfl rfl call79 rfl (hri.px hw) ?_;rintro v' L' ⟨rfl,rfl⟩;refine oV ?_;refine Ac ?_;refine ou ?_;refine KQ.eE rfl rfl rfl (fun w' hs=>⟨_,_,rfl,⟨rfl,rfl⟩,hw.aC hs.below,hs.below⟩)
 |true=>
  rw[hk]at hri;obtain⟨qB,oe,-⟩:=bX.1 hk;obtain⟨j,rfl⟩:∃j:Nat,k=(j:Int):=⟨k.toNat,by omega⟩;have hj:j<4:=by omega
  have hcj:=hc (30+j) _ (w4 (bd:=bd) hV hj).1;have acQ:w.cell? ((⟨bh,30,none⟩:Addr).add (j *1))=some (.int .i64 (dc H j)):=by rw[Addr.add_lit,Nat.mul_one];exact hcj
  refine iX ?_;refine KO.ce (cp:=[]) rfl rfl rfl call79 rfl (hri.px hw) ?_;rintro v' L' ⟨rfl,rfl⟩;refine Fm ?_;refine nD ?_;refine Z60 ?_;refine KO.qM rfl rfl isAgg3 acQ rfl ?_;refine pO ?_;refine KQ.eE rfl rfl rfl (fun w' hs=>⟨_,_,rfl,⟨rfl,rfl⟩,hw.aC hs.below,hs.below⟩)
theorem TO{w0 w w':World}{L:List HP}{e:TypeId}{sz n:Nat}{v:Value}{xs:List Value}(hw:St w0 L w)(hb:Below w.heap.size w w')(ho:w'.ownsRow w.heap.size e sz v n xs):St w0 (ke e sz v n xs::L) w':=by
 obtain⟨hl,⟨rfl,rfl⟩|⟨g,cap,cur,rfl,hg,hh,h1,h2,h3,h4⟩⟩:=ho
 ·have :xs=[]:=List.eq_nil_of_length_eq_zero ZY;subst this;exact(hw.aC hb).B4
 ·have hs:St w [bI g (.cells cur e (0,0))] w':=by
   refine⟨hb.os,hb.tape,hb.output,hb.size,hb.block,⟨fun k=>if k=g then some (.cells cur e (0,0))else none,fun k o hk=>?_,?_⟩⟩
   ·dsimp only at hk;split at hk
    ·rename_i e1;subst e1;simp only[az]at hk;subst hk;exact⟨hg,hh⟩
    ·cases hk
   ·refine⟨fun k=>if k=g then some (.cells cur e (0,0))else none,fun _=>none,fun k=>.inr rfl,?_,⟨if_pos rfl,fun k hk=>if_neg hk⟩,fun _=>rfl⟩;funext k;unfold oA;split<;>simp_all
  have h5:=(hw.stack hs).kx (n:=n) (size:=sz) (xs:=xs) h1 h2 h3 h4;exact h5
theorem Rs(w0:World)(L R:List HP)(v:Value)(l:List Int)(hl:0<l.length)(zI:l.length<=1000000)(hp:bF L (dL v l) R):KE prog 195 #[v] w0 L (fun u M=>M=SL 3 1 jO u l::L):=fun w hw=>by
 obtain⟨⟨⟨g,off,cs,cap⟩,hv,kJ⟩,hs⟩:=DM hl (hw.pick hp);dsimp only at hv kJ hs;subst hv;refine(Tryz.slices_Clone_int g off l.length cap l w (aF _) ae (fun j hj=>?_)).mono ?_
 ·rw[World.cell?,hs.look.2];have :=kJ j (l.getD j 0) (by rw[aq,ao hj];rfl);simpa using this
 ·rintro e w' ⟨v',rfl,ho,-,hb⟩;refine⟨v',_,rfl,rfl,?_,hb⟩;rw[List.take_length]at ho;have h8:∀l:List Int,l.map (Value.int .i64)=l.flatMap jO:=fun l=>by
   induction l with
   |nil=>rfl
   |cons x l ih=>rw[aR,<-ih];rfl
  rw[h8]at ho;exact TO hw hb ho
def dbE (H:Ho) (k:Int):Int:=if cb H k=true then 0 else 2
def Vd (H:Ho) (k:Int):Int:=if cb H k=true then(if(cn H k.toNat).length=0 then 0 else dz H k.toNat)else 0
def y6 (H:Ho) (k:Int):List Int:=if cb H k=true then cn H k.toNat else[]
theorem Ng(w0:World)(L:List HP)(bh bd n:Nat)(H:Ho)(k:Int)(hB:cF n H):
 KC prog 110 #[bp bh,.int .i64 k] w0 (dy bh bd H::L) (fun u M=> ∃v,u=.tuple #[.int .i64 (Vd H k),v,cI 70 (dbE H k)]/\M=SL 3 1 jO v (y6 H k)::dy bh bd H::L):=by
 unfold dbE Vd y6;refine KC.mk (n:=33) func110 rfl ntmps110 aj ?_;refine Z3 ?_;refine lY ?_;refine kE ?_;cases hk:cb H k with
 |false=>
  refine iX ?_;refine KO.ce (cp:=[]) rfl rfl rfl call79 rfl (dX w0 _ _ bh bd H k bQ) ?_;rintro v' L' ⟨rfl,rfl⟩;rw[hk];refine oV ?_;refine Ac ?_;refine Lq ?_;refine Z7 ?_;refine qX ?_;refine KQ.DN rfl rfl rfl rfl (fun w' aT=>⟨_,_,rfl,⟨_,rfl,rfl⟩,cD aT⟩)
 |true=>
  obtain⟨qB,oe,-⟩:=bX.1 hk;obtain⟨j,rfl⟩:∃j:Nat,k=(j:Int):=⟨k.toNat,by omega⟩;have hj:j<4:=by omega
  refine iX ?_;refine KO.ce (cp:=[]) rfl rfl rfl call79 rfl (dX w0 _ _ bh bd H (j:Int) bQ) ?_;rintro v' L' ⟨rfl,rfl⟩;rw[hk];refine Fm ?_;refine K.cq (fun _ h=>cx h) ?_;rintro⟨V,hV⟩;dsimp only;have UP:=hV.bs;have qR:=hV.batch;obtain⟨bv,Bc⟩:∃e,V.bs[j]? =some e:=⟨_,ao ae⟩;obtain⟨bl,uh⟩:∃e,H.batch[j]? =some e:=⟨_,ao ae⟩;have QW:cn H j=bl:=by unfold cn;rw[aq,uh];rfl
  have Yw:=hB.ext.Ta bl (ax uh);rw[aE];rw[QW];obtain⟨c1,c2⟩:=qf (bd:=bd) hV Bc;obtain⟨d1,d2⟩:=wZ (bd:=bd) hV hj;refine RW ?_;refine K.fact (fun w hw=>pw (hw.pick (A:=dL bv bl) .head)) ?_;rintro⟨ba,bc,rfl⟩;have back:∀{w':World} {M:List HP},St w0 (dL (.slice ba bl.length bc) bl::bZ dL (V.bs.eraseIdx j) (H.batch.eraseIdx j)::bI bh (.cells (eK bd V H).toArray 133 (0,0))::kA V.nv H.names::bV Value.string V.mb (dq V H)::bZ iP V.ps H.all::bZ cY (V.us.map (·.1)) (H.aA.map (·.aO))::bZ cV (V.us.map (·.2)) (H.aA.map (·.bf))::M) w'->St w0 (dy bh bd H::M) w':=fun h=>bR V hV ((km Bc uh h).all Y7)
  refine nD ?_;refine K4 ?_;refine rV ?_;refine uK ?_;refine K.br rfl (fun h0=>?_) (fun h0=>?_)
  ·have S3:bl.length=0:=by omega
   have QD:bl=[]:=List.length_eq_zero_iff.1 S3;refine Z3 ?_;refine lY ?_;refine qX ?_;refine KQ.DN rfl rfl rfl rfl (fun w' aT=>⟨_,_,rfl,⟨_,by rw[if_pos rfl,if_pos S3,if_pos rfl];rfl,rfl⟩,?_⟩);rw[if_pos rfl];have h1:=back (aT.all nI);subst QD;exact cD h1
  ·have S3:¬bl.length=0:=by omega
   refine Z6 ?_;refine K.draw [.pure,.pure,.pure,.pure,.pure,.read,.pure,.pure,.pure,.pure,.pure,.read,.c7,.pure,.pure,.pure] [0,1,2,3,4,5,6,7,8,9,10,11,12,13,14,15] bC bC ?_;refine rP ?_;refine R7 ?_;refine KO.db (i:=26+j) rfl rfl isAgg3 bn zz d1 rfl ?_;refine rP ?_;refine K4 ?_;refine KO.ce (cp:=[]) rfl rfl rfl call195 rfl (Rs w0 _ _ _ bl ae ae bQ) ?_;rintro va L' rfl;refine lY ?_;refine iW ?_;refine KQ.DN rfl rfl rfl rfl (fun w' aT=>⟨_,_,rfl,⟨_,by rw[if_pos rfl,if_neg S3,if_pos rfl];rfl,rfl⟩,?_⟩);rw[if_pos rfl];have h1:=back (M:=SL 3 1 jO va bl::L) (aT.all Y7);exact h1.all Y7
end Go.Proofs.YtjhogocabcdjbabGreatDoor
namespace WB
open Go
theorem l7{c:UInt8}(h:c≠58)(s:ak):cX 58 (b_ c++b_ 58++s)=(b_ c,s,true):=cutB_hit (d_ h) s
theorem uT{c:UInt8}(h:c≠58)(h1:c≠117)(h2:c≠114){s:ak}(hs:s.size<=79000):fF 1 (b_ c++b_ 58++s):=by
 have e1:(b_ c).size=1:=rfl;have e2:(b_ 58).size=1:=rfl;have e3:∀d,b_ c=b_ d->c=d:=fun d e=>by
  have :=congrArg (·.data.toList) e
  simpa[b_]using this
 refine⟨by simp only[aQ];omega,fun hk=>?_,fun hk=>?_⟩
 ·rw[l7 h]at hk;exact absurd (e3 _ hk) h1
 ·rw[l7 h]at hk;exact absurd (e3 _ hk) h2
def Xy (s:ak):ak:=b_ 100++b_ 58++s
def Pk (H:Ho) (s:ak):Int:=if H.names.any (fun x=>decide (x.name=s))=true then 0 else 7
def unE (H:Ho) (D:Dk) (s:ak):Int:=if Pk H s≠0 then Pk H s else dV H D
def unH (H:Ho) (D:Dk) (s:ak):Ho:=if Pk H s≠0 then H else oJ H D (Xy s)
def unD (H:Ho) (D:Dk) (s:ak):Dk:=if Pk H s≠0 then D else fY H D (Xy s)
def vL (k:Int):ak:=b_ 97++b_ 58++bP k
def lX (H:Ho) (k n:Int):Int:=if cb H k=false then 2 else if H.down=true then 6 else if cn H k.toNat=[]\/n≠dz H k.toNat then 8 else 0
def caE (H:Ho) (D:Dk) (k n:Int):Int:=if lX H k n≠0 then lX H k n else dV H D
def Dd (H:Ho) (D:Dk) (k n:Int):Ho:=if lX H k n≠0 then H else oJ H D (vL k)
def FQ (H:Ho) (D:Dk) (k n:Int):Dk:=if lX H k n≠0 then D else fY H D (vL k)
def kH (k:Int) (l:List Int):ak:=b_ 98++b_ 58++cS ((k::l).map bP) sp
def dY (H:Ho) (k:Nat):List Int:=((dK (H.iq k)).take 3).map (·.id)
def mI (H:Ho) (k:Int):Int:=if cb H k=false then 2 else if H.down=true then 6 else if cn H k.toNat=[]/\dK (H.iq k.toNat)=[]then 8 else 0
def fu (H:Ho) (k:Int):Bool:=decide (mI H k=0/\cn H k.toNat=[])
def uD (H:Ho) (D:Dk) (k:Int):Int:=if mI H k≠0 then mI H k else if fu H k=true then dV H D else 0
def mJ (H:Ho) (D:Dk) (k:Int):Ho:=if fu H k=true then oJ H D (kH k (dY H k.toNat))else H
def tk (H:Ho) (D:Dk) (k:Int):Dk:=if fu H k=true then fY H D (kH k (dY H k.toNat))else D
def MO (l:List Int) (m:Ms):Bool:=decide (m.id∈l)
def Ab (H:Ho) (D:Dk) (k:Int):List Ms:=if uD H D k=0 then(cT ((mJ H D k).iq k.toNat)).filter (MO (cn (mJ H D k) k.toNat))else[]
def I6 (H:Ho) (D:Dk) (k:Int):Int:=if uD H D k=0 then dz (mJ H D k) k.toNat else 0
theorem wP{k:Int}(hk:0<=k/\k<4):fF 1 (vL k):=uT ai ai ai (by have :=cv (n:=k) ⟨by omega,by omega⟩;omega)
theorem xY{k:Int}{l:List Int}(hk:0<=k/\k<4)(hl:l.length<=3)(hi:∀x∈l,ob x):(cS ((k::l).map bP) sp).size<=1000:=by
 have h1:=fN sp 30 ((k::l).map bP) (fun x hx=>by
  obtain⟨n,hn,rfl⟩:=ay.1 hx;have hb:ob n:=by
   rcases aD.1 hn with rfl|hn
   ·exact⟨by omega,by omega⟩
   ·exact hi n hn
  have :=cv hb;omega)
 have h2:sp.size=1:=rfl;rw[h2,aW,List.length_cons]at h1;omega
theorem mW{k:Int}{l:List Int}(hk:0<=k/\k<4)(hl:l.length<=3)(hi:∀x∈l,ob x):fF 1 (kH k l):=uT ai ai ai (by have :=xY hk hl hi;omega)
end WB
namespace Go.Proofs.YtjhogocabcdjbabGreatDoor
open Tryz
open Go Go.RowKit WB
theorem Q5(w0:World)(L:List HP)(bh bd n:Nat)(H:Ho)(D:Dk)(k m:Int)(hT:o0 w0)(hM:o2 w0)(hB:cF n H)(hn:n+1<=90000)(h3:D.places.length=300)(hd: -4000000000000000000<=D.left/\D.left<=9223372036854775807):
 KC prog 100 #[bp bh,.int .i64 k,.int .i64 m] w0 (dy bh bd H::fv bd D::L) (fun u M=>u=cI 70 (caE H D k m)/\M=dy bh bd (Dd H D k m)::fv bd (FQ H D k m)::L):=by
 unfold caE Dd FQ;refine KC.mk (n:=44) func100 rfl ntmps100 aj ?_;refine rN ?_;refine N8 ?_;cases hk:cb H k with
 |false=>
  have he:lX H k m=2:=by unfold lX;rw[if_pos hk]
  rw[he];refine iX ?_;refine KO.ce (cp:=[]) rfl rfl rfl call79 rfl (dX w0 _ _ bh bd H k bQ) ?_;rintro v' L' ⟨rfl,rfl⟩;rw[hk];refine oV ?_;refine Z7 ?_;refine Ac ?_;refine wz ?_;refine KQ.bB rfl rfl (fun w' aT=>⟨_,_,rfl,⟨rfl,rfl⟩,aT⟩)
 |true=>
 obtain⟨qB,oe,-⟩:=bX.1 hk;obtain⟨j,rfl⟩:∃j:Nat,k=(j:Int):=⟨k.toNat,by omega⟩;have hj:j<4:=by omega
 refine iX ?_;refine KO.ce (cp:=[]) rfl rfl rfl call79 rfl (dX w0 _ _ bh bd H (j:Int) bQ) ?_;rintro v' L' ⟨rfl,rfl⟩;rw[hk];refine oV ?_;refine Z7 ?_;refine Hj ?_;refine oW ?_;refine K.cq (fun _ h=>cx h) ?_;rintro⟨V,hV⟩;dsimp only;cases rv:H.down with
 |true=>
  have he:lX H (j:Int) m=6:=by unfold lX;rw[if_neg Wf,if_pos rv]
  rw[he];refine Fk ?_;refine qE ?_;refine K.cL rfl rv ?_;refine wz ?_;refine KQ.bB rfl rfl (fun w' aT=>⟨_,_,rfl,⟨rfl,rfl⟩,bR V hV aT⟩)
 |false=>
 refine Fk ?_;refine qE ?_;refine K.da rfl rv ?_;refine oW ?_;have UP:=hV.bs;have qR:=hV.batch;obtain⟨bv,Bc⟩:∃e,V.bs[j]? =some e:=⟨_,ao ae⟩;obtain⟨bl,uh⟩:∃e,H.batch[j]? =some e:=⟨_,ao ae⟩;have QW:cn H j=bl:=by unfold cn;rw[aq,uh];rfl
 obtain⟨c1,c2⟩:=qf (bd:=bd) hV Bc;obtain⟨d1,d2⟩:=wZ (bd:=bd) hV hj;have he:lX H (j:Int) m=if bl=[]\/m≠dz H j then 8 else 0:=by unfold lX;rw[if_neg Wf,if_neg Wd,aE,QW]
 refine RW ?_;refine K.fact (fun w hw=>pw (hw.pick (A:=dL bv bl) .head)) ?_;rintro⟨ba,bc,rfl⟩;have back:∀{w':World} {M:List HP},St w0 (dL (.slice ba bl.length bc) bl::bZ dL (V.bs.eraseIdx j) (H.batch.eraseIdx j)::bI bh (.cells (eK bd V H).toArray 133 (0,0))::kA V.nv H.names::bV Value.string V.mb (dq V H)::bZ iP V.ps H.all::bZ cY (V.us.map (·.1)) (H.aA.map (·.aO))::bZ cV (V.us.map (·.2)) (H.aA.map (·.bf))::M) w'->St w0 (dy bh bd H::M) w':=fun h=>bR V hV ((km Bc uh h).all Y7)
 refine K.cut (fun b:Bool=>[(0,bp bh),(1,.int .i64 (j:Nat)),(19,.bool b)]) (fun _=>dy bh bd H::fv bd D::L) (fun b=>b=decide (bl=[]\/m≠dz H j)) ?_ ?_
 ·by_cases h0:bl=[]
  ·have S3:(bl.length:Int)=0:=by rw[h0];rfl
   refine nD ?_;refine K4 ?_;refine rV ?_;refine Jb ?_;refine Fo ?_;refine Tg ?_;refine qY ?_;refine uR ?_;exact KQ.qL true (by simp[h0]) ⟨rfl,rfl,rfl,trivial⟩ (fun w' aT=>back (aT.all nI))
  ·have S3:¬(bl.length:Int)=0:=by
    have :bl.length≠0:=fun e=>h0 (List.length_eq_zero_iff.1 e)
    omega
   refine nD ?_;refine K4 ?_;refine rV ?_;refine Jb ?_;refine s9 ?_;refine s9 ?_;refine Hm ?_;refine KO.fw (off:=26) rfl runUnderlying133 rfl rfl sizeOf95 rfl ?_;refine KO.on rfl rfl (decide_eq_false S3) ?_;refine KO.jP (i:=j) rfl rfl runUnderlying95 sizeOf3 rfl ae rfl ?_;refine KO.on rfl rfl (decide_eq_false S3) ?_;refine KO.db (i:=26+j) rfl rfl isAgg3 bn zz d1 rfl ?_;refine kF ?_;refine zp ?_;refine wi ?_;refine uR ?_;exact KQ.qL (decide (m≠dz H j)) (by simp[h0]) ⟨rfl,rfl,rfl,trivial⟩ (fun w' aT=>back (aT.all nI))
 ·rintro b hb;rw[hb];refine K.br rfl (fun h6=>?_) (fun h6=>?_)
  ·rw[if_pos h6]at he;rw[he];refine wz ?_;refine KQ.bB rfl rfl (fun w' aT=>⟨_,_,rfl,⟨rfl,rfl⟩,aT⟩)
  ·rw[if_neg h6]at he;rw[he];have lE:=wP (k:=(j:Int)) ⟨by omega,by omega⟩;have QK:=cv (n:=(j:Int)) ⟨by omega,by omega⟩;refine RR ?_;refine rR ?_;refine KO.ce (cp:=[]) rfl rfl rfl call59 rfl (jM w0 _ (j:Int) hT ⟨by omega,by omega⟩) ?_;rintro v' L' ⟨rfl,rfl⟩;refine KO.cat rfl rfl (by have :(⟨#[97,58]⟩:ak).size=2:=rfl;omega) rfl ?_;rw[show(⟨#[97,58]⟩++bP (j:Int):ak)=vL (j:Int)from by unfold vL;rw[show(⟨#[97,58]⟩:ak)=b_ 97++b_ 58 by decide]];refine KO.cl (cp:=[]) rfl rfl rfl call84 rfl (KC.Mc bQ bQ (qd w0 _ bh bd n 1 H D (vL (j:Int)) hT hM hB lE ae h3 hd)) ?_;rintro v' L' ⟨rfl,rfl⟩;refine iW ?_;refine KQ.bB rfl rfl (fun w' aT=>⟨_,_,rfl,⟨rfl,rfl⟩,aT.all nI⟩)
theorem Ua(w0:World)(L:List HP)(v:Value)(xs:List Int)(x:Int)(hr:∀w,St w0 L w->vE w 1 jO v xs)(hlen:xs.length<1000000):
 KE prog 176 #[v,.int .i64 x] w0 L (fun v L'=>v=.int .i64 (np (fun y=>decide (x=y)) xs)/\L'=L):=by
 refine KE.mk (n:=19) func176 rfl ntmps176 aj ?_;intro w hw;obtain⟨a,cap,rfl,hc⟩:=hr w hw;refine oX ?_;refine rV ?_;refine mK ?_;refine K.loop (fun k:Nat=>[(0,.slice a xs.length cap),(1,.int .i64 x),(7,.int .i64 (xs.length:Nat)),(8,.int .i64 (k:Nat))]) (fun _=>[]) (fun k=>k<=xs.length/\∀(j:Nat) (u:Int),j<k->xs[j]? =some u->(fun y=>decide (x=y)) u=false) (fun k=>xs.length-k) 0 ⟨by omega,fun j u h=>by omega⟩ ⟨rfl,rfl,rfl,rfl,trivial⟩ (fun _ h=>h) ?_;rintro k ⟨hk,qO⟩;refine hF ?_;refine K.br rfl (fun h=>?_) (fun h=>?_)
 ·have dt:k<xs.length:=by omega
  obtain⟨e,he⟩:∃e,xs[k]? =some e:=⟨xs[k],ao dt⟩;obtain⟨ad,rfl,hh⟩:=hc k e he;have Yn:w.cell? (ad.add (k *1))=some (.int .i64 e):=by
   have :=hh 0 _ rfl
   rwa [Addr.add_add,Nat.add_zero]at this
  refine sZ ?_;refine lL ?_;refine lK ?_;refine KO.Gu rfl rfl runUnderlying23 sizeOf3 aP ae rfl ?_;refine KO.qM rfl rfl isAgg3 Yn rfl ?_;refine uK ?_;refine K.br rfl (fun h1=>?_) (fun h1=>?_)
  ·refine jB ?_;refine kG ?_;refine KQ.bB rfl rfl (fun w' hs=>⟨_,_,rfl,⟨?_,rfl⟩,hw.aC hs.below,hs.below⟩);rw[yS he (p:=fun y=>decide (x=y)) K6 qO]
  ·refine qF ?_;refine KQ.round (k+1) ⟨by omega,fun j u hj hu=>?_⟩ ae ⟨rfl,rfl,rfl,rfl,trivial⟩ (fun _ h=>h);by_cases IL:j=k
   ·subst IL;rw[he]at hu;simp only[az]at hu;rw[<-hu];simpa using h1
   ·exact qO j u ae hu
 ·refine Hv ?_;refine KQ.bB rfl rfl (fun w' hs=>⟨_,_,rfl,⟨?_,rfl⟩,hw.aC hs.below,hs.below⟩);rw[ur fun j u hu=>qO j u Y16 hu]
theorem NJ(w0:World)(L:List HP)(v:Value)(xs:List Int)(x:Int)(hr:∀w,St w0 L w->vE w 1 jO v xs)(hlen:xs.length<1000000):
 KE prog 92 #[v,.int .i64 x] w0 L (fun v L'=>v=.bool (decide (x∈xs))/\L'=L):=by
 refine KE.mk (n:=9) func92 rfl ntmps92 aj ?_;intro w hw;refine Hu ?_;refine KO.ce (cp:=[]) rfl rfl rfl call176 rfl ((Ua w0 L v xs x hr hlen).px hw) ?_;rintro v L' ⟨rfl,rfl⟩;refine vD ?_;refine iW ?_;refine KQ.bB rfl rfl (fun w' hs=>⟨_,_,rfl,⟨?_,rfl⟩,hw.aC hs.below,hs.below⟩);rw[pF];congr 1;rw[List.any_eq];simp
theorem Nn(w0:World)(L:List HP)(bh bd n:Nat)(H:Ho)(D:Dk)(k:Int)(hT:o0 w0)(hM:o2 w0)(hB:cF n H)(hn:n+1<=80000)(h3:D.places.length=300)(hd: -4000000000000000000<=D.left/\D.left<=9223372036854775807):
 KC prog 35 #[bp bh,.int .i64 k] w0 (dy bh bd H::fv bd D::L) (fun u M=> ∃v,u=.tuple #[.int .i64 (I6 H D k),v,cI 70 (uD H D k)]/\M=SL 44 5 dh v (Ab H D k)::dy bh bd (mJ H D k)::fv bd (tk H D k)::L):=by
 have hid:∀j,j<4->∀m∈dK (H.iq j),ob m.id:=fun j hj m hm=>by
  unfold dK at hm;obtain⟨e,he,rfl⟩:=ay.1 hm;have :=(hB.w hj).ids e (aB.1 he).1;exact⟨by omega,by omega⟩
 have hBb:cF (n+1) (mJ H D k):=by
  unfold mJ;split
  ·rename_i qz;have Cn:cb H k=true:=by
    unfold fu mI at qz;cases hk:cb H k with
    |true=>rfl
    |false=>rw[hk]at qz;simp at qz
   obtain⟨qB,oe,-⟩:=bX.1 Cn;unfold oJ;split
   ·exact(hB.log (D:=D)).AO (mW ⟨qB,oe⟩ (by unfold dY;simp;omega) (fun x hx=>by
     obtain⟨m,hm,rfl⟩:=ay.1 hx
     exact hid _ ae m (List.mem_of_mem_take hm))) ae
   ·exact(hB.log (D:=D)).le ae
  ·exact hB.le ae
 have early:∀e:Int,e≠0->uD H D k=e->fu H k=false->∀w',St w0 (dy bh bd H::fv bd D::L) w'->∃v L',Ending.returned (.tuple #[.int .i64 0,.slice none 0 0,cI 70 e])=Ending.returned v/\(∃u,v=.tuple #[.int .i64 (I6 H D k),u,cI 70 (uD H D k)]/\L'=SL 44 5 dh u (Ab H D k)::dy bh bd (mJ H D k)::fv bd (tk H D k)::L)/\St w0 L' w':=fun e he hb qz w' aT=>by
  refine⟨_,_,rfl,⟨.slice none 0 0,?_,rfl⟩,?_⟩
  ·unfold I6;rw[hb,if_neg he]
  ·unfold Ab mJ tk;rw[hb,if_neg he,qz];exact cD aT
 refine KC.mk (n:=105) func35 rfl ntmps35 aj ?_;refine Z3 ?_;refine lY ?_;refine kE ?_;cases hk:cb H k with
 |false=>
  have he:mI H k=2:=by unfold mI;rw[if_pos hk]
  have ei:uD H D k=2:=by unfold uD;rw[he];rfl
  have qz:fu H k=false:=by unfold fu;rw[he];rfl
  refine iX ?_;refine KO.ce (cp:=[]) rfl rfl rfl call79 rfl (dX w0 _ _ bh bd H k bQ) ?_;rintro v' L' ⟨rfl,rfl⟩;rw[hk];refine oV ?_;refine Ac ?_;refine Lq ?_;refine Z7 ?_;refine qX ?_;refine KQ.DN rfl rfl rfl rfl (fun w' aT=>early 2 ai ei qz w' aT)
 |true=>
 obtain⟨qB,oe,-⟩:=bX.1 hk;obtain⟨j,rfl⟩:∃j:Nat,k=(j:Int):=⟨k.toNat,by omega⟩;have hj:j<4:=by omega
 refine iX ?_;refine KO.ce (cp:=[]) rfl rfl rfl call79 rfl (dX w0 _ _ bh bd H (j:Int) bQ) ?_;rintro v' L' ⟨rfl,rfl⟩;rw[hk];refine Fm ?_;refine K.cq (fun _ h=>cx h) ?_;rintro⟨V,hV⟩;dsimp only;cases rv:H.down with
 |true=>
  have he:mI H (j:Int)=6:=by unfold mI;rw[if_neg Wf,if_pos rv]
  have ei:uD H D (j:Int)=6:=by unfold uD;rw[he];rfl
  have qz:fu H (j:Int)=false:=by unfold fu;rw[he];rfl
  refine Fk ?_;refine Z2 ?_;refine K.cL rfl rv ?_;refine Lq ?_;refine Z7 ?_;refine qX ?_;refine KQ.DN rfl rfl rfl rfl (fun w' aT=>early 6 ai ei qz w' (bR V hV aT))
 |false=>
 refine Fk ?_;refine Z2 ?_;refine K.da rfl rv ?_;refine Z6 ?_;have UP:=hV.bs;have qR:=hV.batch;have oS:=hV.ps;obtain⟨bv,Bc⟩:∃e,V.bs[j]? =some e:=⟨_,ao ae⟩;obtain⟨bl,uh⟩:∃e,H.batch[j]? =some e:=⟨_,ao ae⟩;have QW:cn H j=bl:=by unfold cn;rw[aq,uh];rfl
 obtain⟨c1,c2⟩:=qf (bd:=bd) hV Bc;obtain⟨p,hp⟩:∃p,V.ps[j]? =some p:=⟨_,ao ae⟩;have hw:=od (bd:=bd) hV hj hp;have fg:=qW hV.ways hj;have FM:=(hB.w hj).len;have o_:mI H (j:Int)=if bl=[]/\dK (H.iq j)=[]then 8 else 0:=by unfold mI;rw[if_neg Wf,if_neg Wd,aE,QW]
 refine RW ?_;refine K.fact (fun w hw=>pw (hw.pick (A:=dL bv bl) .head)) ?_;rintro⟨ba,bc,rfl⟩;have back:∀{w':World} {M:List HP},St w0 (dL (.slice ba bl.length bc) bl::bZ dL (V.bs.eraseIdx j) (H.batch.eraseIdx j)::bI bh (.cells (eK bd V H).toArray 133 (0,0))::kA V.nv H.names::bV Value.string V.mb (dq V H)::bZ iP V.ps H.all::bZ cY (V.us.map (·.1)) (H.aA.map (·.aO))::bZ cV (V.us.map (·.2)) (H.aA.map (·.bf))::M) w'->St w0 (dy bh bd H::M) w':=fun h=>bR V hV ((km Bc uh h).all Y7)
 refine nD ?_;refine K4 ?_;refine rV ?_;refine uK ?_;refine K.cut (fun _:Unit=>[(0,bp bh),(1,.int .i64 (j:Nat))]) (fun _=>dy bh bd (mJ H D (j:Int))::fv bd (tk H D (j:Int))::L) (fun _=>uD H D (j:Int)=0) ?_ ?_
 ·refine K.br rfl (fun h0=>?_) (fun h0=>?_)
  ·have QD:bl=[]:=List.length_eq_zero_iff.1 ae;refine jB ?_;refine lq ?_;refine R9 ?_;refine KO.db (i:=8+j) rfl rfl isAgg119 bn zz hw rfl ?_;refine KO.ce (cp:=[]) rfl rfl rfl call80 rfl (KE.E0 (A:=fun v=>JS v (dK (H.iq j))) (φ:=fun _=>True) hp fg bn (fun L=>KE.mono (Ij w0 _ _ p (H.iq j) .head ae) (fun v M h=>⟨trivial,h⟩))) ?_;rintro va L' ⟨-,rfl⟩;refine kE ?_;have lV:=hid j hj;have MT:(dK (H.iq j)).length<=n:=by unfold dK;rw[aW];exact Nat.le_trans (List.length_filter_le _ _) FM
   have SV:dY H j=((dK (H.iq j)).take 3).map (·.id):=rfl
   generalize htq:dK (H.iq j)=tl at lV MT SV o_ ⊢;refine K.fact (fun w hw=>aU (hw.pick (A:=JS va tl) .head)) ?_;rintro⟨ta,tc,rfl,htg⟩;refine Z8 ?_;refine zy ?_;refine uK ?_;refine K.br rfl (fun h7=>?_) (fun h7=>?_)
   ·have XX:tl=[]:=List.length_eq_zero_iff.1 ae;rw[if_pos ⟨QD,XX⟩]at o_;have ei:uD H D (j:Int)=8:=by unfold uD;rw[o_];rfl
    have qz:fu H (j:Int)=false:=by unfold fu;rw[o_];rfl
    refine Lq ?_;refine Z7 ?_;refine qX ?_;refine KQ.DN rfl rfl rfl rfl (fun w' aT=>early 8 ai ei qz w' ?_);have h1:=back (M:=fv bd D::L) (aT.all Y5);exact h1
   ·have XX:tl≠[]:=fun e=>h7 (by rw[e];rfl)
    rw[if_neg (fun e=>XX e.2)]at o_;have qz:fu H (j:Int)=true:=by unfold fu;rw[o_,aE,QW,QD];rfl
    obtain⟨g,rfl⟩:=htg (by have :tl.length≠0:=fun e=>h7 ae
                           omega)
    have hjt:(j:Int).toNat=j:=aE j
    have lE:=mW (k:=(j:Int)) (l:=dY H j) ⟨by omega,by omega⟩ (by rw[SV];simp;omega) (fun x hx=>by
     rw[SV]at hx;obtain⟨m,hm,rfl⟩:=ay.1 hx
     exact lV m (List.mem_of_mem_take hm))
    have Qt:=xY (k:=(j:Int)) (l:=dY H j) ⟨by omega,by omega⟩ (by rw[SV];simp;omega) (fun x hx=>by
     rw[SV]at hx;obtain⟨m,hm,rfl⟩:=ay.1 hx
     exact lV m (List.mem_of_mem_take hm))
    refine K.fact (fun w hw=>(H7 (hw.pick (A:=JS (.slice (some ⟨g,0,none⟩) tl.length tc) tl) bQ)).2) ?_;intro htc;generalize oG:dY H j=il at lE Qt SV;have acx:il.length=min tl.length 3:=by rw[SV,aW,bA];omega
    have acm:(min (tl.length:Int) 3)=((min tl.length 3:Nat):Int):=by omega
    refine wq ?_;refine KO.ce (cp:=[]) rfl rfl rfl call59 rfl (jM w0 _ (j:Int) hT ⟨by omega,by omega⟩) ?_;rintro v' L' ⟨rfl,rfl⟩;refine KO.kL (z:=(Value.string ⟨#[]⟩)) (sz:=1) (dI:=16) rfl rfl underlying115 bC aP aP ai ai rfl ?_;intro b46;refine kE ?_;refine K.conv (fun w' hw'=>Ay (b:=b46) (vs:=[.string (bP (j:Int))]) (xs:=[bP (j:Int)]) (k:=1) (hw'.pick bQ) rfl rfl ae) ?_
    refine iX ?_;refine zy ?_;refine KO.min2 rfl rfl acm rfl ?_;refine KO.Bv (hi:=min tl.length 3) rfl rfl underlying49 sizeOf44 rfl ae rfl ?_;refine CU ?_;refine K.loop (fun q:Nat×Value=>[(0,bp bh),(1,.int .i64 (j:Nat)),(8,q.2),(51,.slice (some ⟨g,0,none⟩) (min tl.length 3) tc),(52,.int .i64 ((min tl.length 3:Nat):Int)),(53,.int .i64 (q.1:Nat))])
     (fun q=>kO q.2 (((j:Int)::il.take q.1).map bP)::JS (.slice (some ⟨g,0,none⟩) tl.length tc) tl::dL (.slice ba bl.length bc) bl::bZ dL (V.bs.eraseIdx j) (H.batch.eraseIdx j)::bI bh (.cells (eK bd V H).toArray 133 (0,0))::kA V.nv H.names::bV Value.string V.mb (dq V H)::bZ iP V.ps H.all::bZ cY (V.us.map (·.1)) (H.aA.map (·.aO))::bZ cV (V.us.map (·.2)) (H.aA.map (·.bf))::fv bd D::L)
     (fun q=>q.1<=min tl.length 3) (fun q=>min tl.length 3-q.1) (0,.slice (some ⟨b46,0,none⟩) 1 1) (aV _) ⟨rfl,rfl,rfl,rfl,rfl,rfl,trivial⟩ (fun w' aT=>aT.all Y7) ?_
    rintro⟨i,v8⟩ hi;dsimp only at hi ⊢;refine hF ?_;refine K.br rfl (fun FP=>?_) (fun FP=>?_)
    ·obtain⟨m,hm⟩:∃e,tl[i]? =some e:=⟨tl[i],ao ae⟩;have Kf:=lV m (ax hm);have hit:il[i]? =some m.id:=by rw[SV,aG,List.getElem?_take,if_pos ae,hm];rfl
     obtain⟨mi,mp,mb,mq,mh⟩:=m;dsimp only at Kf hit;refine Zy ?_;refine KO.vS rfl rfl isAgg44 sizeOf44 bn (fun _=>rfl) tr rfl ?_;refine KO.alloc rfl zeroValue44 aP rfl ?_;intro b10;refine Jc ?_;refine Z2 ?_;refine Z8 ?_;refine O7 ?_;refine KO.ld (v:=.int .i64 mi) rfl rfl isAgg3 bQ aP rfl ?_;refine KO.ce (cp:=[]) rfl rfl rfl call59 rfl (jM w0 _ mi hT Kf) ?_;rintro v' L' ⟨rfl,rfl⟩;refine KO.kL (z:=(Value.string ⟨#[]⟩)) (sz:=1) (dI:=16) rfl rfl underlying115 bC aP aP ai ai rfl ?_;intro b61;refine KO.app (cf:=j7) (z:=Value.string ⟨#[]⟩) (sz:=1) (dI:=16) (xs:=((j:Int)::il.take i).map bP) rfl rfl rfl (.tail (.tail .head)) .head underlying115 lv rfl (bP mi) rfl rfl rfl fx ai rfl ?_;intro v62;refine uM ?_;refine KQ.round (i+1,v62) gV gV ⟨rfl,rfl,rfl,rfl,rfl,rfl,trivial⟩ (fun w' aT=>?_);dsimp only;rw[bG hit,<-bz,aN];exact aT.all Y5
    obtain rfl:i=min tl.length 3:=by omega
    rw[<-acx,List.take_length];have SX:uD H D (j:Int)=dV H D:=by unfold uD;rw[o_,qz];rfl
    have hbH:mJ H D (j:Int)=oJ H D (kH (j:Int) il):=by unfold mJ;rw[qz,hjt,oG];rfl
    have hbD:tk H D (j:Int)=fY H D (kH (j:Int) il):=by unfold tk;rw[qz,hjt,oG];rfl
    refine Z9 ?_;refine K.conv (L':=dy bh bd H::fv bd D::kO v8 (((j:Int)::il).map bP)::L) (fun w' aT=>?_) ?_
    ·have h1:=back (M:=kO v8 (((j:Int)::il).map bP)::fv bd D::L) (aT.all Y5);exact h1.all Y3
    refine iX ?_;refine KO.ce (cp:=[]) rfl rfl rfl call62 rfl (tU w0 _ _ v8 (((j:Int)::il).map bP) sp bn fx ae) ?_;rintro v' L' ⟨rfl,rfl⟩;refine KO.cat rfl rfl (by have :(⟨#[98,58]⟩:ak).size=2:=rfl;omega) rfl ?_;rw[show(⟨#[98,58]⟩++cS (((j:Int)::il).map bP) sp:ak)=kH (j:Int) il from by unfold kH;rw[show(⟨#[98,58]⟩:ak)=b_ 98++b_ 58 by decide]];refine KO.cl (cp:=[]) rfl rfl rfl call84 rfl (KC.Mc bQ bQ (qd w0 _ bh bd n 1 H D (kH (j:Int) il) hT hM hB lE ae h3 hd)) ?_;rintro v' L' ⟨rfl,rfl⟩;refine wC ?_;refine K.br rfl (fun S2=>?_) (fun S2=>?_)
    ·refine jB ?_;refine lY ?_;refine qX ?_;refine KQ.DN rfl rfl rfl rfl (fun w' aT=>⟨_,_,rfl,⟨.slice none 0 0,?_,rfl⟩,?_⟩)
     ·unfold I6;rw[SX,if_neg S2]
     ·unfold Ab;rw[SX,if_neg S2,hbH,hbD];exact cD (aT.all Y1)
    ·refine CW ?_;have adp:dV H D=0:=by simpa using S2
     exact KQ.qL () (by rw[SX];exact adp) ⟨rfl,rfl,trivial⟩ (fun w' aT=>by rw[hbH,hbD];exact aT.all Y1)
  ·have pa:bl≠[]:=fun e=>h0 (by rw[e];rfl)
   rw[if_neg (fun e=>pa e.1)]at o_;have qz:fu H (j:Int)=false:=by unfold fu;rw[o_,aE,QW];simp[pa]
   have ei:uD H D (j:Int)=0:=by unfold uD;rw[o_,qz];rfl
   have hbH:mJ H D (j:Int)=H:=by unfold mJ;rw[qz];rfl
   have hbD:tk H D (j:Int)=D:=by unfold tk;rw[qz];rfl
   rw[hbH,hbD];refine CW ?_;exact KQ.qL () ei ⟨rfl,rfl,trivial⟩ (fun w' aT=>back (aT.all nI))
 ·rintro⟨⟩ Km;have hbN:I6 H D (j:Int)=dz (mJ H D (j:Int)) j:=by unfold I6;rw[if_pos Km,aE]
  have hbL:Ab H D (j:Int)=(cT ((mJ H D (j:Int)).iq j)).filter (MO (cn (mJ H D (j:Int)) j)):=by unfold Ab;rw[if_pos Km,aE]
  rw[hbN,hbL,Km];generalize mJ H D (j:Int)=H2 at hBb ⊢;generalize tk H D (j:Int)=D2;clear back early;refine K.cq (fun _ h=>cx h) ?_;rintro⟨V2,sP⟩;dsimp only;have agS:=sP.bs;have agR:=sP.batch;have agc:=sP.ps;obtain⟨bv2,UO⟩:∃e,V2.bs[j]? =some e:=⟨_,ao ae⟩;obtain⟨Df,QU⟩:∃e,H2.batch[j]? =some e:=⟨_,ao ae⟩;have acU:cn H2 j=Df:=by unfold cn;rw[aq,QU];rfl
  have Yw:=hBb.ext.Ta Df (ax QU);rw[acU];obtain⟨c3,-⟩:=qf (bd:=bd) sP UO;obtain⟨d3,-⟩:=wZ (bd:=bd) sP hj;obtain⟨p2,kB⟩:∃p,V2.ps[j]? =some p:=⟨_,ao ae⟩;have tY:=od (bd:=bd) sP hj kB;have YC:=qW sP.ways hj;have ab4:=(hBb.w hj).len;have acY:(cT (H2.iq j)).length<=n+1:=by unfold cT;rw[aW];exact Nat.le_trans (List.length_filter_le _ _) ab4
  refine K.conv (fun w hw=>dj UO QU (hw.pick (A:=bZ dL V2.bs H2.batch) bn)) ?_
  refine K.fact (fun w hw=>pw (hw.pick (A:=dL bv2 Df) .head)) ?_;rintro⟨ba2,bc2,rfl⟩;have Zq:∀{w':World} {M:List HP},St w0 (dL (.slice ba2 Df.length bc2) Df::bZ dL (V2.bs.eraseIdx j) (H2.batch.eraseIdx j)::bI bh (.cells (eK bd V2 H2).toArray 133 (0,0))::kA V2.nv H2.names::bV Value.string V2.mb (dq V2 H2)::bZ iP V2.ps H2.all::bZ cY (V2.us.map (·.1)) (H2.aA.map (·.aO))::bZ cV (V2.us.map (·.2)) (H2.aA.map (·.bf))::M) w'->St w0 (dy bh bd H2::M) w':=fun h=>bR V2 sP ((km UO QU h).all Y7)
  refine oX ?_;refine lq ?_;refine R9 ?_;refine KO.db (i:=8+j) rfl rfl isAgg119 bn zz tY rfl ?_;refine KO.ce (cp:=[]) rfl rfl rfl call67 rfl (KE.E0 (A:=fun v=>JS v (cT (H2.iq j))) (φ:=fun _=>True) kB YC bn (fun L=>KE.mono (Gq w0 _ _ p2 (H2.iq j) .head ae) (fun v M h=>⟨trivial,h⟩))) ?_;rintro va L' ⟨-,rfl⟩;refine KO.fact (fun w hw=>aU (hw.pick (A:=JS va (cT (H2.iq j))) .head)) ?_;rintro⟨aa,ac,rfl,hag⟩;refine CU ?_;generalize cT (H2.iq j)=al at acY hag ⊢;refine K.loop (fun q:Nat×Value=>[(0,bp bh),(1,.int .i64 (j:Nat)),(12,q.2),(78,.slice aa al.length ac),(79,.int .i64 (al.length:Nat)),(80,.int .i64 (q.1:Nat))])
   (fun q=>SL 44 5 dh q.2 ((al.take q.1).filter (MO Df))::JS (.slice aa al.length ac) al::dL (.slice ba2 Df.length bc2) Df::bZ dL (V2.bs.eraseIdx j) (H2.batch.eraseIdx j)::bI bh (.cells (eK bd V2 H2).toArray 133 (0,0))::kA V2.nv H2.names::bV Value.string V2.mb (dq V2 H2)::bZ iP V2.ps H2.all::bZ cY (V2.us.map (·.1)) (H2.aA.map (·.aO))::bZ cV (V2.us.map (·.2)) (H2.aA.map (·.bf))::fv bd D2::L)
   (fun q=>q.1<=al.length) (fun q=>al.length-q.1) (0,.slice none 0 0) (aV _) ⟨rfl,rfl,rfl,rfl,rfl,rfl,trivial⟩ (fun w' aT=>?_) ?_
  ·have h1:=cD (E:=44) (sz:=5) (cf:=dh) aT;exact h1.all Y7
  rintro⟨i,v12⟩ hi;dsimp only at hi ⊢;refine hF ?_;refine K.br rfl (fun U2=>?_) (fun U2=>?_)
  ·obtain⟨m,hm⟩:∃e,al[i]? =some e:=⟨al[i],ao ae⟩;obtain⟨g2,rfl⟩:=hag ae;have Qr:(al.take (i+1)).filter (MO Df)=(al.take i).filter (MO Df)++if m.id∈Df then[m]else[]:=by
    rw[bG hm,bU];congr 1;rw[bT];unfold MO;by_cases hb:m.id∈Df<;>simp[hb]
   have Lh:((al.take i).filter (MO Df)).length<=al.length:=Nat.le_trans (List.length_filter_le _ _) fx;obtain⟨mi,mp,mb,mq,mh⟩:=m;dsimp only at Qr;refine oY ?_;refine V7 ?_;refine KO.alloc rfl zeroValue44 aP rfl ?_;intro b14;refine zn ?_;refine K.draw [.pure,.pure,.pure,.pure,.pure,.read,.pure,.read,.c7] [0,1,2,3,4,5,6,7,8] bC bC ?_;refine rP ?_;refine Z41 ?_;refine KO.db (i:=22+j) rfl rfl isAgg23 bn zz c3 rfl ?_;refine O7 ?_;refine KO.ld (v:=.int .i64 mi) rfl rfl isAgg3 bQ aP rfl ?_;refine KO.ce (cp:=[]) rfl rfl rfl call92 rfl (NJ w0 _ _ Df mi (fun w' hw'=>TC (hw'.pick (A:=dL (.slice ba2 Df.length bc2) Df) bn)) ae) ?_;rintro v' L' ⟨rfl,rfl⟩;refine Z2 ?_;refine K.br rfl (fun hb=>?_) (fun hb=>?_)
   ·rw[if_pos hb]at Qr;refine Z8 ?_;refine CZ ?_;refine KO.kL (z:=(Value.agg #[.int .i64 0,.int .i64 0,.string ⟨#[]⟩,.string ⟨#[]⟩,.int .i64 0])) (sz:=5) (dI:=56) rfl rfl underlying49 bC aP aP ai ai rfl ?_;intro b95;refine KO.app (cf:=dh) (z:=Value.agg #[.int .i64 0,.int .i64 0,.string ⟨#[]⟩,.string ⟨#[]⟩,.int .i64 0]) (sz:=5) (dI:=56) (xs:=(al.take i).filter (MO Df)) rfl rfl rfl bn .head underlying49 bC aP ⟨mi,mp,mb,mq,mh⟩ rfl rfl rfl ae ai rfl ?_;intro Xo;refine uM ?_;refine KQ.round (i+1,Xo) gV gV ⟨rfl,rfl,rfl,rfl,rfl,rfl,trivial⟩ (fun w' aT=>?_);dsimp only;rw[Qr];exact aT.all Y5
   ·rw[if_neg hb,List.append_nil]at Qr;refine qF ?_;refine KQ.round (i+1,v12) gV gV ⟨rfl,rfl,rfl,rfl,rfl,rfl,trivial⟩ (fun w' aT=>?_);dsimp only;rw[Qr];exact aT.all Y5
  ·obtain rfl:i=al.length:=by omega
   rw[List.take_length];refine Z9 ?_;refine nD ?_;refine R7 ?_;refine KO.db (i:=26+j) rfl rfl isAgg3 bn zz d3 rfl ?_;refine Z1 ?_;refine lY ?_;refine iW ?_;refine KQ.DN rfl rfl rfl rfl (fun w' aT=>⟨_,_,rfl,⟨v12,rfl,rfl⟩,?_⟩);have h1:=Zq (M:=SL 44 5 dh v12 (al.filter (MO Df))::fv bd D2::L) (aT.all Y5);exact h1.all Y3
end Go.Proofs.YtjhogocabcdjbabGreatDoor
namespace WB
open Go
def TE (r:List (ak×Int)):List (ak×Value):=r.map fun x=>(x.1,.int .i64 x.2)
def Jz (r:List (ak×Int)) (s:ak):Int:=(en r s).getD 0
theorem Io(r:List (ak×Int))(s:ak):(en (TE r) s).getD (.int .i64 0)=.int .i64 (Jz r s):=by
 unfold TE Jz
 induction r with
 |nil=>rfl
 |cons x r ih=>
  rw[aJ,en,en];dsimp only;by_cases h:x.1=s
  ·rw[if_pos h,if_pos h];rfl
  ·rw[if_neg h,if_neg h,ih]
theorem PF(r:List (ak×Int))(s:ak)(v:Int):fL (TE r) s (.int .i64 v)=TE (fL r s v):=by
 unfold TE
 induction r with
 |nil=>rfl
 |cons x r ih=>
  rw[aJ,fL,fL];dsimp only;by_cases h:x.1=s
  ·rw[if_pos h,if_pos h];rfl
  ·rw[if_neg h,if_neg h,ih];rfl
theorem PG(r:List (ak×Int))(s t:ak)(v:Int):Jz (fL r s v) t=if s=t then v else Jz r t:=by
 unfold Jz;rw[Bg];split<;>rfl
def toDead (H:Ho) (m:Ms) (r:List (ak×Int)):Bool:=match H.qI m.queue with
 |none=>true
 |some i=> !fb H.names m.queue||decide (20<=((H.dP i).l.length:Int)+Jz r m.queue)
def ec (H:Ho):List Ms->List (ak×Int)->List ak
 |[],_=>[]
 |m::l,r=>if toDead H m r=true then cz::ec H l r else m.queue::ec H l (fL r m.queue (Jz r m.queue+1))
theorem lp(H:Ho):∀(l:List Ms) (r:List (ak×Int)),(ec H l r).length=l.length
 |[],_=>rfl
 |m::l,r=>by
  unfold ec;split<;>simp[lp H l]
theorem uH(H:Ho):∀(l:List Ms) (r:List (ak×Int)),∀t∈ec H l r,t=cz\/∃m∈l,t=m.queue
 |[],_,t,h=>by cases h
 |m::l,r,t,h=>by
  unfold ec at h;split at h
  ·rcases aD.1 h with rfl|h
   ·exact .inl rfl
   ·rcases uH H l r t h with h|⟨x,hx,h⟩
    ·exact .inl h
    ·exact .inr ⟨x,by simp[hx],h⟩
  ·rcases aD.1 h with rfl|h
   ·exact .inr ⟨m,by simp,rfl⟩
   ·rcases uH H l _ t h with h|⟨x,hx,h⟩
    ·exact .inl h
    ·exact .inr ⟨x,by simp[hx],h⟩
def ky (H:Ho) (m:Ms):Bool:=decide (m.ck≠H.id)||decide (m.id%4=H.id)
def xO (m x:Ms):Bool:=decide (x.id=m.id)
def DC (H:Ho) (l:List Ms) (i:Nat) (m:Ms):Bool:=(l.take i).any (xO m)||H.aK.any fun x=>vM x.2 m.id
def CI (H:Ho) (l:List Ms):Bool:=l.zipIdx.any fun x=>DC H l x.2 x.1
def ra (k:Int) (l:List Ms) (t:List ak):ak:=b_ 114++b_ 58++(bP k++b_ 47++(ct l++b_ 47++cS t plus))
def rK (H:Ho) (k n:Int) (l:List Ms):Int:=
 if cb H k=false then 2 else if H.down=true then 6 else if n<=dc H k.toNat then 0 else if dc H k.toNat+1<n then 10 else if iV l≠none\/l.any (ky H)=true then 1 else if CI H l=true then 9 else 0
def Dg (H:Ho) (k n:Int) (l:List Ms):Bool:=decide (rK H k n l=0/\dc H k.toNat<n)
def FT (H:Ho) (D:Dk) (k n:Int) (l:List Ms):Int:=if rK H k n l≠0 then rK H k n l else if Dg H k n l=true then dV H D else 0
def qT (H:Ho) (k:Int) (l:List Ms):ak:=ra k l (ec H l [])
def rL (H:Ho) (D:Dk) (k n:Int) (l:List Ms):Ho:=if Dg H k n l=true then oJ H D (qT H k l)else H
def sY (H:Ho) (D:Dk) (k n:Int) (l:List Ms):Dk:=if Dg H k n l=true then fY H D (qT H k l)else D
def sX (H:Ho) (D:Dk) (k n:Int) (l:List Ms):Int:=if FT H D k n l=0 then dc (rL H D k n l) k.toNat else 0
theorem xj{c:UInt8}(h2:isLet c=false){s:ak}(h:c6 s=true):oO c s:=fun b hb e=>by
 subst e;have h:=gB h;unfold gS at h;rw[aI]at h;rw[h b hb]at h2;cases h2
theorem rD:c6 cz=true:=by decide+kernel
theorem lJ{H:Ho}{l:List Ms}(h:∀m∈l,bM m=true)(r:List (ak×Int)):∀t∈ec H l r,c6 t=true:=fun t ht=>by
 rcases uH H l r t ht with rfl|⟨m,hm,rfl⟩
 ·exact rD
 ·obtain⟨-,-,-,-,-,h6,-,-⟩:=bN (h m hm);exact h6
theorem tV{c:UInt8}{sep:ak}(hs:oO c sep){l:List ak}(h:∀x∈l,oO c x):oO c (cS l sep):=fun b hb=>by
 rcases iS hb with hb|⟨y,hy,hb⟩
 ·exact hs b hb
 ·exact h y hy b hb
theorem AP{l:List ak}(hl:l≠[])(h:∀t∈l,c6 t=true):di 43 (cS l plus)=l:=by
 have :∀{l:List ak},l≠[]->(∀p∈l,oO 43 p)->di 43 (cS l (b_ 43))=l:=by
  intro l
  induction l with
  |nil=>intro h;exact absurd rfl h
  |cons p l ih=>
   intro _ h;cases l with
   |nil=>rw[jL];exact j9 (h p aj)
   |cons q l=>rw[fB,iD (h p aj),ih aj fun x hx=>h x wF]
 exact this hl fun t ht=>xj ai (h t ht)
theorem xX{k:Int}{l:List Ms}{t:List ak}(h:∀m∈l,bM m=true)(ht:∀x∈t,c6 x=true):di 47 (cX 58 (ra k l t)).2.1=[bP k,ct l,cS t plus]:=by
 unfold ra;rw[l7 ai];dsimp only;rw[iD (fp _ ai),iD (p7 ai ai ai h),j9];exact tV (fun b hb=>by simp[plus]at hb;subst hb;decide) fun x hx=>xj ai (ht x hx)
theorem wO{k:Int}{l:List Ms}{t:List ak}(hk:0<=k/\k<4)(h:iV l=none)(hl:l.length<=250)(ht:∀x∈t,c6 x=true)(dt:t.length=l.length):fF 250 (ra k l t)/\(ra k l t).size<=40000:=by
 have hr:=dx h;have h1:(ct l).size<=250*101:=by
  have :=fN plus 100 (l.map oP) (fun x hx=>by
   obtain⟨m,hm,rfl⟩:=ay.1 hx
   exact AU (hr m hm))
  have h2:plus.size=1:=rfl;rw[h2,aW]at this;unfold ct;have h3:=Nat.mul_le_mul_right (100+1) hl;omega
 have h4:(cS t plus).size<=250*9:=by
  have :=fN plus 8 t (fun x hx=>(iG (ht x hx)).2);have h2:plus.size=1:=rfl;rw[h2,dt]at this;have h3:=Nat.mul_le_mul_right (8+1) hl;omega
 have h5:=cv (n:=k) ⟨by omega,by omega⟩;have e1:(b_ 114).size=1:=rfl;have e2:(b_ 58).size=1:=rfl;have e3:(b_ 47).size=1:=rfl;have hs:(ra k l t).size<=40000:=by unfold ra;simp only[aQ];omega
 refine⟨⟨by omega,fun hk=>?_,fun _ a b c l' h6 h7=>?_⟩,hs⟩
 ·unfold ra at hk;rw[l7 ai]at hk;exact absurd (show b_ 114=b_ 117 from hk) ai
 ·rw[xX hr ht]at h6;simp only[List.cons.injEq,and_true]at h6;obtain⟨-,rfl,rfl⟩:=h6;rw[p9 h]at h7;simp only[az]at h7;subst h7;refine⟨hl,?_⟩;by_cases h0:t=[]
  ·subst h0;simp at dt;omega
  ·rw[AP h0 ht];omega
end WB
namespace Go.Proofs.YtjhogocabcdjbabGreatDoor
open Tryz
open Go Go.RowKit WB
theorem NI(w0:World)(L:List HP)(v:Value)(xs:List Ms)(f:FuncId)(cp:List Value)(pf:Ms->Bool)(hr:∀w,St w0 L w->vE w 5 dh v xs)(hlen:xs.length<1000000)(gm:∀args w,(callFunc f args).run prog w=.ok (.enter f args) w)(qg:∀e,e∈xs->KE prog f ([]++([Value.agg (dh e).toArray]++cp)).toArray w0 L (fun v L'=>v=.bool (pf e)/\L'=L)):
 KE prog 189 #[v,.func (.func f) [].toArray cp.toArray] w0 L (fun v L'=>v=.bool (xs.any pf)/\L'=L):=by
 refine KE.mk (n:=9) func189 rfl ntmps189 aj ?_;intro w hw;refine Hu ?_;refine KO.ce rfl rfl rfl call153 rfl ((MP w0 L v xs f cp pf hr hlen gm qg).px hw) ?_;rintro v L' ⟨rfl,rfl⟩;refine vD ?_;refine iW ?_;refine KQ.bB rfl rfl (fun w' hs=>⟨_,_,rfl,⟨?_,rfl⟩,hw.aC hs.below,hs.below⟩);rw[pF]
theorem Zs(w0:World)(L R R2:List HP)(m:Ms)(b bh bd:Nat)(H:Ho)(E:TypeId)(hp:bF L (bI b (.cells [bp bh].toArray E (0,0))) R)(hq:bF L (dy bh bd H) R2)(hm:0<=m.id):
 KE prog 190 #[.agg (dh m).toArray,.pointer (some ⟨b,0,none⟩)] w0 L (fun v L'=>v=.bool (ky H m)/\L'=L):=by
 obtain⟨mi,mp,mb,mq,mh⟩:=m;dsimp only at hm;refine KE.mk (n:=21) func190 rfl ntmps190 aj ?_;intro w hw;obtain⟨V,hV,hc⟩:=nd hw hq;have QT:w.cell? ⟨bh,0,none⟩=some (.int .i64 H.id):=hc 0 _ rfl;have Cq:w.cell? ⟨b,0,none⟩=some (bp bh):=by rw[World.cell?,(hw.pick hp).look.2];rfl
 refine Z3 ?_;refine KO.box rfl rfl aP rfl ?_;intro b2;refine kE ?_;by_cases h1:mh=H.id
 ·refine ZS ?_;refine s7 ?_;refine KO.qM rfl rfl isAgg29 Cq rfl ?_;refine kr ?_;refine FA ?_;refine KO.qM rfl rfl isAgg3 QT rfl ?_;refine zp ?_;refine ZB ?_;refine KO.on rfl rfl Dj ?_;refine KO.ld (v:=.int .i64 mi) rfl rfl isAgg3 bQ aP rfl ?_;refine KO.on rfl rfl Dj ?_;refine KO.rem rfl rfl ae hm rfl ?_;refine KO.on rfl rfl Dj ?_;refine KO.qM rfl rfl isAgg29 Cq rfl ?_;refine kF ?_;refine Hm ?_;refine FA ?_;refine KO.on rfl rfl Dj ?_;refine KO.qM rfl rfl isAgg3 QT rfl ?_;refine kF ?_;refine Jb ?_;refine wi ?_;refine iW ?_;refine KQ.bB rfl rfl (fun w' hs=>⟨_,_,rfl,⟨?_,rfl⟩,hw.aC hs.below,hs.below⟩);unfold ky;simp[h1]
 ·refine ZS ?_;refine s7 ?_;refine KO.qM rfl rfl isAgg29 Cq rfl ?_;refine kr ?_;refine FA ?_;refine KO.qM rfl rfl isAgg3 QT rfl ?_;refine zp ?_;refine Fo ?_;refine Tg ?_;refine qY ?_;refine iW ?_;refine KQ.bB rfl rfl (fun w' hs=>⟨_,_,rfl,⟨?_,rfl⟩,hw.aC hs.below,hs.below⟩);unfold ky;simp[h1]
theorem Zr(w0:World)(L R:List HP)(x m:Ms)(b:Nat)(E:TypeId)(hp:bF L (bI b (.cells (dh m).toArray E (0,0))) R):
 KE prog 191 #[.agg (dh x).toArray,.pointer (some ⟨b,0,none⟩)] w0 L (fun v L'=>v=.bool (xO m x)/\L'=L):=by
 obtain⟨mi,mp,mb,mq,mh⟩:=m;obtain⟨xi,xp,xb,xq,xh⟩:=x;refine KE.mk (n:=9) func191 rfl ntmps191 aj ?_;intro w hw;have hw:=hw.pick hp;refine Z3 ?_;refine KO.box rfl rfl aP rfl ?_;intro b2;refine lZ ?_;refine HU ?_;refine O7 ?_;refine VF ?_;refine iW ?_;refine KQ.bB rfl rfl (fun w' hs=>⟨_,_,rfl,⟨rfl,rfl⟩,(hw.xA hp).aC hs.below,hs.below⟩)
theorem O_{α:Type}(f:Nat->α->Bool)(l:List α):l.zipIdx.any (fun x=>f x.2 x.1)=false↔ ∀i x,l[i]? =some x->f i x=false:=by
 rw[List.any_eq_false];constructor
 ·intro h i x hx;have :=h (x,i) (List.mem_zipIdx_iff_getElem?.2 hx);simpa using this
 ·rintro h ⟨x,i⟩ hx;have :=h i x (List.mem_zipIdx_iff_getElem?.1 hx);simpa using this
theorem GY(w0:World)(L:List HP)(A:HP)(bh bd n:Nat)(H:Ho)(D:Dk)(k m:Int)(a:Option Addr)(cap:Nat)(l:List Ms)(hT:o0 w0)(hM:o2 w0)(hB:cF n H)(hn:n+250<=80000)(h3:D.places.length=300)(hd: -4000000000000000000<=D.left/\D.left<=9223372036854775807)(hA:∀w R,St w0 (A::R) w->vE w 5 dh (.slice a l.length cap) l)(QR:l.length<=cap)(hl:l.length<=250)(dr:∀m∈l,m.body.size<=maxLen/\m.queue.size<=maxLen):
 KC prog 103 #[bp bh,.int .i64 k,.int .i64 m,.slice a l.length cap] w0 (dy bh bd H::fv bd D::A::L) (fun u M=>u=.tuple #[.int .i64 (sX H D k m l),cI 70 (FT H D k m l)]/\M=dy bh bd (rL H D k m l)::fv bd (sY H D k m l)::A::L):=by
 have early:∀e:Int,e≠0->rK H k m l=e->∀w',St w0 (dy bh bd H::fv bd D::A::L) w'->∃v L',Ending.returned (.tuple #[.int .i64 0,cI 70 e])=Ending.returned v/\(v=.tuple #[.int .i64 (sX H D k m l),cI 70 (FT H D k m l)]/\L'=dy bh bd (rL H D k m l)::fv bd (sY H D k m l)::A::L)/\St w0 L' w':=fun e he hb w' aT=>by
  have qz:Dg H k m l=false:=by unfold Dg;rw[hb];simp[he]
  have WW:FT H D k m l=e:=by unfold FT;rw[hb,if_pos he]
  refine⟨_,_,rfl,⟨?_,rfl⟩,?_⟩
  ·unfold sX;rw[WW,if_neg he]
  ·unfold rL sY;rw[qz];exact aT
 refine KC.mk (n:=175) func103 rfl ntmps103 aj ?_;refine Z3 ?_;refine KO.box rfl rfl aP rfl ?_;intro b4;refine lY ?_;refine N8 ?_;cases hk:cb H k with
 |false=>
  have he:rK H k m l=2:=by unfold rK;rw[if_pos hk]
  refine dM ?_;refine KO.ld rfl rfl isAgg29 bQ aP rfl ?_;refine Z1 ?_;refine KO.ce (cp:=[]) rfl rfl rfl call79 rfl (dX w0 _ _ bh bd H k bn) ?_;rintro v' L' ⟨rfl,rfl⟩;rw[hk];refine oV ?_;refine Z7 ?_;refine Ac ?_;refine Lq ?_;refine kG ?_;refine KQ.eE rfl rfl rfl (fun w' aT=>early 2 ai he w' (aT.all Y1))
 |true=>
 obtain⟨qB,oe,-⟩:=bX.1 hk;obtain⟨j,rfl⟩:∃j:Nat,k=(j:Int):=⟨k.toNat,by omega⟩;have hj:j<4:=by omega
 refine dM ?_;refine KO.ld rfl rfl isAgg29 bQ aP rfl ?_;refine Z1 ?_;refine KO.ce (cp:=[]) rfl rfl rfl call79 rfl (dX w0 _ _ bh bd H (j:Int) bn) ?_;rintro v' L' ⟨rfl,rfl⟩;rw[hk];refine oV ?_;refine Z7 ?_;refine Hj ?_;refine oW ?_;refine K.cq (fun _ h=>cx (h.pick bn)) ?_;rintro⟨V,hV⟩;dsimp only;have oS:=hV.ps;have pa:=hB.lS;have zC:=hB.sorted;cases rv:H.down with
 |true=>
  have he:rK H (j:Int) m l=6:=by unfold rK;rw[if_neg Wf,if_pos rv]
  refine dM ?_;refine Oc ?_;refine Z93 ?_;refine qE ?_;refine K.cL rfl rv ?_;refine Lq ?_;refine kG ?_;refine KQ.eE rfl rfl rfl (fun w' aT=>early 6 ai he w' (bR V hV (aT.all Y5)))
 |false=>
 refine dM ?_;refine Oc ?_;refine Z93 ?_;refine qE ?_;refine K.da rfl rv ?_;refine oW ?_;obtain⟨d1,-⟩:=w4 (bd:=bd) hV hj;obtain⟨UU,ha9⟩:0<=dc H j/\dc H j<=(n:Int):=ni hB.ext.arr;have o_:rK H (j:Int) m l=if m<=dc H j then 0 else if dc H j+1<m then 10 else if iV l≠none\/l.any (ky H)=true then 1 else if CI H l=true then 9 else 0:=by unfold rK;rw[if_neg Wf,if_neg Wd,aE]
 refine Z8 ?_;refine Oc ?_;refine lq ?_;refine RV ?_;refine KO.leq rfl rfl rfl ?_;refine qE ?_;refine K.br rfl (fun h5=>?_) (fun h5=>?_)
 ·rw[if_pos h5]at o_;have qz:Dg H (j:Int) m l=false:=by unfold Dg;rw[aE];simp;omega
  have WW:FT H D (j:Int) m l=0:=by unfold FT;rw[o_,qz];rfl
  refine Z3 ?_;refine Oc ?_;refine lq ?_;refine RV ?_;refine Z7 ?_;refine kG ?_;refine KQ.eE rfl rfl rfl (fun w' aT=>⟨_,_,rfl,⟨?_,rfl⟩,?_⟩)
  ·unfold sX rL;rw[WW,qz,if_pos rfl,aE];rfl
  ·unfold rL sY;rw[qz];exact bR V hV (aT.all Y5)
 rw[if_neg h5]at o_;refine jB ?_;refine Oc ?_;refine lq ?_;refine RV ?_;refine xc ?_;refine uP ?_;refine qE ?_;refine K.br rfl (fun h7=>?_) (fun h7=>?_)
 ·rw[if_pos ae]at o_;refine Lq ?_;refine kG ?_;refine KQ.eE rfl rfl rfl (fun w' aT=>early 10 ai o_ w' (bR V hV (aT.all Y5)))
 rw[if_neg ae]at o_;refine Vv ?_;refine K.conv (L':=dy bh bd H::fv bd D::A::bI b4 (.cells [bp bh].toArray 29 (0,0))::L) (fun w' aT=>bR V hV (aT.all Y7)) ?_
 clear d1 oS hV V;cases eZ:iV l with
 |some bi=>
  rw[eZ,if_pos (.inl aj)]at o_;refine Z8 ?_;refine KO.ce (cp:=[]) rfl rfl rfl call60 rfl (kg w0 _ _ l (fun w' hw'=>hA w' _ (hw'.pick (A:=A) (.tail (.tail .head)))) hT dr ae) ?_;rintro v' L' hR;unfold OJ at hR;rw[eZ]at hR;obtain⟨bx,rfl,rfl⟩:=hR;refine jR ?_;refine uO ?_;refine rU ?_;refine uQ ?_;refine ou ?_;refine KQ.eE rfl rfl rfl (fun w' aT=>early 1 ai o_ w' (aT.all Y5))
 |none=>
 have ib:∀m∈l,bM m=true:=dx eZ;rw[eZ]at o_;refine Z8 ?_;refine KO.ce (cp:=[]) rfl rfl rfl call60 rfl (kg w0 _ _ l (fun w' hw'=>hA w' _ (hw'.pick (A:=A) (.tail (.tail .head)))) hT dr ae) ?_;rintro v' L' hR;unfold OJ at hR;rw[eZ]at hR;obtain⟨rfl,rfl⟩:=hR;refine Fs ?_;refine KO.Ww rfl rfl rfl ?_;refine KO.on rfl rfl rfl ?_;refine KO.ce rfl rfl rfl call189 rfl (NI w0 _ _ l 190 [.pointer (some ⟨b4,0,none⟩)] (ky H) (fun w' hw'=>hA w' _ (hw'.pick (A:=A) (.tail (.tail .head)))) ae call190 (fun e he=>Zs _ _ _ _ e b4 bh bd H _ bn bQ (bN (ib e he)).1)) ?_;rintro v' L' ⟨rfl,rfl⟩;refine CM ?_;cases hnf:l.any (ky H)with
 |true=>
  rw[if_pos (.inr hnf)]at o_;refine uJ ?_;refine ou ?_;refine KQ.eE rfl rfl rfl (fun w' aT=>early 1 ai o_ w' (aT.all Y5))
 |false=>
 rw[if_neg (by rw[hnf];simp)]at o_;refine wm ?_;refine wq ?_;refine zy ?_;refine Xa ?_;refine KQ.next ?_
 have YT:∀(i:Nat) x,l[i]? =some x->∀w R,St w0 (A::R) w->∃ad,a=some ad/\cr w (ad.add (i *5)) (dh x):=fun i x hx w R hw=>by
  obtain⟨a',c',e,hc⟩:=hA w R hw;simp only[Value.slice.injEq]at e;obtain⟨rfl,-,-⟩:=e;exact hc i x hx
 refine K.cut (fun _:Unit=>[(1,.int .i64 (j:Nat)),(3,.slice a l.length cap),(4,.pointer (some ⟨b4,0,none⟩)),(10,.string (ct l))]) (fun _=>dy bh bd H::fv bd D::A::bI b4 (.cells [bp bh].toArray 29 (0,0))::L) (fun _=>CI H l=false) ?_ ?_
 ·refine K.block ?_;refine K.loop (fun i:Nat=>(74,.slice a l.length cap)::(75,.int .i64 (l.length:Nat))::(76,.int .i64 (i:Nat))::[(1,.int .i64 (j:Nat)),(3,.slice a l.length cap),(4,.pointer (some ⟨b4,0,none⟩)),(10,.string (ct l))]) (fun _=>dy bh bd H::fv bd D::A::bI b4 (.cells [bp bh].toArray 29 (0,0))::L) (fun i=>i<=l.length/\∀i' x,i'<i->l[i']? =some x->DC H l i' x=false) (fun i=>l.length-i) 0
   ⟨aV _,fun i' x h=>by omega⟩ ⟨rfl,rfl,rfl,rfl,rfl,rfl,rfl,trivial⟩ (fun w' aT=>aT.all OA) ?_
  rintro i ⟨hi,qO⟩;refine hF ?_;refine K.br rfl (fun h13=>?_) (fun h13=>?_)
  ·obtain⟨x,hx⟩:∃e,l[i]? =some e:=⟨l[i],ao ae⟩;refine K.fact (fun w hw=>by obtain⟨ad,h,-⟩:=YT i x hx w _ (hw.pick (A:=A) (.tail (.tail .head)));exact(⟨ad,h⟩:∃ad,a=some ad)) ?_;rintro⟨ad,rfl⟩;refine sZ ?_;refine KO.Gu (i:=i) rfl rfl runUnderlying49 sizeOf44 rfl ae rfl ?_;refine KO.T5 (cs:=(dh x).toArray) rfl rfl isAgg44 sizeOf44 rfl (fun w hw=>by obtain⟨ad2,h,hc⟩:=YT i x hx w _ (hw.pick (A:=A) (.tail (.tail .head)));cases h;exact hc) rfl ?_;refine KO.alloc rfl zeroValue44 aP rfl ?_;intro I8;refine Z7 ?_;refine zn ?_;refine iX ?_;refine KO.Bv (hi:=i) rfl rfl underlying49 sizeOf44 rfl ae rfl ?_;refine KO.Ww rfl rfl rfl ?_;refine KO.ce rfl rfl rfl call189 rfl (NI w0 _ _ (l.take i) 191 [.pointer (some ⟨I8,0,none⟩)] (xO x) (fun w' hw'=>⟨_,_,by rw[bA,Nat.min_eq_left ae],fun i' y hy=>YT i' y (by rw[List.getElem?_take]at hy;split at hy;exact hy;cases hy) w' _ (hw'.pick (A:=A) (.tail (.tail (.tail .head))))⟩) Y28 call191 (fun e he=>Zr _ _ _ e x I8 _ bQ)) ?_;rintro v' L' ⟨rfl,rfl⟩;refine kE ?_;obtain⟨tw0,XW⟩:∃t,t=(l.take i).any (xO x):=⟨_,rfl⟩;rw[<-XW];refine K.cq (fun _ h=>cx (h.pick bn)) ?_;rintro⟨V,hV⟩;dsimp only;have oS:=hV.ps;refine dM ?_;refine RH ?_;refine kr ?_;refine VL ?_
   refine KO.rng rfl rfl underlying123 bn rfl ?_;intro r90;refine Lr ?_;refine K.loop (fun p:List Nat×List Nat×Bool×Option (ak×Value)=>(90,.pointer (some ⟨r90,0,none⟩))::(14,.bool p.2.2.1)::(13,.pointer (some ⟨I8,0,none⟩))::(74,.slice (some ad) l.length cap)::(75,.int .i64 (l.length:Nat))::(76,.int .i64 (i:Nat))::[(1,.int .i64 (j:Nat)),(3,.slice (some ad) l.length cap),(4,.pointer (some ⟨b4,0,none⟩)),(10,.string (ct l))])
    (fun p=>FK Value.string V.mb r90 (dq V H) (p.1.map fun r=>(dq V H).getD r default) p.2.2.2::bI bh (.cells (eK bd V H).toArray 133 (0,0))::kA V.nv H.names::bZ iP V.ps H.all::bZ cY (V.us.map (·.1)) (H.aA.map (·.aO))::bZ cV (V.us.map (·.2)) (H.aA.map (·.bf))::bZ dL V.bs H.batch::bI I8 (.cells (dh x).toArray 44 (0,0))::fv bd D::A::bI b4 (.cells [bp bh].toArray 29 (0,0))::L)
    (fun p=>(p.2.1++p.1).Perm (List.range H.aK.length)/\p.2.2.1=(tw0||p.2.1.any fun r=>vM (H.dP r) x.id)) (fun p=>p.1.length) (List.range H.aK.length,[],tw0,none)
    ⟨by simp,by simp⟩ ⟨rfl,rfl,rfl,rfl,rfl,rfl,rfl,rfl,rfl,rfl,trivial⟩ (fun _ h=>?_) ?_
   ·have e1:(List.range H.aK.length).map (fun r=>(dq V H).getD r default)=dq V H:=by
     have WM:(dq V H).length=H.aK.length:=by unfold dq rq;rw[List.length_zipWith,bu];omega
     rw[<-WM];apply List.ext_getElem
     ·simp
     ·intro i h1 h2;simp[aq,ao h2]
    dsimp only;rw[e1];exact h.all nI
   rintro⟨rest,done,tw,cur⟩ ⟨iz,Le⟩;dsimp only at iz Le ⊢;refine Z3 ?_;refine KO.P1 rfl rfl bQ rfl (fun h0=>?_) (fun i2 e he=>?_);refine rS ?_;refine Z0 ?_;have kI:rest=[]:=by simpa using h0
   subst kI;rw[List.append_nil]at iz;have XV:tw=DC H l i x:=by
    rw[Le,XW];unfold DC;congr 1;rw[Bool.eq_iff_iff,List.any_eq_true,List.any_eq_true];constructor
    ·rintro⟨r,hr,h⟩;have Kc:r<H.aK.length:=by have :=iz.mem_iff.1 hr;simpa using this
     refine⟨H.aK[r],List.getElem_mem Kc,?_⟩;unfold Ho.dP at h;rw[aq,ao Kc]at h;exact h
    ·rintro⟨q,hq,h⟩;obtain⟨r,Kc,rfl⟩:=List.getElem_of_mem hq;refine⟨r,iz.mem_iff.2 (by simpa using Kc),?_⟩;unfold Ho.dP;rw[aq,ao Kc];exact h
   refine wm ?_;refine wo ?_;refine Z2 ?_;refine K.cond rfl (fun U2=>?_) (fun U2=>?_)
   ·have US:CI H l=true:=by
     unfold CI;rw[List.any_eq_true];exact⟨(x,i),List.mem_zipIdx_iff_getElem?.2 hx,by dsimp only;rw[<-XV];exact U2⟩
    rw[if_pos US]at o_;refine Lq ?_;refine kG ?_;refine KQ.eE rfl rfl rfl (fun w' aT=>early 9 ai o_ w' ?_);exact bR V hV (aT.all Y5)
   ·refine qF ?_;refine KQ.round (i+1) ⟨by omega,fun i' y hi' hy=>?_⟩ ae ⟨rfl,rfl,rfl,rfl,rfl,rfl,rfl,trivial⟩ (fun w' aT=>?_)
    ·by_cases e:i'=i
     ·subst e;rw[hx]at hy;cases hy;rw[<-XV];exact U2
     ·exact qO i' y ae hy
    ·exact bR V hV (aT.all Y5)
   obtain⟨r,hr,rfl⟩:∃r,rest[i2]? =some r/\(dq V H).getD r default=e:=by
    rw[aG]at he;cases hr:rest[i2]? with
    |none=>rw[hr]at he;cases he
    |some r=>rw[hr]at he;exact⟨r,rfl,by simpa using he⟩
   have Kc:r<H.aK.length:=by
    have :r∈List.range H.aK.length:=iz.mem_iff.1 (List.mem_append_right _ (ax hr));simpa using this
   obtain⟨s,mN⟩:=Iz hV Kc;rw[mN];refine rS ?_;refine Z0 ?_;refine uJ ?_;refine K5 ?_;have kB:V.ps[4+r]? =some (V.ps.getD (4+r) 0):=by rw[aq,ao ae];rfl
   have ab3:=(hB.qa Kc).len;have Qy:((done++[r])++rest.eraseIdx i2).Perm (List.range H.aK.length):=by
    refine List.Perm.trans ?_ iz;rw[aL];refine(List.Perm.refl done).append ?_;obtain⟨UE,rfl⟩:=au.1 hr;exact n5 UE
   have hml:(rest.eraseIdx i2).length<rest.length:=by
    have UE:=(au.1 hr).1;rw[List.length_eraseIdx,if_pos UE];omega
   refine dM ?_;refine KO.Ln rfl rfl bQ rfl ?_;refine rS ?_;refine qE ?_;cases tw with
   |true=>
    refine iX ?_;refine Dh ?_;refine Dh ?_;refine wj ?_;refine Z7 ?_;refine Ad ?_;refine KQ.round (rest.eraseIdx i2,done++[r],true,some (s,bp (V.ps.getD (4+r) 0))) ⟨Qy,?_⟩ hml ⟨rfl,rfl,rfl,rfl,rfl,rfl,rfl,rfl,rfl,rfl,trivial⟩ (fun _ h=>?_)
    ·dsimp only;rw[List.any_append,<-Bool.or_assoc,<-Le];rfl
    ·dsimp only;rw[<-mZ];exact h.all nI
   |false=>
    refine Z8 ?_;refine KU ?_;refine O7 ?_;refine KO.on rfl rfl rfl ?_;refine KO.ld (v:=.int .i64 x.id) rfl rfl isAgg3 bn aP rfl ?_;refine KO.on rfl rfl rfl ?_;refine KO.ce (cp:=[]) rfl rfl rfl call146 rfl (KE.E3 (φ:=fun v=>v=.bool (vM (H.dP r) x.id)) kB (oI hV.ways Kc) bn (fun L=>SY w0 _ _ (V.ps.getD (4+r) 0) (H.dP r) x.id .head ae)) ?_;rintro v' L' ⟨rfl,rfl⟩;refine qv ?_;refine Z7 ?_;refine Ad ?_;refine KQ.round (rest.eraseIdx i2,done++[r],vM (H.dP r) x.id,some (s,bp (V.ps.getD (4+r) 0))) ⟨Qy,?_⟩ hml ⟨rfl,rfl,rfl,rfl,rfl,rfl,rfl,rfl,rfl,rfl,trivial⟩ (fun _ h=>?_)
    ·dsimp only;rw[List.any_append,<-Bool.or_assoc,<-Le];simp
    ·dsimp only;rw[<-mZ];exact h.all Y7
  ·have oG:i=l.length:=by omega
   refine R5 ?_
   exact KQ.qL () (by
    unfold CI;rw[O_ (f:=fun i x=>DC H l i x)];intro i' y hy
    exact qO i' y (by have :=(au.1 hy).1;omega) hy) ⟨rfl,rfl,rfl,rfl,trivial⟩ (fun w' aT=>aT.all OA)
 ·rintro⟨⟩ abR;rw[abR]at o_;have X6:rK H (j:Int) m l=0:=o_;have qz:Dg H (j:Int) m l=true:=by unfold Dg;rw[X6,aE];simp;omega
  have WW:FT H D (j:Int) m l=dV H D:=by unfold FT;rw[X6,qz];rfl
  have haH:rL H D (j:Int) m l=oJ H D (qT H (j:Int) l):=by unfold rL;rw[qz];rfl
  have haD:sY H D (j:Int) m l=fY H D (qT H (j:Int) l):=by unfold sY;rw[qz];rfl
  obtain⟨lE,Qt⟩:=wO (k:=(j:Int)) ⟨by omega,by omega⟩ eZ hl (lJ ib []) (lp H l []);have r0:=lp H l [];refine K.cq (fun _ h=>cx (h.pick bQ)) ?_;rintro⟨V,hV⟩;dsimp only;have oS:=hV.ps;refine Z3 ?_;refine KO.mkm (Value.string) rfl rfl ?_;intro N0;refine lZ ?_;refine lL ?_;refine CU ?_;refine K.loop (fun q:Nat×Value×List (ak×Int)×List ak=>[(1,.int .i64 (j:Nat)),(4,.pointer (some ⟨b4,0,none⟩)),(10,.string (ct l)),(17,.map (some N0)),(18,q.2.1),(106,.slice a l.length cap),(107,.int .i64 (l.length:Nat)),(108,.int .i64 (q.1:Nat))])
   (fun q=>kO q.2.1 q.2.2.2::bV Value.string N0 (TE q.2.2.1)::bI bh (.cells (eK bd V H).toArray 133 (0,0))::kA V.nv H.names::bV Value.string V.mb (dq V H)::bZ iP V.ps H.all::bZ cY (V.us.map (·.1)) (H.aA.map (·.aO))::bZ cV (V.us.map (·.2)) (H.aA.map (·.bf))::bZ dL V.bs H.batch::fv bd D::A::bI b4 (.cells [bp bh].toArray 29 (0,0))::L)
   (fun q=>q.1<=l.length/\ec H l []=q.2.2.2++ec H (l.drop q.1) q.2.2.1/\q.2.2.2.length=q.1/\∀s,0<=Jz q.2.2.1 s/\Jz q.2.2.1 s<=(q.1:Int)) (fun q=>l.length-q.1) (0,.slice none 0 0,[],[])
   ⟨aV _,rfl,rfl,fun s=>⟨Int.le_refl _,Int.le_refl _⟩⟩ ⟨rfl,rfl,rfl,rfl,rfl,rfl,rfl,rfl,trivial⟩ (fun w' aT=>?_) ?_
  ·have h1:=cD (E:=9) (sz:=1) (cf:=j7) aT;exact h1.all nI
  rintro⟨i,Wq,room,ds⟩ ⟨hi,zJ,acI,lD⟩;dsimp only at hi zJ acI lD ⊢;refine hF ?_;refine K.br rfl (fun h26=>?_) (fun h26=>?_)
  ·obtain⟨x,hx⟩:∃e,l[i]? =some e:=⟨l[i],ao ae⟩;have sO:l.drop i=x::l.drop (i+1):=by
    obtain⟨h1,rfl⟩:=au.1 hx;exact List.drop_eq_getElem_cons h1
   rw[sO,ec]at zJ;refine K.fact (fun w hw=>by obtain⟨ad,h,-⟩:=YT i x hx w _ (hw.pick (A:=A) bn);exact(⟨ad,h⟩:∃ad,a=some ad)) ?_;rintro⟨ad,rfl⟩;refine oY ?_;refine KO.Gu (i:=i) rfl rfl runUnderlying49 sizeOf44 rfl ae rfl ?_;refine KO.T5 (cs:=(dh x).toArray) rfl rfl isAgg44 sizeOf44 rfl (fun w hw=>by obtain⟨ad2,h,hc⟩:=YT i x hx w _ (hw.pick (A:=A) bn);cases h;exact hc) rfl ?_;refine KO.alloc rfl zeroValue44 aP rfl ?_;intro b20;refine zn ?_;have hg:=ki hV x.queue;obtain⟨zv,Gw⟩:∃zv,zv=(en (dq V H) x.queue).getD (.pointer none):=⟨_,rfl⟩;refine K.draw [.read,.pure,.pure,.read,.pure,.read,.read,.pure] [0,1,2,3,4,5,6,7] bC bC ?_;refine RH ?_;refine kr ?_;refine RU ?_;refine KO.db (i:=7) rfl rfl isAgg123 bn rfl rfl rfl ?_;refine VQ ?_;refine KO.Ek fI x.queue rfl rfl rfl underlying123 underlying9 zeroValue119 bn rfl ?_;rw[<-Gw];refine kE ?_;have Yq:toDead H x room=true->ec H l []=(ds++[cz])++ec H (l.drop (i+1)) room:=fun h=>by rw[zJ,if_pos h,aL];rfl
   have Yc:toDead H x room=false->ec H l []=(ds++[x.queue])++ec H (l.drop (i+1)) (fL room x.queue (Jz room x.queue+1)):=fun h=>by rw[zJ,if_neg (by rw[h];simp),aL];rfl
   refine K.cut (fun b:Bool=>[(1,.int .i64 (j:Nat)),(4,.pointer (some ⟨b4,0,none⟩)),(10,.string (ct l)),(17,.map (some N0)),(18,Wq),(20,.pointer (some ⟨b20,0,none⟩)),(139,.bool b),(106,.slice (some ad) l.length cap),(107,.int .i64 (l.length:Nat)),(108,.int .i64 (i:Nat))])
    (fun _=>kO Wq ds::bV Value.string N0 (TE room)::bI bh (.cells (eK bd V H).toArray 133 (0,0))::kA V.nv H.names::bV Value.string V.mb (dq V H)::bZ iP V.ps H.all::bZ cY (V.us.map (·.1)) (H.aA.map (·.aO))::bZ cV (V.us.map (·.2)) (H.aA.map (·.bf))::bZ dL V.bs H.batch::fv bd D::A::bI b4 (.cells [bp bh].toArray 29 (0,0))::bI b20 (.cells (dh x).toArray 44 (0,0))::L) (fun b=>b=toDead H x room) ?_ ?_
   ·cases Yf:fb H.names x.queue with
    |false=>
     have ht:toDead H x room=true:=by
      unfold toDead;split
      ·rfl
      ·rw[Yf];rfl
     refine ZV ?_;refine kr ?_;refine RB ?_;refine VQ ?_;refine KO.ce (cp:=[]) rfl rfl rfl call57 rfl (sC w0 _ _ _ bh 6 (eK bd V H) 133 V.nv H.names x.queue bn bn rfl ae zC) ?_;rintro v' L' ⟨rfl,rfl⟩;rw[Yf];refine oV ?_;refine xa ?_;refine Ai ?_;refine Dh ?_;refine Dh ?_;refine wj ?_;refine KO.nil ?_;exact KQ.qL true ht.symm ⟨rfl,rfl,rfl,rfl,rfl,rfl,rfl,rfl,rfl,rfl,trivial⟩ (fun w' aT=>aT.all Y7)
    |true=>
     obtain⟨q,hq⟩:=IB hB Yf;have WG:=(ji hq).1;have ab3:=(hB.qa WG).len;obtain⟨p,hp⟩:∃p,V.ps[4+q]? =some p:=⟨_,ao ae⟩;rw[hq]at hg;simp only[Option.bind_some,hp,Option.map_some]at hg;rw[hg]at Gw;subst Gw;have hrm:=lD x.queue;have ht:toDead H x room=decide (20<=((H.dP q).l.length:Int)+Jz room x.queue):=by unfold toDead;rw[hq];dsimp only;rw[Yf];rfl
     refine ZV ?_;refine kr ?_;refine RB ?_;refine VQ ?_;refine KO.ce (cp:=[]) rfl rfl rfl call57 rfl (sC w0 _ _ _ bh 6 (eK bd V H) 133 V.nv H.names x.queue bn bn rfl ae zC) ?_;rintro v' L' ⟨rfl,rfl⟩;rw[Yf];refine oV ?_;refine zl ?_;refine KO.on rfl rfl rfl ?_;refine KO.yX rfl underlying119 rfl ?_;refine Ak ?_;refine Ov ?_;refine N5 ?_;refine KO.on rfl rfl rfl ?_;refine KO.ld (v:=.string x.queue) rfl rfl isAgg9 bQ aP rfl ?_;refine KO.on rfl rfl rfl ?_;refine KO.Ek fI x.queue rfl rfl rfl underlying282 underlying9 zeroValue3 bn rfl ?_;rw[Io];refine KO.on rfl rfl rfl ?_;refine KO.ce (cp:=[]) rfl rfl rfl call192 rfl (KE.E3 (φ:=fun v=>v=.int .i64 ((H.dP q).l.length:Nat)) hp (oI hV.ways WG) bn (fun L=>TY w0 _ _ p (H.dP q) .head)) ?_;rintro v' L' ⟨rfl,rfl⟩;refine KO.on rfl rfl rfl ?_;refine KO.add rfl rfl rfl ae rfl ?_;refine KO.on rfl rfl rfl ?_;refine KO.geq rfl rfl rfl ?_;refine qv ?_;refine KO.nil ?_;exact KQ.qL (decide (((H.dP q).l.length:Int)+Jz room x.queue>=20)) (by rw[ht]) ⟨rfl,rfl,rfl,rfl,rfl,rfl,rfl,rfl,rfl,rfl,trivial⟩ (fun w' aT=>aT.all Y7)
   ·rintro b hb;refine K.cond rfl (fun qR=>?_) (fun hbf=>?_)
    ·have h1:=Yq (by rw[<-hb];exact qR);refine jB ?_;refine KO.kL (z:=Value.string ⟨#[]⟩) (sz:=1) (dI:=16) rfl rfl underlying115 lv aP aP ai ai rfl ?_;intro ahT;refine KO.app (cf:=j7) (z:=Value.string ⟨#[]⟩) (sz:=1) (dI:=16) (xs:=ds) rfl rfl rfl (.tail .head) .head underlying115 lv rfl cz rfl rfl rfl ae ai rfl ?_;intro abk;refine uR ?_;refine R8 ?_;refine O6 ?_;refine KQ.round (i+1,abk,room,ds++[cz]) ⟨by dsimp only;omega,h1,by dsimp only;simp;omega,fun s=>?_⟩ gV ⟨rfl,rfl,rfl,rfl,rfl,rfl,rfl,rfl,trivial⟩ (fun w' aT=>aT.all Y5);have :=lD s;dsimp only;push_cast;omega
    ·have h1:=Yc (by rw[<-hb];exact hbf);have hrm:=lD x.queue;refine FD ?_;refine jB ?_;refine N5 ?_;refine KO.ld (v:=.string x.queue) rfl rfl isAgg9 bn aP rfl ?_;refine KO.Ek fI x.queue rfl rfl rfl underlying282 underlying9 zeroValue3 bn rfl ?_;rw[Io];refine xc ?_;refine KO.Tt fI x.queue rfl rfl rfl rfl underlying282 underlying9 bn ?_;rw[PF];refine Z2 ?_;refine Z8 ?_;refine N5 ?_;refine KO.ld (v:=.string x.queue) rfl rfl isAgg9 bn aP rfl ?_;refine KO.kL (z:=(Value.string ⟨#[]⟩)) (sz:=1) (dI:=16) rfl rfl underlying115 bC aP aP ai ai rfl ?_;intro ahS;refine KO.app (cf:=j7) (z:=Value.string ⟨#[]⟩) (sz:=1) (dI:=16) (xs:=ds) rfl rfl rfl (.tail (.tail .head)) .head underlying115 lv rfl x.queue rfl rfl rfl ae ai rfl ?_;intro v152;refine uM ?_;refine KQ.round (i+1,v152,fL room x.queue (Jz room x.queue+1),ds++[x.queue]) ⟨by dsimp only;omega,h1,by dsimp only;simp;omega,fun s=>?_⟩ gV ⟨rfl,rfl,rfl,rfl,rfl,rfl,rfl,rfl,trivial⟩ (fun w' aT=>aT.all Y5);dsimp only;rw[PG];have :=lD s;split<;>push_cast<;>omega
  ·obtain rfl:i=l.length:=by omega
   rw[List.drop_length,ec,List.append_nil]at zJ;subst zJ;have QK:=cv (n:=(j:Int)) ⟨by omega,by omega⟩;have X3:(ra (j:Int) l (ec H l [])).size=(⟨#[114,58]⟩++bP (j:Int)++⟨#[47]⟩++ct l++⟨#[47]⟩++cS (ec H l []) plus:ak).size/\(⟨#[114,58]⟩++bP (j:Int)++⟨#[47]⟩++ct l++⟨#[47]⟩++cS (ec H l []) plus:ak)=qT H (j:Int) l:=by
    have e:(⟨#[114,58]⟩++bP (j:Int)++⟨#[47]⟩++ct l++⟨#[47]⟩++cS (ec H l []) plus:ak)=ra (j:Int) l (ec H l []):=by
     unfold ra;rw[show(⟨#[114,58]⟩:ak)=b_ 114++b_ 58 by decide,show(⟨#[47]⟩:ak)=b_ 47 from rfl];simp only[ByteArray.append_assoc]
    exact⟨by rw[e],e⟩
   have hz:=X3.1;rw[hz]at Qt;simp only[aQ]at Qt;refine Z9 ?_;refine K.conv (L':=dy bh bd H::fv bd D::kO Wq (ec H l [])::A::bI b4 (.cells [bp bh].toArray 29 (0,0))::L) (fun w' aT=>bR V hV (aT.all Y5)) ?_
   refine K.draw [.read,.pure,.c7,.pure,.pure,.pure,.pure,.pure,.pure,.c7,.pure,.write,.pure] [0,1,5,8,2,3,4,6,7,9,10,11,12] bC bC ?_;refine RH ?_;refine oZ ?_;refine KO.ce (cp:=[]) rfl rfl rfl call59 rfl (jM w0 _ (j:Int) hT ⟨by omega,by omega⟩) ?_;rintro v' L' ⟨rfl,rfl⟩;refine pR ?_;refine KO.cat rfl rfl Y22 rfl ?_;refine KO.cat rfl rfl Y22 rfl ?_;refine KO.cat rfl rfl Y22 rfl ?_;refine KO.ce (cp:=[]) rfl rfl rfl call62 rfl (tU w0 _ _ Wq (ec H l []) plus bn ae ae) ?_;rintro v' L' ⟨rfl,rfl⟩;refine KO.cat rfl rfl Y22 rfl ?_;rw[X3.2];refine KO.cl (cp:=[]) rfl rfl rfl call84 rfl (KC.Mc bQ bQ (qd w0 _ bh bd n 250 H D (qT H (j:Int) l) hT hM hB lE ae h3 hd)) ?_;rintro v' L' ⟨rfl,rfl⟩;refine wC ?_;refine K.br rfl (fun h35=>?_) (fun h35=>?_)
   ·refine jB ?_;refine Z7 ?_;refine qX ?_;refine KQ.eE rfl rfl rfl (fun w' aT=>⟨_,_,rfl,⟨?_,rfl⟩,?_⟩)
    ·unfold sX;rw[WW,if_neg h35]
    ·rw[haH,haD];exact aT.all Y1
   ·have YU:dV H D=0:=by simpa using h35
    refine Z6 ?_;generalize hH2:oJ H D (qT H (j:Int) l)=H2 at haH ⊢;refine K.cq (fun _ h=>cx (h.pick bQ)) ?_;rintro⟨V2,sP⟩;dsimp only;obtain⟨d2,-⟩:=w4 (bd:=bd) sP hj;refine dM ?_;refine RH ?_;refine lq ?_;refine Z60 ?_;refine KO.db (i:=30+j) rfl rfl isAgg3 bQ zz d2 rfl ?_;refine pO ?_;refine KQ.eE rfl rfl rfl (fun w' aT=>⟨_,_,rfl,⟨?_,rfl⟩,?_⟩)
    ·unfold sX;rw[WW,if_pos YU,haH,YU,aE];rfl
    ·rw[haH,haD];exact bR V2 sP (aT.all Y5)
end Go.Proofs.YtjhogocabcdjbabGreatDoor
namespace WB
open Go
structure Fr where
 ik:Int
 num:Int
 zk:Bool
def Za (f:Fr) (v:Value):List Value:=[.int .i64 f.ik,.int .i64 f.num,.bool f.zk,v]
def colon:ak:=⟨#[58]⟩
def lB (a:Bool):ak:=if a then⟨#[97]⟩else⟨#[98]⟩
def Lm (f:Fr) (xs:List Ms):ak:=cS [lB f.zk,bP f.ik,bP f.num,ct xs] colon
def okF (f:Fr) (xs:List Ms):Prop:=0<=f.ik/\f.ik<=3/\0<=f.num/\f.num<=1099511627776/\f.zk=decide (xs.length=0)/\xs.length<=3/\iV xs=none
instance (f:Fr) (xs:List Ms):Decidable (okF f xs):=by unfold okF;infer_instance
def Y_ (f:Fr) (xs:List Ms):Int:=if okF f xs then 0 else 1
def YZ (f:Fr) (xs:List Ms):ak:=if okF f xs then Lm f xs else⟨#[]⟩
theorem oj{f:Fr}{xs:List Ms}(h:¬okF f xs):Y_ f xs=1/\YZ f xs=⟨#[]⟩:=⟨if_neg h,if_neg h⟩
theorem IV{f:Fr}{xs:List Ms}(h:okF f xs):Y_ f xs=0/\YZ f xs=Lm f xs:=⟨if_pos h,if_pos h⟩
end WB
namespace Go.Proofs.YtjhogocabcdjbabGreatDoor
open Tryz
open Go Go.RowKit WB
theorem LS{w0 w:World}{L:List HP}{b k:Nat}{xs:List ak}{vs:List Value}(h:St w0 (bI b (.cells vs.toArray 9 (0,0))::L) w)(Qn:vs=xs.map Value.string)(hk:xs.length=k)(hle:k<=1000):St w0 (kO (.slice (some ⟨b,0,none⟩) k k) xs::L) w:=by
 subst hk;have hf:xs.flatMap j7=vs:=by rw[Qn];clear Qn h hle;induction xs with
  |nil=>rfl
  |cons a l ih=>rw[aR,ih];rfl
 refine h.kx (aF _) R_ ?_ ?_
 ·rw[Qn];simp
 ·rw[hf,Qn,Nat.mul_one];exact List.take_of_length_le aj
theorem YY(w0:World)(L:List HP)(f:Fr)(v:Value)(xs:List Ms)(hr0:∀w,St w0 L w->vE w 5 dh v xs)(O1:o0 w0)(dr:∀m∈xs,m.body.size<=maxLen/\m.queue.size<=maxLen):
 KE prog 264 #[.agg (Za f v).toArray] w0 L (fun u M=>u=.tuple #[.string (YZ f xs),cI 70 (Y_ f xs)]/\M=L):=by
 refine KE.mk (n:=62) func264 rfl ntmps264 aj ?_;intro w hw;have hT:=O1.ext (Ext.bW hw.below);have hr:=hr0 w hw;have WD:=hr;obtain⟨sa,cap,rfl,hc⟩:=WD;have fin:∀(e:Int) (t:ak) (w':World) (M:List HP),e=Y_ f xs->t=YZ f xs->St w M w'->∃v L',Ending.returned (.tuple #[.string t,cI 70 e])=Ending.returned v/\(v=.tuple #[.string (YZ f xs),cI 70 (Y_ f xs)]/\L'=L)/\St w0 L' w'/\Below w.heap.size w w':=fun e t w' M h1 h2 hs=>⟨_,_,rfl,⟨by rw[h1,h2],rfl⟩,hw.aC hs.below,hs.below⟩
 refine Z3 ?_;refine KO.box rfl rfl aP rfl ?_;intro b1;refine Z7 ?_;refine kE ?_;by_cases a1:f.ik<0
 ·have eZ:=oj (f:=f) (xs:=xs) (fun h=>by unfold okF at h;omega);refine Hx ?_;refine RJ ?_;refine Oe ?_;refine qY ?_;refine rU ?_;refine wj ?_;refine rU ?_;refine Ai ?_;refine Tf ?_;refine Ai ?_;refine uQ ?_;refine ou ?_;refine KQ.eE rfl rfl rfl (fun w' hs=>fin 1 ⟨#[]⟩ w' _ eZ.1.symm eZ.2.symm hs)
 by_cases a2:4<=f.ik
 ·have eZ:=oj (f:=f) (xs:=xs) (fun h=>by unfold okF at h;omega);refine Hx ?_;refine Fq ?_;refine N7 ?_;refine pS ?_;refine Aj ?_;refine Oe ?_;refine qY ?_;refine rU ?_;refine Ai ?_;refine Tf ?_;refine Ai ?_;refine wj ?_;refine Z2 ?_;refine K.cL rfl (by simp[a2]) ?_;refine ou ?_;refine KQ.eE rfl rfl rfl (fun w' hs=>fin 1 ⟨#[]⟩ w' _ eZ.1.symm eZ.2.symm hs)
 by_cases a3:f.num<0
 ·have eZ:=oj (f:=f) (xs:=xs) (fun h=>by unfold okF at h;omega);refine Hx ?_;refine Fq ?_;refine N7 ?_;refine pS ?_;refine Aj ?_;refine CR ?_;refine wk ?_;refine wi ?_;refine Oe ?_;refine qY ?_;refine CY ?_;refine Tf ?_;refine Ai ?_;refine wj ?_;refine Z2 ?_;refine K.cL rfl (by simp[a3]) ?_;refine ou ?_;refine KQ.eE rfl rfl rfl (fun w' hs=>fin 1 ⟨#[]⟩ w' _ eZ.1.symm eZ.2.symm hs)
 by_cases a4:1099511627776<f.num
 ·have eZ:=oj (f:=f) (xs:=xs) (fun h=>by unfold okF at h;omega);refine Hx ?_;refine Fq ?_;refine N7 ?_;refine pS ?_;refine Aj ?_;refine CR ?_;refine wk ?_;refine wi ?_;refine CR ?_;refine Hy ?_;refine HV ?_;refine HZ ?_;refine qY ?_;refine CY ?_;refine wj ?_;refine Z2 ?_;refine K.cL rfl (by simp[a4]) ?_;refine ou ?_;refine KQ.eE rfl rfl rfl (fun w' hs=>fin 1 ⟨#[]⟩ w' _ eZ.1.symm eZ.2.symm hs)
 have hz:decide ((xs.length:Int)=0)=decide (xs.length=0):=decide_eq_decide.2 ae;by_cases a5:f.zk=decide ((xs.length:Int)=0)
 case neg=>
  have eZ:=oj (f:=f) (xs:=xs) (fun h=>by unfold okF at h;rw[hz]at a5;exact a5 h.2.2.2.2.1);have a6:(f.zk !=decide ((xs.length:Int)=0))=true:=by simpa using a5
  refine Hx ?_;refine Fq ?_;refine N7 ?_;refine pS ?_;refine Aj ?_;refine CR ?_;refine wk ?_;refine wi ?_;refine CR ?_;refine Hy ?_;refine CL ?_;refine Ol ?_;refine kF ?_;refine Ob ?_;refine kF ?_;refine FC ?_;refine kF ?_;refine Fw ?_;refine kF ?_;refine zy ?_;refine kF ?_;refine Jb ?_;refine VB ?_;refine wi ?_;refine Z1 ?_;refine Fz ?_;refine Fz ?_;refine KV ?_;refine Z2 ?_;refine K.cL rfl (by simp[a6]) ?_;refine ou ?_;refine KQ.eE rfl rfl rfl (fun w' hs=>fin 1 ⟨#[]⟩ w' _ eZ.1.symm eZ.2.symm hs)
 have a6:(f.zk !=decide ((xs.length:Int)=0))=false:=by simpa using a5
 by_cases a7:3<(xs.length:Int)
 ·have eZ:=oj (f:=f) (xs:=xs) (fun h=>by unfold okF at h;omega);refine Hx ?_;refine Fq ?_;refine N7 ?_;refine pS ?_;refine Aj ?_;refine CR ?_;refine wk ?_;refine wi ?_;refine CR ?_;refine Hy ?_;refine CL ?_;refine Ol ?_;refine kF ?_;refine Ob ?_;refine kF ?_;refine FC ?_;refine kF ?_;refine Fw ?_;refine kF ?_;refine zy ?_;refine kF ?_;refine Jb ?_;refine VB ?_;refine wi ?_;refine Hn ?_;refine FC ?_;refine s6 ?_;refine Fw ?_;refine s6 ?_;refine zy ?_;refine s6 ?_;refine uP ?_;refine KO.mc rfl tr rfl rfl ?_;refine Z2 ?_;refine K.cL rfl (by simp[a7]) ?_;refine ou ?_;refine KQ.eE rfl rfl rfl (fun w' hs=>fin 1 ⟨#[]⟩ w' _ eZ.1.symm eZ.2.symm hs)
 refine Hx ?_;refine Fq ?_;refine N7 ?_;refine pS ?_;refine Aj ?_;refine CR ?_;refine wk ?_;refine wi ?_;refine CR ?_;refine Hy ?_;refine CL ?_;refine Ol ?_;refine kF ?_;refine Ob ?_;refine kF ?_;refine FC ?_;refine kF ?_;refine Fw ?_;refine kF ?_;refine zy ?_;refine kF ?_;refine Jb ?_;refine VB ?_;refine wi ?_;refine Hn ?_;refine FC ?_;refine s6 ?_;refine Fw ?_;refine s6 ?_;refine zy ?_;refine s6 ?_;refine uP ?_;refine KO.mc rfl tr rfl rfl ?_;refine Z2 ?_;refine K.da rfl (by simp[a7]) ?_;refine Z6 ?_;cases hb:iV xs with
 |some k=>
  have eZ:=oj (f:=f) (xs:=xs) (fun h=>by unfold okF at h;rw[hb]at h;exact absurd h.2.2.2.2.2.2 aj);refine dM ?_;refine FC ?_;refine Fw ?_;refine KO.ce (cp:=[]) rfl rfl rfl call60 rfl (kg w _ _ xs (fun w' hw'=>xZ hr (Ext.bW hw'.below)) hT dr ae) ?_;rintro v' L' hR;unfold OJ at hR;rw[hb]at hR;obtain⟨be,rfl,rfl⟩:=hR;unfold atV;refine jR ?_;refine uO ?_;refine Ac ?_;refine ou ?_;refine KQ.eE rfl rfl rfl (fun w' hs=>fin 1 ⟨#[]⟩ w' _ eZ.1.symm eZ.2.symm hs)
 |none=>
  have jY:okF f xs:=by unfold okF;exact⟨by omega,by omega,by omega,by omega,by rw[a5,hz],by omega,hb⟩
  obtain⟨e1,e2⟩:=IV jY;have i1:ob f.ik:=⟨by omega,by omega⟩;have i2:ob f.num:=⟨by omega,by omega⟩;have s1:=cv i1;have s2:=cv i2;have s3:=jZ (dx hb);refine dM ?_;refine FC ?_;refine Fw ?_;refine KO.ce (cp:=[]) rfl rfl rfl call60 rfl (kg w _ _ xs (fun w' hw'=>xZ hr (Ext.bW hw'.below)) hT dr ae) ?_;rintro v' L' hR;unfold OJ at hR;rw[hb]at hR;obtain⟨rfl,rfl⟩:=hR;refine jR ?_;refine I_ ?_;refine rT ?_;refine dM ?_;refine lZ ?_;refine Ol ?_;refine Ob ?_;refine Z2 ?_;have iF:(lB f.zk).size<=1:=by unfold lB;split<;>decide
  have hjz:(cS [lB f.zk,bP f.ik,bP f.num,ct xs] colon).size<=1000000:=by
   have :=fN colon 1000 [lB f.zk,bP f.ik,bP f.num,ct xs] Y10;have h2:colon.size=1:=rfl;simp at this;omega
  refine K.cut (fun _:Unit=>[(1,.pointer (some ⟨b1,0,none⟩)),(4,.string (ct xs)),(6,.string (lB f.zk))]) (fun _=>[bI b1 (.cells (Za f (.slice sa xs.length cap)).toArray 256 (0,0))]) (fun _=>True) ?_ ?_
  ·refine K.cond rfl (fun h=>?_) (fun h=>?_)
   ·refine dM ?_;refine uR ?_;exact KQ.qL () trivial ⟨rfl,rfl,by rw[h];rfl,trivial⟩ (fun _ h=>h.all OA)
   ·refine K.skip ?_;exact KQ.qL () trivial ⟨rfl,rfl,by rw[h];rfl,trivial⟩ (fun _ h=>h.all OA)
  rintro _ _;refine oW ?_;refine K.draw [.pure,.pure,.read,.c7,.pure,.read,.c7,.pure,.c7,.c7,.pure,.pure] [0,1,2,4,5,7,3,6,8,9,10,11] bC bC ?_;refine Z1 ?_;refine N7 ?_;refine s7 ?_;refine Z79 ?_;refine s7 ?_;refine Z1 ?_;refine KO.ce (cp:=[]) rfl rfl rfl call59 rfl (jM w _ f.ik hT i1) ?_;rintro v' L' ⟨rfl,rfl⟩;refine KO.ce (cp:=[]) rfl rfl rfl call59 rfl (jM w _ f.num hT i2) ?_;rintro v' L' ⟨rfl,rfl⟩;refine KO.bsF (z:=(Value.string ⟨#[]⟩)) (dI:=16) rfl [.tmp 52,.tmp 55,.tmp 58,.tmp 59] rfl rfl underlying115 bC aP aP ai ai aP rfl ?_;intro b60;refine KO.conv (fun w' hw'=>LS (b:=b60) (vs:=[.string (lB f.zk),.string (bP f.ik),.string (bP f.num),.string (ct xs)]) (xs:=[lB f.zk,bP f.ik,bP f.num,ct xs]) (k:=4) (hw'.pick bQ) rfl rfl ae) ?_;refine KO.ce (cp:=[]) rfl rfl rfl call62 rfl (tU w _ _ (.slice (some ⟨b60,0,none⟩) 4 4) [lB f.zk,bP f.ik,bP f.num,ct xs] colon .head aj ae) ?_;rintro v' L' ⟨rfl,rfl⟩
  refine pO ?_;refine KQ.eE rfl rfl rfl (fun w' hs=>fin 0 (Lm f xs) w' _ e1.symm e2.symm hs)
end Go.Proofs.YtjhogocabcdjbabGreatDoor
namespace WB
open Go
def WR (H:Ho):Prop:= ∀q∈H.ways,∀e∈q.l,bM e.m=true
theorem WR.of{H H':Ho}(h:WR H)(e:H'.ways=H.ways):WR H':=fun q hq=>h q (by rw[<-e];exact hq)
theorem WR.at'{H:Ho}(h:WR H)(j:Nat):∀e∈(H.iq j).l,bM e.m=true:=fun e he=>by
 unfold Ho.iq at he;rw[aq]at he;cases hj:H.ways[j]? with
 |none=>rw[hj]at he;cases he
 |some q=>rw[hj]at he;exact h q (ax hj) e he
theorem WR.iI{H:Ho}(h:WR H){j:Nat}{q:Qu}(hq:∀e∈q.l,bM e.m=true):WR (H.iI j q):=fun q' h'=>by
 unfold Ho.iI at h';rcases bj h' with h1|rfl
 ·exact h q' h1
 ·exact hq
theorem AK{q:Qu}{m:Ms}{u:Int}{e:It}(h:e∈(cP q m u).l):e=cU q m u\/e∈q.l:=by
 unfold cP at h;rcases aH.1 h with h|h
 ·exact .inr (List.mem_of_mem_take h)
 ·rcases aD.1 h with h|h
  ·exact .inl h
  ·exact .inr (List.mem_of_mem_drop h)
theorem JC{q:Qu}{id:Int}{e:It}(h:e∈(eM q id).l):e∈q.l:=by
 unfold eM at h;split at h
 ·exact h
 ·exact(List.eraseIdx_sublist _ _).subset h
theorem x4{e:It}:∀(l:List Int) (q:Qu),e∈(dF q l).l->e∈q.l
 |[],_,h=>h
 |i::l,q,h=>JC (x4 l (eM q i) h)
theorem M0{H H1:Ho}{m:Ms}(h:WR H)(hm:bM m=true)(h1:fC H m=some H1):WR H1:=by
 unfold fC at h1;dsimp only at h1;split at h1
 ·simp only[az]at h1;subst h1;refine WR.iI (H:={H with next:=max H.next (m.id/4+1)}) h fun e he=>?_
  rcases AK he with rfl|he
  ·exact hm
  ·exact h.at' _ e he
 ·split at h1
  ·cases h1
  ·simp only[az]at h1;subst h1;exact h
theorem Ez:∀(l:List Ms) (H:Ho),WR H->(∀m∈l,bM m=true)->WR (eW H l).1
 |[],_,h,_=>h
 |m::r,H,h,hl=>by
  unfold eW;cases h1:fC H m with
  |none=>exact h
  |some H1=>exact Ez r H1 (M0 h (hl m aj) h1) fun x hx=>hl x wF
theorem EM:∀(l:List ak) (H:Ho),WR H->WR (gk H l).1
 |[],_,h=>h
 |s::r,H,h=>by
  unfold gk;cases h1:gN H s with
  |none=>exact h
  |some H1=>
   refine EM r H1 ?_;unfold gN at h1;split at h1
   ·cases h1
   ·split at h1
    ·cases h1
    ·split at h1
     ·simp only[az]at h1;subst h1;exact h
     ·cases h1
theorem ud:∀(l:List (Ms×ak)) (H:Ho),WR H->WR (dS H l).1
 |[],_,h=>h
 |(m,t)::r,H,h=>by
  unfold dS;cases H.qI t with
  |none=>exact h
  |some i=>exact ud r _ h
theorem ER{H:Ho}(h:WR H)(s:ak):WR (eI H s).1:=by
 unfold eI;split
 ·exact h
 ·split
  ·exact h
  ·rename_i l hl;have h1:=Ez l H h (dx (mY hl).1);split
   ·exact h1
   ·split
    ·exact h1
    ·exact EM _ _ h1
theorem M6{H:Ho}(h:WR H)(s:ak):WR (gM H s).1:=by
 unfold gM;split
 ·split<;>exact h
 ·exact h
theorem Kj{H:Ho}(h:WR H)(s:ak):WR (eG H s).1:=by
 unfold eG;split
 ·split
  ·exact(h.iI fun e he=>h.at' _ e (x4 _ _ he)).of rfl
  ·exact h
 ·exact h
theorem Nj{H:Ho}(h:WR H)(s:ak):WR (gO H s).1:=by
 unfold gO;split
 ·split
  ·split
   ·split
    ·exact(ud _ _ h).of rfl
    ·exact ud _ _ h
   ·exact h
  ·exact h
 ·exact h
theorem tZ{H:Ho}(h:WR H)(s:ak):WR (bY H s).1:=by
 unfold bY;split
 ·split
  ·exact h
  ·refine h.of ?_;unfold iL;split<;>rfl
 ·split
  ·exact h
  ·split
   ·exact ER h _
   ·split
    ·exact M6 h _
    ·split
     ·exact Kj h _
     ·split
      ·exact Nj h _
      ·exact h
theorem D8(D:Dk):∀(f:Nat) (H:Ho),WR H->WR (hU D f H)
 |0,_,h=>h
 |f+1,H,h=>by
  unfold hU;split
  ·exact h
  ·split
   ·exact tZ h _
   ·exact D8 D f _ ((tZ h _).of rfl)
theorem Q0(id:Int):WR (bO id):=fun q hq=>by
 have :q=⟨[],0⟩:=List.eq_of_mem_replicate (n:=4) (by exact hq);subst this;intro e he;cases he
theorem Mk(id:Int)(D:Dk):WR (iQ id D):=D8 D 300 _ (Q0 id)
theorem DQ{H:Ho}(h:WR H)(j:Nat):∀m∈cT (H.iq j),bM m=true:=fun m hm=>by
 unfold cT at hm;obtain⟨e,he,rfl⟩:=ay.1 hm;exact h.at' j e (aB.1 he).1
theorem AX(H:Ho)(D:Dk):(dD H D).ways=H.ways:=by
 unfold dD;split
 ·rfl
 ·split<;>rfl
theorem Tn{H:Ho}(h:WR H)(D:Dk)(s:ak):WR (oJ H D s):=by
 unfold oJ;have h1:=h.of (AX H D);split
 ·exact tZ h1 s
 ·exact h1
theorem BW(H:Ho)(i:Nat)(q:Qu):(H.eP i q).aK.length=H.aK.length:=by unfold Ho.eP;simp
theorem MZ{H H1:Ho}{m:Ms}(h1:fC H m=some H1):H1.aK.length=H.aK.length:=by
 unfold fC at h1;dsimp only at h1;split at h1
 ·simp only[az]at h1;subst h1;rfl
 ·split at h1
  ·cases h1
  ·simp only[az]at h1;subst h1;exact BW _ _ _
theorem sI:∀(l:List Ms) (H:Ho),(eW H l).1.aK.length=H.aK.length
 |[],_=>rfl
 |m::r,H=>by
  unfold eW;cases h1:fC H m with
  |none=>rfl
  |some H1=>exact(sI r H1).trans (MZ h1)
theorem EL:∀(l:List ak) (H:Ho),(gk H l).1.aK.length=H.aK.length
 |[],_=>rfl
 |s::r,H=>by
  unfold gk;cases h1:gN H s with
  |none=>rfl
  |some H1=>
   refine(EL r H1).trans ?_;unfold gN at h1;split at h1
   ·cases h1
   ·split at h1
    ·cases h1
    ·split at h1
     ·simp only[az]at h1;subst h1;exact BW _ _ _
     ·cases h1
theorem uc:∀(l:List (Ms×ak)) (H:Ho),(dS H l).1.aK.length=H.aK.length
 |[],_=>rfl
 |(m,t)::r,H=>by
  unfold dS;cases H.qI t with
  |none=>rfl
  |some i=>exact(uc r _).trans (BW _ _ _)
theorem EO(H:Ho)(s:ak):(eI H s).1.aK.length=H.aK.length:=by
 unfold eI;split
 ·rfl
 ·split
  ·rfl
  ·rename_i l hl;split
   ·exact sI l H
   ·split
    ·exact sI l H
    ·exact(EL _ _).trans (sI l H)
theorem M5(H:Ho)(s:ak):(gM H s).1.aK.length=H.aK.length:=by
 unfold gM;split
 ·split<;>rfl
 ·rfl
theorem Ki(H:Ho)(s:ak):(eG H s).1.aK.length=H.aK.length:=by
 unfold eG;split
 ·split<;>rfl
 ·rfl
theorem Ni(H:Ho)(s:ak):(gO H s).1.aK.length=H.aK.length:=by
 unfold gO;split
 ·split
  ·split
   ·split
    ·exact uc _ _
    ·exact uc _ _
   ·rfl
  ·rfl
 ·rfl
theorem A5(H:Ho)(s:ak):(bY H s).1.aK.length<=H.aK.length+1:=by
 unfold bY;split
 ·split
  ·exact Nat.le_succ _
  ·dsimp only;unfold iL;split
   ·dsimp only;split
    ·simp
    ·exact Nat.le_succ _
   ·exact Nat.le_succ _
 ·split
  ·exact Nat.le_succ _
  ·split
   ·exact Nat.le_succ_of_le (Nat.le_of_eq (EO _ _))
   ·split
    ·exact Nat.le_succ_of_le (Nat.le_of_eq (M5 _ _))
    ·split
     ·exact Nat.le_succ_of_le (Nat.le_of_eq (Ki _ _))
     ·split
      ·exact Nat.le_succ_of_le (Nat.le_of_eq (Ni _ _))
      ·exact Nat.le_succ _
theorem D7(D:Dk):∀(f:Nat) (H:Ho),H.aK.length<=1+H.used->(hU D f H).aK.length<=2+(hU D f H).used
 |0,H,h=>by show H.aK.length<=2+H.used;omega
 |f+1,H,h=>by
  unfold hU;split
  ·omega
  ·rename_i s hs;have h1:=A5 H s;have h2:=(fD H s).used;split
   ·rw[h2];omega
   ·refine D7 D f _ ?_;dsimp only;omega
theorem Mj(id:Int)(D:Dk):(iQ id D).aK.length<=2+(iQ id D).used:=D7 D 300 _ (aF 1)
theorem P_(H:Ho)(D:Dk):(dD H D).aK=H.aK/\H.used<=(dD H D).used:=by
 unfold dD;split
 ·exact⟨rfl,aF _⟩
 ·split
  ·exact⟨rfl,aF _⟩
  ·exact⟨rfl,Nat.le_succ _⟩
theorem Tm{H:Ho}(h:H.aK.length<=2+H.used)(D:Dk)(s:ak):(oJ H D s).aK.length<=2+(oJ H D s).used:=by
 obtain⟨a,b⟩:=P_ H D;unfold oJ;split
 ·rename_i h0;have h1:=A5 (dD H D) s;have h2:=(fD (dD H D) s).used;have h3:(dD H D).used=H.used+1:=by
   have h4:eT H=0/\kK D=0:=by
    unfold dV at h0;by_cases h5:eT H=0
    ·rw[if_neg (by simpa using h5)]at h0;exact⟨h5,h0⟩
    ·rw[if_pos h5]at h0;exact absurd h0 h5
   unfold dD;rw[if_neg (by simpa using h4.1),if_neg (by simpa using h4.2)]
  rw[a]at h1;omega
 ·rw[a];omega
def Rc (s:ak):Option (Fr×List Ms):=
 match di 58 s with
 |[a,b,c,d]=>match ep b,ep c,rn d with
  |some x,some y,some xs=>if okF ⟨x,y,decide (a=⟨#[97]⟩)⟩ xs/\Lm ⟨x,y,decide (a=⟨#[97]⟩)⟩ xs=s then some (⟨x,y,decide (a=⟨#[97]⟩)⟩,xs)else none
  |_,_,_=>none
 |_=>none
theorem lC{n:Int}:∀b∈(bP n).data.toList,b≠58:=fun b hb=>by
 have :=yw b hb;rintro rfl;revert this;decide
theorem AZ{s:ak}(h:gS s=true):∀b∈s.data.toList,b≠58:=fun b hb=>by
 unfold gS at h;have :=aI.1 h b hb;rintro rfl;revert this;decide
theorem JR{m:Ms}(h:bM m=true):∀b∈(oP m).data.toList,b≠58:=fun b hb=>by
 obtain⟨h1,h2,h3,h4,h5,h6,h7,h8⟩:=bN h;rw[p8]at hb;rcases iS hb with hb|⟨x,hx,hb⟩
 ·have :b=32:=by simpa[sp]using hb
  subst this;decide
 ·simp only[aD,List.not_mem_nil,or_false]at hx;rcases hx with rfl|rfl|rfl|rfl|rfl
  ·exact lC b hb
  ·exact lC b hb
  ·exact AZ (sV h5) b hb
  ·exact AZ (gB h6) b hb
  ·exact lC b hb
theorem Dn{xs:List Ms}(h:iV xs=none):∀b∈(ct xs).data.toList,b≠58:=fun b hb=>by
 unfold ct at hb;rcases iS hb with hb|⟨x,hx,hb⟩
 ·have :b=43:=by simpa[plus]using hb
  subst this;decide
 ·obtain⟨m,hm,rfl⟩:=ay.1 hx;exact JR (dx h m hm) b hb
theorem Re{f:Fr}{xs:List Ms}(h:okF f xs):di 58 (Lm f xs)=[lB f.zk,bP f.ik,bP f.num,ct xs]:=by
 unfold okF at h;unfold Lm;refine x6 (c:=58) aj fun x hx b hb=>?_
 simp only[aD,List.not_mem_nil,or_false]at hx;rcases hx with rfl|rfl|rfl|rfl
 ·unfold lB at hb;split at hb
  ·have :b=97:=by simpa using hb
   subst this;decide
  ·have :b=98:=by simpa using hb
   subst this;decide
 ·exact lC b hb
 ·exact lC b hb
 ·exact Dn h.2.2.2.2.2.2 b hb
theorem MG(a:Bool):decide (lB a=⟨#[97]⟩)=a:=by cases a<;>decide
theorem Bh{f:Fr}{xs:List Ms}(h:okF f xs):Rc (Lm f xs)=some (f,xs):=by
 have hp:=Re h;have h2:=h;unfold okF at h2;obtain⟨h3,h4,h5,h6,h7,h8,h9⟩:=h2;unfold Rc;rw[hp];have e1:=gZ (n:=f.ik) ⟨by omega,by omega⟩;have e2:=gZ (n:=f.num) ⟨by omega,by omega⟩;have e3:=p9 h9;simp only[e1,e2,e3,MG];rw[if_pos ⟨h,trivial⟩]
theorem Nr{f:Fr}{xs:List Ms}(h:okF f xs):(Lm f xs).size<=2000:=by
 have h2:=h;unfold okF at h2;obtain⟨h3,h4,h5,h6,h7,h8,h9⟩:=h2;have a1:=cv (n:=f.ik) ⟨by omega,by omega⟩;have a2:=cv (n:=f.num) ⟨by omega,by omega⟩;have a3:=jZ (dx h9);have a4:(lB f.zk).size<=1:=by unfold lB;split<;>decide
 have :=fN colon 400 [lB f.zk,bP f.ik,bP f.num,ct xs] Y10;have h2:colon.size=1:=rfl;unfold Lm;simp at this;omega
structure Gm where
 dto:Int
 f:Fr
 l:List Ms
def YW (g:Gm):ak:=Lm g.f g.l
instance:Inhabited Gm:=⟨⟨0,⟨0,0,false⟩,[]⟩⟩
instance:Inhabited (Ho×Dk):=⟨(bO 0,bD)⟩
structure Wo where
 hs:List (Ho×Dk)
 dQ:List Gm
 lost:Int
namespace Wo
def n (W:Wo):Nat:=W.hs.length
def is (W:Wo) (k:Int):Bool:=decide (0<=k/\k<(W.hs.length:Int))
def at' (W:Wo) (k:Nat):Ho×Dk:=W.hs.getD k default
def H (W:Wo) (k:Nat):Ho:=(W.at' k).1
def D (W:Wo) (k:Nat):Dk:=(W.at' k).2
def cy (W:Wo) (k:Nat) (x:Ho×Dk):Wo:={W with hs:=W.hs.set k x}
end Wo
def xy (n:Nat):Wo:=⟨(List.range n).map fun k:Nat=>(bO (k:Int),bD),[],0⟩
def Aq (W:Wo) (k:Int):Int:=if W.is k=true then 0 else 2
def FZ (W:Wo) (k n t:Int):Wo:=if W.is k=true then W.cy k.toNat ({W.H k.toNat with cZ:=t},cu (W.D k.toNat) n)else W
def AJ (W:Wo) (k:Nat):Wo:=W.cy k (iQ (k:Int) (cu (W.D k) (-1)),cu (W.D k) (-1))
def OQ (W:Wo) (k:Int):Wo:=if W.is k=true then AJ W k.toNat else W
def tx (W:Wo) (g:Gm):Wo:=if 100<=W.dQ.length then {W with lost:=W.lost+1}else {W with dQ:=W.dQ++[g]}
def j0 (W:Wo) (dst:Int) (f:Fr) (l:List Ms):Wo:=if okF f l then tx W ⟨dst,f,l⟩else W
def F6 (W:Wo) (k dst:Int):Int:=if W.is k=true/\W.is dst=true then uD (W.H k.toNat) (W.D k.toNat) dst else 2
def q_ (W:Wo) (k dst:Int):Wo:=W.cy k.toNat (mJ (W.H k.toNat) (W.D k.toNat) dst,tk (W.H k.toNat) (W.D k.toNat) dst)
def DK (W:Wo) (k dst:Int):Wo:=if W.is k=true/\W.is dst=true then
 (if F6 W k dst=0 then j0 (q_ W k dst) dst ⟨k,I6 (W.H k.toNat) (W.D k.toNat) dst,false⟩ (Ab (W.H k.toNat) (W.D k.toNat) dst)else q_ W k dst)
 else W
def FY (W:Wo) (i:Int):Int:=if 0<=i/\i<(W.dQ.length:Int)then 0 else 2
def yH (W:Wo) (i:Nat):Gm:=W.dQ.getD i default
def qx (W:Wo) (i:Nat):Wo:={W with dQ:=W.dQ.eraseIdx i}
def E9 (W:Wo) (g:Gm):Wo:=
 if g.f.zk=true then W.cy g.dto.toNat (Dd (W.H g.dto.toNat) (W.D g.dto.toNat) g.f.ik g.f.num,FQ (W.H g.dto.toNat) (W.D g.dto.toNat) g.f.ik g.f.num)
 else if FT (W.H g.dto.toNat) (W.D g.dto.toNat) g.f.ik g.f.num g.l=0 then
  j0 (W.cy g.dto.toNat (rL (W.H g.dto.toNat) (W.D g.dto.toNat) g.f.ik g.f.num g.l,sY (W.H g.dto.toNat) (W.D g.dto.toNat) g.f.ik g.f.num g.l)) g.f.ik ⟨g.dto,sX (W.H g.dto.toNat) (W.D g.dto.toNat) g.f.ik g.f.num g.l,true⟩ []
 else W.cy g.dto.toNat (rL (W.H g.dto.toNat) (W.D g.dto.toNat) g.f.ik g.f.num g.l,sY (W.H g.dto.toNat) (W.D g.dto.toNat) g.f.ik g.f.num g.l)
def v7 (W:Wo) (i:Int):Wo:=if FY W i=0 then E9 (qx W i.toNat) (yH W i.toNat)else W
def Qb (W:Wo) (i:Int):Wo:=if FY W i=0 then qx W i.toNat else W
def Pm (W:Wo) (i:Int):Wo:=if FY W i=0 then tx W (yH W i.toNat)else W
structure kM (c K:Nat) (k:Nat) (x:Ho×Dk):Prop where
 id:x.1.id=(k:Int)
 B:cF (300+c+250*x.1.used) x.1
 len:x.2.places.length=300
 left: -(K:Int)<=x.2.left/\x.2.left<=9223372036854775807
 size:∀t∈x.2.places,t.size<=800000
 lQ:∀(i:Nat) t s,x.2.places[i]? =some t->gd (i:Nat) t=some s->fF 250 s
 aA:∀u∈x.1.aA,fE u/\u.aO.length<=c
 ways:WR x.1
 ql:x.1.aK.length<=2+x.1.used
structure GmB (n:Nat) (g:Gm):Prop where
 dto:0<=g.dto/\g.dto<(n:Int)
 ik:0<=g.f.ik/\g.f.ik<(n:Int)
 ok:okF g.f g.l
structure dC (c K:Nat) (W:Wo):Prop where
 n1:1<=W.hs.length/\W.hs.length<=4
 hs:∀k x,W.hs[k]? =some x->kM c K k x
 dQ:∀g∈W.dQ,GmB W.hs.length g
 wl:W.dQ.length<=100
 lost:0<=W.lost/\W.lost<=(K:Int)
theorem kM.ok{c kb k:Nat}{x:Ho×Dk}(h:kM c kb k x)(hK:kb<=1000000000000):H9 x.2:=⟨h.len,by have :=h.left;omega,h.size,h.lQ⟩
theorem kM.cut{c kb k:Nat}{x:Ho×Dk}(h:kM c kb k x){n:Int}(hn:n<=9223372036854775807):kM c kb k (x.1,cu x.2 n):=⟨h.id,h.B,h.len,by unfold cu;dsimp only;omega,h.size,h.lQ,h.aA,h.ways,h.ql⟩
theorem kM.cZ{c kb k:Nat}{x:Ho×Dk}(h:kM c kb k x)(n:Int):kM c kb k ({x.1 with cZ:=n},x.2):=⟨h.id,h.B.Sk n,h.len,h.left,h.size,h.lQ,h.aA,h.ways.of rfl,h.ql⟩
theorem kM.mono{c c' kb Lc k:Nat}{x:Ho×Dk}(h:kM c kb k x)(h1:c<=c')(h2:kb<=Lc):kM c' Lc k x:=⟨h.id,h.B.le ae,h.len,by have :=h.left;omega,h.size,h.lQ,fun u hu=>⟨(h.aA u hu).1,Nat.le_trans (h.aA u hu).2 h1⟩,h.ways,h.ql⟩
theorem m_(H:Ho)(D:Dk):(dD H D).id=H.id/\(dD H D).aA=H.aA/\(dD H D).names=H.names/\(dD H D).aK=H.aK/\(dD H D).ways=H.ways/\(dD H D).batch=H.batch/\(dD H D).cg=H.cg/\(dD H D).aM=H.aM/\(dD H D).next=H.next/\(dD H D).cZ=H.cZ:=by
 unfold dD;split
 ·exact⟨rfl,rfl,rfl,rfl,rfl,rfl,rfl,rfl,rfl,rfl⟩
 ·split<;>exact⟨rfl,rfl,rfl,rfl,rfl,rfl,rfl,rfl,rfl,rfl⟩
theorem r6(H:Ho)(D:Dk)(s:ak):(oJ H D s).id=H.id/\(oJ H D s).aA=H.aA:=by
 unfold oJ;obtain⟨a,b,-⟩:=m_ H D;split
 ·have h:=fD (dD H D) s;exact⟨h.id.trans a,h.aA.trans b⟩
 ·exact⟨a,b⟩
theorem MB{H:Ho}{D:Dk}(h:dV H D=0):eT H=0/\kK D=0:=by
 unfold dV at h;by_cases h1:eT H=0
 ·rw[if_neg K6]at h;exact⟨h1,h⟩
 ·rw[if_pos h1]at h;exact absurd h h1
theorem Qa{D:Dk}{H:Ho}{s:ak}(hl:D.places.length=300)(dr:∀t∈D.places,t.size<=800000)(hr:∀(i:Nat) t s,D.places[i]? =some t->gd (i:Nat) t=some s->fF 250 s)(hs:fF 250 s)(hb:oO 124 s)(hu:H.used<=300):
 (fY H D s).places.length=300/\(∀t∈(fY H D s).places,t.size<=800000)/\(∀(i:Nat) t r,(fY H D s).places[i]? =some t->gd (i:Nat) t=some r->fF 250 r)/\D.left-1<=(fY H D s).left/\(fY H D s).left<=D.left:=by
 have hss:=hs.size;have hsl:=sg (k:=(H.used:Nat)) ⟨by omega,by omega⟩ (show s.size<=700000 by omega);have h0:=q9 (H.used:Nat) s;unfold fY;split
 ·exact⟨hl,dr,hr,by omega,Int.le_refl _⟩
 ·refine⟨?_,?_,?_,by rw[fO];split<;>omega,by rw[fO];split<;>omega⟩
  ·unfold dG;split
   ·split
    ·simpa using hl
    ·exact hl
   ·simpa using hl
  ·intro t ht;unfold dG at ht;split at ht
   ·split at ht
    ·rcases bj ht with h1|rfl
     ·exact dr t h1
     ·have :=vz (dA (H.used:Nat) s) H.cZ;omega
    ·exact dr t ht
   ·rcases bj ht with h1|rfl
    ·exact dr t h1
    ·omega
  ·intro i t s' ht ho;have key:∀v,(D.places.set H.used v)[i]? =some t->(v=t/\i=H.used)\/D.places[i]? =some t:=fun v hv=>by
    rw[List.getElem?_set]at hv;split at hv
    ·rename_i e;split at hv
     ·simp only[az]at hv;exact .inl ⟨hv,e.symm⟩
     ·cases hv
    ·exact .inr hv
   unfold dG at ht;split at ht
   ·split at ht
    ·rcases key _ ht with⟨rfl,rfl⟩|h1
     ·unfold y0 at ho;rw[x9 hb ae]at ho;cases ho
     ·exact hr i t s' h1 ho
    ·exact hr i t s' ht ho
   ·rcases key _ ht with⟨rfl,rfl⟩|h1
    ·rw[rm hb]at ho;simp only[az]at ho;rw[<-ho];exact hs
    ·exact hr i t s' h1 ho
theorem kM.write{c kb k:Nat}{x:Ho×Dk}(h:kM c kb k x){s:ak}(hs:fF 250 s)(hb:oO 124 s):kM c (kb+1) k (oJ x.1 x.2 s,fY x.1 x.2 s):=by
 obtain⟨a1,a2⟩:=r6 x.1 x.2 s;obtain⟨d1,d2,d3,d4,d5⟩:=Qa (H:=x.1) h.len h.size h.lQ hs hb h.B.used;refine⟨a1.trans h.id,?_,d1,by have :=h.left;dsimp only;omega,d2,d3,fun u hu=>h.aA u (by rw[<-a2];exact hu),Tn h.ways _ _,Tm h.ql _ _⟩;dsimp only;unfold oJ;split
 ·rename_i h0;obtain⟨h1,h2⟩:=MB h0;have eL:dD x.1 x.2={x.1 with used:=x.1.used+1}:=by unfold dD;rw[if_neg K6,if_neg Xi]
  have h3:=(h.B.log (D:=x.2)).AO hs ae;have h4:=(fD (dD x.1 x.2) s).used;refine h3.le ?_;rw[h4,eL];dsimp only;omega
 ·rename_i h0;have h3:(dD x.1 x.2).used=x.1.used:=by
   unfold dD;split
   ·rfl
   ·rename_i h1;split
    ·rfl
    ·rename_i h2;exact absurd (by unfold dV;rw[if_neg h1];simpa using h2) h0
  rw[h3];exact h.B.log
theorem kM.cq{c kb k:Nat}{x:Ho×Dk}(h:kM c kb k x)(hk:k<4)(hK:kb<=1000000000000):kM c kb k (iQ (k:Int) x.2,x.2):=by
 have hD:=h.ok hK;have h2:=ya x.2 300 (bO (k:Int));refine⟨h2.1,(Ml (id:=(k:Int)) ⟨by omega,by omega⟩ hD).le gV,h.len,h.left,h.size,h.lQ,fun u hu=>?_,Mk _ _,Mj _ _⟩;have h3:u∈(bO (k:Int)).aA:=by rw[<-h2.2.2.2];exact hu
 have :u=⟨[],[]⟩:=List.eq_of_mem_replicate h3;subst this;exact⟨⟨(fun p hp=>by cases hp),(fun p hp=>by cases hp),by decide⟩,aV _⟩
theorem NV(k:Int):oO 124 (vL k):=dN (dN (d_ ai) (d_ ai)) (fp _ ai)
theorem Hd(k:Int)(l:List Int):oO 124 (kH k l):=dN (dN (d_ ai) (d_ ai)) (tV (fun b hb=>by simp[sp]at hb;subst hb;decide) fun x hx=>by
 obtain⟨n,-,rfl⟩:=ay.1 hx
 exact fp _ ai)
theorem NU(k:Int){l:List Ms}{t:List ak}(h:∀m∈l,bM m=true)(ht:∀x∈t,c6 x=true):oO 124 (ra k l t):=
 dN (dN (d_ ai) (d_ ai)) (dN (dN (fp _ ai) (d_ ai)) (dN (dN (p7 ai ai ai h) (d_ ai)) (tV (fun b hb=>by simp[plus]at hb;subst hb;decide) fun x hx=>xj ai (ht x hx))))
theorem kM.bt{c kb k:Nat}{x:Ho×Dk}(h:kM c kb k x)(dst:Int):kM c (kb+1) k (mJ x.1 x.2 dst,tk x.1 x.2 dst):=by
 unfold mJ tk;split
 ·rename_i qz;have Cn:cb x.1 dst=true:=by
   unfold fu mI at qz;cases hk:cb x.1 dst with
   |true=>rfl
   |false=>rw[hk]at qz;simp at qz
  obtain⟨qB,oe,-⟩:=bX.1 Cn;refine h.write ((mW ⟨qB,oe⟩ (by unfold dY;simp;omega) fun y hy=>?_).mono ae) (Hd _ _);obtain⟨m,hm,rfl⟩:=ay.1 hy;have hm:=List.mem_of_mem_take hm;unfold dK at hm;obtain⟨e,he,rfl⟩:=ay.1 hm;have :=(h.B.w (j:=dst.toNat) ae).ids e (aB.1 he).1;exact⟨by omega,by omega⟩
 ·exact h.mono (aF _) ae
theorem kM.ca{c kb k:Nat}{x:Ho×Dk}(h:kM c kb k x)(dst m:Int):kM c (kb+1) k (Dd x.1 x.2 dst m,FQ x.1 x.2 dst m):=by
 unfold Dd FQ;by_cases h0:lX x.1 dst m≠0
 ·rw[if_pos h0,if_pos h0];exact h.mono (aF _) ae
 ·rw[if_neg h0,if_neg h0];have Cn:cb x.1 dst=true:=by
   unfold lX at h0;cases hk:cb x.1 dst with
   |true=>rfl
   |false=>rw[hk]at h0;simp at h0
  obtain⟨qB,oe,-⟩:=bX.1 Cn;exact h.write ((wP ⟨qB,oe⟩).mono ae) (NV _)
theorem kM.ar{c kb k:Nat}{x:Ho×Dk}(h:kM c kb k x)(IW m:Int){l:List Ms}(hl:l.length<=250):kM c (kb+1) k (rL x.1 x.2 IW m l,sY x.1 x.2 IW m l):=by
 unfold rL sY;split
 ·rename_i hw;unfold Dg at hw;simp only[decide_eq_true_eq]at hw;have h0:=hw.1;have Cn:cb x.1 IW=true:=by
   unfold rK at h0;cases hk:cb x.1 IW with
   |true=>rfl
   |false=>rw[hk]at h0;simp at h0
  obtain⟨qB,oe,-⟩:=bX.1 Cn;have eZ:iV l=none:=by
   unfold rK at h0;rw[if_neg (by rw[Cn];simp)]at h0;split at h0
   ·cases h0
   ·rw[if_neg ae]at h0;split at h0
    ·cases h0
    ·split at h0
     ·cases h0
     ·rename_i h5;cases hb:iV l with
      |none=>rfl
      |some i=>exact absurd (.inl (by rw[hb];simp)) h5
  have ib:=dx eZ;exact h.write (wO ⟨qB,oe⟩ eZ hl (lJ ib []) (lp x.1 l [])).1 (NU _ ib (lJ ib []))
 ·exact h.mono (aF _) ae
theorem dC.mono{c c' kb Lc:Nat}{W:Wo}(h:dC c kb W)(h1:c<=c')(h2:kb<=Lc):dC c' Lc W:=⟨h.n1,fun k x hx=>(h.hs k x hx).mono h1 h2,h.dQ,h.wl,by have :=h.lost;omega⟩
theorem dC.set{c kb:Nat}{W:Wo}(h:dC c kb W){k:Nat}{x:Ho×Dk}(hx:kM c kb k x):dC c kb (W.cy k x):=by
 refine⟨by simpa[Wo.cy]using h.n1,fun j y hy=>?_,fun g hg=>by have :=h.dQ g hg;unfold Wo.cy;dsimp only;rw[List.length_set];exact this,h.wl,h.lost⟩;unfold Wo.cy at hy;dsimp only at hy;rw[List.getElem?_set]at hy;split at hy
 ·rename_i e;subst e;split at hy
  ·simp only[az]at hy;subst hy;exact hx
  ·cases hy
 ·exact h.hs j y hy
theorem dC.put{c kb:Nat}{W:Wo}(h:dC c kb W){g:Gm}(hg:GmB W.hs.length g):dC c (kb+1) (tx W g):=by
 have h2:=h.mono (aF c) (Nat.le_succ kb);unfold tx;split
 ·exact⟨h2.n1,h2.hs,h2.dQ,h2.wl,by have :=h.lost;dsimp only;omega⟩
 ·refine⟨h2.n1,h2.hs,fun x hx=>?_,by simp;omega,h2.lost⟩;rcases aH.1 hx with hx|hx
  ·exact h.dQ x hx
  ·simp at hx;subst hx;exact hg
theorem dC.send{c kb:Nat}{W:Wo}(h:dC c kb W){dst:Int}{f:Fr}{l:List Ms}(h1:0<=dst/\dst<(W.hs.length:Int))(h2:0<=f.ik/\f.ik<(W.hs.length:Int)):dC c (kb+1) (j0 W dst f l):=by
 unfold j0;split
 ·rename_i jY;exact h.put ⟨h1,h2,jY⟩
 ·exact h.mono (aF _) ae
theorem iY{W:Wo}{j:Nat}(h:j<W.hs.length):∃x,W.hs[j]? =some x/\W.H j=x.1/\W.D j=x.2:=by
 refine⟨W.hs[j],ao h,?_⟩;unfold Wo.H Wo.D Wo.at';rw[aq,ao h];exact⟨rfl,rfl⟩
theorem qZ{W:Wo}{k:Int}(h:W.is k=true):0<=k/\k<(W.hs.length:Int):=by
 unfold Wo.is at h;simpa using h
theorem dC.adG{c kb:Nat}{W:Wo}(h:dC c kb W)(k t:Int){n:Int}(hn:n<=9223372036854775807):dC c kb (FZ W k n t):=by
 unfold FZ;split
 ·rename_i hk;have hk:=qZ hk;obtain⟨x,hx,e1,e2⟩:=iY (W:=W) (j:=k.toNat) ae;rw[e1,e2];exact h.set (((h.hs _ x hx).cut hn).cZ t)
 ·exact h
theorem dC.re{c kb:Nat}{W:Wo}(h:dC c kb W)(hK:kb<=1000000000000)(k:Int):dC c kb (OQ W k):=by
 unfold OQ;split
 ·rename_i hk;have hk:=qZ hk;have hn:=h.n1;obtain⟨x,hx,e1,e2⟩:=iY (W:=W) (j:=k.toNat) ae;unfold AJ;rw[e2];exact h.set (((h.hs _ x hx).cut (n:= -1) ae).cq ae hK)
 ·exact h
theorem dC.se{c kb:Nat}{W:Wo}(h:dC c kb W)(k dst:Int):dC c (kb+2) (DK W k dst):=by
 unfold DK;split
 ·rename_i hk;have h1:=qZ hk.1;have h2:=qZ hk.2;obtain⟨x,hx,e1,e2⟩:=iY (W:=W) (j:=k.toNat) ae;have sH:dC c (kb+1) (q_ W k dst):=by
   unfold q_;rw[e1,e2];exact(h.mono (aF _) (Nat.le_succ kb)).set ((h.hs _ x hx).bt dst)
  have hl:(q_ W k dst).hs.length=W.hs.length:=by unfold q_ Wo.cy;simp
  split
  ·exact sH.send (by rw[hl];exact h2) (by rw[hl];exact h1)
  ·exact sH.mono (aF _) ae
 ·exact h.mono (aF _) ae
theorem Ie{W:Wo}{i:Int}(h:FY W i=0):0<=i/\i<(W.dQ.length:Int):=by
 unfold FY at h;split at h
 ·assumption
 ·cases h
theorem oi{W:Wo}{i:Nat}(h:i<W.dQ.length):W.dQ[i]? =some (yH W i):=by
 unfold yH;rw[aq,ao h];rfl
theorem dC.out{c kb:Nat}{W:Wo}(h:dC c kb W)(i:Nat):dC c kb (qx W i):=⟨h.n1,h.hs,fun g hg=>h.dQ g ((List.eraseIdx_sublist _ _).subset hg),Nat.le_trans (List.eraseIdx_sublist _ _).length_le h.wl,h.lost⟩
theorem dC.cm{c kb:Nat}{W:Wo}(h:dC c kb W){g:Gm}(hg:GmB W.hs.length g):dC c (kb+2) (E9 W g):=by
 obtain⟨t1,t2⟩:=hg.dto;obtain⟨x,hx,e1,e2⟩:=iY (W:=W) (j:=g.dto.toNat) ae;have h1:=h.mono (aF c) (Nat.le_succ kb);unfold E9;rw[e1,e2];split
 ·exact(h1.set ((h.hs _ x hx).ca _ _)).mono (aF _) ae
 ·have hl:g.l.length<=250:=by have :=hg.ok;unfold okF at this;omega
  have h2:=h1.set ((h.hs _ x hx).ar g.f.ik g.f.num hl);split
  ·refine h2.send ?_ ?_
   ·unfold Wo.cy;dsimp only;rw[List.length_set];exact hg.ik
   ·unfold Wo.cy;dsimp only;rw[List.length_set];exact hg.dto
  ·exact h2.mono (aF _) ae
theorem dC.de{c kb:Nat}{W:Wo}(h:dC c kb W)(i:Int):dC c (kb+2) (v7 W i):=by
 unfold v7;split
 ·rename_i h0;obtain⟨h1,h2⟩:=Ie h0;exact(h.out i.toNat).cm (h.dQ _ (ax (oi (W:=W) (i:=i.toNat) ae)))
 ·exact h.mono (aF _) ae
theorem dC.lo{c kb:Nat}{W:Wo}(h:dC c kb W)(i:Int):dC c kb (Qb W i):=by
 unfold Qb;split
 ·exact h.out _
 ·exact h
theorem dC.tw{c kb:Nat}{W:Wo}(h:dC c kb W)(i:Int):dC c (kb+1) (Pm W i):=by
 unfold Pm;split
 ·rename_i h0;obtain⟨h1,h2⟩:=Ie h0;exact h.put (h.dQ _ (ax (oi (W:=W) (i:=i.toNat) ae)))
 ·exact h.mono (aF _) ae
end WB
namespace Go.Proofs.YtjhogocabcdjbabGreatDoor
open Tryz
open Go Go.RowKit WB
def o8 (p:Nat):List Value:=[bp p]
def U3 (g:Gm):List Value:=[.int .i64 g.dto,.string (YW g)]
def vn (p:Nat×Nat) (x:Ho×Dk):HP:=sep (dy p.1 p.2 x.1) (fv p.2 x.2)
structure OB where
 hv:Value
 dv:Value
 wv:Value
 ps:List (Nat×Nat)
def Pe (V:OB) (W:Wo):List Value:=[V.hv,V.dv,V.wv,.int .i64 W.lost]
abbrev IG (v:Value) (l:List Nat):HP:=SL 29 1 o8 v l
abbrev O4 (v:Value) (l:List Nat):HP:=SL 25 1 o8 v l
abbrev GZ (v:Value) (l:List Gm):HP:=SL 258 2 U3 v l
abbrev oz (bw:Nat) (V:OB) (W:Wo) (L:List HP):List HP:=
 bI bw (.cells (Pe V W).toArray 164 (0,0))::IG V.hv (V.ps.map (·.1))::O4 V.dv (V.ps.map (·.2))::GZ V.wv W.dQ::bZ vn V.ps W.hs::L
abbrev zB:=Value×Value×Option (List (Nat×Nat))
def FH (hd:zB) (dv:Value) (ps:List (Nat×Nat)):Prop:=dv=hd.2.1/\∀l,hd.2.2=some l->ps=l
theorem FH.none{hd:zB}{dv:Value}{ps qs:List (Nat×Nat)}(h:FH hd dv ps)(hN:hd.2.2=none):FH hd dv qs:=⟨h.1,fun l hl=>by rw[hN]at hl;cases hl⟩
def kZ (bw:Nat) (hd:zB) (W:Wo):HP:=ex fun V:OB=>sep (JF (V.ps.length=W.hs.length/\V.hv=hd.1/\FH hd V.dv V.ps)) (gH (oz bw V W []))
theorem dE{w0 w:World}{bw:Nat}{hd:zB}{W:Wo}{L:List HP}(h:St w0 (kZ bw hd W::L) w):∃V:{V:OB//V.ps.length=W.hs.length/\V.hv=hd.1/\FH hd V.dv V.ps},St w0 (oz bw V.1 W L) w:=by
 obtain⟨V,h⟩:=h.Bp;obtain⟨hV,h⟩:=h.split.rf;exact⟨⟨V,hV⟩,by have :=h.splits;exact this⟩
theorem dm{w0 w:World}{bw:Nat}{hd:zB}{W:Wo}{L:List HP}(V:OB)(hV:V.ps.length=W.hs.length)(h:St w0 (oz bw V W L) w)(e8:V.hv=hd.1:=by assumption)(e9:FH hd V.dv V.ps:=by assumption):St w0 (kZ bw hd W::L) w:=
 St.zZ (F:=fun V:OB=>sep (JF (V.ps.length=W.hs.length/\V.hv=hd.1/\FH hd V.dv V.ps)) (gH (oz bw V W []))) V (St.join (St.vN ⟨hV,e8,e9⟩ (St.Em (L:=oz bw V W []) h)))
theorem Jh{w0 w:World}{bw:Nat}{hd:zB}{W:Wo}{L R:List HP}(h:St w0 L w)(hp:bF L (kZ bw hd W) R):
 ∃V:OB,V.ps.length=W.hs.length/\(∃a cap,V.hv=.slice a W.hs.length cap)/\∀i v,(Pe V W)[i]? =some v->w.cell? ⟨bw,i,none⟩=some v:=by
 obtain⟨V,h1⟩:=dE (h.pick hp);obtain⟨a,cap,h2,-⟩:=aU h1.drop;refine⟨V.1,V.2.1,⟨a,cap,by rw[h2,aW,V.2.1]⟩,fun i v hv=>?_⟩;rw[World.cell?,h1.look.2];simpa using hv
theorem gA(w0:World)(L R:List HP)(bw:Nat)(hd:zB)(W:Wo)(k:Int)(hp:bF L (kZ bw hd W) R):KE prog 78 #[bp bw,.int .i64 k] w0 L (fun u M=>u=.bool (W.is k)/\M=L):=by
 refine KE.mk (n:=16) func78 rfl ntmps78 aj ?_;intro w hw;obtain⟨V,hV,⟨ha,hc,hhv⟩,qg⟩:=Jh hw hp;have QT:w.cell? ⟨bw,0,none⟩=some (.slice ha W.hs.length hc):=by rw[<-hhv];exact qg 0 _ rfl
 refine zm ?_;by_cases h1:0<=k
 ·refine Z8 ?_;refine vD ?_;refine s9 ?_;refine CL ?_;refine Hm ?_;refine KO.fw (off:=0) rfl runUnderlying164 rfl rfl sizeOf160 rfl ?_;refine KO.on rfl rfl Dj ?_;refine KO.qM rfl rfl isAgg160 QT rfl ?_;refine kF ?_;refine KO.len rfl underlying160 rfl ?_;refine kF ?_;refine wk ?_;refine qY ?_;refine iW ?_;refine KQ.bB rfl rfl (fun w' hs=>⟨_,_,rfl,⟨?_,rfl⟩,hw.aC hs.below,hs.below⟩);unfold Wo.is;simp[h1]
 ·refine Z8 ?_;refine vD ?_;refine HV ?_;refine HZ ?_;refine wi ?_;refine iW ?_;refine KQ.bB rfl rfl (fun w' hs=>⟨_,_,rfl,⟨?_,rfl⟩,hw.aC hs.below,hs.below⟩);unfold Wo.is;simp[h1]
theorem KC.hd{P:Program}{f:FuncId}{args:Array Value}{w0:World}{L:List HP}{p:Nat×Nat}{x y:Ho×Dk}{φ:Value->Prop}(h:KC P f args w0 (dy p.1 p.2 x.1::fv p.2 x.2::L) (fun u M=>φ u/\M=dy p.1 p.2 y.1::fv p.2 y.2::L)):KC P f args w0 (vn p x::L) (fun u M=>φ u/\M=vn p y::L):=
 KC.perm (fun w hw=>hw.split) (KC.oK h (by
  rintro v M ⟨h1,rfl⟩
  exact⟨_,⟨h1,rfl⟩,fun w hw=>hw.join⟩))
theorem KC.hdD{P:Program}{f:FuncId}{args:Array Value}{w0:World}{L:List HP}{p:Nat×Nat}{x:Ho×Dk}{d:Dk}{φ:Value->Prop}(h:∀L,KC P f args w0 (fv p.2 x.2::L) (fun u M=>φ u/\M=fv p.2 d::L)):KC P f args w0 (vn p x::L) (fun u M=>φ u/\M=vn p (x.1,d)::L):=
 KC.perm (fun w hw=>hw.split.f_) (KC.oK (h (dy p.1 p.2 x.1::L)) (by
  rintro v M ⟨h1,rfl⟩
  exact⟨_,⟨h1,rfl⟩,fun w hw=>hw.f_.join⟩))
theorem KC.Yr{P:Program}{f:FuncId}{args:Array Value}{w0:World}{L:List HP}{p:Nat×Nat}{x:Ho×Dk}{y:Ho}{φ:Value->Prop}(h:∀L,KC P f args w0 (dy p.1 p.2 x.1::L) (fun u M=>φ u/\M=dy p.1 p.2 y::L)):KC P f args w0 (vn p x::L) (fun u M=>φ u/\M=vn p (y,x.2)::L):=
 KC.perm (fun w hw=>hw.split) (KC.oK (h (fv p.2 x.2::L)) (by
  rintro v M ⟨h1,rfl⟩
  exact⟨_,⟨h1,rfl⟩,fun w hw=>hw.join⟩))
theorem xl{W:Wo}{k:Nat}{x:Ho×Dk}(h:W.hs[k]? =some x):W.H k=x.1/\W.D k=x.2:=by
 unfold Wo.H Wo.D Wo.at';rw[aq,h];exact⟨rfl,rfl⟩
theorem Lx{W:Wo}{k:Int}(h:W.is k=true):∃j:Nat,k=(j:Int)/\j<W.hs.length:=by
 unfold Wo.is at h;simp only[decide_eq_true_eq]at h;exact⟨k.toNat,by omega,by omega⟩
theorem Tq(w0:World)(L:List HP)(bw c kb:Nat)(hd:zB)(W:Wo)(k n t:Int)(hB:dC c kb W):
 KC prog 73 #[bp bw,.int .i64 k,.int .i64 n,.int .i64 t] w0 (kZ bw hd W::L) (fun u M=>u=cI 70 (Aq W k)/\M=kZ bw hd (FZ W k n t)::L):=by
 unfold Aq FZ;refine KC.mk (n:=32) func73 rfl ntmps73 aj ?_;refine zm ?_;cases hk:W.is k with
 |false=>
  refine iX ?_;refine KO.ce (cp:=[]) rfl rfl rfl call78 rfl (gA w0 _ _ bw hd W k bQ) ?_;rintro v' L' ⟨rfl,rfl⟩;rw[hk];refine oV ?_;refine Ac ?_;refine rO ?_;refine KQ.bB rfl rfl (fun w' aT=>⟨_,_,rfl,⟨rfl,rfl⟩,aT⟩)
 |true=>
  obtain⟨j,rfl,hj⟩:=Lx hk;refine iX ?_;refine KO.ce (cp:=[]) rfl rfl rfl call78 rfl (gA w0 _ _ bw hd W (j:Int) bQ) ?_;rintro v' L' ⟨rfl,rfl⟩;rw[hk];refine Fm ?_;refine K.cq (fun _ h=>dE h) ?_;rintro⟨V,hV,e8,e9⟩;dsimp only;obtain⟨x,hx⟩:∃e,W.hs[j]? =some e:=⟨_,ao hj⟩;obtain⟨p,hp⟩:∃e,V.ps[j]? =some e:=⟨_,ao ae⟩;obtain⟨eH,eD⟩:=xl hx;have vU:=hB.hs j x hx;have mH:(V.ps.map (·.1))[j]? =some p.1:=by rw[aG,hp];rfl
  have kB:(V.ps.map (·.2))[j]? =some p.2:=by rw[aG,hp];rfl
  obtain⟨hv,dv,wv,ps⟩:=V;dsimp only at hp mH kB hV ⊢;refine K.fact (fun w hw=>aU (hw.pick (A:=IG hv (ps.map (·.1))) bn)) ?_
  rintro⟨a1,c1,rfl,qP⟩;refine K.fact (fun w hw=>aU (hw.pick (A:=O4 dv (ps.map (·.2))) bn)) ?_
  rintro⟨a2,c2,rfl,Nf⟩;obtain⟨g1,rfl⟩:=qP lO;obtain⟨g2,rfl⟩:=Nf lO;refine Z8 ?_;refine VK ?_;refine Z1 ?_;refine Z94 ?_;refine Z1 ?_;refine KO.cl (cp:=[]) rfl rfl rfl call18 rfl (KC.lW (φ:=fun u=>u=.tuple #[]) hp hx bn (fun L=>KC.hdD (fun L=>NG w0 L p.2 x.2 n vU.len))) ?_;rintro v' L' ⟨rfl,rfl⟩;refine Z0 ?_;have Eu:(W.hs.set j (x.1,cu x.2 n))[j]? =some (x.1,cu x.2 n):=List.getElem?_set_self hj;refine Z8 ?_;refine Xd ?_;refine Z1 ?_;refine ZK ?_;refine Z1 ?_;refine KO.cl (cp:=[]) rfl rfl rfl call19 rfl (KC.lW (φ:=fun u=>u=.tuple #[]) hp Eu bQ (fun L=>KC.Yr (fun L=>Qq w0 L p.1 p.2 x.1 t))) ?_;rintro v' L' ⟨rfl,rfl⟩;rw[List.set_set];refine pP ?_;refine KQ.bB rfl rfl (fun w' aT=>⟨_,_,rfl,⟨rfl,rfl⟩,?_⟩);rw[if_pos rfl,aE,eH,eD];exact dm ⟨_,_,wv,ps⟩ Y15 (aT.all Y7)
theorem Sg(w0:World)(L:List HP)(bw c kb:Nat)(hd:zB)(hN:hd.2.2=none)(W:Wo)(k:Int)(hT:o0 w0)(hM:o2 w0)(hB:dC c kb W)(hK:kb<=1000000000000):
 KC prog 74 #[bp bw,.int .i64 k] w0 (kZ bw hd W::L) (fun u M=>u=cI 70 (Aq W k)/\M=kZ bw hd (OQ W k)::L):=by
 unfold Aq OQ;have vX:=hB.n1;refine KC.mk (n:=36) func74 rfl ntmps74 aj ?_;refine zm ?_;cases hk:W.is k with
 |false=>
  refine iX ?_;refine KO.ce (cp:=[]) rfl rfl rfl call78 rfl (gA w0 _ _ bw hd W k bQ) ?_;rintro v' L' ⟨rfl,rfl⟩;rw[hk];refine oV ?_;refine Ac ?_;refine rO ?_;refine KQ.bB rfl rfl (fun w' aT=>⟨_,_,rfl,⟨rfl,rfl⟩,aT⟩)
 |true=>
  obtain⟨j,rfl,hj⟩:=Lx hk;refine iX ?_;refine KO.ce (cp:=[]) rfl rfl rfl call78 rfl (gA w0 _ _ bw hd W (j:Int) bQ) ?_;rintro v' L' ⟨rfl,rfl⟩;rw[hk];refine Fm ?_;refine K.cq (fun _ h=>dE h) ?_;rintro⟨V,hV,e8,e9⟩;dsimp only;obtain⟨x,hx⟩:∃e,W.hs[j]? =some e:=⟨_,ao hj⟩;obtain⟨p,hp⟩:∃e,V.ps[j]? =some e:=⟨_,ao ae⟩;obtain⟨eH,eD⟩:=xl hx;have vU:=hB.hs j x hx;have hcB:=vU.cut (n:= -1) ae;have mH:(V.ps.map (·.1))[j]? =some p.1:=by rw[aG,hp];rfl
  have kB:(V.ps.map (·.2))[j]? =some p.2:=by rw[aG,hp];rfl
  obtain⟨hv,dv,wv,ps⟩:=V;dsimp only at hp mH kB hV ⊢;refine K.fact (fun w hw=>aU (hw.pick (A:=IG hv (ps.map (·.1))) bn)) ?_
  rintro⟨a1,c1,rfl,qP⟩;refine K.fact (fun w hw=>aU (hw.pick (A:=O4 dv (ps.map (·.2))) bn)) ?_
  rintro⟨a2,c2,rfl,Nf⟩;obtain⟨g1,rfl⟩:=qP lO;obtain⟨g2,rfl⟩:=Nf lO;have Eu:(W.hs.set j (x.1,cu x.2 (-1)))[j]? =some (x.1,cu x.2 (-1)):=List.getElem?_set_self hj;refine Z8 ?_;refine VK ?_;refine Z1 ?_;refine Z94 ?_;refine KO.cl (cp:=[]) rfl rfl rfl call18 rfl (KC.lW (φ:=fun u=>u=.tuple #[]) hp hx bn (fun L=>KC.hdD (fun L=>NG w0 L p.2 x.2 (-1) vU.len))) ?_;rintro v' L' ⟨rfl,rfl⟩;refine Z0 ?_;refine K.conv (fun w hw=>dj hp Eu (hw.pick (A:=bZ vn ps (W.hs.set j (x.1,cu x.2 (-1)))) bQ)) ?_
  refine K.conv (fun w hw=>(hw.pick (A:=vn p (x.1,cu x.2 (-1))) .head).split) ?_
  refine K.I1 [.pure,.pure,.pure,.read,.pure,.pure,.pure,.pure,.pure,.read,.pure,.pure,.read,.write,.pure,.pure,.pure,.pure,.write] [(3,13)] [[0,1,2,3,4,5,6,7,8,9,10,11,12,13,14,15,16,17,18],[0,1,2,4,5,6,7,8,9,10,11,12,13,3,14,15,16,17,18]] bC bC bC ⟨?_,?_,trivial⟩
  focus
   show KO _ _ _ _ _ _ _ _ _ _
   refine Z1 ?_;refine Xd ?_;refine oZ ?_;refine ZG ?_;refine Ja ?_;refine Z1 ?_;refine Z94 ?_;refine KO.cl (cp:=[]) rfl rfl rfl call11 rfl (KC.oN bn (Cj w0 _ p.2 (j:Int) (cu x.2 (-1)) hT hM ⟨by omega,by omega⟩ (hcB.ok hK))) ?_;rintro v' L' ⟨bh,rfl,rfl⟩;refine Fh ?_;refine ZU ?_;refine Z0 ?_
  rotate_left
  focus
   show KO _ _ _ _ _ _ _ _ _ _
   refine Z1 ?_;refine RY ?_;refine oZ ?_;refine ZG ?_;refine Ja ?_;refine Z1 ?_;refine Z94 ?_;refine KO.cl (cp:=[]) rfl rfl rfl call11 rfl (KC.oN bn (Cj w0 _ p.2 (j:Int) (cu x.2 (-1)) hT hM ⟨by omega,by omega⟩ (hcB.ok hK))) ?_;rintro v' L' ⟨bh,rfl,rfl⟩;refine KO.db (i:=0) rfl rfl isAgg160 bn rfl rfl rfl ?_;refine Fh ?_;refine ZU ?_;refine Z0 ?_
  rotate_left
  all_goals (
   refine C4 ?_;refine KQ.bB rfl rfl (fun w' aT=>⟨_,_,rfl,⟨rfl,rfl⟩,?_⟩);rw[if_pos rfl,aE];unfold AJ;rw[eD];have e1:(ps.set j (bh,p.2)).map (·.1)=(ps.map (·.1)).set j bh:=List.map_set
   have e2:(ps.set j (bh,p.2)).map (·.2)=ps.map (·.2):=by rw[List.map_set];exact List.gE kB
   have h1:St w0 (vn (bh,p.2) (iQ (j:Int) (cu x.2 (-1)),cu x.2 (-1))::bZ vn (ps.eraseIdx j) ((W.hs.set j (x.1,cu x.2 (-1))).eraseIdx j)::IG (.slice (some ⟨g1,0,none⟩) (ps.map (·.1)).length c1) ((ps.map (·.1)).set j bh)::O4 (.slice (some ⟨g2,0,none⟩) (ps.map (·.2)).length c2) (ps.map (·.2))::GZ wv W.dQ::bI bw (.cells (Pe ⟨.slice (some ⟨g1,0,none⟩) (ps.map (·.1)).length c1,.slice (some ⟨g2,0,none⟩) (ps.map (·.2)).length c2,wv,ps⟩ W).toArray 164 (0,0))::L) w':=by
    have h2:St w0 (dy bh p.2 (iQ (j:Int) (cu x.2 (-1)))::fv p.2 (cu x.2 (-1))::_) w':=aT.all (M:=dy bh p.2 (iQ (j:Int) (cu x.2 (-1)))::fv p.2 (cu x.2 (-1))::bZ vn (ps.eraseIdx j) ((W.hs.set j (x.1,cu x.2 (-1))).eraseIdx j)::IG (.slice (some ⟨g1,0,none⟩) (ps.map (·.1)).length c1) ((ps.map (·.1)).set j bh)::O4 (.slice (some ⟨g2,0,none⟩) (ps.map (·.2)).length c2) (ps.map (·.2))::GZ wv W.dQ::bI bw (.cells (Pe ⟨.slice (some ⟨g1,0,none⟩) (ps.map (·.1)).length c1,.slice (some ⟨g2,0,none⟩) (ps.map (·.2)).length c2,wv,ps⟩ W).toArray 164 (0,0))::L) Y5
    exact h2.join
   have h3:=ic (f:=vn) (ps:=ps) (xs:=W.hs.set j (x.1,cu x.2 (-1))) (i:=j) (p:=(bh,p.2)) (x:=(iQ (j:Int) (cu x.2 (-1)),cu x.2 (-1))) ae (by rw[List.length_set];exact hj) h1;rw[List.set_set]at h3;refine dm ⟨.slice (some ⟨g1,0,none⟩) (ps.map (·.1)).length c1,.slice (some ⟨g2,0,none⟩) (ps.map (·.2)).length c2,wv,ps.set j (bh,p.2)⟩ (by dsimp only[Wo.cy];rw[List.length_set,List.length_set];exact hV) ?_ (e9:=e9.none hN)
   unfold oz;dsimp only;rw[e1,e2]
   exact h3.all Y7)
theorem Lw(w0:World)(L:List HP)(bw:Nat)(hd:zB)(W:Wo)(g:Gm)(J7:W.dQ.length<=100)(IK:0<=W.lost/\W.lost<=1000000000000):
 KC prog 167 #[bp bw,.agg (U3 g).toArray] w0 (kZ bw hd W::L) (fun u M=>u=.tuple #[]/\M=kZ bw hd (tx W g)::L):=by
 unfold tx;refine KC.mk (n:=27) func167 rfl ntmps167 aj ?_;refine oW ?_;refine K.cq (fun _ h=>dE h) ?_;rintro⟨V,hV,e8,e9⟩;dsimp only;obtain⟨hv,dv,wv,ps⟩:=V;dsimp only at hV ⊢;refine K.fact (fun w hw=>aU (hw.pick (A:=GZ wv W.dQ) bn)) ?_;rintro⟨a3,c3,XM,UG⟩;refine dM ?_;refine KO.box rfl rfl aP rfl ?_;intro b3;refine Z0 ?_;refine kX ?_;refine Te ?_;refine KO.db (i:=2) rfl rfl isAgg162 bn rfl rfl rfl ?_;rw[XM];refine CX ?_;refine vD ?_;refine Z2 ?_;refine K.br rfl (fun h1=>?_) (fun h1=>?_)
 ·rw[if_pos ae];refine Z3 ?_;refine lq ?_;refine KO.fw (off:=3) rfl runUnderlying164 rfl rfl sizeOf3 rfl ?_;refine KO.db (i:=3) rfl rfl isAgg3 bn rfl rfl rfl ?_;refine Ht ?_;refine KO.fw (off:=3) rfl runUnderlying164 rfl rfl sizeOf3 rfl ?_;refine KO.fX (i:=3) rfl rfl rfl rfl zM rfl bn rfl Xf ?_;refine Z4 ?_;refine KQ.TG rfl (fun w' aT=>⟨_,_,rfl,⟨rfl,rfl⟩,dm ⟨_,dv,_,ps⟩ hV (aT.all Y5)⟩)
 ·rw[if_neg ae];refine FD ?_;rw[<-XM];refine K.draw [.pure,.pure,.pure,.pure,.read,.read,.c7,.write,.pure,.pure,.write] [0,1,2,3,4,5,6,7,8,9,10] bC bC ?_;refine rP ?_;refine Te ?_;refine KO.db (i:=2) rfl rfl isAgg162 bn rfl rfl rfl ?_;refine KO.vT rfl rfl isAgg258 sizeOf258 bQ aP rfl ?_;refine KO.kL (z:=(Value.agg #[.int .i64 0,.string ⟨#[]⟩])) (sz:=2) (dI:=24) rfl rfl underlying162 bC aP aP ai ai rfl ?_;intro pM;refine KO.app (cf:=U3) (z:=Value.agg #[.int .i64 0,.string ⟨#[]⟩]) (sz:=2) (dI:=24) (xs:=W.dQ) rfl rfl rfl bn .head underlying162 bC aP g rfl rfl rfl ae ai rfl ?_;intro v24;refine KO.fact (fun _ hs=>aU hs) ?_;rintro⟨a24,k24,XR,-⟩;refine kr ?_;refine Te ?_;refine KO.fX (i:=2) rfl rfl rfl (by rw[XR];rfl) (by exact sizeOf162) (by rw[XR];rfl) bn rfl Xf ?_;refine KO.nil ?_;refine KQ.jr rfl (fun w' aT=>⟨_,_,rfl,⟨rfl,rfl⟩,dm ⟨hv,dv,v24,ps⟩ hV (aT.all Y5)⟩)
theorem Ib(w0:World)(L:List HP)(A:HP)(bw:Nat)(hd:zB)(W:Wo)(dst:Int)(f:Fr)(v:Value)(l:List Ms)(hT:o0 w0)(hA:∀w R,St w0 (A::R) w->vE w 5 dh v l)(dr:∀m∈l,m.body.size<=maxLen/\m.queue.size<=maxLen)(J7:W.dQ.length<=100)(IK:0<=W.lost/\W.lost<=1000000000000):
 KC prog 164 #[bp bw,.int .i64 dst,.agg (Za f v).toArray] w0 (kZ bw hd W::A::L) (fun u M=>u=.tuple #[]/\M=kZ bw hd (j0 W dst f l)::A::L):=by
 unfold j0;refine KC.mk (n:=20) func164 rfl ntmps164 aj ?_;refine Z3 ?_;refine KO.box rfl rfl aP rfl ?_;intro b5;refine wA ?_;refine VE ?_;refine KO.ce (cp:=[]) rfl rfl rfl call264 rfl (YY w0 _ f v l (fun w' hw'=>hA w' _ (hw'.pick (A:=A) bn)) hT dr) ?_;rintro v' L' ⟨rfl,rfl⟩;refine jR ?_;refine HJ ?_;by_cases jY:okF f l
 ·obtain⟨e1,e2⟩:=IV jY;rw[e1,e2,if_pos jY];refine uJ ?_;refine Z8 ?_;refine lK ?_;refine KO.wh (pl:=[(0,1),(1,1)]) rfl zeroValue258 runUnderlying258 Y20 aP rfl ?_;refine KO.cl (cp:=[]) rfl rfl rfl call167 rfl (KC.oN bn (Lw w0 _ bw hd W ⟨dst,f,l⟩ J7 IK)) ?_;rintro v' L' ⟨rfl,rfl⟩;refine KO.nil ?_;refine KQ.jr rfl (fun w' aT=>⟨_,_,rfl,⟨rfl,rfl⟩,aT.all Y5⟩)
 ·obtain⟨e1,e2⟩:=oj jY;rw[e1,if_neg jY];refine wm ?_;refine CW ?_;refine KQ.jr rfl (fun w' aT=>⟨_,_,rfl,⟨rfl,rfl⟩,aT.all Y5⟩)
theorem IT:(prog.info? 258).map (fun i=>(i.zero,i.size,i.bytes))=some (some (Value.agg #[.int .i64 0,.string ⟨#[]⟩]),2,24):=by kernel_rfl
theorem Q7(x:Gm):(U3 x).all Value.oneCell'=true:=rfl
theorem Np(w0:World)(L:List HP)(v:Value)(xs:List Gm)(k:Nat)(hk:k<xs.length)(hn:xs.length<1000000):
 KC prog 165 #[v,.int .i64 (k:Nat),.int .i64 ((k:Int)+1)] w0 (GZ v xs::L) (fun v' L'=>L'=GZ v' (xs.eraseIdx k)::L):=by
 refine KC.pre (fun w hw=>qw hw hk) ?_;rintro⟨g,cap,rfl⟩;refine KC.pre (fun w hw=>(gp hw).2.1) fun vf=>?_
 refine KC.mk (n:=33) func165 rfl ntmps165 aj ?_;refine oX ?_;refine oZ ?_;refine CX ?_;refine KO.G8 (lo:=k) (hi:=k+1) (mx:=xs.length) rfl rfl rfl rfl underlying162 sizeOf258 rfl ae rfl ae ae ae rfl (fun q13=>?_);refine Z0 ?_;refine iX ?_;refine uK ?_;refine K.da rfl fx ?_;refine wq ?_;refine CX ?_;refine V5 ?_;refine lK ?_;refine KO.Bv rfl rfl underlying162 sizeOf258 aP ae rfl ?_;refine lK ?_;refine KO.cutFrom (lo:=k+1) rfl rfl underlying162 sizeOf258 ae ae ae rfl ?_;refine KO.move (j:=k+1) rfl rfl rfl bF.head rfl vf underlying162 IT (fun _=>rfl) Q7 ae ae rfl ?_;refine lL ?_;refine Z1 ?_;refine CX ?_;refine Z1 ?_;refine KO.G7 (lo:=k+(xs.length-(k+1))) (hi:=xs.length) rfl rfl rfl underlying162 sizeOf258 rfl rfl ae ae rfl ?_;refine KO.clear rfl rfl bF.head vf fx fx underlying162 IT (fun _=>rfl) rfl rfl ?_;refine Fi ?_;refine iW ?_;refine KQ.bB rfl rfl (fun w' hs=>⟨_,_,rfl,rfl,?_⟩);have e:(List.take (k+(xs.length-(k+1))) (List.take k xs++List.drop (k+1) xs++List.drop (k+(xs.length-(k+1))) xs))=xs.eraseIdx k:=by
  rw[List.take_append_of_le_length fx,List.take_of_length_le fx,List.eraseIdx_eq_take_drop_succ]
 rw[e]at hs;exact hs
theorem Xn(w0:World)(L:List HP)(bw c kb:Nat)(hd:zB)(W:Wo)(i:Int)(hB:dC c kb W):
 KC prog 71 #[bp bw,.int .i64 i] w0 (kZ bw hd W::L) (fun u M=>u=cI 70 (FY W i)/\M=kZ bw hd (Qb W i)::L):=by
 have J7:=hB.wl;unfold Qb FY;refine KC.mk (n:=28) func71 rfl ntmps71 aj ?_;refine oW ?_;refine K.cq (fun _ h=>dE h) ?_;rintro⟨V,hV,e8,e9⟩;dsimp only;obtain⟨hv,dv,wv,ps⟩:=V;dsimp only at hV ⊢;refine K.fact (fun w hw=>aU (hw.pick (A:=GZ wv W.dQ) bn)) ?_;rintro⟨a3,c3,rfl,UG⟩;refine dM ?_;refine kE ?_;by_cases h1:0<=i
 ·refine HX ?_;refine CL ?_;refine kr ?_;refine KO.on rfl rfl Dj ?_;refine KO.fw (off:=2) rfl runUnderlying164 rfl rfl sizeOf162 rfl ?_;refine KO.on rfl rfl Dj ?_;refine KO.db (i:=2) rfl rfl isAgg162 bQ rfl rfl rfl ?_;refine kF ?_;refine CX ?_;refine kF ?_;refine Aj ?_;refine Z2 ?_;refine K.br rfl (fun h2=>?_) (fun h2=>?_)
  ·rw[if_neg ae,if_neg ai];refine rO ?_;refine KQ.bB rfl rfl (fun w' aT=>⟨_,_,rfl,⟨rfl,rfl⟩,dm ⟨hv,dv,_,ps⟩ hV (aT.all nI)⟩)
  ·have h3:i<(W.dQ.length:Int):=by omega
   rw[if_pos ⟨h1,h3⟩,if_pos rfl];obtain⟨j,rfl⟩:∃j:Nat,i=(j:Int):=⟨i.toNat,by omega⟩;refine Z6 ?_;refine nD ?_;refine RS ?_;refine lK ?_;refine xc ?_;refine KO.cl (cp:=[]) rfl rfl rfl call165 rfl (KC.oN bn (Np w0 _ _ W.dQ j ae ae)) ?_;rintro v25 L' rfl;refine KO.fact (fun _ hs=>aU hs) ?_;rintro⟨a25,SC,rfl,-⟩;refine kr ?_;refine Te ?_;refine KO.fX (i:=2) rfl rfl rfl rfl (by exact sizeOf162) rfl bn rfl Xf ?_;refine pP ?_;refine KQ.bB rfl rfl (fun w' aT=>⟨_,_,rfl,⟨rfl,rfl⟩,?_⟩);rw[aE];exact dm ⟨hv,dv,.slice a25 (W.dQ.eraseIdx j).length SC,ps⟩ hV (aT.all Y7)
 ·refine wD ?_;refine HV ?_;refine HZ ?_;refine HH ?_;rw[if_neg ae,if_neg ai];refine K.cL rfl (by simp <;>omega) ?_;refine rO ?_;refine KQ.bB rfl rfl (fun w' aT=>⟨_,_,rfl,⟨rfl,rfl⟩,dm ⟨hv,dv,_,ps⟩ hV (aT.all nI)⟩)
theorem Xm(w0:World)(L:List HP)(bw c kb:Nat)(hd:zB)(W:Wo)(i:Int)(hB:dC c kb W)(hK:kb<=1000000000000):
 KC prog 72 #[bp bw,.int .i64 i] w0 (kZ bw hd W::L) (fun u M=>u=cI 70 (FY W i)/\M=kZ bw hd (Pm W i)::L):=by
 have J7:=hB.wl;have IK:=hB.lost;unfold Pm FY;refine KC.mk (n:=26) func72 rfl ntmps72 aj ?_;refine oW ?_;refine K.cq (fun _ h=>dE h) ?_;rintro⟨V,hV,e8,e9⟩;dsimp only;obtain⟨hv,dv,wv,ps⟩:=V;dsimp only at hV ⊢;refine K.fact (fun w hw=>aU (hw.pick (A:=GZ wv W.dQ) bn)) ?_;rintro⟨a3,c3,rfl,UG⟩;refine dM ?_;refine kE ?_;by_cases h1:0<=i
 ·refine HX ?_;refine CL ?_;refine kr ?_;refine KO.on rfl rfl Dj ?_;refine KO.fw (off:=2) rfl runUnderlying164 rfl rfl sizeOf162 rfl ?_;refine KO.on rfl rfl Dj ?_;refine KO.db (i:=2) rfl rfl isAgg162 bQ rfl rfl rfl ?_;refine kF ?_;refine CX ?_;refine kF ?_;refine Aj ?_;refine Z2 ?_;refine K.br rfl (fun h2=>?_) (fun h2=>?_)
  ·rw[if_neg ae,if_neg ai];refine rO ?_;refine KQ.bB rfl rfl (fun w' aT=>⟨_,_,rfl,⟨rfl,rfl⟩,dm ⟨hv,dv,_,ps⟩ hV (aT.all nI)⟩)
  ·have h3:i<(W.dQ.length:Int):=by omega
   rw[if_pos ⟨h1,h3⟩,if_pos rfl];obtain⟨j,rfl⟩:∃j:Nat,i=(j:Int):=⟨i.toNat,by omega⟩;obtain⟨g3,rfl⟩:=UG ae;have hg:W.dQ[j]? =some (yH W j):=oi ae;rw[aE];refine Z6 ?_;refine nD ?_;refine RS ?_;refine Zx ?_;refine KO.vS (i:=j) (sz:=2) (cf:=U3) (e:=yH W j) rfl rfl isAgg258 sizeOf258 bn (fun _=>rfl) hg rfl ?_;refine KO.conv (fun w hw=>dm ⟨hv,dv,.slice (some ⟨g3,0,none⟩) W.dQ.length c3,ps⟩ hV (hw.all (M:=oz bw ⟨hv,dv,.slice (some ⟨g3,0,none⟩) W.dQ.length c3,ps⟩ W L) nI)) ?_
   refine KO.cl (cp:=[]) rfl rfl rfl call167 rfl (KC.oN bQ (Lw w0 _ bw hd W (yH W j) J7 ⟨IK.1,by omega⟩)) ?_;rintro v' L' ⟨rfl,rfl⟩;refine pP ?_;refine KQ.bB rfl rfl (fun w' aT=>⟨_,_,rfl,⟨rfl,rfl⟩,aT⟩)
 ·refine wD ?_;refine HV ?_;refine HZ ?_;refine HH ?_;rw[if_neg ae,if_neg ai];refine K.cL rfl (by simp <;>omega) ?_;refine rO ?_;refine KQ.bB rfl rfl (fun w' aT=>⟨_,_,rfl,⟨rfl,rfl⟩,dm ⟨hv,dv,_,ps⟩ hV (aT.all nI)⟩)
theorem KC.Rj{α β γ:Type}{f:α->β->HP}{P:Program}{g:FuncId}{args:Array Value}{w0:World}{L R:List HP}{ps:List α}{xs:List β}{p:α}{x y:β}{i:Nat}{φ:γ->Value->Prop}{A:γ->HP}(hp:ps[i]? =some p)(hx:xs[i]? =some x)(pk:bF L (bZ f ps xs) R)(h:∀L,KC P g args w0 (f p x::L) (fun u M=> ∃c,φ c u/\M=A c::f p y::L)):
 KC P g args w0 L (fun u M=> ∃c,φ c u/\M=A c::bZ f ps (xs.set i y)::R):=
 KC.perm (L':=f p x::bZ f (ps.eraseIdx i) (xs.eraseIdx i)::R) (fun w hw=>dj hp hx (hw.pick pk)) (KC.oK (h _) (by
  rintro v M ⟨c,h1,rfl⟩
  exact⟨_,⟨c,h1,rfl⟩,fun w hw=>(w6 hp (au.1 hx).1 ((hw.pick (A:=f p y) (.tail .head)).fA .head (.tail .head))).f_⟩))
theorem KC.adv{α β:Type}{f:α->β->HP}{P:Program}{g:FuncId}{args:Array Value}{w0:World}{L R R1:List HP}{A:HP}{ps:List α}{xs:List β}{p:α}{x y:β}{i:Nat}{φ:Value->Prop}(hp:ps[i]? =some p)(hx:xs[i]? =some x)(pk:bF L A R1)(Mc:bF R1 (bZ f ps xs) R)(h:∀L,KC P g args w0 (f p x::A::L) (fun u M=>φ u/\M=f p y::A::L)):
 KC P g args w0 L (fun u M=>φ u/\M=bZ f ps (xs.set i y)::A::R):=
 KC.perm (L':=f p x::A::bZ f (ps.eraseIdx i) (xs.eraseIdx i)::R) (fun w hw=>((dj hp hx ((hw.fA pk Mc).f_)).fA .head (.tail .head))) (KC.oK (h _) (by
  rintro v M ⟨h1,rfl⟩
  exact⟨_,⟨h1,rfl⟩,fun w hw=>w6 hp (au.1 hx).1 (hw.fA .head (.tail .head))⟩))
theorem IQ{c kb k:Nat}{x:Ho×Dk}(h:kM c kb k x)(hc:c<=4000):cF 79600 x.1:=h.B.le (by have :=h.B.used;omega)
theorem KF{c kb k:Nat}{x:Ho×Dk}(h:kM c kb k x)(dst:Int):∀m∈Ab x.1 x.2 dst,bM m=true:=fun m hm=>by
 unfold Ab at hm;split at hm
 ·exact DQ (h.bt dst).ways _ m (aB.1 hm).1
 ·cases hm
theorem Sf(w0:World)(L:List HP)(bw c kb:Nat)(hd:zB)(W:Wo)(k dst:Int)(hT:o0 w0)(hM:o2 w0)(hB:dC c kb W)(hK:kb<=1000000000)(hc:c<=4000):
 KC prog 69 #[bp bw,.int .i64 k,.int .i64 dst] w0 (kZ bw hd W::L) (fun u M=>u=cI 70 (F6 W k dst)/\M=kZ bw hd (DK W k dst)::L):=by
 have J7:=hB.wl;have IK:=hB.lost;unfold DK;refine KC.mk (n:=44) func69 rfl ntmps69 aj ?_;refine zm ?_;have early:¬(W.is k=true/\W.is dst=true)->F6 W k dst=2:=fun h=>by unfold F6;rw[if_neg h]
 cases hk:W.is k with
 |false=>
  rw[early Wf,if_neg aj];refine iX ?_;refine KO.ce (cp:=[]) rfl rfl rfl call78 rfl (gA w0 _ _ bw hd W k bQ) ?_;rintro v' L' ⟨rfl,rfl⟩;rw[hk];refine oV ?_;refine CY ?_;refine uQ ?_;refine rO ?_;refine KQ.bB rfl rfl (fun w' aT=>⟨_,_,rfl,⟨rfl,rfl⟩,aT⟩)
 |true=>
  cases zJ:W.is dst with
  |false=>
   rw[early (by rw[zJ];simp),if_neg aj];refine iX ?_;refine KO.ce (cp:=[]) rfl rfl rfl call78 rfl (gA w0 _ _ bw hd W k bQ) ?_;rintro v' L' ⟨rfl,rfl⟩;rw[hk];refine oV ?_;refine KU ?_;refine Z1 ?_;refine KO.on rfl rfl rfl ?_;refine KO.ce (cp:=[]) rfl rfl rfl call78 rfl (gA w0 _ _ bw hd W dst bQ) ?_;rintro v' L' ⟨rfl,rfl⟩;rw[zJ];refine uL ?_;refine Ac ?_;refine rO ?_;refine KQ.bB rfl rfl (fun w' aT=>⟨_,_,rfl,⟨rfl,rfl⟩,aT⟩)
  |true=>
   rw[if_pos ⟨rfl,rfl⟩];have eS:F6 W k dst=uD (W.H k.toNat) (W.D k.toNat) dst:=by unfold F6;rw[if_pos ⟨hk,zJ⟩]
   refine iX ?_;refine KO.ce (cp:=[]) rfl rfl rfl call78 rfl (gA w0 _ _ bw hd W k bQ) ?_;rintro v' L' ⟨rfl,rfl⟩;rw[hk];refine oV ?_;refine KU ?_;refine Z1 ?_;refine KO.on rfl rfl rfl ?_;refine KO.ce (cp:=[]) rfl rfl rfl call78 rfl (gA w0 _ _ bw hd W dst bQ) ?_;rintro v' L' ⟨rfl,rfl⟩;rw[zJ];refine uL ?_;refine rT ?_;obtain⟨j,rfl,hj⟩:=Lx hk;refine K.cq (fun _ h=>dE h) ?_;rintro⟨V,hV,e8,e9⟩;dsimp only;obtain⟨x,hx⟩:∃e,W.hs[j]? =some e:=⟨_,ao hj⟩;obtain⟨p,hp⟩:∃e,V.ps[j]? =some e:=⟨_,ao ae⟩;obtain⟨eH,eD⟩:=xl hx;have vU:=hB.hs j x hx;have gP:=IQ vU hc;have mH:(V.ps.map (·.1))[j]? =some p.1:=by rw[aG,hp];rfl
   obtain⟨hv,dv,wv,ps⟩:=V;dsimp only at hp mH hV ⊢;refine K.fact (fun w hw=>aU (hw.pick (A:=IG hv (ps.map (·.1))) bn)) ?_
   rintro⟨a1,c1,rfl,qP⟩;obtain⟨g1,rfl⟩:=qP lO;refine Z8 ?_;refine RY ?_;refine KO.db (i:=0) rfl rfl isAgg160 bQ rfl rfl rfl ?_;refine Z1 ?_;refine ZK ?_;refine Z1 ?_;refine KO.cl (cp:=[]) rfl rfl rfl call35 rfl (KC.Rj (φ:=fun v u=>u=.tuple #[.int .i64 (I6 x.1 x.2 dst),v,cI 70 (uD x.1 x.2 dst)]) (A:=fun v=>SL 44 5 dh v (Ab x.1 x.2 dst)) (y:=(mJ x.1 x.2 dst,tk x.1 x.2 dst)) hp hx bn (fun L=>(KC.perm (fun w hw=>hw.split) (KC.oK (Nn w0 L p.1 p.2 79600 x.1 x.2 dst hT hM gP ae vU.len ⟨by have :=vU.left;omega,by have :=vU.left;omega⟩) (by rintro v M ⟨c,h1,rfl⟩;exact⟨_,⟨c,h1,rfl⟩,fun w hw=>((hw.fA (A:=dy p.1 p.2 (mJ x.1 x.2 dst)) (B:=fv p.2 (tk x.1 x.2 dst)) (.tail .head) (.tail .head)).join).f_⟩))))) ?_;rintro v' L' ⟨vl,rfl,rfl⟩;refine KO.fact (fun _ hs=>aU hs) ?_;rintro⟨av,kv,rfl,-⟩;refine Fh ?_;refine rS ?_;refine lY ?_;refine kE ?_;have e1:q_ W (j:Int) dst=W.cy j (mJ x.1 x.2 dst,tk x.1 x.2 dst):=by unfold q_;rw[aE,eH,eD]
   rw[eS,e1,aE,eH,eD];refine K.conv (fun w hw=>dm (W:=W.cy j (mJ x.1 x.2 dst,tk x.1 x.2 dst)) ⟨.slice (some ⟨g1,0,none⟩) (ps.map (·.1)).length c1,dv,wv,ps⟩ Y15 (hw.all (M:=bI bw (.cells (Pe ⟨.slice (some ⟨g1,0,none⟩) (ps.map (·.1)).length c1,dv,wv,ps⟩ W).toArray 164 (0,0))::IG (.slice (some ⟨g1,0,none⟩) (ps.map (·.1)).length c1) (ps.map (·.1))::O4 dv (ps.map (·.2))::GZ wv W.dQ::bZ vn ps (W.hs.set j (mJ x.1 x.2 dst,tk x.1 x.2 dst))::SL 44 5 dh (.slice av (Ab x.1 x.2 dst).length kv) (Ab x.1 x.2 dst)::L) Y7)) ?_
   refine Z8 ?_;refine R6 ?_;by_cases he:uD x.1 x.2 dst=0
   ·rw[if_pos he,he];refine wm ?_;refine wq ?_;refine lK ?_;refine lK ?_;refine RC ?_;refine KO.cl (cp:=[]) rfl rfl rfl call164 rfl (KC.Mc bQ bQ (Ib w0 _ (SL 44 5 dh (.slice av (Ab x.1 x.2 dst).length kv) (Ab x.1 x.2 dst)) bw hd (W.cy j (mJ x.1 x.2 dst,tk x.1 x.2 dst)) dst ⟨j,I6 x.1 x.2 dst,false⟩ (.slice av (Ab x.1 x.2 dst).length kv) (Ab x.1 x.2 dst) hT (fun w R h=>vE.Ea (fun _=>rfl) .head h) (fun m hm=>nX (KF vU dst m hm)) J7 ⟨IK.1,by have :=IK.2;unfold Wo.cy;dsimp only;omega⟩)) ?_;rintro v' L' ⟨rfl,rfl⟩;refine pP ?_;refine KQ.bB rfl rfl (fun w' aT=>⟨_,_,rfl,⟨rfl,rfl⟩,aT.all Y5⟩)
   ·rw[if_neg he];refine K.cL rfl (by simp[he]) ?_;refine Fp ?_;refine KQ.bB rfl rfl (fun w' aT=>⟨_,_,rfl,⟨rfl,rfl⟩,aT.all Y5⟩)
theorem zg{s:ak}{u:Value}(h:jx s u):∃x e,u=.tuple #[.int .i64 x,e]/\((ep s=some x/\e=.nilIface)\/(ep s=none/\∃T y,e=.iface T y)):=by
 unfold jx at h;cases hn:ep s with
 |some v=>rw[hn]at h;exact⟨v,_,h,.inl ⟨rfl,rfl⟩⟩
 |none=>rw[hn]at h;obtain⟨x,T,y,rfl⟩:=h;exact⟨x,_,rfl,.inr ⟨rfl,_,_,rfl⟩⟩
theorem My(w0:World)(L:List HP)(s:ak)(hs:s.size<=10000)(O1:o0 w0)(YL:o2 w0):
 KE prog 160 #[.string s] w0 L (fun u M=> ∃sa cp,∃xs:List Ms,∃e,u=.tuple #[.slice sa xs.length cp,e]/\M=SL 44 5 dh (.slice sa xs.length cp) xs::L/\((rn s=some xs/\e=.nilIface)\/(rn s=none/\xs=[]/\∃T y,e=.iface T y))):=by
 intro w hw;refine(n_ w0 L s ae O1 YL w hw).mono ?_;rintro e w' ⟨u,M,rfl,hR,kj,hb⟩;unfold Sd at hR;cases hm:rn s with
 |some xs=>
  rw[hm]at hR;obtain⟨v,rfl,rfl⟩:=hR;obtain⟨sa,cp,rfl,_⟩:=aU kj;exact⟨_,_,rfl,⟨sa,cp,xs,_,rfl,rfl,.inl ⟨rfl,rfl⟩⟩,kj,hb⟩
 |none=>
  rw[hm]at hR;obtain⟨rfl,rfl⟩:=hR;exact⟨_,_,rfl,⟨none,0,[],_,rfl,rfl,.inr ⟨rfl,rfl,_,_,rfl⟩⟩,cD kj,hb⟩
def FrR (L:List HP) (s:ak) (u:Value) (M:List HP):Prop:=
 match Rc s with
 |some (f,xs)=> ∃v,u=.tuple #[.agg (Za f v).toArray,.nilIface]/\M=SL 44 5 dh v xs::L
 |none=>u=.tuple #[.agg (Za ⟨0,0,false⟩ (.slice none 0 0)).toArray,cI 70 3]/\M=L
theorem Rb(w0:World)(L:List HP)(s:ak)(hs:s.size<=10000)(O1:o0 w0)(YL:o2 w0):KE prog 166 #[.string s] w0 L (FrR L s):=by
 refine KE.mk (n:=77) func166 rfl ntmps166 aj ?_;intro w hw;have hT:=O1.ext (Ext.bW hw.below);have hM:=YL.ext (Ext.bW hw.below);unfold FrR;refine Z3 ?_;refine KO.alloc rfl zeroValue256 aP rfl ?_;intro b2;refine kE ?_;by_cases h4:(di 58 s).length=4
 case neg=>
  have e0:Rc s=none:=by
   unfold Rc;split
   ·rename_i h;rw[h]at h4;exact absurd rfl h4
   ·rfl
  rw[e0];refine Z8 ?_;refine KO.ce (cp:=[]) rfl rfl rfl call133 rfl (kP w _ s 58 ae hM) ?_;rintro v' L' ⟨bq,rfl,rfl⟩;refine lL ?_;refine N3 ?_;refine Z2 ?_;refine K.cL rfl fx ?_;refine Z3 ?_;refine RC ?_;refine K2 ?_;refine qX ?_;refine KQ.jf rfl rfl isAgg256 bQ Oy rfl (fun w' hs=>⟨_,_,rfl,⟨aP,rfl⟩,hw.aC hs.below,hs.below⟩)
 obtain⟨wa,wb,wc,wd,sG⟩:∃wa wb wc wd,di 58 s=[wa,wb,wc,wd]:=by
  generalize di 58 s=l at h4
  match l,h4 with
  |[a,b,c,d],_=>exact⟨a,b,c,d,rfl⟩
 have OT:∀x∈[wa,wb,wc,wd],x.size<=10000:=fun x hx=>by have :=gJ (c:=58) (s:=s) (p:=x) (by rw[sG];exact hx);omega
 refine Z8 ?_;refine KO.ce (cp:=[]) rfl rfl rfl call133 rfl (kP w _ s 58 ae hM) ?_;rintro v' L' ⟨bq,rfl,rfl⟩;rw[sG];refine lL ?_;refine N3 ?_;refine HQ ?_;refine wq ?_;refine Xb ?_;refine KO.ce (cp:=[]) rfl rfl rfl call136 rfl (gR w _ wb (by have :=OT wb aj;omega) hM) ?_;rintro v' L' ⟨hR,rfl⟩;obtain⟨x,e1,rfl,hx⟩:=zg hR;refine jR ?_;refine V_ ?_;refine KO.ce (cp:=[]) rfl rfl rfl call136 rfl (gR w _ wc (by have :=OT wc aj;omega) hM) ?_;rintro v' L' ⟨hR,rfl⟩;obtain⟨y,e2,rfl,hy⟩:=zg hR;refine jR ?_;refine KO.eF (i:=3) rfl rfl runUnderlying115 sizeOf9 rfl aj rfl ?_;refine KO.ia (i:=3) (sz:=1) (cf:=j7) (e:=wd) rfl rfl isAgg9 bQ (fun _=>rfl) rfl aP aP rfl ?_;refine KO.ce (cp:=[]) rfl rfl rfl call160 rfl (My w _ wd (by have :=OT wd aj;omega) hT hM) ?_;rintro v' L' ⟨sa,cp,xs,e3,rfl,rfl,hz⟩;refine jR ?_;refine lK ?_;refine KO.eF (i:=0) rfl rfl runUnderlying115 sizeOf9 rfl aj rfl ?_;refine V0 ?_;refine zo ?_;refine Z1 ?_;refine RC ?_;refine KO.alloc rfl zeroValue256 aP rfl ?_;intro b11;refine KO.oL rfl rfl rfl aP Oy aP bQ aP ?_;refine Z0 ?_;have dr:∀m∈xs,m.body.size<=maxLen/\m.queue.size<=maxLen:=by
  rcases hz with⟨h,_⟩|⟨_,rfl,_⟩
  ·exact fun m hm=>nX (dx (mY h).1 m hm)
  ·intro m hm;cases hm
 refine dM ?_;refine VE ?_;refine KO.ce (cp:=[]) rfl rfl rfl call264 rfl (YY w _ ⟨x,y,decide (wa=⟨#[97]⟩)⟩ _ xs (fun w' hw'=>vE.Ea (fun _=>rfl) bn hw') hT dr) ?_;rintro v' L' ⟨rfl,rfl⟩;refine pQ ?_;have bad:¬(ep wb=some x/\ep wc=some y/\rn wd=some xs/\okF ⟨x,y,decide (wa=⟨#[97]⟩)⟩ xs/\Lm ⟨x,y,decide (wa=⟨#[97]⟩)⟩ xs=s)->Rc s=none:=by
  intro hb;unfold Rc;rw[sG];simp only[];split
  ·rename_i x' y' xs' h1 h2 h3;split
   ·rename_i hh;exfalso;have ex:x=x':=by
     rcases hx with⟨h,_⟩|⟨h,_⟩
     ·rw[h]at h1;exact Option.some.inj h1
     ·rw[h]at h1;cases h1
    have ey:y=y':=by
     rcases hy with⟨h,_⟩|⟨h,_⟩
     ·rw[h]at h2;exact Option.some.inj h2
     ·rw[h]at h2;cases h2
    have ez:xs=xs':=by
     rcases hz with⟨h,_⟩|⟨h,_⟩
     ·rw[h]at h3;exact Option.some.inj h3
     ·rw[h]at h3;cases h3
    subst ex;subst ey;subst ez;exact hb ⟨h1,h2,h3,hh.1,hh.2⟩
   ·rfl
  ·rfl
 rcases hx with⟨hx,rfl⟩|⟨hx,T1,y1,rfl⟩
 case inr=>
  rw[bad (fun h=>by rw[hx]at h;cases h.1)];refine Z8 ?_;refine uO ?_;refine xa ?_;refine wj ?_;refine xa ?_;refine wj ?_;refine xa ?_;refine wj ?_;refine rU ?_;refine uQ ?_;refine Z3 ?_;refine RC ?_;refine K2 ?_;refine qX ?_;refine KQ.jf rfl rfl isAgg256 bQ Oy rfl (fun w' hs=>⟨_,_,rfl,⟨aP,rfl⟩,hw.aC hs.below,hs.below⟩)
 rcases hy with⟨hy,rfl⟩|⟨hy,T1,y1,rfl⟩
 case inr=>
  rw[bad (fun h=>by rw[hy]at h;cases h.2.1)];refine Hk ?_;refine uO ?_;refine qv ?_;refine xa ?_;refine wj ?_;refine xa ?_;refine wj ?_;refine rU ?_;refine uQ ?_;refine Z3 ?_;refine RC ?_;refine K2 ?_;refine qX ?_;refine KQ.jf rfl rfl isAgg256 bQ Oy rfl (fun w' hs=>⟨_,_,rfl,⟨aP,rfl⟩,hw.aC hs.below,hs.below⟩)
 rcases hz with⟨hz,rfl⟩|⟨hz,_,T1,y1,rfl⟩
 case inr=>
  rw[bad (fun h=>by rw[hz]at h;cases h.2.2.1)];refine Hk ?_;refine CS ?_;refine uO ?_;refine qv ?_;refine xa ?_;refine wj ?_;refine rU ?_;refine uQ ?_;refine Z3 ?_;refine RC ?_;refine K2 ?_;refine qX ?_;refine KQ.jf rfl rfl isAgg256 bQ Oy rfl (fun w' hs=>⟨_,_,rfl,⟨aP,rfl⟩,hw.aC hs.below,hs.below⟩)
 by_cases jY:okF ⟨x,y,decide (wa=⟨#[97]⟩)⟩ xs
 case neg=>
  rw[bad (fun h=>jY h.2.2.2.1),(oj jY).1];refine Hk ?_;refine CS ?_;refine CS ?_;refine CP ?_;refine qv ?_;refine rU ?_;refine uQ ?_;refine Z3 ?_;refine RC ?_;refine K2 ?_;refine qX ?_;refine KQ.jf rfl rfl isAgg256 bQ Oy rfl (fun w' hs=>⟨_,_,rfl,⟨aP,rfl⟩,hw.aC hs.below,hs.below⟩)
 rw[(IV jY).1,(IV jY).2];by_cases hfs:Lm ⟨x,y,decide (wa=⟨#[97]⟩)⟩ xs=s
 case neg=>
  rw[bad (fun h=>hfs h.2.2.2.2)];refine Hk ?_;refine CS ?_;refine CS ?_;refine CP ?_;refine Ak ?_;refine KW ?_;refine CM ?_;refine K.cL rfl (by simp[hfs]) ?_;refine Z3 ?_;refine RC ?_;refine K2 ?_;refine qX ?_;refine KQ.jf rfl rfl isAgg256 bQ Oy rfl (fun w' hs=>⟨_,_,rfl,⟨aP,rfl⟩,hw.aC hs.below,hs.below⟩)
 have e0:Rc s=some (⟨x,y,decide (wa=⟨#[97]⟩)⟩,xs):=by
  rw[<-hfs];exact Bh jY
 rw[e0];refine Hk ?_;refine CS ?_;refine CS ?_;refine CP ?_;refine Ak ?_;refine KW ?_;refine CM ?_;refine K.da rfl (by simp[hfs]) ?_;refine wx ?_;refine VE ?_;refine KO.oL rfl rfl rfl aP Oy aP bn aP ?_;refine iW ?_;refine KQ.jf rfl rfl isAgg256 bQ Oy rfl (fun w' hs=>⟨_,_,rfl,⟨_,aP,rfl⟩,hw.stack (M:=[SL 44 5 dh (.slice sa xs.length cp) xs]) (hs.all Y4),hs.below⟩)
theorem aag{w0 w:World}{L:List HP}{α:Type}{E:TypeId}{sz:Nat}{cf:α->List Value}{v:Value}{xs:List α}(h:St w0 (SL E sz cf v xs::L) w):∃a cap,v=.slice a xs.length cap/\xs.length<=cap:=by
 obtain⟨a,cap,rfl,ha⟩:=aU h;by_cases h0:0<xs.length
 ·obtain⟨g,rfl⟩:=ha h0;exact⟨_,_,rfl,(H7 h).2⟩
 ·exact⟨_,_,rfl,by omega⟩
theorem PJ{w:World}:vE w 5 dh (.slice none 0 0) []:=⟨none,0,rfl,fun i x hx=>by simp at hx⟩
theorem Si(w0:World)(L:List HP)(bw c kb:Nat)(hd:zB)(W:Wo)(i:Int)(hT:o0 w0)(hM:o2 w0)(hB:dC c kb W)(hK:kb<=1000000000)(hc:c<=4000):
 KC prog 70 #[bp bw,.int .i64 i] w0 (kZ bw hd W::L) (fun u M=>u=cI 70 (FY W i)/\M=kZ bw hd (v7 W i)::L):=by
 have J7:=hB.wl;have IK:=hB.lost;unfold v7 FY;refine KC.mk (n:=91) func70 rfl ntmps70 aj ?_;refine oW ?_;refine K.cq (fun _ h=>dE h) ?_;rintro⟨V,hV,e8,e9⟩;dsimp only;obtain⟨hv,dv,wv,ps⟩:=V;dsimp only at hV ⊢;refine K.fact (fun w hw=>aU (hw.pick (A:=GZ wv W.dQ) bn)) ?_;rintro⟨a3,c3,rfl,UG⟩;refine dM ?_;refine kE ?_;by_cases h1:0<=i
 ·refine HX ?_;refine CL ?_;refine kr ?_;refine KO.on rfl rfl Dj ?_;refine KO.fw (off:=2) rfl runUnderlying164 rfl rfl sizeOf162 rfl ?_;refine KO.on rfl rfl Dj ?_;refine KO.db (i:=2) rfl rfl isAgg162 bQ rfl rfl rfl ?_;refine kF ?_;refine CX ?_;refine kF ?_;refine Aj ?_;refine Z2 ?_;refine K.br rfl (fun h2=>?_) (fun h2=>?_)
  ·rw[if_neg ae,if_neg ai];refine rO ?_;refine KQ.bB rfl rfl (fun w' aT=>⟨_,_,rfl,⟨rfl,rfl⟩,dm ⟨hv,dv,_,ps⟩ hV (aT.all nI)⟩)
  ·have h3:i<(W.dQ.length:Int):=by omega
   rw[if_pos ⟨h1,h3⟩,if_pos rfl];obtain⟨j,rfl⟩:∃j:Nat,i=(j:Int):=⟨i.toNat,by omega⟩;obtain⟨g3,rfl⟩:=UG ae;rw[aE];obtain⟨g,hg⟩:∃g,W.dQ[j]? =some g:=⟨_,oi ae⟩;have Co:=hB.dQ g (ax hg);have eg:yH W j=g:=by have :=oi (W:=W) (i:=j) ae;rw[hg]at this;exact(Option.some.inj this).symm
   rw[eg];refine Z6 ?_;refine kX ?_;refine RS ?_;refine Zx ?_;refine KO.vS (i:=j) (sz:=2) (cf:=U3) (e:=g) rfl rfl isAgg258 sizeOf258 bn (fun _=>rfl) hg rfl ?_;refine KO.alloc rfl zeroValue258 aP rfl ?_;intro b5;refine KO.oL rfl rfl rfl aP (by exact sizeOf258) aP bQ aP ?_;refine Z0 ?_;refine nD ?_;refine Te ?_;refine KO.db (i:=2) rfl rfl isAgg162 bn rfl rfl rfl ?_;refine lK ?_;refine xc ?_;refine KO.cl (cp:=[]) rfl rfl rfl call165 rfl (KC.oN bn (Np w0 _ _ W.dQ j ae ae)) ?_;rintro v25 L' rfl;refine KO.fact (fun _ hs=>aU hs) ?_;rintro⟨a25,SC,rfl,-⟩;refine kr ?_;refine Te ?_;refine KO.fX (i:=2) rfl rfl rfl rfl (by exact sizeOf162) rfl bn rfl Xf ?_;refine Z0 ?_;have hwB:dC c kb (qx W j):=hB.out j;have Yo:Rc (YW g)=some (g.f,g.l):=Bh Co.ok;have acC:(YW g).size<=10000:=by have :=Nr Co.ok;unfold YW;omega
   have ib:=dx (show iV g.l=none from by have :=Co.ok;unfold okF at this;exact this.2.2.2.2.2.2);have Ye:g.l.length<=3:=by have :=Co.ok;unfold okF at this;omega
   obtain⟨t1,t2⟩:=Co.dto;obtain⟨gt,f,l⟩:=g;dsimp only at t1 t2 ib Ye Yo ⊢;obtain⟨m,rfl⟩:∃m:Nat,gt=(m:Int):=⟨gt.toNat,by omega⟩;obtain⟨x,hx⟩:∃e,W.hs[m]? =some e:=⟨_,ao ae⟩;obtain⟨p,hp⟩:∃e,ps[m]? =some e:=⟨_,ao ae⟩;obtain⟨eH,eD⟩:=xl (W:=qx W j) hx;have vU:=hB.hs m x hx;have gP:=IQ vU hc;have mH:(ps.map (·.1))[m]? =some p.1:=by rw[aG,hp];rfl
   refine K.fact (fun w hw=>aU (hw.pick (A:=IG hv (ps.map (·.1))) bn)) ?_
   rintro⟨a1,c1,rfl,qP⟩;obtain⟨g1,rfl⟩:=qP lO;refine dM ?_;refine KO.fw (off:=1) rfl runUnderlying258 rfl rfl sizeOf9 rfl ?_;refine s_ ?_;refine KO.ce (cp:=[]) rfl rfl rfl call166 rfl (Rb w0 _ (YW ⟨m,f,l⟩) acC hT hM) ?_;intro v' L' OY;unfold FrR at OY;rw[Yo]at OY;obtain⟨vl,rfl,rfl⟩:=OY;refine KO.fact (fun _ hs=>aag hs) ?_;rintro⟨al,cl,rfl,qg⟩;refine Fh ?_;refine KO.alloc rfl zeroValue256 aP rfl ?_;intro b6;refine KO.oL rfl rfl rfl aP Oy aP bQ aP ?_;refine lL ?_;refine I_ ?_;refine rT ?_;refine dM ?_;refine Ol ?_;refine Ob ?_;refine Z2 ?_;unfold E9;dsimp only;rw[aE,eH,eD];have hlx:(qx W j).hs.length=ps.length:=hV.symm;cases hak:f.zk with
   |true=>
    refine uJ ?_;rw[if_pos rfl];refine oW ?_;refine K.draw [.pure,.pure,.pure,.read,.pure,.read,.pure,.read,.pure,.read,.pure,.read,.write] [0,1,2,3,4,5,6,7,8,9,10,11,12] bC bC ?_;refine Z1 ?_;refine Xd ?_;refine VU ?_;refine ZJ ?_;refine N7 ?_;refine s7 ?_;refine Z79 ?_;refine s7 ?_;refine KO.cl (cp:=[]) rfl rfl rfl call100 rfl (KC.lW (φ:=fun u=>u=cI 70 (caE x.1 x.2 f.ik f.num)) (y:=(Dd x.1 x.2 f.ik f.num,FQ x.1 x.2 f.ik f.num)) hp hx bn (fun L=>KC.hd (Q5 w0 L p.1 p.2 79600 x.1 x.2 f.ik f.num hT hM gP ae vU.len ⟨by have :=vU.left;omega,by have :=vU.left;omega⟩))) ?_;rintro v' L' ⟨rfl,rfl⟩;refine wA ?_;refine qX ?_;refine KQ.bB rfl rfl (fun w' aT=>⟨_,_,rfl,⟨rfl,rfl⟩,?_⟩);refine dm (W:=(qx W j).cy m _) ⟨.slice (some ⟨g1,0,none⟩) (ps.map (·.1)).length c1,dv,.slice a25 (W.dQ.eraseIdx j).length SC,ps⟩ Y15 (aT.all (M:=bI bw (.cells (Pe ⟨.slice (some ⟨g1,0,none⟩) (ps.map (·.1)).length c1,dv,.slice a25 (W.dQ.eraseIdx j).length SC,ps⟩ W).toArray 164 (0,0))::IG (.slice (some ⟨g1,0,none⟩) (ps.map (·.1)).length c1) (ps.map (·.1))::O4 dv (ps.map (·.2))::GZ (.slice a25 (W.dQ.eraseIdx j).length SC) (W.dQ.eraseIdx j)::bZ vn ps (W.hs.set m (Dd x.1 x.2 f.ik f.num,FQ x.1 x.2 f.ik f.num))::L) Y5)
   |false=>
    refine wm ?_;rw[if_neg ai];refine Z6 ?_;refine K.draw [.pure,.pure,.pure,.read,.pure,.read,.pure,.read,.pure,.read,.pure,.read,.pure,.read,.write,.pure,.pure,.pure,.pure,.pure] [0,1,2,3,4,5,6,7,8,9,10,11,12,13,14,15,16,17,18,19] bC bC ?_;refine Z1 ?_;refine Xd ?_;refine VU ?_;refine ZJ ?_;refine N7 ?_;refine s7 ?_;refine Z79 ?_;refine s7 ?_;refine FC ?_;refine Fw ?_;refine KO.cl (cp:=[]) rfl rfl rfl call103 rfl (KC.adv (A:=SL 44 5 dh (.slice al l.length cl) l) (φ:=fun u=>u=.tuple #[.int .i64 (sX x.1 x.2 f.ik f.num l),cI 70 (FT x.1 x.2 f.ik f.num l)]) (y:=(rL x.1 x.2 f.ik f.num l,sY x.1 x.2 f.ik f.num l)) hp hx bn bn (fun L=>KC.hd (GY w0 L _ p.1 p.2 79600 x.1 x.2 f.ik f.num al cl l hT hM gP ae vU.len ⟨by have :=vU.left;omega,by have :=vU.left;omega⟩ (fun w R h=>vE.Ea (fun _=>rfl) .head h) qg ae (fun m hm=>nX (ib m hm))))) ?_;rintro v' L' ⟨rfl,rfl⟩;refine pQ ?_
    refine K.conv (fun w hw=>dm (W:=(qx W j).cy m (rL x.1 x.2 f.ik f.num l,sY x.1 x.2 f.ik f.num l)) ⟨.slice (some ⟨g1,0,none⟩) (ps.map (·.1)).length c1,dv,.slice a25 (W.dQ.eraseIdx j).length SC,ps⟩ Y15 (hw.all (M:=bI bw (.cells (Pe ⟨.slice (some ⟨g1,0,none⟩) (ps.map (·.1)).length c1,dv,.slice a25 (W.dQ.eraseIdx j).length SC,ps⟩ W).toArray 164 (0,0))::IG (.slice (some ⟨g1,0,none⟩) (ps.map (·.1)).length c1) (ps.map (·.1))::O4 dv (ps.map (·.2))::GZ (.slice a25 (W.dQ.eraseIdx j).length SC) (W.dQ.eraseIdx j)::bZ vn ps (W.hs.set m (rL x.1 x.2 f.ik f.num l,sY x.1 x.2 f.ik f.num l))::SL 44 5 dh (.slice al l.length cl) l::_::_::L) Y7)) ?_
    refine Z8 ?_;refine HJ ?_;by_cases he:FT x.1 x.2 f.ik f.num l=0
    ·rw[if_pos he,he];refine uJ ?_;refine Z8 ?_;refine N7 ?_;refine zL ?_;refine VU ?_;refine Z1 ?_;refine RC ?_;refine KO.cl (cp:=[]) rfl rfl rfl call164 rfl (KC.Mc bQ bQ (Ib w0 _ (SL 44 5 dh (.slice al l.length cl) l) bw hd ((qx W j).cy m (rL x.1 x.2 f.ik f.num l,sY x.1 x.2 f.ik f.num l)) f.ik ⟨m,sX x.1 x.2 f.ik f.num l,true⟩ (.slice none 0 0) [] hT (fun w R h=>PJ) (fun m hm=>by cases hm) hwB.wl ⟨IK.1,by have :=IK.2;unfold Wo.cy qx;dsimp only;omega⟩)) ?_;rintro v' L' ⟨rfl,rfl⟩;refine pP ?_;refine KQ.bB rfl rfl (fun w' aT=>⟨_,_,rfl,⟨rfl,rfl⟩,aT.all Y5⟩)
    ·rw[if_neg he];refine K.da rfl (by simp[he]) ?_;refine Z6 ?_;refine C4 ?_;refine KQ.bB rfl rfl (fun w' aT=>⟨_,_,rfl,⟨rfl,rfl⟩,aT.all Y5⟩)
 ·refine wD ?_;refine HV ?_;refine HZ ?_;refine HH ?_;rw[if_neg ae,if_neg ai];refine K.cL rfl (by simp <;>omega) ?_;refine rO ?_;refine KQ.bB rfl rfl (fun w' aT=>⟨_,_,rfl,⟨rfl,rfl⟩,dm ⟨hv,dv,_,ps⟩ hV (aT.all nI)⟩)
end Go.Proofs.YtjhogocabcdjbabGreatDoor
namespace WB
open Go
def Kp (g:Gm):Nat:=if g.f.zk=true then 1 else 2
def iH (W:Wo):Nat:=(W.dQ.map Kp).sum
def kD:Nat->Wo->Wo
 |0,W=>W
 |f+1,W=>if W.dQ=[]then W else kD f (v7 W 0)
def oT (W:Wo):Wo:=kD (iH W) W
theorem Lz(W:Wo)(g:Gm):iH (tx W g)<=iH W+Kp g:=by
 unfold tx iH;split
 ·exact Nat.le_add_right _ _
 ·simp
theorem Rq(W:Wo)(g:Gm):iH (E9 W g)+1<=iH W+Kp g:=by
 have key:∀(W1:Wo) (dst:Int) (f:Fr) (l:List Ms),f.zk=true->iH (j0 W1 dst f l)<=iH W1+1:=fun W1 dst f l hf=>by
  unfold j0;split
  ·refine Nat.le_trans (Lz _ _) ?_;unfold Kp;rw[if_pos hf];exact aF _
  ·omega
 unfold E9;split
 ·rename_i h;unfold Kp;rw[if_pos h];exact aF _
 ·rename_i h;have e:Kp g=2:=by unfold Kp;rw[if_neg h]
  rw[e];split
  ·exact Nat.add_le_add_right (key _ _ _ _ rfl) 1
  ·show iH W+1<=_
   omega
theorem Q_(g:Gm):1<=Kp g:=by unfold Kp;split<;>decide
theorem w7{W:Wo}(h:W.dQ≠[]):iH (v7 W 0)+1<=iH W:=by
 obtain⟨g,r,hw⟩:=List.exists_cons_of_ne_nil h;have e0:FY W 0=0:=by
  unfold FY;rw[hw,if_pos ⟨by omega,by simp⟩]
 have e1:yH W 0=g:=by unfold yH;rw[hw];rfl
 have e2:iH W=Kp g+iH (qx W 0):=by unfold iH qx;rw[hw];simp
 unfold v7;rw[if_pos e0]
 show iH (E9 (qx W 0) (yH W 0))+1<=_
 rw[e1,e2];have :=Rq (qx W 0) g;omega
theorem EX:∀(f:Nat) (W:Wo),iH W<=f->(kD f W).dQ=[]
 |0,W,h=>by
  cases hw:W.dQ with
  |nil=>exact hw
  |cons g r=>
   have :=Q_ g;unfold iH at h;rw[hw]at h;simp at h;omega
 |f+1,W,h=>by
  unfold kD;split
  ·assumption
  ·rename_i h1;have :=w7 h1;exact EX f _ ae
theorem Bi:∀(f:Nat) (W:Wo) (d:Nat),iH W<=f->kD (f+d) W=kD f W
 |0,W,d,h=>by
  have h1:W.dQ=[]:=EX 0 W h;cases d with
  |zero=>rfl
  |succ d=>rw[Nat.zero_add];unfold kD;rw[if_pos h1]
 |f+1,W,d,h=>by
  rw[show f+1+d=f+d+1 by omega];unfold kD;split
  ·rfl
  ·rename_i h1;have :=w7 h1;exact Bi f _ d ae
theorem uq{W:Wo}(h:W.dQ≠[]):oT W=oT (v7 W 0):=by
 have h1:=w7 h;unfold oT;obtain⟨d,hd⟩:∃d,iH W=iH (v7 W 0)+d+1:=⟨iH W-iH (v7 W 0)-1,by omega⟩;rw[hd];rw[show kD (iH (v7 W 0)+d+1) W=kD (iH (v7 W 0)+d) (v7 W 0)from by conv=>lhs;unfold kD;rw[if_neg h]];exact Bi _ _ d (aF _)
theorem yN{W:Wo}(h:W.dQ=[]):oT W=W:=by
 unfold oT;have :iH W=0:=by unfold iH;rw[h];rfl
 rw[this];rfl
theorem BN{c kb:Nat}{W:Wo}(h:dC c kb W):iH W<=200:=by
 have key:∀l:List Gm,(l.map Kp).sum<=2*l.length:=by
  intro l
  induction l with
  |nil=>simp
  |cons g l ih=>have :Kp g<=2:=by unfold Kp;split<;>decide
                simp;omega
 have :=key W.dQ;have :=h.wl;unfold iH;omega
theorem dC.S4{c:Nat}:∀(f:Nat) (kb:Nat) (W:Wo),dC c kb W->dC c (kb+2*f) (kD f W)
 |0,_,_,h=>h
 |f+1,kb,W,h=>by
  unfold kD;split
  ·exact h.mono (aF _) ae
  ·have :=dC.S4 f (kb+2) _ (h.de 0);exact this.mono (aF _) ae
theorem dC.U9{c kb:Nat}{W:Wo}(h:dC c kb W):dC c (kb+400) (oT W):=(dC.S4 _ kb W h).mono (aF _) (by have :=BN h;omega)
theorem gF(W:Wo)(k:Nat)(x:Ho×Dk):(W.cy k x).hs.length=W.hs.length:=by unfold Wo.cy;simp
theorem Ig(W:Wo)(g:Gm):(tx W g).hs=W.hs:=by unfold tx;split<;>rfl
theorem xr(W:Wo)(dst:Int)(f:Fr)(l:List Ms):(j0 W dst f l).hs=W.hs:=by
 unfold j0;split
 ·exact Ig _ _
 ·rfl
theorem Zk(W:Wo)(g:Gm):(E9 W g).hs.length=W.hs.length:=by
 unfold E9;split
 ·exact gF _ _ _
 ·split
  ·rw[xr];exact gF _ _ _
  ·exact gF _ _ _
theorem Zh(W:Wo)(i:Int):(v7 W i).hs.length=W.hs.length:=by
 unfold v7;split
 ·exact Zk _ _
 ·rfl
theorem Nt:∀(f:Nat) (W:Wo),(kD f W).hs.length=W.hs.length
 |0,_=>rfl
 |f+1,W=>by
  unfold kD;split
  ·rfl
  ·rw[Nt f,Zh]
theorem Ns(W:Wo):(oT W).hs.length=W.hs.length:=Nt _ W
theorem Sp(W:Wo)(k dst:Int):(DK W k dst).hs.length=W.hs.length:=by
 unfold DK;split
 ·split
  ·rw[xr];unfold q_;exact gF _ _ _
  ·unfold q_;exact gF _ _ _
 ·rfl
def oo (W:Wo) (k:Nat):Wo:=if(W.H k).down=true then AJ (W.cy k (W.H k,cu (W.D k) (-1))) k else W.cy k (W.H k,cu (W.D k) (-1))
def qo (W:Wo) (k dst:Nat):Wo:=if F6 W k dst=0 then oT (DK W k dst)else DK W k dst
def zK (W:Wo):Wo:=oT ((List.range W.hs.length).foldl oo W)
def y_ (n:Nat) (W:Wo) (k:Nat):Wo:=(List.range n).foldl (fun W dst=>qo W k dst) W
def y9 (W:Wo):Wo:=(List.range W.hs.length).foldl (y_ W.hs.length) (zK W)
def calm:Nat->Wo->Wo
 |0,W=>W
 |r+1,W=>calm r (y9 W)
theorem NK(W:Wo)(k:Nat):(oo W k).hs.length=W.hs.length:=by
 unfold oo;split
 ·unfold AJ;rw[gF,gF]
 ·rw[gF]
theorem Zm(W:Wo)(k dst:Nat):(qo W k dst).hs.length=W.hs.length:=by
 unfold qo;split
 ·rw[Ns,Sp]
 ·rw[Sp]
theorem uo{α:Type}{f:Wo->α->Wo}(h:∀W a,(f W a).hs.length=W.hs.length):∀(l:List α) (W:Wo),(l.foldl f W).hs.length=W.hs.length
 |[],_=>rfl
 |a::l,W=>by rw[List.foldl_cons,uo h l,h]
theorem S9(n:Nat)(W:Wo)(k:Nat):(y_ n W k).hs.length=W.hs.length:=uo (fun W a=>Zm W k a) _ W
theorem S8(W:Wo):(zK W).hs.length=W.hs.length:=by unfold zK;rw[Ns,uo NK]
theorem Zl(W:Wo):(y9 W).hs.length=W.hs.length:=by unfold y9;rw[uo (fun W a=>S9 _ W a),S8]
theorem dC.oo{c kb:Nat}{W:Wo}(h:dC c kb W)(hK:kb<=1000000000000){k:Nat}(hk:k<W.hs.length):dC c kb (oo W k):=by
 obtain⟨x,hx,e1,e2⟩:=iY hk;have hn:=h.n1;have h1:=h.set (((h.hs _ x hx).cut (n:= -1) ae));unfold WB.oo;rw[e1,e2];split
 ·have Eu:(W.cy k (x.1,cu x.2 (-1))).hs[k]? =some (x.1,cu x.2 (-1)):=List.getElem?_set_self hk;obtain⟨y,hy,f1,f2⟩:=iY (W:=W.cy k (x.1,cu x.2 (-1))) (j:=k) (by rw[gF];exact hk);rw[Eu]at hy;simp only[az]at hy;subst hy;unfold AJ;rw[f2];exact h1.set (((h1.hs _ _ Eu).cut (n:= -1) ae).cq ae hK)
 ·exact h1
theorem dC.qo{c kb:Nat}{W:Wo}(h:dC c kb W)(k dst:Nat):dC c (kb+402) (qo W k dst):=by
 unfold WB.qo;split
 ·exact(h.se k dst).U9
 ·exact(h.se k dst).mono (aF _) ae
theorem EW{α:Type}{f:Wo->α->Wo}{c b:Nat}(h:∀W a kb,dC c kb W->dC c (kb+b) (f W a)):∀(l:List α) (W:Wo) (kb:Nat),dC c kb W->dC c (kb+b *l.length) (l.foldl f W)
 |[],_,_,hw=>hw
 |a::l,W,kb,hw=>by
  have :=EW h l _ _ (h W a kb hw);rw[List.foldl_cons];refine this.mono (aF _) ?_;rw[List.length_cons,Nat.mul_succ];omega
theorem dC.y_{c kb n:Nat}{W:Wo}(h:dC c kb W)(k:Nat)(hn:n<=4):dC c (kb+1608) (y_ n W k):=
 (EW (fun W a kb hw=>hw.qo k a) (List.range n) W kb h).mono (aF _) Y27
theorem dC.Ha{c kb:Nat}(hK:kb<=1000000000000):∀(l:List Nat) (W:Wo),dC c kb W->(∀k∈l,k<W.hs.length)->dC c kb (l.foldl WB.oo W)
 |[],_,h,_=>h
 |k::l,W,h,hl=>dC.Ha hK l _ (h.oo hK (hl k aj)) fun j hj=>by rw[NK];exact hl j (by simp[hj])
theorem dC.zK{c kb:Nat}{W:Wo}(h:dC c kb W)(hK:kb<=1000000000000):dC c (kb+400) (zK W):=(dC.Ha hK _ W h fun k hk=>aZ.1 hk).U9
theorem dC.y9{c kb:Nat}{W:Wo}(h:dC c kb W)(hK:kb<=1000000000000):dC c (kb+10000) (y9 W):=by
 have hn:=h.n1;have :=EW (fun W' a Lc hw=>hw.y_ a hn.2) (List.range W.hs.length) _ _ (h.zK hK);refine this.mono (aF _) ?_;rw[List.length_range];omega
end WB
namespace Go.Proofs.YtjhogocabcdjbabGreatDoor
open Tryz
open Go Go.RowKit WB
theorem mP(w0:World)(M:List HP)(bw:Nat)(V:OB)(W:Wo)(k:Nat)(p:Nat×Nat)(hV:V.ps.length=W.hs.length)(hp:V.ps[k]? =some p):
 KE prog 26 #[bp bw,.int .i64 (k:Nat)] w0 (oz bw V W M) (fun u N=>u=.tuple #[bp p.1,.nilIface]/\N=oz bw V W M):=by
 have hk:=(au.1 hp).1;have QK:W.is (k:Int)=true:=by unfold Wo.is;simp;omega
 obtain⟨hv,dv,wv,ps⟩:=V;dsimp only at hV hp hk;have mH:(ps.map (·.1))[k]? =some p.1:=by rw[aG,hp];rfl
 refine KE.mk (n:=18) func26 rfl ntmps26 aj ?_;intro w hw;obtain⟨a,cap,e1,ha⟩:=aU (hw.pick (A:=IG hv (ps.map (·.1))) (.tail .head))
 obtain⟨g,rfl⟩:=ha lO;subst e1;have QT:w.cell? ⟨bw,0,none⟩=some (.slice (some ⟨g,0,none⟩) (ps.map (·.1)).length cap):=by rw[World.cell?,hw.look.2];rfl
 refine rN ?_;refine lL ?_;refine Z1 ?_;refine KO.ce (cp:=[]) rfl rfl rfl call78 rfl (((gA w0 _ M bw _ W (k:Int) .head).only (fun w h=>dm (hd:=(.slice (some ⟨g,0,none⟩) (ps.map (·.1)).length cap,dv,none)) ⟨_,dv,wv,ps⟩ hV h rfl ⟨rfl,fun l hl=>by cases hl⟩)).px hw) ?_;rintro v' L' ⟨rfl,rfl⟩;rw[QK]
 refine Fm ?_;refine Z8 ?_;refine RY ?_;refine KO.qM rfl rfl isAgg160 QT rfl ?_;refine Z1 ?_;refine KO.eF (i:=k) rfl rfl runUnderlying160 sizeOf29 rfl lO rfl ?_;refine KO.XH hw (i:=k) (sz:=1) (cf:=o8) (e:=p.1) rfl rfl isAgg29 (.tail .head) (fun _=>rfl) mH aj aP rfl ?_;refine pO ?_;refine KQ.eE rfl rfl rfl (fun w' hs=>⟨_,_,rfl,⟨rfl,rfl⟩,hw.aC hs.below,hs.below⟩)
theorem Ds(w0:World)(L:List HP)(bw c kb:Nat)(hd:zB)(W:Wo)(hT:o0 w0)(hM:o2 w0)(hB:dC c kb W)(hK:kb<=900000000)(hc:c<=4000):
 KC prog 77 #[bp bw] w0 (kZ bw hd W::L) (fun u M=>u=.tuple #[]/\M=kZ bw hd (oT W)::L):=by
 have J7:=BN hB;refine KC.mk (n:=10) func77 rfl ntmps77 aj ?_
 repeat((with_reducible refine K.block ?_))
 refine K.loop (fun q:Wo×Nat=>[(0,bp bw)]) (fun q=>kZ bw hd q.1::L) (fun q=>dC c (kb+2*q.2) q.1/\iH q.1+q.2<=iH W/\oT q.1=oT W) (fun q=>iH q.1) (W,0) ⟨hB,by dsimp only;omega,rfl⟩ ⟨rfl,trivial⟩ (fun _ h=>h) ?_;rintro⟨W1,m⟩ ⟨gP,hm,hf⟩;dsimp only at gP hm hf ⊢;have afQ:=gP.wl;refine oW ?_;refine K.cq (fun _ h=>dE h) ?_;rintro⟨V,hV,e8,e9⟩;dsimp only;obtain⟨hv,dv,wv,ps⟩:=V;dsimp only at hV ⊢;refine K.fact (fun w hw=>aU (hw.pick (A:=GZ wv W1.dQ) bn)) ?_;rintro⟨a3,c3,rfl,UG⟩;refine kX ?_;refine RS ?_;refine CX ?_;refine uP ?_;refine Z2 ?_;refine K.br rfl (fun h1=>?_) (fun h1=>?_)
 ·have gh:W1.dQ≠[]:=by rintro e;rw[e]at h1;simp at h1
  have hs:=w7 gh
  repeat(first|(with_reducible refine KQ.next ?_)|(with_reducible refine K.skip ?_)|(with_reducible refine K.block ?_))
  refine K.conv (fun w hw=>dm (W:=W1) ⟨hv,dv,.slice a3 W1.dQ.length c3,ps⟩ hV hw) ?_
  refine Z8 ?_;refine KO.cl (cp:=[]) rfl rfl rfl call70 rfl (KC.oN bQ (Si w0 _ bw c (kb+2*m) hd W1 0 hT hM gP ae hc)) ?_;rintro v' L' ⟨rfl,rfl⟩;refine Ad ?_;refine KQ.round (v7 W1 0,m+1) ⟨(gP.de 0).mono (aF _) gV,by dsimp only;omega,by rw[<-hf];exact(uq gh).symm⟩ gV ⟨rfl,trivial⟩ (fun _ h=>h)
 ·have hn:W1.dQ=[]:=by
   cases hh:W1.dQ with
   |nil=>rfl
   |cons a l=>rw[hh]at h1;simp at h1
  refine R5 ?_;refine KQ.jr rfl (fun w' aT=>⟨_,_,rfl,⟨rfl,rfl⟩,?_⟩);rw[<-hf,yN hn];exact dm ⟨hv,dv,_,ps⟩ hV aT
theorem KA{W:Wo}{k:Nat}(i:Nat)(hi:i≠k):((oo W k).H i).down=(W.H i).down:=by
 have key:∀(W:Wo) x,((W.cy k x).H i)=W.H i:=fun W x=>by
  unfold Wo.H Wo.at' Wo.cy;dsimp only;rw[aq,aq,List.getElem?_set,if_neg (fun e=>hi e.symm)]
 unfold oo;split
 ·unfold AJ;rw[key,key]
 ·rw[key]
theorem zc:∀(l:List Nat) (W:Wo) (i:Nat),i∉l->((l.foldl oo W).H i).down=(W.H i).down
 |[],_,_,_=>rfl
 |k::l,W,i,h=>by
  rw[aD,not_or]at h;rw[List.foldl_cons,zc l _ i h.2,KA i h.1]
theorem Ic(w0:World)(L:List HP)(bw c kb r:Nat)(hd:zB)(W:Wo)(hN:hd.2.2=none\/(r=1/\∀k,(W.H k).down=false))(hT:o0 w0)(hM:o2 w0)(hB:dC c kb W)(hK:kb+10000*r<=800000000)(hr:r<=1000)(hc:c<=4000):
 KC prog 25 #[bp bw,.int .i64 (r:Nat)] w0 (kZ bw hd W::L) (fun u M=>u=.tuple #[]/\M=kZ bw hd (calm r W)::L):=by
 refine KC.mk (n:=63) func25 rfl ntmps25 aj ?_
 repeat((with_reducible refine K.block ?_))
 refine K.loop (fun q:Wo×Nat=>[(0,bp bw),(1,.int .i64 ((r-q.2:Nat):Int))]) (fun q=>kZ bw hd q.1::L) (fun q=>dC c (kb+10000*q.2) q.1/\q.2<=r/\calm (r-q.2) q.1=calm r W/\(q.2=0->q.1=W)) (fun q=>r-q.2) (W,0) ⟨hB,by dsimp only;omega,rfl,fun _=>rfl⟩ ⟨rfl,rfl,trivial⟩ (fun _ h=>h) ?_;rintro⟨W1,m⟩ ⟨gP,hm,hf,QX⟩;dsimp only at gP hm hf QX ⊢;have vX:=gP.n1;refine jB ?_;refine uP ?_;refine Z2 ?_;refine K.br rfl (fun h1=>?_) (fun h1=>?_)
 ·have zW:m<r:=by omega
  refine K5 ?_;refine K.cq (fun _ h=>dE h) ?_;rintro⟨V,hV,e8,e9⟩;dsimp only;obtain⟨hv,dv,wv,ps⟩:=V;dsimp only at hV e8 e9 ⊢;refine K.fact (fun w hw=>aU (hw.pick (A:=IG hv (ps.map (·.1))) bn)) ?_
  rintro⟨a1,c1,rfl,qP⟩;obtain⟨g1,rfl⟩:=qP lO;have pa:(ps.map (·.1)).length=W1.hs.length:=by rw[aW,hV]
  rw[pa]at e8 ⊢;refine Z8 ?_;refine RY ?_;refine R4 ?_;refine mK ?_;refine K.conv (fun w hw=>dm (hd:=hd) (W:=W1) ⟨.slice (some ⟨g1,0,none⟩) W1.hs.length c1,dv,wv,ps⟩ hV hw) ?_
  clear hV pa qP;refine K.loop (fun k:Nat=>[(0,bp bw),(1,.int .i64 ((r-m:Nat):Int)),(15,.slice (some ⟨g1,0,none⟩) W1.hs.length c1),(16,.int .i64 (W1.hs.length:Nat)),(17,.int .i64 (k:Nat))]) (fun k=>kZ bw hd ((List.range k).foldl oo W1)::L) (fun k=>k<=W1.hs.length) (fun k=>W1.hs.length-k) 0 (aV _) ⟨rfl,rfl,rfl,rfl,rfl,trivial⟩ (fun _ h=>h) ?_;intro k hk
  try dsimp only at hk ⊢
  have YR:dC c (kb+10000*m) ((List.range k).foldl oo W1):=dC.Ha ae _ W1 gP (fun j hj=>by have :=aZ.1 hj;omega);have hnk:((List.range k).foldl oo W1).hs.length=W1.hs.length:=uo NK _ _;have dw:(List.range (k+1)).foldl oo W1=oo ((List.range k).foldl oo W1) k:=by rw[List.range_succ,List.foldl_append];rfl
  generalize hWk:(List.range k).foldl oo W1=Wk at YR hnk dw ⊢;refine hF ?_;refine K.br rfl (fun h2=>?_) (fun h2=>?_)
  ·have pb:k<Wk.hs.length:=by omega
   have hnn:=hnk;refine K5 ?_;refine K.cq (fun _ h=>dE h) ?_;rintro⟨V,hV,f8,f9⟩;dsimp only;obtain⟨lM,W4,Se,C9⟩:=V;dsimp only at hV f8 f9 ⊢;rw[<-e8]at f8;subst f8;obtain⟨x,hx⟩:∃e,Wk.hs[k]? =some e:=⟨_,ao pb⟩;obtain⟨p,hp⟩:∃e,C9[k]? =some e:=⟨_,ao ae⟩;obtain⟨eH,eD⟩:=xl hx;have vU:=YR.hs k x hx;have mH:(C9.map (·.1))[k]? =some p.1:=by rw[aG,hp];rfl
   have kB:(C9.map (·.2))[k]? =some p.2:=by rw[aG,hp];rfl
   refine K.fact (fun w hw=>aU (hw.pick (A:=O4 W4 (C9.map (·.2))) bn)) ?_
   rintro⟨a2,c2,rfl,Nf⟩;obtain⟨g2,rfl⟩:=Nf lO;refine Z8 ?_;refine ZP ?_;refine Z7 ?_;refine lL ?_;refine VK ?_;refine Z1 ?_;refine KO.eF (i:=k) rfl rfl runUnderlying161 sizeOf25 rfl lO rfl ?_;refine KO.ia (i:=k) (sz:=1) (cf:=o8) (e:=p.2) rfl rfl isAgg25 bn (fun _=>rfl) kB aj aP rfl ?_;refine KO.cl (cp:=[]) rfl rfl rfl call18 rfl (KC.lW (φ:=fun u=>u=.tuple #[]) hp hx bn (fun L=>KC.hdD (fun L=>NG w0 L p.2 x.2 (-1) vU.len))) ?_;rintro v' L' ⟨rfl,rfl⟩;refine Z0 ?_;have Eu:(Wk.hs.set k (x.1,cu x.2 (-1)))[k]? =some (x.1,cu x.2 (-1)):=List.getElem?_set_self pb;refine Z8 ?_;refine KO.ce (cp:=[]) rfl rfl rfl call76 rfl (KE.E3 (φ:=fun u=>u=.bool x.1.down) hp Eu bQ (fun L=>KE.perm (fun w hw=>hw.split) (KE.oK (IP w0 _ _ p.1 p.2 x.1 .head) Y13))) ?_;rintro v' L' ⟨rfl,rfl⟩;refine Z2 ?_;have e1:Wk.cy k (Wk.H k,cu (Wk.D k) (-1))=Wk.cy k (x.1,cu x.2 (-1)):=by rw[eH,eD]
   have adg:dC c (kb+10000*m) (Wk.cy k (x.1,cu x.2 (-1))):=YR.set (vU.cut ae);refine K.conv (fun w hw=>dm (hd:=hd) (W:=Wk.cy k (x.1,cu x.2 (-1))) ⟨.slice (some ⟨g1,0,none⟩) W1.hs.length c1,.slice (some ⟨g2,0,none⟩) (C9.map (·.2)).length c2,Se,C9⟩ Y15 (hw.all (M:=bI bw (.cells (Pe ⟨.slice (some ⟨g1,0,none⟩) W1.hs.length c1,.slice (some ⟨g2,0,none⟩) (C9.map (·.2)).length c2,Se,C9⟩ Wk).toArray 164 (0,0))::IG (.slice (some ⟨g1,0,none⟩) W1.hs.length c1) (C9.map (·.1))::O4 (.slice (some ⟨g2,0,none⟩) (C9.map (·.2)).length c2) (C9.map (·.2))::GZ Se Wk.dQ::bZ vn C9 (Wk.hs.set k (x.1,cu x.2 (-1)))::L) Y7)) ?_
   cases rv:x.1.down with
   |true=>
    have eC:oo Wk k=OQ (Wk.cy k (x.1,cu x.2 (-1))) (k:Int):=by
     unfold oo OQ;rw[if_pos (by rw[eH];exact rv),e1,if_pos (by unfold Wo.is;rw[gF];simp;omega),aE]
    have YK:hd.2.2=none:=by
     rcases hN with h|⟨h1,h2⟩
     ·exact h
     ·exfalso;have h3:=zc (List.range k) W1 k aj;rw[hWk,eH,rv,QX ae,h2 k]at h3;cases h3
    refine uJ ?_;refine iX ?_;refine KO.cl (cp:=[]) rfl rfl rfl call74 rfl (KC.oN bQ (Sg w0 _ bw c (kb+10000*m) hd YK _ (k:Int) hT hM adg ae)) ?_;rintro v' L' ⟨rfl,rfl⟩;refine s8 ?_;refine KQ.round (k+1) ae ae ⟨rfl,rfl,rfl,rfl,rfl,trivial⟩ (fun _ h=>?_);rw[dw,eC];exact h
   |false=>
    have eC:oo Wk k=Wk.cy k (x.1,cu x.2 (-1)):=by
     unfold oo;rw[if_neg (by rw[eH,rv];decide),e1]
    refine wm ?_;refine qF ?_;refine KQ.round (k+1) ae ae ⟨rfl,rfl,rfl,rfl,rfl,trivial⟩ (fun _ h=>?_);rw[dw,eC];exact h
  ·have pb:k=W1.hs.length:=by omega
   subst pb;refine Z9 ?_;have hBf:dC c (kb+10000*m+400) (oT Wk):=YR.U9;refine Z8 ?_;refine KO.cl (cp:=[]) rfl rfl rfl call77 rfl (KC.oN bQ (Ds w0 _ bw c (kb+10000*m) hd Wk hT hM YR ae hc)) ?_;rintro v' L' ⟨rfl,rfl⟩;refine Z0 ?_;have eU:oT Wk=zK W1:=by unfold zK;rw[hWk]
   rw[eU];have hBu:dC c (kb+10000*m+400) (zK W1):=gP.zK ae;have hnu:=S8 W1;have eR:y9 W1=(List.range W1.hs.length).foldl (y_ W1.hs.length) (zK W1):=rfl;generalize zK W1=U at hBu hnu eR ⊢;refine K.cq (fun _ h=>dE h) ?_;rintro⟨V,hV,f8,f9⟩;dsimp only;obtain⟨lM,W4,Se,C9⟩:=V;dsimp only at hV f8 f9 ⊢;rw[<-e8]at f8;subst f8;refine Z8 ?_;refine RY ?_;refine R4 ?_;refine mK ?_;refine K.conv (fun w hw=>dm (hd:=hd) (W:=U) ⟨.slice (some ⟨g1,0,none⟩) W1.hs.length c1,W4,Se,C9⟩ hV hw) ?_
   clear hV f9;refine K.loop (fun k:Nat=>[(0,bp bw),(1,.int .i64 ((r-m:Nat):Int)),(42,.int .i64 (W1.hs.length:Nat)),(43,.int .i64 (k:Nat))]) (fun k=>kZ bw hd ((List.range k).foldl (y_ W1.hs.length) U)::L) (fun k=>k<=W1.hs.length) (fun k=>W1.hs.length-k) 0 (aV _) ⟨rfl,rfl,rfl,rfl,trivial⟩ (fun _ h=>h) ?_;intro k hk
   try dsimp only at hk ⊢
   have YQ:dC c (kb+10000*m+400+1608*k) ((List.range k).foldl (y_ W1.hs.length) U):=(EW (fun W' a Lc hw=>hw.y_ a vX.2) (List.range k) _ _ hBu).mono (aF _) Y27;have acf:((List.range k).foldl (y_ W1.hs.length) U).hs.length=W1.hs.length:=by rw[uo (fun W a=>S9 _ W a),hnu]
   have MV:(List.range (k+1)).foldl (y_ W1.hs.length) U=y_ W1.hs.length ((List.range k).foldl (y_ W1.hs.length) U) k:=by rw[List.range_succ,List.foldl_append];rfl
   generalize hY:(List.range k).foldl (y_ W1.hs.length) U=Y at YQ acf MV ⊢;refine hF ?_;refine K.br rfl (fun h3=>?_) (fun h3=>?_)
   ·have pb:k<W1.hs.length:=by omega
    refine sZ ?_;refine kE ?_;refine K.cq (fun _ h=>dE h) ?_;rintro⟨V,hV,f8,f9⟩;dsimp only;obtain⟨lM,W4,Se,C9⟩:=V;dsimp only at hV f8 f9 ⊢;rw[<-e8]at f8;subst f8;refine Z8 ?_;refine RY ?_;refine R4 ?_;refine mK ?_;refine K.conv (fun w hw=>dm (hd:=hd) (W:=Y) ⟨.slice (some ⟨g1,0,none⟩) W1.hs.length c1,W4,Se,C9⟩ hV hw) ?_
    clear hV f9;refine K.loop (fun j:Nat=>[(0,bp bw),(1,.int .i64 ((r-m:Nat):Int)),(6,.int .i64 (k:Nat)),(42,.int .i64 (W1.hs.length:Nat)),(43,.int .i64 (k:Nat)),(50,.int .i64 (W1.hs.length:Nat)),(51,.int .i64 (j:Nat))]) (fun j=>kZ bw hd ((List.range j).foldl (fun W dst=>qo W k dst) Y)::L) (fun j=>j<=W1.hs.length) (fun j=>W1.hs.length-j) 0 (aV _) ⟨rfl,rfl,rfl,rfl,rfl,rfl,rfl,trivial⟩ (fun _ h=>h) ?_;intro j hj
    try dsimp only at hj ⊢
    have hBj:dC c (kb+10000*m+400+1608*k+402*j) ((List.range j).foldl (fun W dst=>qo W k dst) Y):=(EW (fun W' a Lc hw=>hw.qo k a) (List.range j) _ _ YQ).mono (aF _) Y27;have GF:(List.range (j+1)).foldl (fun W dst=>qo W k dst) Y=qo ((List.range j).foldl (fun W dst=>qo W k dst) Y) k j:=by rw[List.range_succ,List.foldl_append];rfl
    generalize hZ:(List.range j).foldl (fun W dst=>qo W k dst) Y=Z at hBj GF ⊢;refine hF ?_;refine K.br rfl (fun h4=>?_) (fun h4=>?_)
    ·have Lg:j<W1.hs.length:=by omega
     refine sZ ?_;refine lL ?_;refine lK ?_;refine KO.cl (cp:=[]) rfl rfl rfl call69 rfl (KC.oN bQ (Sf w0 _ bw c (kb+10000*m+400+1608*k+402*j) hd Z (k:Int) (j:Int) hT hM hBj ae hc)) ?_;rintro v' L' ⟨rfl,rfl⟩;refine HJ ?_;have hBs:=hBj.se (k:Int) (j:Int);by_cases he:F6 Z (k:Int) (j:Int)=0
     ·rw[he];refine uJ ?_;refine Z8 ?_;refine KO.cl (cp:=[]) rfl rfl rfl call77 rfl (KC.oN bQ (Ds w0 _ bw c _ hd _ hT hM hBs ae hc)) ?_;rintro v' L' ⟨rfl,rfl⟩;refine s8 ?_;refine KQ.round (j+1) ae ae ⟨rfl,rfl,rfl,rfl,rfl,rfl,rfl,trivial⟩ (fun _ h=>?_);rw[GF];unfold qo;rw[if_pos he];exact h
     ·refine K.da rfl (by simp[he]) ?_;refine qF ?_;refine KQ.round (j+1) ae ae ⟨rfl,rfl,rfl,rfl,rfl,rfl,rfl,trivial⟩ (fun _ h=>?_);rw[GF];unfold qo;rw[if_neg he];exact h
    ·have Lg:j=W1.hs.length:=by omega
     subst Lg;refine Z92 ?_;refine O6 ?_;refine KQ.round (k+1) ae ae ⟨rfl,rfl,rfl,rfl,trivial⟩ (fun _ h=>?_);rw[MV];unfold y_;rw[hZ];exact h
   ·have pb:k=W1.hs.length:=by omega
    subst pb;refine Z92 ?_;refine Z8 ?_;refine Fv ?_;refine uR ?_;refine KQ.round (y9 W1,m+1) ⟨(gP.y9 ae).mono (aF _) gV,by dsimp only;omega,?_,fun h=>absurd h (Nat.succ_ne_zero m)⟩ gV ⟨rfl,?_,trivial⟩ (fun _ h=>?_)
    ·dsimp only;rw[<-hf,show r-m=(r-(m+1))+1 by omega];rfl
    ·dsimp only;rw[show((r-(m+1):Nat):Int)=((r-m:Nat):Int)-1 by omega];rfl
    ·dsimp only;rw[eR,hY];exact h
 ·have zW:m=r:=by omega
  subst zW;refine R5 ?_;refine KQ.jr rfl (fun w' aT=>⟨_,_,rfl,⟨rfl,rfl⟩,?_⟩);rw[<-hf,Nat.sub_self];exact aT
end Go.Proofs.YtjhogocabcdjbabGreatDoor
namespace WB
open Go Go.RowKit
variable {P:Program} {ops:Array Oper} {Q:Exit->Act->World->Prop}
def NW (ops:Array Oper) (E:List (Nat×Nat)):Bool:=
 let qV:=Eg ops.toList []
 KM ops E||(qU ops qV&&E.any fun q=>E.any fun q'=>via qV q.2 q'.2 q'&&E.any (via qV q'.2 q.1))
theorem He{E:List (Nat×Nat)}(hb:eV ops=true){l:List Nat}(hv:Valid ops l)(hE:∀q∈E,∀p s,l=p++q.2::s->q.1∈p)(hm:∀q∈E,q.2∈l)(h:NW ops E=true):False:=by
 simp only[NW,Bool.or_eq_true]at h;rcases h with h|h
 ·exact zf hb hv hE hm h
 rw[a_]at h;obtain⟨ha,h⟩:=h;obtain⟨q,hq,h⟩:=List.any_eq_true.1 h;obtain⟨q',zT,h⟩:=List.any_eq_true.1 h;rw[a_]at h;obtain⟨h1,h2⟩:=h;obtain⟨q'',ab5,h2⟩:=List.any_eq_true.1 h2;obtain⟨p1,s1,hl⟩:=List.append_of_mem (hm q hq);obtain⟨a,b,rfl⟩:=List.append_of_mem (hE q hq p1 s1 hl);have h3:=pU hb ha hv (hE q'' ab5) h2 a (b++q.2::s1) Lt;obtain⟨c,d,rfl⟩:=List.append_of_mem h3;have h4:=pU hb ha hv (hE q' zT) h1 c (d++q.1::(b++q.2::s1)) Lt;have hn:=hv.1;rw[hl]at hn;simp only[aL,bz]at hn;exact(List.nodup_append.1 hn).2.2 q.2 h4 q.2 aj rfl
def D_ (ops:Array Oper) (ks:List Kd):List (List (Nat×Nat))->List (List Nat)->Bool
 |[],[]=>true
 |E::r,O=>if NW ops E then D_ ops ks r O else match O with|o::s=>JO ops ks E o&&D_ ops ks r s|[]=>false
 |_,_=>false
theorem tN{ks:List Kd}{f:List Nat->Prop}{E:List (Nat×Nat)}:∀{W:List (List (Nat×Nat))} {O:List (List Nat)},D_ ops ks W O=true->CK f O->E∈W->NW ops E=true\/∃o,JO ops ks E o=true/\f o
 |[],_,_,_,h=>by cases h
 |F::r,O,h,hf,hE=>by
  cases hB:NW ops F with
  |true=>
   have h2:D_ ops ks r O=true:=by unfold D_ at h;rw[hB]at h;simpa using h
   rcases aD.1 hE with rfl|hE
   ·exact .inl hB
   ·exact tN h2 hf hE
  |false=>
   unfold D_ at h;rw[hB]at h;cases O with
   |nil=>simp at h
   |cons o s=>
    simp only[Bool.false_eq_true,if_false,a_]at h;rcases aD.1 hE with rfl|hE
    ·exact .inr ⟨o,h.1,hf.1⟩
    ·exact tN h.2 hf.2 hE
theorem vF{id:Nat}{a:Act}{w:World}(ks:List Kd)(X:List (Nat×Nat))(O:List (List Nat))(pC:P.follows .mixedOrders=true)(hX:(eV ops&&X.all fun q=>Nat.blt q.1 ops.size&&(Nat.blt q.2 ops.size&& !(q.1==q.2)))=true)(jY:D_ ops ks (ways X) O=true)(h:CK (fun ord=>ij P ops Q (ord.map (item ops ks)) a w.drew) O):(Code.region id ops true).wp P Q a w:=by
 rw[a_]at hX;obtain⟨hb,hX⟩:=hX;refine wp_region_draw fun t=>?_
 have hv:Valid ops (Region.schedule (P.follows .mixedOrders) ops t):=je _ pC _ _ fun i o ho d hd=>by
  have hi:i<ops.size:=(Array.getElem?_eq_some_iff.1 ho).1
  have h1:=aI.1 (aI.1 hb i (aZ.2 hi)) d (by
   have :ops.toList.getD i default=o:=by
    simp[Array.getElem?_eq_getElem hi]at ho ⊢;simp[ho]
   rw[this];exact hd)
  simpa[Nat.blt_eq]using h1
 generalize Region.schedule (P.follows .mixedOrders) ops t=l at hv ⊢;obtain⟨E,hE,YP,hEm⟩:=tv hv.1 X fun q hq=>by
  have :=aI.1 hX q hq;simp only[a_,Nat.blt_eq,Bool.not_eq_true',beq_eq_false_iff_ne]at this;exact⟨(hv.2.1 _).2 this.1,(hv.2.1 _).2 this.2.1,this.2.2⟩
 rcases tN jY h hE with eZ|⟨ord,jY,h⟩
 ·exact(He hb hv YP hEm eZ).elim
 simp only[JO,a_]at jY;obtain⟨hb,ha,fg,dt,hp⟩:=jY;refine rp hb ha hv YP l [] ord rfl (fun x=>?_) hp a _ h;rw[hv.2.1 x];constructor
 ·intro hx;simpa[Nat.blt_eq]using aI.1 dt x hx
 ·intro hx;exact List.contains_iff_mem.1 (aI.1 fg x (aZ.2 hx))
theorem K.Vb{n:Nat}{D:List Deferred}{w0:World}{G:Env}{L:List HP}{id:Nat}(ks:List Kd)(X:List (Nat×Nat))(O:List (List Nat))(pC:P.follows .mixedOrders=true)(hX:(eV ops&&X.all fun q=>Nat.blt q.1 ops.size&&(Nat.blt q.2 ops.size&& !(q.1==q.2)))=true)(jY:D_ ops ks (ways X) O=true)(h:CK (fun ord=>KO P ops true Q n D w0 G L (ord.map (item ops ks))) O):K P (.region id ops true) Q n D w0 G L:=fun a _ ha hw=>
 vF ks X O pC hX jY (uI (fun _ hh=>hh a _ ha hw.drew) h)
end WB
