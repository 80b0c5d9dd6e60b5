import Derived.Lib.FieldsP
import Derived.Test.YtjhogocabcdjbabGreatDoorB3
set_option linter.unusedSimpArgs false
set_option linter.unusedVariables false
set_option maxRecDepth 100000
set_option maxHeartbeats 8000000
namespace WB
open Go
theorem jj.put{c kb k:Nat}{x:Ho×Dk}(h:jj c kb k x)(u:Int)(s:ak)(pri:Int)(body:ak)(hm:∀y∈x.1.az,y.aU.length+y.bj.length<=600):jj (c+1) kb k (jt x.1 u s pri body,x.2):=by
 by_cases he:ic x.1 u s pri body=0
 ·obtain⟨kJ,F2,Dz,-⟩:=L6 he;obtain⟨hj,-,-⟩:=xe h.B kJ;have hB:=h.B.put u s pri body;have e1:jt x.1 u s pri body=dc {x.1.eI (lI x.1 s) (dS (x.1.uR (lI x.1 s)) (fk x.1 s pri body) u)with next:=x.1.next+1} u.toNat ⟨(x.1.iJ u.toNat).aU++[(fk x.1 s pri body,(kE x.1 s).2.1)],(x.1.iJ u.toNat).bj⟩:=by
   unfold jt;rw[if_pos he];unfold nY;rw[if_pos F2]
  rw[e1]at hB ⊢;refine⟨(AN _ _).trans h.id,hB.le (by show _<=300+(c+1)+250*(x.1.eI _ _).used;rw[pJ];omega),h.len,h.left,h.size,h.mr,fun y hy=>?_,?_,?_⟩
  ·have hy:y∈(x.1.eI (lI x.1 s) (dS (x.1.uR (lI x.1 s)) (fk x.1 s pri body) u)).az.set u.toNat ⟨(x.1.iJ u.toNat).aU++[(fk x.1 s pri body,(kE x.1 s).2.1)],(x.1.iJ u.toNat).bj⟩:=hy;rw[iT]at hy;rcases br hy with h1|rfl
   ·exact⟨(h.az y h1).1,by have :=(h.az y h1).2;omega⟩
   ·rcases Nat.lt_or_ge u.toNat x.1.az.length with hu|hu
    ·have h2:=mo h.B (u:=u.toNat) (by have :=h.B.az;omega);have h3:=ax h2;obtain⟨a,b⟩:=h.az _ h3;have h4:=hm _ h3;refine⟨⟨fun p hp=>?_,a.bj,by dsimp only;simp;omega⟩,by dsimp only;simp;omega⟩;rcases aP.1 hp with hp|hp
     ·exact a.aU p hp
     ·simp at hp;subst hp;exact Dz
    ·have :(x.1.iJ u.toNat)=⟨[],[]⟩:=by unfold Ho.iJ;rw[aq,cG hu];rfl
     rw[this];refine⟨⟨fun p hp=>?_,(fun g hg=>by cases hg),by simp⟩,by simp⟩;simp at hp;subst hp;exact Dz
  ·refine WR.of (H:=x.1.eI (lI x.1 s) (dS (x.1.uR (lI x.1 s)) (fk x.1 s pri body) u)) ?_ rfl;unfold Ho.eI;split
   ·rename_i h4;refine h.ways.iS fun e he=>?_
    rcases zx he with rfl|he
    ·exact Dz
    ·rw[aaH h.B.ways h4]at he;exact h.ways.at' _ e he
   ·exact h.ways.of rfl
  ·have h1:(x.1.eI (lI x.1 s) (dS (x.1.uR (lI x.1 s)) (fk x.1 s pri body) u)).aE.length=x.1.aE.length:=zu _ _;have h2:(x.1.eI (lI x.1 s) (dS (x.1.uR (lI x.1 s)) (fk x.1 s pri body) u)).used=x.1.used:=pJ _ _
   show(x.1.eI _ _).aE.length<=2+(x.1.eI _ _).used
   rw[h1,h2];exact h.ql
 ·have :jt x.1 u s pri body=x.1:=by unfold jt;rw[if_neg he]
  rw[this];exact h.mono (Nat.le_succ c) (aC _)
theorem Vn{H:Ho}{u:Int}{s:ak}(he:gm H u s=0):∃i,H.qI s=some i/\lH (H.dX i)=0/\H.down=false/\(s=c_\/dO H.names s=true):=by
 have h0:=he;unfold gm at h0;split at h0
 ·cases h0
 ·cases hq:H.qI s with
  |none=>rw[hq]at h0;cases h0
  |some i=>
   rw[hq]at h0;dsimp only at h0;split at h0
   ·cases h0
   ·rename_i h1;split at h0
    ·cases h0
    ·rename_i h2;refine⟨i,rfl,h0,by simpa using h2,?_⟩;by_cases hd:s=c_
     ·exact .inl hd
     ·cases hl:dO H.names s with
      |true=>exact .inr rfl
      |false=>exact absurd ⟨hd,hl⟩ h1
theorem jj.get{c kb k:Nat}{x:Ho×Dk}(h:jj c kb k x)(u:Int){s:ak}(hs:cS s=true)(hm:∀y∈x.1.az,y.aU.length+y.bj.length<=600):jj (c+1) kb k (iE x.1 u s,x.2):=by
 by_cases he:gm x.1 u s=0
 ·obtain⟨i,MZ,F2,-,-⟩:=Vn he;have hB:=h.B.get u s;obtain⟨q,Xl⟩:∃q,xd (x.1.dX i)=some q:=by
   unfold lH at F2;split at F2
   ·cases F2
   ·rename_i q ON;exact⟨q,ON⟩
  obtain⟨oX,-,-⟩:=List.findIdx?_eq_some_iff_getElem.1 Xl;have JH:lG (x.1.dX i)=((x.1.dX i).l[q]).m:=by unfold lG;rw[Xl];dsimp only;rw[ob (ao oX)]
  have ni:=(h.B.qa (i_ MZ).1).ids _ (List.getElem_mem oX);rw[<-JH]at ni;have e1:iE x.1 u s=dc (x.1.ft i (mW (x.1.dX i) u)) u.toNat ⟨(x.1.iJ u.toNat).aU,(x.1.iJ u.toNat).bj++[((lG (x.1.dX i)).id,s)]⟩:=by
   unfold iE;rw[if_pos he,MZ];rfl
  rw[e1]at hB ⊢;refine⟨h.id,hB.le (by show _<=300+(c+1)+250*x.1.used;omega),h.len,h.left,h.size,h.mr,fun y hy=>?_,h.ways.of rfl,by show(x.1.ft _ _).aE.length<=_;rw[wR];exact h.ql⟩;have hy:y∈x.1.az.set u.toNat ⟨(x.1.iJ u.toNat).aU,(x.1.iJ u.toNat).bj++[((lG (x.1.dX i)).id,s)]⟩:=hy;rcases br hy with h1|rfl
  ·exact⟨(h.az y h1).1,by have :=(h.az y h1).2;omega⟩
  ·rcases Nat.lt_or_ge u.toNat x.1.az.length with hu|hu
   ·have h2:=mo h.B (u:=u.toNat) (by have :=h.B.az;omega);have h3:=ax h2;obtain⟨a,b⟩:=h.az _ h3;have h4:=hm _ h3;refine⟨⟨a.aU,fun g hg=>?_,by dsimp only;simp;omega⟩,by dsimp only;omega⟩;rcases aP.1 hg with hg|hg
    ·exact a.bj g hg
    ·simp at hg;subst hg;exact⟨ni.1,ni.2,hs⟩
   ·have :(x.1.iJ u.toNat)=⟨[],[]⟩:=by unfold Ho.iJ;rw[aq,cG hu];rfl
    rw[this];refine⟨⟨(fun p hp=>by cases hp),fun g hg=>?_,by simp⟩,by simp⟩;simp at hg;subst hg;exact⟨ni.1,ni.2,hs⟩
 ·have :iE x.1 u s=x.1:=by unfold iE;rw[if_neg he]
  rw[this];exact h.mono (Nat.le_succ c) (aC _)
theorem jj.bk{c kb k:Nat}{x:Ho×Dk}(h:jj c kb k x)(u:Int):jj c kb k (uQ x.1 u,x.2):=by
 have hB:=h.B.bk u;unfold uQ at hB ⊢;split
 ·rename_i h0;rw[if_pos h0]at hB;refine⟨h.id,hB.le (by show _<=300+c+250*x.1.used;omega),h.len,h.left,h.size,h.mr,fun y hy=>?_,fun q hq=>?_,by show(cY x.1 u).aE.length<=2+x.1.used;unfold cY;simpa using h.ql⟩
  ·have hy:y∈x.1.az.set u.toNat dt:=hy;rcases br hy with h1|rfl
   ·exact h.az y h1
   ·exact⟨⟨(fun p hp=>by cases hp),(fun g hg=>by cases hg),by decide⟩,aR _⟩
  ·have hq:q∈x.1.ways.map fun q=>fp q u true:=hq
   obtain⟨q0,h1,rfl⟩:=aD.1 hq;intro e he;unfold fp at he;split at he
   ·exact h.ways q0 h1 e he
   ·obtain⟨e0,h2,rfl⟩:=aD.1 he;exact h.ways q0 h1 e0 (aI.1 h2).1
 ·exact h
theorem jj.cm{c kb k:Nat}{x:Ho×Dk}(h:jj c kb k x)(hc:c<=240){u:Nat}(hu:u<5):jj c (kb+1) k (p5 x.1 x.2 u,t_ x.1 x.2 u):=by
 have yV:=mo h.B hu;have hum:=ax yV;obtain⟨F5,hpm⟩:=h.az _ hum;have kZ:eX 250 (oK (x.1.iJ u)):=F5.Ym ae;have hw:=h.write kZ (Bx F5);by_cases h1:kC x.1 u≠0
 ·unfold p5 t_;rw[if_pos h1,if_pos h1];exact h.mono (aC _) (Nat.le_succ _)
 by_cases h2:ep x.1 x.2≠0
 ·unfold p5 t_;rw[if_neg h1,if_neg h1,if_pos h2,aM];unfold oU at hw;rw[if_neg h2]at hw;exact hw
 have hB:=h.B.cm (D:=x.2) (u:Int) fun y hy=>(h.az y hy).1
 have l9:=p4 (H:=x.1) (D:=x.2) (u:Int);have h1':kC x.1 u=0:=by simpa using h1
 have h2':ep x.1 x.2=0:=by simpa using h2
 have he:vq x.1 x.2 u=0:=by unfold vq;rw[if_neg h1];exact h2'
 rw[if_pos he,aM]at l9;rw[aM]at hB;have eD:t_ x.1 x.2 u=ig x.1 x.2 (oK (x.1.iJ u)):=by unfold t_;rw[if_neg h1,aM]
 have eH:p5 x.1 x.2 u=(fq (dc (cY (dY x.1 x.2) u) u dt) (o4 (x.1.iJ u))).1:=by
  unfold p5;rw[if_neg h1,if_neg h2,aM]
 obtain⟨eL,-,-,-⟩:=fS h2' (oK (x.1.iJ u));have eU:(p5 x.1 x.2 u).used=x.1.used+1:=by
  rw[eH,(oi _ _).used,eL];rfl
 refine⟨?_,hB.le (by dsimp only;rw[eU];omega),by dsimp only;rw[eD];exact hw.len,by dsimp only;rw[eD];exact hw.left,by dsimp only;rw[eD];exact hw.size,by dsimp only;rw[eD];exact hw.mr,fun y hy=>?_,?_,?_⟩
 ·dsimp only;rw[eH,(oi _ _).id,eL];exact h.id
 ·dsimp only at hy;rw[l9]at hy;rcases br hy with h3|rfl
  ·exact h.az y h3
  ·exact⟨⟨(fun p hp=>by cases hp),(fun g hg=>by cases hg),by decide⟩,aR _⟩
 ·dsimp only;rw[eH];refine DN ?_ _;intro q hq;have hq:q∈(dY x.1 x.2).ways.map fun q=>fp q u true:=hq
  rw[zL]at hq;obtain⟨q0,h1,rfl⟩:=aD.1 hq;intro e he;unfold fp at he;split at he
  ·exact h.ways q0 h1 e he
  ·obtain⟨e0,h2,rfl⟩:=aD.1 he;exact h.ways q0 h1 e0 (aI.1 h2).1
 ·dsimp only;rw[eU,eH,DL];have h3:(dc (cY (dY x.1 x.2) u) u dt).aE.length=x.1.aE.length:=by
   rw[eL];unfold dc cY;simp
  rw[h3];have :=h.ql;omega
structure AE where
 n:Nat
 W:Wo
 T:List (Int×Ms)
 P:List (List Ms)
 G:List (List Int)
 ks:List Int
 Ls:List (List Int)
 ok:Bool
def xS:ak:=⟨#[120]⟩
def q3S (k:Nat):ak:=if k=0 then ML else if k=1 then FF else Nv
def Yq (ks:List Int) (x:Int):Option Nat:=ks.findIdx? fun k=>decide (k=x)
def ac_ (ks:List Int) (x:Int):List Int:=match Yq ks x with|some _=>ks|none=>ks++[x]
def ac9 (ks:List Int) (Ls:List (List Int)) (x id:Int):List (List Int):=match Yq ks x with|some i=>Ls.set i (Ls.getD i []++[id])|none=>Ls++[[id]]
structure OvS where
 T:List (Int×Ms)
 ks:List Int
 Ls:List (List Int)
def ovP (k:Nat) (s:OvS) (m:Ms):OvS:=
 if m.b9≠(k:Int)then⟨kj s.T m.id m,ac_ s.ks ((k:Int)*100+m.pri),ac9 s.ks s.Ls ((k:Int)*100+m.pri) m.id⟩else⟨kj s.T m.id m,s.ks,s.Ls⟩
def ovG (s:List (Int×Ms)×Bool) (id:Int):List (Int×Ms)×Bool:=(Gx s.1 id,s.2&&(gC s.1 id).isSome)
def ix (k u:Nat):Nat:=k *5+u
def TH (S:AE) (k u:Nat):AE:=
 let o:=(S.P.getD (ix k u) []).foldl (ovP k) ⟨S.T,S.ks,S.Ls⟩;let g:=(S.G.getD (ix k u) []).foldl ovG (o.T,S.ok)
 {S with T:=g.1,ks:=o.ks,Ls:=o.Ls,ok:=g.2,P:=S.P.set (ix k u) [],G:=S.G.set (ix k u) []}
def Yr {α:Type} (P:List (List α)) (k:Nat):List (List α):=(List.range 5).foldl (fun P u=>P.set (ix k u) []) P
def Cu (S:AE) (k:Nat):AE:={S with P:=Yr S.P k,G:=Yr S.G k}
def TG (n k:Nat) (id pri:Int) (q:ak):Ms:=if q=Nv then⟨id,pri,xS,ML,((k:Int)+1)%n⟩else⟨id,pri,xS,q,k⟩
def XO (S:AE) (k u:Nat) (q:ak) (pri:Int):AE:=
 let S1:={S with W:=S.W.bX k (jt (S.W.H k) u q pri xS,S.W.D k)}
 if ic (S.W.H k) u q pri xS=0 then {S1 with P:=S.P.set (ix k u) (S.P.getD (ix k u) []++[TG S.n k (u4 (S.W.H k) u q pri xS) pri q])}else S1
def XP (S:AE) (k u:Nat) (q:ak):AE:=
 let m:=getM (S.W.H k) u q;let S1:={S with W:=S.W.bX k (iE (S.W.H k) u q,S.W.D k)}
 if gm (S.W.H k) u q=0 then {S1 with ok:=S.ok&&decide ((gC S.T m.id).getD mm=m),G:=S.G.set (ix k u) (S.G.getD (ix k u) []++[m.id])}else S1
def XQ (S:AE) (k u:Nat):AE:=
 let S1:={S with W:=S.W.bX k (p5 (S.W.H k) (S.W.D k) u,t_ (S.W.H k) (S.W.D k) u)}
 if vq (S.W.H k) (S.W.D k) u=0 then TH S1 k u else S1
def acG (S:AE) (k u:Nat):AE:=
 let S1:={S with W:=S.W.bX k (uQ (S.W.H k) u,S.W.D k)}
 if wq (S.W.H k) u=0 then {S1 with P:=S.P.set (ix k u) [],G:=S.G.set (ix k u) []}else S1
def TI (S:AE) (k:Nat):AE:=if(S.W.H k).down=true then Cu S k else S
def TJ (S:AE):AE:={(List.range S.n).foldl TI S with W:=calm 1 S.W}
def taI (S:AE) (x:AcK):Int:=if 0<S.W.dy.length then pk x.n (S.W.dy.length:Nat)else 0
def Pb (S:AE) (x:AcK):Nat:=(pk x.k (S.n:Nat)).toNat
def taU (x:AcK):Nat:=(pk x.unit 5).toNat
def acF (S:AE) (x:AcK):AE:=
 if x.cq=0 then XO S (Pb S x) (taU x) (q3S (pk x.n 3).toNat) (pk x.m 3)
 else if x.cq=1 then XP S (Pb S x) (taU x) (if pk x.m 5=0 then c_ else q3S (pk x.n 2).toNat)
 else if x.cq=2 then XQ S (Pb S x) (taU x)
 else if x.cq=3 then acG S (Pb S x) (taU x)
 else if x.cq=4 then {S with W:=AP S.W (Pb S x) (((Pb S x:Nat)+1)%(S.n:Int))}
 else if x.cq=5 then {S with W:=tX S.W (taI S x)}
 else if x.cq=6 then {S with W:=FO S.W (taI S x)}
 else if x.cq=7 then {S with W:=Fl S.W (taI S x)}
 else if x.cq=8 then {S with W:=sX S.W (Pb S x) (pk x.n 4) (pk x.m 150-1)}
 else if x.cq=9 then {Cu S (Pb S x)with W:=Ff S.W (Pb S x)}
 else if x.cq=10 then TJ S
 else S
section
variable {c kb k n:Nat} {H H0:Ho} {D:Dk} {R:Rh}
end
section
variable {c kb k n:Nat} {H H0:Ho} {D:Dk} {R:Rh}
def agS (b:Int) (l:List Dd):Int:=(l.filter (·.put)).foldl (fun b d=>max b (d.m.id/4+1)) b
def afO (l:List Dd):List (Ms×Nat):=(l.filter (·.put)).map fun d=>(d.m,d.q)
def agH (l:List Dd):List (Int×Nat):=(l.filter fun d=> !d.put).map fun d=>(d.m.id,d.q)
end
section
variable {c kb k n:Nat} {H H0:Ho} {D:Dk} {R:Rh}
end
section
variable {c kb k n:Nat} {H H0:Ho} {D:Dk} {R:Rh}
def aar:Rh->List Ms->List (Ms×Nat)
 |_,[]=>[]
 |R,m::l=>(m,LY R m)::aar (HU R m) l
structure RmI (H:Ho) (R:Rh) (r:List (ak×Int)):Prop where
 ky:bN H=R.keys
 al:R.all.length=4+R.keys.length
 loc:∀s,pR R.names s=dO H.names s/\(dO H.names s=true->(∃i,H.qI s=some i)/\s≠c_)
 len:∀s i,pR R.names s=true->H.qI s=some i->((R.lq (4+i)).length:Int)=((H.dX i).l.length:Int)+Hz r s
end
section
variable {c kb k n:Nat} {H H0:Ho} {D:Dk} {R:Rh}
structure HPI (i j:Nat) (id:Int) (H:Ho) (D:Dk) (R:Rh):Prop where
 ex:∃(k:Nat) (H0:Ho),id=(k:Int)/\k<4/\HI k H D H0/\jj i (i+j) k (H,D)/\HR H R H0/\DR D R/\∀y∈H.az,y.aU.length+y.bj.length<=i
theorem Nk(hB:cE n H){u:Int}{s:ak}(he:gm H u s=0):cS s=true:=by
 unfold gm at he;split at he
 ·cases he
 ·cases hq:H.qI s with
  |none=>rw[hq]at he;cases he
  |some i=>
   rw[hq]at he;dsimp only at he;by_cases g:s≠c_/\dO H.names s=false
   ·rw[if_pos g]at he;cases he
   ·by_cases e:s=c_
    ·rw[e];exact ya
    ·have hl:dO H.names s=true:=by
      cases hl:dO H.names s with
      |true=>rfl
      |false=>exact absurd ⟨e,hl⟩ g
     unfold dO at hl;rw[jd hB.sorted]at hl;cases hk:lk H.names s with
     |none=>rw[hk]at hl;cases hl
     |some x=>
      obtain⟨hm,rfl⟩:=Ul hk;exact(eJ (hB.right x hm)).1
theorem wI{w:Nat}{x:rL}{i:Nat}(hm:∀y∈H.az,y.aU.length+y.bj.length<=i)(hx:x.aU.length+x.bj.length<=i+1):∀y∈H.az.set w x,y.aU.length+y.bj.length<=i+1:=fun y hy=>by
 rcases br hy with h1|rfl
 ·have :=hm y h1;omega
 ·exact hx
theorem Fj{i:Nat}(hm:∀y∈H.az,y.aU.length+y.bj.length<=i)(w:Nat):(H.iJ w).aU.length+(H.iJ w).bj.length<=i:=by
 unfold Ho.iJ;rw[aq];cases hu:H.az[w]? with
 |none=>exact aR _
 |some y=>exact hm y (ax hu)
theorem jj.name(h:jj c kb k (H,D))(x:Nm):jj c (kb+1) k (gL H D x,jb H D x):=by
 unfold gL jb;by_cases h1:fC H x≠0
 ·rw[if_pos h1,if_pos h1];exact h.mono (aC _) (Nat.le_succ _)
 ·rw[if_neg h1,if_neg h1];have h2:cu H.names x=0:=by
   unfold fC at h1;by_cases h2:cu H.names x≠0
   ·rw[if_pos h2]at h1;exact absurd h2 h1
   ·simpa using h2
  obtain⟨q1,q2,-⟩:=s8 h2;exact h.write (x:=(H,D)) q1 q2
theorem jj.Fi(h:jj c kb k (H,D))(s:ak):jj c (kb+1) k (IT H D s,Lr H D s):=by
 unfold IT Lr;by_cases h1:nQ H s≠0
 ·rw[if_pos h1,if_pos h1];exact h.mono (aC _) (Nat.le_succ _)
 ·rw[if_neg h1,if_neg h1];have h2:H.names.any (fun x=>decide (x.name=s))=true:=by
   unfold nQ at h1;split at h1
   ·assumption
   ·exact absurd ai h1
  obtain⟨q1,q2,-⟩:=HV (Hr h.B.right h2);exact h.write (x:=(H,D)) q1 q2
theorem Mm{i:Nat}(hm:∀y∈H.az,y.aU.length+y.bj.length<=i)(x:Nm):∀y∈(gL H D x).az,y.aU.length+y.bj.length<=i:=by
 unfold gL;split
 ·exact hm
 ·rw[(lB H D _).2];exact hm
theorem TD{i:Nat}(hm:∀y∈H.az,y.aU.length+y.bj.length<=i)(s:ak):∀y∈(IT H D s).az,y.aU.length+y.bj.length<=i:=by
 unfold IT;split
 ·exact hm
 ·rw[(lB H D _).2];exact hm
end
instance:Inhabited Rh:=⟨LU 0⟩
structure RW where
 hs:List Rh
 dy:List Gm
 lost:Int
namespace RW
def is (V:RW) (k:Int):Bool:=decide (0<=k/\k<(V.hs.length:Int))
def H (V:RW) (k:Nat):Rh:=V.hs.getD k default
def bX (V:RW) (k:Nat) (R:Rh):RW:={V with hs:=V.hs.set k R}
end RW
def afF (n:Nat):RW:=⟨(List.range n).map fun k:Nat=>LU (k:Int),[],0⟩
def LJ (V:RW) (g:Gm):RW:=if 100<=V.dy.length then {V with lost:=V.lost+1}else {V with dy:=V.dy++[g]}
def acQ (V:RW) (k:Nat):RW:=V.bX k (AS {V.H k with off:=false})
def XW (V:RW) (k dst:Int):Int:=if V.is k=true/\V.is dst=true then CF (V.H k.toNat) dst else 2
def TO (V:RW) (k dst:Int):RW:=if V.is k=true/\V.is dst=true then
 (if CF (V.H k.toNat) dst=0 then LJ (V.bX k.toNat (LZ (V.H k.toNat) dst)) ⟨dst,⟨k,Sp (V.H k.toNat) dst,false⟩,Sn (V.H k.toNat) dst⟩else V.bX k.toNat (LZ (V.H k.toNat) dst))
 else V
def LK (V:RW) (i:Nat):RW:={V with dy:=V.dy.eraseIdx i}
def TS (V:RW) (i:Nat):Gm:=V.dy.getD i default
def acP (V:RW) (i:Nat):RW:=LJ V (TS V i)
def XY (V:RW) (g:Gm):RW:=
 if g.f.wu=true then V.bX g.dto.toNat (Yb (V.H g.dto.toNat) g.f.gD g.f.num)
 else if L0 (V.H g.dto.toNat) g.f.gD g.f.num g.l=0 then
  LJ (V.bX g.dto.toNat (T5 (V.H g.dto.toNat) g.f.gD g.f.num g.l)) ⟨g.f.gD,⟨g.dto,Ss (V.H g.dto.toNat) g.f.gD g.f.num g.l,true⟩,[]⟩
 else V.bX g.dto.toNat (T5 (V.H g.dto.toNat) g.f.gD g.f.num g.l)
def XV (V:RW):Nat:=(V.dy.map Ip).sum
def Si:Nat->RW->RW
 |0,V=>V
 |f+1,V=>if V.dy=[]then V else Si f (XY (LK V 0) (TS V 0))
def XX (V:RW):RW:=Si (XV V) V
def X3 (V:RW) (k:Nat):RW:=if(V.H k).down=true then V.bX k (AS {V.H k with off:=false})else V.bX k {V.H k with off:=false}
def X2 (V:RW) (k dst:Nat):RW:=if XW V k dst=0 then XX (TO V k dst)else TO V k dst
def XZ (V:RW):RW:=XX ((List.range V.hs.length).foldl X3 V)
def X1 (n:Nat) (V:RW) (k:Nat):RW:=(List.range n).foldl (fun V dst=>X2 V k dst) V
def X0 (V:RW):RW:=(List.range V.hs.length).foldl (X1 V.hs.length) (XZ V)
def LM:Nat->RW->RW
 |0,V=>V
 |r+1,V=>LM r (X0 V)
def TR (V:RW) (k dst:Nat) (m:Ms):Bool:=((V.H k).Q5 dst).any fun i=>decide (i=m.id)&&(V.is dst&&decide ((V.H k).md dst<=(V.H dst).ar k))
def LL (V:RW) (k dst:Nat):List Ms:=if r0 (V.H k) dst=true then(CD ((V.H k).lq dst)).filter fun m=> !TR V k dst m else[]
def TP (V:RW) (k:Nat):List Ms:=Fy (V.H k)++(List.range 4).flatMap (LL V k)
def afG (V:RW):List Ms:=(List.range V.hs.length).flatMap (TP V)
structure WRl (W:Wo) (V:RW):Prop where
 len:V.hs.length=W.hs.length
 dy:V.dy=W.dy
 lost:V.lost=W.lost
 hs:∀k,k<W.hs.length->HR (W.H k) (V.H k) (gy (k:Int) (W.D k))/\DR (W.D k) (V.H k)
section
variable {c kb n:Nat} {W:Wo} {V:RW} {C0:Nat->Ho} {T:List Ms}
end
section
variable {c kb n:Nat} {W:Wo} {V:RW} {C0:Nat->Ho} {T:List Ms}
theorem Aq{H H':Ho}(h1:hv H'=hv H)(h2:H'.batch=H.batch)(h3:H'.bU=H.bU)(h4:H'.aF=H.aF)(h5:H'.next=H.next):kM H'=kM H:=by
 unfold kM;have e2:bR H'=bR H:=by funext d;unfold bR;rw[h2]
 have e3:da H'=da H:=by funext d;unfold da;rw[h3]
 have e4:cT H'=cT H:=by funext d;unfold cT;rw[h4]
 rw[h1,e2,e3,e4,h5]
theorem GJ.rV(g:GJ n W C0 T){k:Nat}{x:Ho×Dk}(hx:W.hs[k]? =some x){H' H3:Ho}{D':Dk}(hi:HI k H' D' H3)(hc:kM H3=kM (C0 k))(hu:H'.az=x.1.az):∃C1,GJ n (W.bX k (H',D')) C1 T:=by
 refine⟨_,g.set (T':=T) hi (by rw[hc,zt];exact g.gc) trivial (g.az hx hu) (fun i x _ hx=>g.fresh i x hx)⟩
theorem sb(H:Ho)(D:Dk)(x:Nm):(gL H D x).az=H.az:=by
 unfold gL;split
 ·rfl
 ·exact(lB H D _).2
theorem GJ.name(g:GJ n W C0 T){k:Nat}(hk:k<n)(x:Nm):∃C1,GJ n (W.bX k (gL (W.H k) (W.D k) x,jb (W.H k) (W.D k) x)) C1 T:=by
 obtain⟨y,hy,e1,e2,h⟩:=g.at hk;rw[e1,e2];by_cases he:jL y.1 y.2 x=0
 ·have h3:=(o_ he).2.2.1;have Xt:cu (C0 k).names x=0:=by rw[h.names];exact h3
  have s:=pV (C0 k) x;refine g.rV hy (h.name he) (Aq ?_ s.batch s.bU s.aF ?_) (sb _ _ _)
  ·exact A6 Xt
  ·show(eP (C0 k) x).next=_
   unfold eP;split<;>rfl
 ·exact g.rV hy (h.Ys he) rfl (sb _ _ _)
theorem GJ.Fi(g:GJ n W C0 T)(hw:dr c kb W){k:Nat}(hk:k<n)(s:ak):∃C1,GJ n (W.bX k (IT (W.H k) (W.D k) s,Lr (W.H k) (W.D k) s)) C1 T:=by
 obtain⟨y,hy,e1,e2,h⟩:=g.at hk;have hn:=g.hn;have hB:=(hw.hs k y hy).B;rw[e1,e2];unfold IT Lr;by_cases h1:nQ y.1 s≠0
 ·rw[if_pos h1,if_pos h1];exact g.rV hy h rfl rfl
 ·rw[if_neg h1,if_neg h1];have h1:nQ y.1 s=0:=by simpa using h1
  have aeq:y.1.names.any (fun x=>decide (x.name=s))=true:=by
   unfold nQ at h1;split at h1
   ·assumption
   ·cases h1
  obtain⟨q1,q2,q3⟩:=HV (Hr hB.right aeq);unfold oU;by_cases he:ep y.1 y.2=0
  ·have s0:du (C0 k).names:=by rw[h.names];exact hB.sorted
   have u0:nQ (C0 k) s=0:=by unfold nQ at h1 ⊢;rw[h.names];exact h1
   obtain⟨eL,-,-,-⟩:=fS he (r4 s);rw[if_pos he,eL,uI (H:={y.1 with used:=y.1.used+1}) hB.sorted h1];have h2:HI k (nn {y.1 with used:=y.1.used+1} s) (ig y.1 y.2 (r4 s)) {nn (C0 k) s with used:=(C0 k).used+1}:=by
    refine h.xr he q3 q2 q1 (uI s0 u0) rfl rfl ?_ h.keys h.bt h.sn h.av rfl h.nq h.uX h.oD h.wy h.lt h.Jj h.nx (fun u x hx=>(h.unit u x hx).same rfl rfl rfl) h.bin;unfold nn;dsimp only;rw[h.names]
   exact g.rV hy h2 (Aq rfl rfl rfl rfl rfl) rfl
  ·rw[if_neg he];exact g.rV hy (h.fail q3 q2 he) rfl (ll y.1 y.2).2.1
def WZ (W:Wo) (k:Nat) (x:Ac):Wo:=W.bX k (Xv (W.H k) (W.D k) x,dsD (W.H k) (W.D k) x)
def wdV (V:RW) (k:Nat) (x:Ac):RW:=V.bX k (dsR (V.H k) x)
def UB (c:Nat) (W:Wo):Prop:= ∀k,∀y∈(W.H k).az,y.aU.length+y.bj.length<=c
theorem UB.same{W':Wo}(h:UB c W)(u:gd W W'):UB c W':=fun k y hy=>h k y (by rw[<-u k];exact hy)
theorem UB.mono{c':Nat}(h:UB c W)(hc:c<=c'):UB c' W:=fun k y hy=>Nat.le_trans (h k y hy) hc
theorem UB.set(h:UB c W){k:Nat}{x:Ho×Dk}(hx:∀y∈x.1.az,y.aU.length+y.bj.length<=c):UB c (W.bX k x):=fun i y hy=>by
 rw[wS]at hy;split at hy
 ·exact hx y hy
 ·exact h i y hy
structure RwI (n c kb:Nat) (V:RW):Prop where
 ex:∃(W:Wo) (C0:Nat->Ho) (T:List Ms),GJ n W C0 T/\dr c kb W/\WRl W V/\UB c W
structure WPI (i n:Nat) (W:Wo) (V:RW):Prop where
 ex:∃(C0:Nat->Ho) (T:List Ms),GJ n W C0 T/\dr i (40000*i) W/\WRl W V/\UB i W
theorem GJ.stay(g:GJ n W C0 T){k:Nat}(hk:k<n):∃C1,GJ n (W.bX k (W.H k,W.D k)) C1 T:=by
 obtain⟨x,hx,e1,e2,h1⟩:=g.at hk;rw[e1,e2];exact⟨_,g.same h1 trivial (g.az hx rfl)⟩
theorem GJ.act(g:GJ n W C0 T)(hw:dr c kb W)(hc:c<=200)(hK:kb<=1000000000000){k:Nat}(hk:k<n)(x:Ac)(h6:x.cq<6):∃C1 T1,GJ n (WZ W k x) C1 T1/\(∀m∈T1,m∈T\/∃u,∃p∈((W.H k).iJ u).aU,m=p.1)/\(T1.length<=T.length\/x.cq=4/\∃u<5,T1.length<=T.length+((W.H k).iJ u).aU.length):=by
 have st:∀{W':Wo},(∃C1,GJ n W' C1 T)->∃C1 T1,GJ n W' C1 T1/\(∀m∈T1,m∈T\/∃u,∃p∈((W.H k).iJ u).aU,m=p.1)/\(T1.length<=T.length\/x.cq=4/\∃u<5,T1.length<=T.length+((W.H k).iJ u).aU.length):=fun⟨C1,h⟩=>⟨C1,T,h,fun _ h=>.inl h,.inl (aC _)⟩
 unfold WZ Xv dsD;by_cases w0:x.cq=0
 ·simp only[if_pos w0];exact st (g.name hk x.nm)
 simp only[if_neg w0];by_cases w1:x.cq=1
 ·simp only[if_pos w1];exact st (g.Fi hw hk x.nm.name)
 simp only[if_neg w1];have i7:¬x.cq=7:=by omega
 have i8:¬x.cq=8:=by omega
 by_cases w2:x.cq=2
 ·simp only[if_pos w2,if_neg (show ¬x.cq=4 by omega),if_neg i7,if_neg i8];by_cases he:ic (W.H k) x.n x.nm.name x.m x.body=0
  ·have hu:0<=x.n/\x.n<5:=by
    unfold ic at he;by_cases g1:x.n<0\/5<=x.n
    ·rw[if_pos g1]at he;cases he
    ·omega
   obtain⟨u,Qb⟩:∃u:Nat,x.n=(u:Int):=⟨x.n.toNat,by omega⟩;rw[Qb]at he ⊢;exact st ⟨_,g.put hw hk ae he⟩
  ·have :jt (W.H k) x.n x.nm.name x.m x.body=W.H k:=by unfold jt;rw[if_neg he]
   rw[this];exact st (g.stay hk)
 simp only[if_neg w2];by_cases w3:x.cq=3
 ·simp only[if_pos w3,if_neg (show ¬x.cq=4 by omega),if_neg i7,if_neg i8];by_cases he:gm (W.H k) x.n x.nm.name=0
  ·have hu:0<=x.n/\x.n<5:=by
    unfold gm at he;by_cases g1:x.n<0\/5<=x.n
    ·rw[if_pos g1]at he;cases he
    ·omega
   obtain⟨u,Qb⟩:∃u:Nat,x.n=(u:Int):=⟨x.n.toNat,by omega⟩;rw[Qb]at he ⊢;exact st ⟨_,(g.get hw hk ae he).1⟩
  ·have :iE (W.H k) x.n x.nm.name=W.H k:=by unfold iE;rw[if_neg he]
   rw[this];exact st (g.stay hk)
 simp only[if_neg w3];by_cases w4:x.cq=4
 ·simp only[if_pos w4];by_cases hu:0<=x.n/\x.n<5
  ·obtain⟨u,Qb⟩:∃u:Nat,x.n=(u:Int):=⟨x.n.toNat,by omega⟩;rw[Qb];by_cases he:vq (W.H k) (W.D k) (u:Int)=0
   ·obtain⟨C1,h⟩:=g.ye hw hK ae hk ae he;refine⟨C1,_,h,fun m hm=>?_,.inr ⟨w4,u,by omega,?_⟩⟩
    ·unfold CU at hm;rcases aP.1 (aI.1 hm).1 with hm|hm
     ·obtain⟨p,hp,rfl⟩:=aD.1 hm;exact .inr ⟨u,p,hp,rfl⟩
     ·exact .inl hm
    ·unfold CU;refine Nat.le_trans (List.length_filter_le _ _) ?_;rw[aQ,aV];omega
   ·exact st ⟨_,g.Bt hw hk ae he⟩
  ·have hp:kC (W.H k) x.n≠0:=by unfold kC;rw[if_pos (show x.n<0\/5<=x.n by omega)];decide
   have e1:p5 (W.H k) (W.D k) x.n=W.H k:=by unfold p5;rw[if_pos hp]
   have e2:t_ (W.H k) (W.D k) x.n=W.D k:=by unfold t_;rw[if_pos hp]
   rw[e1,e2];exact st (g.stay hk)
 simp only[if_neg w4];by_cases w5:x.cq=5
 ·simp only[if_pos w5,if_neg i7,if_neg i8];by_cases he:wq (W.H k) x.n=0
  ·have hu:0<=x.n/\x.n<5:=by
    unfold wq at he;by_cases g1:x.n<0\/5<=x.n
    ·rw[if_pos g1]at he;cases he
    ·omega
   obtain⟨u,Qb⟩:∃u:Nat,x.n=(u:Int):=⟨x.n.toNat,by omega⟩;rw[Qb]at he ⊢;exact st ⟨_,g.back hw hk ae he⟩
  ·have :uQ (W.H k) x.n=W.H k:=by unfold uQ;rw[if_neg he]
   rw[this];exact st (g.stay hk)
 simp only[if_neg w5,if_neg i7,if_neg i8];exact st (g.stay hk)
def TQ (V:RW) (i:Int):Bool:=decide (0<=i/\i<(V.dy.length:Int))
def ntC (x:Ac):Nat:=(x.n%18446744073709551616%4).toNat
def ntW (W:Wo) (x:Ac):Wo:=
 if x.cq=6 then AP W x.k x.n else if x.cq=9 then sX W x.k x.n x.m else if x.cq=10 then Ff W x.k
 else if x.cq=11 then tX W x.n else if x.cq=12 then FO W x.n else if x.cq=13 then Fl W x.n
 else if x.cq=14 then calm (ntC x) W else W
def ntV (V:RW) (x:Ac):RW:=
 if x.cq=6 then TO V x.k x.n
 else if x.cq=9 then(if V.is x.k=true then V.bX x.k.toNat (Sm (V.H x.k.toNat) x.n)else V)
 else if x.cq=10 then(if V.is x.k=true then acQ V x.k.toNat else V)
 else if x.cq=11 then(if TQ V x.n=true then XY (LK V x.n.toNat) (TS V x.n.toNat)else V)
 else if x.cq=12 then(if TQ V x.n=true then LK V x.n.toNat else V)
 else if x.cq=13 then(if TQ V x.n=true then acP V x.n.toNat else V)
 else if x.cq=14 then LM (ntC x) V else V
theorem UB.p6(h:UB c W)(g:GJ n W C0 T){k:Nat}(hk:k<n):UB c (p6 W k):=fun i y hy=>by
 rw[GK g hk i]at hy;split at hy
 ·rw[List.eq_of_mem_replicate hy];exact aR _
 ·exact h i y hy
theorem UB.yZ:∀(l:List Nat) {W:Wo},UB c W->GJ n W C0 T->(∀k∈l,k<n)->UB c (l.foldl WB.p6 W)
 |[],_,h,_,_=>h
 |k::l,W,h,g,hl=>UB.yZ l (h.p6 g (hl k aj)) (g.p6 (hl k aj)) fun j hj=>hl j (by simp[hj])
theorem UB.Eb(h:UB c W)(g:GJ n W C0 T):UB c (Eb W):=by
 have hn:=g.hn;unfold WB.Eb WB.B_;exact((h.yZ _ g fun k hk=>by rw[<-hn];exact bz.1 hk).same (gd.ZY _)).same (gd.fold (fun W a=>gd.yN _ W a) _ _)
theorem UB.calm:∀(r:Nat) {kb:Nat} {W:Wo} {C0:Nat->Ho},UB c W->GJ n W C0 T->dr c kb W->kb+10000*r<=1000000000000->UB c (calm r W)
 |0,_,_,_,h,_,_,_=>h
 |r+1,kb,W,C0,h,g,hw,hK=>by
  rw[Nat.mul_succ]at hK;have hz:∀z:Nat,kb+(z+10000)<=1000000000000->kb+10000<=1000000000000/\kb<=1000000000000/\kb+10000+z<=1000000000000:=fun z h=>by omega
  obtain⟨hK1,hK2,hK3⟩:=hz _ hK;obtain⟨C1,g1⟩:=g.Eb hw hK1;exact UB.calm r (h.Eb g) g1 (hw.Eb hK2) hK3
theorem Cx{a b:List Ms}(hp:a.Perm b)(hn:(b.map (·.id)).Nodup)(ha:a.Pairwise fun x y=>x.id<=y.id)(hb:b.Pairwise fun x y=>x.id<=y.id):a=b:=by
 refine List.Perm.eq_of_pairwise (le:=fun x y:Ms=>x.id<=y.id) ?_ ha hb hp;intro x y hx hy h1 h2;exact kY hn (hp.mem_iff.1 hx) hy ae
structure RwB (n:Nat) (V:RW):Prop where
 n1:1<=n/\n<=4
 len:V.hs.length=n
 hs:∀k,k<n->RhB 79000 (V.H k)/\(V.H k).id=(k:Int)
 dy:∀g∈V.dy,GmB n g
 wl:V.dy.length<=100
 lost:0<=V.lost/\V.lost<=1000000000000
end
theorem HI.new(k:Nat):HI k (eo k) lR (eo k):=by
 have Kz:hv (eo (k:Int))=[]:=rfl;have l9:∀y∈(eo (k:Int)).az,y=⟨[],[]⟩:=fun y hy=>List.eq_of_mem_replicate hy
 refine⟨rfl,⟨[],tW,.nil _,rfl⟩,rfl,rfl,rfl,rfl,rfl,⟨0,rfl⟩,(fun e he=>by rw[Kz]at he;cases he),by unfold hk;rw[Kz];exact .refl _,by rw[Kz];exact List.nodup_nil,(fun e he=>by rw[Kz]at he;cases he),(fun e he=>by rw[Kz]at he;cases he),(fun e he=>by rw[Kz]at he;cases he),Int.le_refl _,fun u x hx=>?_,fun d i hi=>?_⟩
 ·rw[l9 x (ax hx)];exact UJ.nil _ _
 ·have :bR (eo (k:Int)) d=[]:=by
   unfold bR;rw[aq];cases hd:(eo (k:Int)).batch[d]? with
   |none=>rfl
   |some l=>exact List.eq_of_mem_replicate (ax hd)
  rw[this]at hi;cases hi
theorem vM{n k:Nat}{x:Ho×Dk}(h:(eE n).hs[k]? =some x):x=(eo k,lR)/\k<n:=by
 unfold eE at h;rw[aH]at h;obtain⟨j,hj,rfl⟩:=Option.map_eq_some_iff.1 h;rw[au]at hj;obtain⟨h1,h2⟩:=hj;rw[List.getElem_range]at h2;subst h2;rw[List.length_range]at h1;exact⟨rfl,h1⟩
theorem Vm{n:Nat}(hn:1<=n/\n<=4):GJ n (eE n) (fun k=>eo k) []/\dr 0 0 (eE n)/\UB 0 (eE n):=by
 have hlen:(eE n).hs.length=n:=by unfold eE;simp
 have hbc:∀k d,bR (eo (k:Int)) d=[]:=fun k d=>by
  unfold bR;rw[aq];cases hd:(eo (k:Int)).batch[d]? with
  |none=>rfl
  |some l=>exact List.eq_of_mem_replicate (ax hd)
 have hz:∀(k d:Nat),(List.replicate 4 (0:Int)).getD d 0=0:=fun k d=>by
  rw[aq];cases hd:(List.replicate 4 (0:Int))[d]? with
  |none=>rfl
  |some x=>exact List.eq_of_mem_replicate (ax hd)
 refine⟨⟨hlen,fun k x hx=>?_,⟨?_,List.nodup_nil,(fun m hm=>by cases hm),fun k hk=>?_,fun k hk d i hi=>?_,fun k d hk hd KH=>?_,(fun g hg=>by cases hg)⟩,fun k x hx u y hy p hp=>?_,fun k x hx=>trivial⟩,?_,fun k y hy=>?_⟩
 ·rw[(vM hx).1];exact HI.new k
 ·have :xy n (CC fun k=>eo k)=[]:=by
   unfold xy;rw[List.flatMap_eq_nil_iff];intro k _;rfl
  rw[this]
 ·exact List.nodup_nil
 ·rw[show(CC (fun k:Nat=>eo (k:Int)) k).bt d=bR (eo (k:Int)) d from rfl,hbc]at hi;cases hi
 ·refine⟨?_,?_,fun _=>?_⟩
  ·show(List.replicate 4 (0:Int)).getD k 0<=(List.replicate 4 (0:Int)).getD d 0
   rw[hz k k,hz k d];exact Int.le_refl 0
  ·show(List.replicate 4 (0:Int)).getD d 0<=(List.replicate 4 (0:Int)).getD k 0+1
   rw[hz k k,hz k d];decide
  ·show(List.replicate 4 (0:Int)).getD k 0=(List.replicate 4 (0:Int)).getD d 0
   rw[hz k k,hz k d]
 ·rw[(vM hx).1]at hy;have :y=⟨[],[]⟩:=List.eq_of_mem_replicate (ax hy);subst this;cases hp
 ·refine⟨by omega,fun k x hx=>?_,(fun g hg=>by cases hg),aR _,Int.le_refl 0,Int.le_refl 0⟩;obtain⟨h1,h2⟩:=vM hx;rw[h1];have hB:cE 10 (eo (k:Int)):=Gk ae;have ku:=D6;have l9:∀y∈(eo (k:Int)).az,y=⟨[],[]⟩:=fun y hy=>List.eq_of_mem_replicate hy
  refine⟨rfl,hB.le (by show 10<=300+0+250*0;decide),ku.len,⟨show -(((0:Nat):Int))<=0 by omega,show(0:Int)<=9223372036854775807 by omega⟩,ku.size,ku.mr,fun u hu=>?_,Il _,show 1<=2+0 by omega⟩;rw[l9 u hu];exact⟨⟨(fun p hp=>by cases hp),(fun p hp=>by cases hp),by decide⟩,aR _⟩
 ·have h1:((eE n).H k).az=List.replicate 5 ⟨[],[]⟩:=by
   unfold Wo.H Wo.at';rw[aq];cases hk:(eE n).hs[k]? with
   |none=>rfl
   |some x=>rw[(vM hk).1];rfl
  rw[h1]at hy;rw[List.eq_of_mem_replicate hy];exact aC 0
inductive Out where
 |ok (s:ak)
 |er (k:Int)
def pC:Out->ak
 | .ok s=>s
 | .er k=>(⟨#[101,114,114,111,114,32]⟩:ak)++bH k
def agQ (w:List ak):Option (List Int):=w.mapM canon
def dj (W:Wo) (e:Int) (s:ak):Wo×Out:=(W,if e=0 then .ok s else .er e)
def fu (W:Wo) (a:ak) (f:Int->Wo×Out):Wo×Out:=match canon a with
 |some k=>f k
 |none=>(W,.er 3)
def EY (W:Wo) (k:Int) (f:Nat->Wo×Out):Wo×Out:=if W.is k=true then f k.toNat else(W,.er 2)
def MB (W:Wo):List Ms:=(tv W).mergeSort fun a b=>decide (a.id<=b.id)
def r9 (x:Nm):ak:=
 let s:=if x.iQ=⟨#[]⟩then x.name else x.name++((⟨#[61]⟩:ak)++x.iQ)
 if 0<=x.b9 then s++((⟨#[64]⟩:ak)++bH x.b9)else s
def SQ (H:Ho):List Ms:=(dZ (H.aE.map (·.1))).flatMap (gN H)
def WY (H:Ho) (k:Int):Int:=if bQ H k=true then 0 else 2
def Tt (H:Ho) (k:Int):List Ms:=if bQ H k=true then cM (H.hF k.toNat)else[]
def aat:ak:=(⟨#[98,97,99,107,32,99,97,108,109,32,99,111,109,109,105,116,32,99,117,116,32,100,101,108,105,118,101,114,32,103,101,116,32,104,101,108,112,32,107,101,112,116,32,108,101,100,103,101,114,32,108,111,115,101,32,109,97,110,121,32,110,97,109,101,32,110,97,109,101,115,32,112,117,116,32,114,101,115,116,97,114,116,32,115,101,110,100,32,116,104,101,114,101,32,116,119,105,99,101,32,117,110,110,97,109,101,32,119,97,105,116,115,32,119,111,114,108,100]⟩:ak)
def toS (s:ak):ak:=if s=(⟨#[45]⟩:ak)then⟨#[]⟩else s
def cX:Nat->Wo->List ak->Wo×Out
 |0,W,[a,b]=>fu W a fun k=>fu W b fun u=>EY W k fun j=>dj (W.bX j (uQ (W.H j) u,W.D j)) (wq (W.H j) u) (⟨#[98,97,99,107]⟩:ak)
 |1,W,[a]=>fu W a fun n=>if n<0\/100<n then(W,.er 2)else(calm n.toNat W,.ok (⟨#[99,97,108,109]⟩:ak))
 |2,W,[a,b]=>fu W a fun k=>fu W b fun u=>EY W k fun j=>dj (W.bX j (p5 (W.H j) (W.D j) u,t_ (W.H j) (W.D j) u)) (vq (W.H j) (W.D j) u) (⟨#[99,111,109,109,105,116]⟩:ak)
 |3,W,[a,b,c]=>fu W a fun k=>fu W b fun n=>fu W c fun t=>dj (sX W k n t) (oC W k) (⟨#[99,117,116]⟩:ak)
 |4,W,[a]=>fu W a fun i=>dj (tX W i) (vL W i) (⟨#[100,101,108,105,118,101,114]⟩:ak)
 |5,W,[a,b,c]=>fu W a fun k=>fu W b fun u=>EY W k fun j=>dj (W.bX j (iE (W.H j) u c,W.D j)) (gm (W.H j) u c) ((⟨#[103,111,116]⟩:ak)++sp++bL [getM (W.H j) u c])
 |6,W,[]=>(W,.ok aat)
 |7,W,[a]=>fu W a fun k=>EY W k fun j=>(W,.ok ((⟨#[107,101,112,116]⟩:ak)++sp++bL (SQ (W.H j))))
 |8,W,[]=>(W,.ok ((⟨#[108,101,100,103,101,114]⟩:ak)++sp++bL (MB W)))
 |9,W,[a]=>fu W a fun i=>dj (FO W i) (vL W i) (⟨#[108,111,115,101]⟩:ak)
 |10,W,[]=>(W,.ok (bH (W.dy.length:Nat)++sp++bH W.lost))
 |11,W,[a,b,c,d]=>fu W a fun k=>fu W d fun h=>EY W k fun j=>dj (W.bX j (gL (W.H j) (W.D j) ⟨b,toS c,h⟩,jb (W.H j) (W.D j) ⟨b,toS c,h⟩)) (jL (W.H j) (W.D j) ⟨b,toS c,h⟩) (⟨#[110,97,109,101]⟩:ak)
 |12,W,[a]=>fu W a fun k=>EY W k fun j=>(W,.ok ((⟨#[110,97,109,101,115,32]⟩:ak)++cJ ((W.H j).names.map r9) sp))
 |13,W,[a,b,c,d,e]=>fu W a fun k=>fu W b fun u=>fu W d fun p=>EY W k fun j=>dj (W.bX j (jt (W.H j) u c p e,W.D j)) (ic (W.H j) u c p e) (bH (u4 (W.H j) u c p e))
 |14,W,[a]=>fu W a fun k=>dj (Ff W k) (oC W k) (⟨#[114,101,115,116,97,114,116]⟩:ak)
 |15,W,[a,b]=>fu W a fun k=>fu W b fun d=>dj (AP W k d) (Fv W k d) (⟨#[115,101,110,100]⟩:ak)
 |16,W,[a,b]=>fu W a fun k=>EY W k fun j=>dj W (gh (W.H j) b) ((⟨#[116,104,101,114,101]⟩:ak)++sp++bL (jP (W.H j) b))
 |17,W,[a]=>fu W a fun i=>dj (Fl W i) (vL W i) (⟨#[116,119,105,99,101]⟩:ak)
 |18,W,[a,b]=>fu W a fun k=>EY W k fun j=>dj (W.bX j (IT (W.H j) (W.D j) b,Lr (W.H j) (W.D j) b)) (Sc (W.H j) (W.D j) b) (⟨#[117,110,110,97,109,101]⟩:ak)
 |19,W,[a,b]=>fu W a fun k=>fu W b fun d=>EY W k fun j=>dj W (WY (W.H j) d) ((⟨#[119,97,105,116,115]⟩:ak)++sp++bL (Tt (W.H j) d))
 |20,W,[a]=>fu W a fun n=>if 1<=n/\n<=4 then(eE n.toNat,.ok (⟨#[119,111,114,108,100]⟩:ak))else(W,.er 2)
 |_,W,_=>(W,.er 3)
def nA:List ak:=[(⟨#[98,97,99,107]⟩:ak),(⟨#[99,97,108,109]⟩:ak),(⟨#[99,111,109,109,105,116]⟩:ak),(⟨#[99,117,116]⟩:ak),(⟨#[100,101,108,105,118,101,114]⟩:ak),(⟨#[103,101,116]⟩:ak),(⟨#[104,101,108,112]⟩:ak),(⟨#[107,101,112,116]⟩:ak),(⟨#[108,101,100,103,101,114]⟩:ak),(⟨#[108,111,115,101]⟩:ak),(⟨#[109,97,110,121]⟩:ak),(⟨#[110,97,109,101]⟩:ak),(⟨#[110,97,109,101,115]⟩:ak),(⟨#[112,117,116]⟩:ak),(⟨#[114,101,115,116,97,114,116]⟩:ak),(⟨#[115,101,110,100]⟩:ak),(⟨#[116,104,101,114,101]⟩:ak),(⟨#[116,119,105,99,101]⟩:ak),(⟨#[117,110,110,97,109,101]⟩:ak),(⟨#[119,97,105,116,115]⟩:ak),(⟨#[119,111,114,108,100]⟩:ak)]
def qi (s:ak):List ak:=Lib.goFieldsP (fun r=>r==32) s
def kB (W:Wo) (s:ak):Wo×Out:=match qi s with
 |[]=>(W,.ok (⟨#[111,107]⟩:ak))
 |c::w=>match nA.findIdx? (fun x=>decide (x=c))with
  |none=>(W,.er 3)
  |some i=>cX i W w
def iq (S:Wo×ak) (l:List ak):Wo×ak:=l.foldl (fun S s=>((kB S.1 s).1,S.2++(pC (kB S.1 s).2++⟨#[10]⟩))) S
def hI (s:ak):ak:=⟨(Lib.trimSuffix s.data.toList [10]).toArray⟩
def AO (s:ak):ak:=if 20000<s.size then(⟨#[101,114,114,111,114,32,52,10]⟩:ak)else(iq (eE 2,⟨#[]⟩) (cH 10 (hI s))).2
theorem rm(S:Wo×ak)(l m:List ak):iq S (l++m)=iq (iq S l) m:=List.foldl_append ..
theorem yd:∀(l:List ak) (S:Wo×ak),∃t,(iq S l).2=S.2++t
 |[],S=>⟨⟨#[]⟩,ByteArray.append_empty.symm⟩
 |s::l,S=>by
  obtain⟨t,h⟩:=yd l ((kB S.1 s).1,S.2++(pC (kB S.1 s).2++⟨#[10]⟩));exact⟨pC (kB S.1 s).2++⟨#[10]⟩++t,by rw[<-ByteArray.append_assoc];exact h⟩
end WB
namespace Go.Proofs.YtjhogocabcdjbabGreatDoor
open Tryz
open Go Go.RowKit WB
def zj (k:Int):List PanicEntry:=[{v:=.iface 289 (.agg #[.int .i64 k]),recovered:=false}]
theorem Mp(w0:World)(L:List HP)(k:Int)(hg:c8 w0):KX prog 198 #[cz 70 k] w0 L (fun e M=>M=L/\e=if k=0 then .returned (.tuple #[])else .panicked (zj k)):=by
 by_cases hk:k=0
 ·subst hk;refine KX.mk (n:=8) func198 rfl ntmps198 aj ?_;intro w hw;refine gU ?_;refine qo ?_;refine BB ?_;refine vI ?_;refine KQ.tU rfl (fun w' hs=>⟨_,⟨rfl,rfl⟩,hw.aA hs.below,hs.below⟩)
 ·have he:cz 70 k=.iface 70 (.int .i64 k):=by unfold cz;rw[if_neg hk]
  rw[he,if_neg hk];refine KX.mk (n:=8) func198 rfl ntmps198 aj ?_;intro w hw;have KJ:=(Ext.bB hw.below).cell hg;have tl:=TE w [] k KJ;rw[he]at tl;refine gU ?_;refine zc ?_;refine BD ?_;refine Z7 ?_;refine KO.ce (cp:=[]) rfl rfl rfl call265 rfl tl ?_;rintro v' L' ⟨rfl,rfl⟩;refine KO.sE (pl:=[(0,1)]) rfl zeroValue289 runUnderlying289 (by intro w;simp[sizeOf70]) aL rfl ?_;refine rC ?_;refine KO.pan rfl rfl ?_;exact fun tm w' hs=>⟨rfl,_,⟨rfl,rfl⟩,hw.aA hs.below,hs.below⟩
theorem iV(w0:World)(L:List HP)(hg:c8 w0){k:Int}(hk:k=0):KE prog 198 #[cz 70 k] w0 L (fun v M=>v=.tuple #[]/\M=L):=
 (Mp w0 L k hg).e fun e M ⟨h1,h2⟩=>by rw[if_pos hk]at h2;exact⟨_,h2,rfl,h1⟩
theorem gl(w0:World)(L:List HP)(hg:c8 w0){k:Int}(hk:¬k=0):KN prog 198 #[cz 70 k] w0 L (fun c M=>c=zj k/\M=L):=
 (Mp w0 L k hg).no fun e M ⟨h1,h2⟩=>by rw[if_neg hk]at h2;exact⟨_,h2,rfl,h1⟩
theorem H5(w0:World)(L:List HP)(hg:c8 w0):KN prog 198 #[.iface 70 (.int .i64 3)] w0 L (fun c M=>c=zj 3/\M=L):=by
 have h:=gl w0 L hg (k:=3) ae
 rwa [show cz 70 3=.iface 70 (.int .i64 3)from if_neg ae]at h
theorem SF(w0:World)(L:List HP)(hg:c8 w0):KN prog 198 #[.iface 70 (.int .i64 2)] w0 L (fun c M=>c=zj 2/\M=L):=by
 have h:=gl w0 L hg (k:=2) ae
 rwa [show cz 70 2=.iface 70 (.int .i64 2)from if_neg ae]at h
theorem Mq(w0:World)(L:List HP)(hg:c8 w0):KE prog 198 #[.nilIface] w0 L (fun v M=>v=.tuple #[]/\M=L):=iV w0 L hg (k:=0) rfl
theorem R_(w0:World)(L:List HP)(a:Option Addr)(len cap:Nat)(n:Int)(hg:c8 w0):KX prog 196 #[.slice a len cap,.int .i64 n] w0 L (fun e M=>M=L/\e=if(len:Int)=n then .returned (.tuple #[])else .panicked (zj 3)):=by
 refine KX.mk (n:=10) func196 rfl ntmps196 aj ?_;intro w hw;have KJ:=(Ext.bB hw.below).cell hg;refine gU ?_;refine Hc ?_;refine Z1 ?_;refine y9 ?_;refine Z5 ?_;by_cases hk:(len:Int)=n
 ·rw[if_pos hk];refine K.cP rfl (by simp[hk]) ?_;refine vI ?_;refine KQ.tU rfl (fun w' hs=>⟨_,⟨rfl,rfl⟩,hw.aA hs.below,hs.below⟩)
 ·rw[if_neg hk];refine K.cA rfl (by simp[hk]) ?_;refine dC ?_;refine rC ?_;refine KO.die (fi:=[]) (cp:=[]) rfl rfl rfl call198 (H5 w _ KJ) ?_;rintro c M ⟨rfl,rfl⟩;exact fun tm w' hs=>⟨rfl,_,⟨rfl,rfl⟩,hw.aA hs.below,hs.below⟩
theorem iz(w0:World)(L:List HP)(a:Option Addr){len cap:Nat}{n:Int}(hg:c8 w0)(h:(len:Int)=n):KE prog 196 #[.slice a len cap,.int .i64 n] w0 L (fun v M=>v=.tuple #[]/\M=L):=
 (R_ w0 L a len cap n hg).e fun e M ⟨h1,h2⟩=>by rw[if_pos h]at h2;exact⟨_,h2,rfl,h1⟩
theorem iy(w0:World)(L:List HP)(a:Option Addr){len cap:Nat}{n:Int}(hg:c8 w0)(h:¬(len:Int)=n):KN prog 196 #[.slice a len cap,.int .i64 n] w0 L (fun c M=>c=zj 3/\M=L):=
 (R_ w0 L a len cap n hg).no fun e M ⟨h1,h2⟩=>by rw[if_neg h]at h2;exact⟨_,h2,rfl,h1⟩
theorem Mj(w0:World)(L:List HP)(v:Value)(ws:List ak)(hr:∀w,St w0 L w->oS w 1 fI v ws)(DT:nI w0)(Gl:oB w0)(hg:c8 w0)(cj:∀x∈ws,x.size<=100000000)(hl:ws.length<=1000):
 KX prog 197 #[v] w0 L (fun e M=>match ws.mapM canon with|some l=> ∃u,e=.returned u/\M=SL 3 1 cR u l::L|none=>e=.panicked (zj 3)/\M=L):=by
 refine KX.mk (n:=35) func197 rfl ntmps197 aj ?_;intro w hw;have hT:=DT.ext (Ext.bB hw.below);have hM:=Gl.ext (Ext.bB hw.below);have KJ:=(Ext.bB hw.below).cell hg;obtain⟨sa,cap,rfl,hc⟩:=hr w hw;refine Z2 ?_;refine BM ?_;refine Hc ?_;refine lf ?_;refine K.loop (fun s:Nat×Value×List Int=>[(3,s.2.1),(8,.slice sa ws.length cap),(9,.int .i64 (ws.length:Nat)),(10,.int .i64 (s.1:Nat))]) (fun s=>[SL 3 1 cR s.2.1 s.2.2]) (fun s=>s.1<=ws.length/\(ws.take s.1).mapM canon=some s.2.2/\s.2.2.length=s.1) (fun s=>ws.length-s.1) (0,.slice none 0 0,[])
  ⟨aR _,rfl,rfl⟩ ⟨rfl,rfl,rfl,rfl,trivial⟩ (fun _ h=>cL h) ?_
 rintro⟨k,vo,l⟩ ⟨hk,oX,Xi⟩;dsimp only at hk oX Xi ⊢;refine gZ ?_;refine K.bI rfl (fun h=>?_) (fun h=>?_)
 ·obtain⟨x,hx⟩:∃e,ws[k]? =some e:=⟨ws[k],ao ae⟩;obtain⟨ad,rfl,hh⟩:=hc k x hx;have iD:w.cell? (ad.add (k *1))=some (.string x):=by have :=hh 0 _ rfl;rwa [Addr.add_zero']at this
  have oc:=cj x (ax hx);have KB:(ws.take (k+1)).mapM canon=(canon x).bind fun v=>some (l++[v]):=by
   rw[bA hx,List.mapM_append,oX];simp;cases canon x<;>rfl
  have bad:canon x=none->ws.mapM canon=none:=fun hn=>by
   have :(ws.take (k+1)).mapM canon=none:=by rw[KB,hn];rfl
   rw[<-List.take_append_drop (k+1) ws,List.mapM_append,this];rfl
  have die:∀w' (hs:St w [] w'),ws.mapM canon=none->∃M,(match ws.mapM canon with|some l=> ∃u,Ending.panicked (zj 3)=.returned u/\M=SL 3 1 cR u l::L|none=>Ending.panicked (zj 3)=.panicked (zj 3)/\M=L)/\St w0 M w'/\Below w.heap.size w w':=fun w' hs hn=>by
   rw[hn];exact⟨_,⟨rfl,rfl⟩,hw.aA hs.below,hs.below⟩
  refine pE ?_;refine KO.tA rfl rfl runUnderlying115 sizeOf9 aL ae rfl ?_;refine KO.pb rfl rfl isAgg9 iD rfl ?_;refine jH ?_;cases hn:dM x with
  |none=>
   have JK:canon x=none:=by unfold canon;rw[hn]
   refine Z7 ?_;refine KO.ce (cp:=[]) rfl rfl rfl call136 rfl (fH w _ x oc hM) ?_;rintro v' L' ⟨hR,rfl⟩;unfold ia at hR;rw[hn]at hR;obtain⟨x',T,y,rfl⟩:=hR;refine Ha ?_;refine BU ?_;refine sL ?_;refine dC ?_;refine rC ?_;refine KO.die (fi:=[]) (cp:=[]) rfl rfl rfl call198 (H5 w _ KJ) ?_;rintro c M ⟨rfl,rfl⟩;exact fun tm w' hs=>⟨rfl,die w' hs.drop (bad JK)⟩
  |some v=>
   have hv:=C3 hn;by_cases hi:bH v=x
   ·have tM:canon x=some v:=by unfold canon;rw[hn];simp[hi]
    refine Z7 ?_;refine KO.ce (cp:=[]) rfl rfl rfl call136 rfl (fH w _ x oc hM) ?_;rintro v' L' ⟨hR,rfl⟩;unfold ia at hR;rw[hn]at hR;subst hR;refine jY ?_;refine qo ?_;refine Hf ?_;refine Z1 ?_;refine KO.on rfl rfl rfl ?_;refine KO.ce (cp:=[]) rfl rfl rfl call59 rfl (fF w _ v hT hv) ?_;rintro v' L' ⟨rfl,rfl⟩;refine sG ?_;refine Ez ?_;refine K.cP rfl (by simp[hi]) ?_;refine ES ?_;refine iw ?_;refine KO.iN (z:=(Value.int .i64 0)) (sz:=1) (cV:=8) rfl rfl underlying23 bm aL aL ai ai rfl ?_;intro b31;refine KO.app (z:=Value.int .i64 0) (sz:=1) (cV:=8) rfl rfl rfl (.tail .head) .head underlying23 bm aL v aL aL aL ae ai rfl ?_;intro v';refine rz ?_;refine KQ.round (k+1,v',l++[v]) ⟨by omega,by rw[KB,tM];rfl,by simp;omega⟩ ji ⟨rfl,rfl,rfl,rfl,trivial⟩ (fun _ h=>h)
   ·have JK:canon x=none:=by unfold canon;rw[hn];simp[hi]
    refine Z7 ?_;refine KO.ce (cp:=[]) rfl rfl rfl call136 rfl (fH w _ x oc hM) ?_;rintro v' L' ⟨hR,rfl⟩;unfold ia at hR;rw[hn]at hR;subst hR;refine jY ?_;refine qo ?_;refine Hf ?_;refine Z1 ?_;refine KO.on rfl rfl rfl ?_;refine KO.ce (cp:=[]) rfl rfl rfl call59 rfl (fF w _ v hT hv) ?_;rintro v' L' ⟨rfl,rfl⟩;refine sG ?_;refine Ez ?_;refine K.cA rfl (by simp[hi]) ?_;refine dC ?_;refine rC ?_;refine KO.die (fi:=[]) (cp:=[]) rfl rfl rfl call198 (H5 w _ KJ) ?_;rintro c M ⟨rfl,rfl⟩;exact fun tm w' hs=>⟨rfl,die w' hs.drop (bad JK)⟩
 ·have sO:k=ws.length:=by omega
  rw[sO,List.take_length]at oX;refine yu ?_;refine fK ?_;refine KQ.a_ rfl rfl (fun w' hs=>?_);rw[oX];exact⟨_,⟨_,rfl,rfl⟩,hw.stack (M:=[SL 3 1 cR vo l]) hs,hs.below⟩
theorem GG(w0:World)(L:List HP)(s:ak)(c:UInt8)(hs:s.size<=100000000)(hM:oB w0):
 KE prog 135 #[.string s,.string ⟨#[c]⟩] w0 L (fun u M=>u=.tuple #[.string (cQ c s).1,.string (cQ c s).2.1,.bool (cQ c s).2.2]/\M=L):=KE.bB fun w hw=>by
 obtain⟨⟨m,hm⟩,_⟩:=hM.ext (Ext.bB hw.below);refine(Tryz.strings_Cut s ⟨#[c]⟩ m w ae hm).mono ?_;rintro e w' ⟨rfl,n,rfl⟩;exact⟨rfl,⟨rfl,rfl,rfl,aC _,fun _ _=>rfl⟩⟩
theorem kt{V:rM}{H:Ho}(hV:iY V H)(s:ak):gC (c7 V H) s=(H.qI s).bind fun i=>(V.ps[4+i]?).map aZ:=by
 have oO:=hV.ps;rw[sc _ _ _ (by rw[bo,oO];omega)];unfold Ho.qI;cases List.findIdx? (fun x=>decide (x.1=s)) H.aE with
 |none=>rfl
 |some i=>simp[List.getElem?_drop,aZ];rfl
theorem xG{w0 w:World}{bh bd:Nat}{H:Ho}{L:List HP}(V:rM)(hV:iY V H)(i:Nat)(q:Qu)(h:St w0 (bD bh (.cells (eG bd V H).toArray 133 (0,0))::jg V.nv H.names::cD Value.string V.mb (c7 V H)::ck iU V.ps (H.all.set (4+i) q)::ck cN (V.us.map (·.1)) (H.az.map (·.aU))::ck cK (V.us.map (·.2)) (H.az.map (·.bj))::ck dB V.bs H.batch::L) w):St w0 (cW bh bd (H.ft i q)::L) w:=by
 refine bK V ⟨by rw[wR];exact hV.ps,hV.us,hV.bs,hV.ways,hV.az,hV.batch,hV.bU,hV.aF⟩ ?_;unfold yL c7;rw[lU hV.ways,sd (H.ft i q).aE H.aE _ (ki i q)];exact h
theorem M3{w0 w:World}{bh bd:Nat}{H:Ho}{L:List HP}(V:rM)(hV:iY V H)(j:Nat)(hj:j<4)(q:Qu)(h:St w0 (bD bh (.cells (eG bd V H).toArray 133 (0,0))::jg V.nv H.names::cD Value.string V.mb (c7 V H)::ck iU V.ps (H.all.set j q)::ck cN (V.us.map (·.1)) (H.az.map (·.aU))::ck cK (V.us.map (·.2)) (H.az.map (·.bj))::ck dB V.bs H.batch::L) w):St w0 (cW bh bd (H.iS j q)::L) w:=by
 refine bK V ⟨hV.ps,hV.us,hV.bs,by simp[Ho.iS,hV.ways],hV.az,hV.batch,hV.bU,hV.aF⟩ ?_;unfold yL;rw[nB (by rw[hV.ways];exact hj)];exact h
theorem oe{bd:Nat}{V:rM}{H:Ho}(hV:iY V H){j p:Nat}(hj:j<4)(hp:V.ps[j]? =some p):(eG bd V H)[8+j]? =some (aZ p):=by
 have oO:=hV.ps;have :∀(r:List Value),((V.ps.take 4).map aZ++r)[j]? =some (aZ p):=fun r=>by
  rw[List.getElem?_append_left fV,aH,List.getElem?_take,if_pos hj,hp];rfl
 unfold eG;rw[show 8+j=j+8 by omega];simpa using this _
theorem I8{q:Qu}{id:Int}(h:lF q id≠0):fm q id=q:=by
 unfold lF at h;unfold fm;split
 ·rfl
 ·rename_i k hk;rw[hk]at h;exact absurd rfl h
theorem nT{l:List Qu}{i:Nat}{q:Qu}(h:l[i]? =some q):l.set i q=l:=List.gH h
theorem Ij(w0:World)(L:List HP)(bh bd n:Nat)(H:Ho)(s:ak)(hT:nI w0)(hM:oB w0)(hs:s.size<=80000)(hB:cE n H)(hn:∀l,qZ (cQ 47 s).1=some l->n+l.length<=90000)(hn0:n<=90000):
 KC prog 65 #[aZ bh,.string s] w0 (cW bh bd H::L) (fun u M=>u=.bool (fq H s).2/\M=cW bh bd (fq H s).1::L):=by
 have tM:=(ny 47 s).1;have kG:=(ny 47 s).2;refine KC.mk (n:=130) func65 rfl ntmps65 aj ?_;refine iG ?_;refine KO.ce (cp:=[]) rfl rfl rfl call135 rfl (GG w0 _ s 47 ae hM) ?_;rintro v' L' ⟨rfl,rfl⟩;refine Cb ?_;refine rB ?_;refine ry ?_;refine jH ?_;cases hm:qZ (cQ 47 s).1 with
 |none=>
  have he:fq H s=(H,false):=by
   unfold fq;split
   ·rfl
   ·rw[hm]
  rw[he];refine Z7 ?_;refine KO.ce (cp:=[]) rfl rfl rfl call160 rfl (oa w0 _ (cQ 47 s).1 ae hT hM) ?_;rintro v' L' hR;unfold R6 at hR;rw[hm]at hR;obtain⟨rfl,rfl⟩:=hR;refine pD ?_;cases ku:(cQ 47 s).2.2 with
  |false=>
   refine Od ?_;refine lg ?_;refine G_ ?_;refine KQ.a_ rfl rfl (fun w' aY=>⟨_,_,rfl,⟨rfl,rfl⟩,aY⟩)
  |true=>
   refine yA ?_;refine KO.Uf rfl bm rfl ?_;refine BQ ?_;refine K.cA rfl aj ?_;refine vH ?_;refine KQ.a_ rfl rfl (fun w' aY=>⟨_,_,rfl,⟨rfl,rfl⟩,aY⟩)
 |some l=>
  have hl:=hn l hm;obtain⟨fg,_⟩:=mY hm;have jU:∀m∈l,bG m=true:=fun m hm=>dm fg m hm
  refine Z7 ?_;refine KO.ce (cp:=[]) rfl rfl rfl call160 rfl (oa w0 _ (cQ 47 s).1 ae hT hM) ?_;rintro v' L' hR;unfold R6 at hR;rw[hm]at hR;obtain⟨v,rfl,rfl⟩:=hR;refine pD ?_;cases ku:(cQ 47 s).2.2 with
  |false=>
   have he:fq H s=(H,false):=by unfold fq;rw[ku];rfl
   rw[he];refine Od ?_;refine lg ?_;refine G_ ?_;refine KQ.a_ rfl rfl (fun w' aY=>⟨_,_,rfl,⟨rfl,rfl⟩,aY.drop⟩)
  |true=>
   have he:fq H s=if(fG H l).2=false then((fG H l).1,false)else if(cQ 47 s).2.1=⟨#[]⟩then((fG H l).1,true)else gP (fG H l).1 (cH 43 (cQ 47 s).2.1):=by
    unfold fq;rw[ku,hm];rfl
   refine yA ?_;refine qo ?_;refine BQ ?_;refine K.cP rfl aj ?_;refine Z6 ?_;refine K.fact (fun w hw=>aN (hw.pick (A:=SL 44 5 dN v l) .head)) ?_;rintro⟨ad,cap,rfl,had⟩;refine Z7 ?_;refine EA ?_;refine K.loop (fun p:Nat×Ho=>[(0,aZ bh),(6,.string (cQ 47 s).2.1),(40,.slice ad l.length cap),(41,.int .i64 (l.length:Nat)),(42,.int .i64 (p.1:Nat))]) (fun p=>cW bh bd p.2::SL 44 5 dN (.slice ad l.length cap) l::L) (fun p=>p.1<=l.length/\cE (n+p.1) p.2/\fG p.2 (l.drop p.1)=fG H l) (fun p=>l.length-p.1) (0,H)
    ⟨aR _,hB,rfl⟩ ⟨rfl,rfl,rfl,rfl,rfl,trivial⟩ (fun _ h=>h.all Y3) ?_
   rintro⟨i,H1⟩ ⟨hi,kK,mD⟩;dsimp only at hi kK mD ⊢;refine gZ ?_;refine K.bI rfl (fun h=>?_) (fun h=>?_)
   ·obtain⟨m,JC⟩:∃e,l[i]? =some e:=⟨l[i],ao ae⟩;have Dz:=jU m (ax JC);obtain⟨m1,m2,m3,m4,-,-,m7,m8⟩:=bP Dz;obtain⟨g,rfl⟩:=had ae;have me:l.drop i=m::l.drop (i+1):=by
     obtain⟨h1,rfl⟩:=au.1 JC;exact List.drop_eq_getElem_cons h1
    rw[me,fG]at mD;have B6:=kK.next
    have hm4:0<=m.id/4/\m.id/4+1<=274877906945:=by omega
    have F4:∀H2,fO H1 m=some H2->cE (n+(i+1)) H2/\fG H2 (l.drop (i+1))=fG H l:=fun H2 h2=>⟨kK.T_ Dz h2,by rw[h2]at mD;exact mD⟩
    have og:fO H1 m=none->fq H s=({H1 with next:=max H1.next (m.id/4+1)},false):=fun h2=>by
     rw[h2]at mD;simp only at mD;rw[he,<-mD,if_pos rfl]
    clear mD;have MX:small m.pri:=by unfold small;omega
    obtain⟨mi,mp,mb,mq,mh⟩:=m;dsimp only at m1 m2 m3 m4 m7 m8 hm4 MX og;refine pE ?_;refine Wx ?_;refine KO.alloc rfl zeroValue44 aL rfl ?_;intro Rl;refine BH ?_;refine K.cg (fun _ h=>cb (h.pick aX)) ?_;rintro⟨V,hV⟩;dsimp only;have oO:=hV.ps;have Gj:iY V {H1 with next:=max H1.next (mi/4+1)}:=⟨hV.ps,hV.us,hV.bs,hV.ways,hV.az,hV.batch,hV.bU,hV.aF⟩;refine K.draw [.pure,.pure,.pure,.pure,.read,.pure,.read,.pure,.pure,.pure,.pure,.pure,.write] [0,1,2,3,4,5,6,7,8,9,10,11,12] bm bm ?_;refine jh ?_;refine Oj ?_;refine KO.di (i:=5) rfl rfl isAgg3 bE rfl rfl rfl ?_;refine OT ?_;refine E8 ?_;refine KO.div (a:=mi) (c:=4) rfl rfl ai m1 ae rfl ?_;refine uS ?_;refine KO.max2 rfl rfl rfl rfl ?_;refine Oj ?_;refine KO.iA (i:=5) rfl rfl rfl aL AB rfl bE rfl OV ?_;rw[show(eG bd V H1).set 5 (.int .i64 (max H1.next (mi/4+1)))=eG bd V {H1 with next:=max H1.next (mi/4+1)}from rfl];refine Z0 ?_;have hg:=kt hV mq;obtain⟨zv,FY⟩:∃zv,zv=(gC (c7 V H1) mq).getD (.pointer none):=⟨_,rfl⟩;refine K.draw [.pure,.pure,.pure,.read,.pure,.read,.read,.pure] [0,1,2,3,4,5,6,7] bm bm ?_;refine uk ?_;refine V5 ?_;refine Rq ?_;refine rE ?_
    refine KO.Jl fj mq rfl rfl rfl underlying123 underlying9 zeroValue119 aX rfl ?_;rw[<-FY];refine Z8 ?_;refine OS ?_;refine K.draw [.pure,.read,.pure,.pure,.pure,.read,.pure,.pure] [0,1,2,3,4,5,6,7] bm bm ?_;refine ER ?_;refine E8 ?_;refine uk ?_;refine EM ?_;refine KO.di (i:=0) rfl rfl isAgg3 bE rfl rfl rfl ?_;refine y9 ?_;refine iH ?_;refine K.bI rfl (fun Gt=>?_) (fun Gt=>?_)
    ·have hj:mh.toNat<4:=by omega
     have hmh:mh=((mh.toNat:Nat):Int):=by omega
     obtain⟨p,hp⟩:∃p,V.ps[mh.toNat]? =some p:=⟨_,ao ae⟩;have hw:=oe Gj (bd:=bd) hj hp;have h2:fO H1 ⟨mi,mp,mb,mq,mh⟩=some (({H1 with next:=max H1.next (mi/4+1)}:Ho).iS mh.toNat (dS (H1.hF mh.toNat) ⟨mi,mp,mb,mq,mh⟩ (-1))):=by unfold fO;exact if_pos Gt
     obtain⟨h3,h4⟩:=F4 _ h2;refine K.draw [.pure,.pure,.read,.pure,.pure,.pure,.read,.read,.write] [0,1,2,3,4,5,6,7,8] bm bm ?_;refine Z1 ?_;refine ER ?_;refine E8 ?_;refine On ?_;refine KO.mC (i:=mh.toNat) rfl rfl runUnderlying126 sizeOf119 hmh ae rfl ?_;refine KO.di (i:=8+mh.toNat) rfl rfl isAgg119 bE wz hw rfl ?_;refine BV ?_;refine KO.cl (cp:=[]) rfl rfl rfl call147 rfl (KC.ri (φ:=fun v=>v=.tuple #[]) hp (qH hV.ways hj) aX (fun L=>AU w0 L p (H1.hF mh.toNat) ⟨mi,mp,mb,mq,mh⟩ (-1) ((kK.w hj).ok ae) MX)) ?_;rintro v' L' ⟨rfl,rfl⟩;refine um ?_;refine KQ.round (i+1,_) ⟨by dsimp only;omega,h3,h4⟩ ji ⟨rfl,rfl,rfl,rfl,rfl,trivial⟩ (fun _ h=>?_);exact M3 V Gj mh.toNat hj _ (h.all Y5)
    ·have OL:∀(o:Option Nat),H1.qI mq=o->fO H1 ⟨mi,mp,mb,mq,mh⟩=match o with|none=>none|some i=>some (({H1 with next:=max H1.next (mi/4+1)}:Ho).ft i (dS (H1.dX i) ⟨mi,mp,mb,mq,mh⟩ (-1))):=fun o ho=>by
      unfold fO;dsimp only;rw[if_neg Gt,show H1.qI mq=o from ho]
      all_goals (cases o<;>rfl)
     cases hq:H1.qI mq with
     |none=>
      rw[hq]at hg;rw[hg]at FY;subst FY;refine gU ?_;refine KO.QP rfl underlying119 rfl ?_;refine Z8 ?_;refine BD ?_;refine jX ?_;refine Z9 ?_;refine KQ.a_ rfl rfl (fun w' aY=>⟨_,_,rfl,⟨?_,rfl⟩,?_⟩)
      ·rw[og (OL _ hq)]
      ·rw[og (OL _ hq)];exact bK V Gj (aY.all Y5)
     |some k=>
      have hk:=(i_ hq).1;obtain⟨p,hp⟩:∃p,V.ps[4+k]? =some p:=⟨_,ao ae⟩;rw[hq]at hg;simp only[Option.bind_some,hp,Option.map_some]at hg;rw[hg]at FY;subst FY;have h2:=OL _ hq;obtain⟨h3,h4⟩:=F4 _ h2;refine gU ?_;refine KO.JV rfl underlying119 rfl ?_;refine Z8 ?_;refine BB ?_;refine Z7 ?_;refine BV ?_;refine KO.cl (cp:=[]) rfl rfl rfl call147 rfl (KC.ri (φ:=fun v=>v=.tuple #[]) hp (oH hV.ways hk) aX (fun L=>AU w0 L p (H1.dX k) ⟨mi,mp,mb,mq,mh⟩ (-1) ((kK.qa hk).ok ae) MX)) ?_;rintro v' L' ⟨rfl,rfl⟩;refine um ?_;refine KQ.round (i+1,_) ⟨by dsimp only;omega,h3,h4⟩ ji ⟨rfl,rfl,rfl,rfl,rfl,trivial⟩ (fun _ h=>?_);exact xG V Gj k _ (h.all Y5)
   ·have uK:i=l.length:=by omega
    subst uK;rw[List.drop_length,fG]at mD;rw[<-mD]at he;simp only[Bool.true_eq_false,if_false]at he;have Gr:=kK.le (show n+l.length<=90000 by omega);refine yu ?_;refine yv ?_;refine Z5 ?_;refine K.bI rfl (fun S2=>?_) (fun S2=>?_)
    ·rw[if_pos S2]at he;rw[he];refine vH ?_;refine KQ.a_ rfl rfl (fun w' aY=>⟨_,_,rfl,⟨rfl,rfl⟩,aY.all Y1⟩)
    ·rw[if_neg S2]at he;rw[he];have hpz:∀x∈cH 43 (cQ 47 s).2.1,x.size<=100000000:=fun x hx=>by have :=gK hx;omega
     have qA:(cH 43 (cQ 47 s).2.1).length<=(cQ 47 s).2.1.size+1:=by unfold cH;rw[aV,fR];have :=List.count_le_length (a:=43) (l:=(cQ 47 s).2.1.data.toList);rw[jE];omega
     refine mG ?_;refine KO.ce (cp:=[]) rfl rfl rfl call133 rfl (kS w0 _ (cQ 47 s).2.1 43 ae hM) ?_;rintro v' L' ⟨b92,rfl,rfl⟩;refine Hc ?_;refine lf ?_;generalize aie:cH 43 (cQ 47 s).2.1=ws at hpz qA;refine K.loop (fun p:Nat×Ho=>[(0,aZ bh),(92,.slice (some ⟨b92,0,none⟩) ws.length ws.length),(93,.int .i64 (ws.length:Nat)),(94,.int .i64 (p.1:Nat))]) (fun p=>cW bh bd p.2::iR (.slice (some ⟨b92,0,none⟩) ws.length ws.length) ws::L) (fun p=>p.1<=ws.length/\cE 90000 p.2/\gP p.2 (ws.drop p.1)=gP H1 ws) (fun p=>ws.length-p.1) (0,H1)
      ⟨aR _,Gr,rfl⟩ ⟨rfl,rfl,rfl,rfl,trivial⟩ (fun _ h=>h.all Y1) ?_
     rintro⟨i,H2⟩ ⟨hi2,hB3,kJ⟩;dsimp only at hi2 hB3 kJ ⊢;refine gZ ?_;refine K.bI rfl (fun h=>?_) (fun h=>?_)
     ·obtain⟨x,hx⟩:∃e,ws[i]? =some e:=⟨ws[i],ao ae⟩;have hxz:=hpz x (ax hx);have hxc:=(ny 32 x).1;have me:ws.drop i=x::ws.drop (i+1):=by
       obtain⟨h1,rfl⟩:=au.1 hx;exact List.drop_eq_getElem_cons h1
      rw[me,gP]at kJ;have tI:∀H3,gQ H2 x=some H3->cE 90000 H3/\gP H3 (ws.drop (i+1))=gP H1 ws:=fun H3 h2=>⟨hB3.Vp h2,by rw[h2]at kJ;exact kJ⟩
      have og:gQ H2 x=none->gP H1 ws=(H2,false):=fun h2=>by rw[h2]at kJ;exact kJ.symm
      clear kJ;refine Wl ?_;refine KO.fJ rfl rfl isAgg9 aX (fun _=>rfl) uT aL aL rfl ?_;refine kQ ?_;refine KO.ce (cp:=[]) rfl rfl rfl call135 rfl (GG w0 _ x 32 ae hM) ?_;rintro v' L' ⟨rfl,rfl⟩;refine Cb ?_;refine rB ?_;refine ry ?_;refine jH ?_;cases lO:dM (cQ 32 x).1 with
      |none=>
       have h2:gQ H2 x=none:=by unfold gQ;rw[lO]
       refine Z7 ?_;refine KO.ce (cp:=[]) rfl rfl rfl call136 rfl (fH w0 _ (cQ 32 x).1 ae hM) ?_;rintro v' L' ⟨hR,rfl⟩;unfold ia at hR;rw[lO]at hR;obtain⟨xx,TT,yy,rfl⟩:=hR;refine pD ?_;refine K.cg (fun _ h=>cb (h.pick bE)) ?_;rintro⟨V,hV⟩;dsimp only;refine G7 ?_;refine KO.Jl fj _ rfl rfl rfl underlying123 underlying9 zeroValue119 aX rfl ?_;refine kQ ?_;refine zc ?_;refine lg ?_;refine sL ?_;refine jX ?_;refine Z9 ?_;refine KQ.a_ rfl rfl (fun w' aY=>⟨_,_,rfl,⟨?_,rfl⟩,?_⟩)
       ·rw[og h2]
       ·rw[og h2];exact bK V hV (aY.all Y5)
      |some id=>
       refine Z7 ?_;refine KO.ce (cp:=[]) rfl rfl rfl call136 rfl (fH w0 _ (cQ 32 x).1 ae hM) ?_;rintro v' L' ⟨hR,rfl⟩;unfold ia at hR;rw[lO]at hR;subst hR;refine pD ?_;refine K.cg (fun _ h=>cb (h.pick bE)) ?_;rintro⟨V,hV⟩;dsimp only;have hg:=kt hV (cQ 32 x).2.1;have oO:=hV.ps;cases hq:H2.qI (cQ 32 x).2.1 with
       |none=>
        have h2:gQ H2 x=none:=by unfold gQ;rw[lO];simp only;rw[hq]
        rw[hq]at hg;refine G7 ?_;refine KO.Jl fj (cQ 32 x).2.1 rfl rfl rfl underlying123 underlying9 zeroValue119 aX rfl ?_;rw[hg];refine kQ ?_;refine qo ?_;refine Hf ?_;refine Z1 ?_;refine KO.on rfl rfl rfl ?_;refine KO.QP rfl underlying119 rfl ?_;refine qj ?_;refine BD ?_;refine jX ?_;refine Z9 ?_;refine KQ.a_ rfl rfl (fun w' aY=>⟨_,_,rfl,⟨?_,rfl⟩,?_⟩)
        ·rw[og h2]
        ·rw[og h2];exact bK V hV (aY.all Y5)
       |some k=>
        have hk:=(i_ hq).1;obtain⟨p,hp⟩:∃p,V.ps[4+k]? =some p:=⟨_,ao ae⟩;rw[hq]at hg;simp only[Option.bind_some,hp,Option.map_some]at hg;have tB:=(hB3.qa hk).len;have B7:gQ H2 x=if lF (H2.dX k) id=0 then some (H2.ft k (fm (H2.dX k) id))else none:=by unfold gQ;rw[lO];simp only;rw[hq]
        refine G7 ?_;refine KO.Jl fj (cQ 32 x).2.1 rfl rfl rfl underlying123 underlying9 zeroValue119 aX rfl ?_;rw[hg];refine kQ ?_;refine qo ?_;refine Hf ?_;refine Z1 ?_;refine KO.on rfl rfl rfl ?_;refine KO.JV rfl underlying119 rfl ?_;refine qj ?_;refine yr ?_;generalize htm:qP (H2.dX k) id=tm;obtain⟨ti,tp,tb,tq,th⟩:=tm;refine iw ?_;refine KO.cl (cp:=[]) rfl rfl rfl call161 rfl (KC.ri (φ:=fun v=>v=.tuple #[.agg (dN (qP (H2.dX k) id)).toArray,cz 70 (lF (H2.dX k) id)]) hp (oH hV.ways hk) aX (fun L=>Ly w0 L p (H2.dX k) id ae)) ?_;rintro v' L' ⟨rfl,rfl⟩;rw[htm];refine Cb ?_;refine KO.alloc rfl zeroValue44 aL rfl ?_;intro b21;refine K2 ?_;refine vE ?_;refine K.bI rfl (fun ZP=>?_) (fun ZP=>?_)
        ·rw[if_neg ZP]at B7;refine jX ?_;refine Z9 ?_;refine KQ.a_ rfl rfl (fun w' aY=>⟨_,_,rfl,⟨?_,rfl⟩,?_⟩)
         ·rw[og B7]
         ·rw[og B7];rw[I8 ZP,nT (oH hV.ways hk)]at aY;exact bK V hV (aY.all Y5)
        ·have aeL:lF (H2.dX k) id=0:=by simpa using ZP
         rw[if_pos aeL]at B7;obtain⟨h3,h4⟩:=tI _ B7;refine rA ?_;refine KQ.round (i+1,_) ⟨by dsimp only;omega,h3,h4⟩ ji ⟨rfl,rfl,rfl,rfl,trivial⟩ (fun _ h=>?_);exact xG V hV k _ (h.all Y5)
     ·have uK:i=ws.length:=by omega
      subst uK;rw[List.drop_length,gP]at kJ;rw[<-kJ];refine wx ?_;refine Ex ?_;refine KQ.a_ rfl rfl (fun w' aY=>⟨_,_,rfl,⟨rfl,rfl⟩,aY.all Y1⟩)
theorem dV(w0:World)(L R:List HP)(bh bd:Nat)(H:Ho)(k:Int)(hp:bC L (cW bh bd H) R):KE prog 79 #[aZ bh,.int .i64 k] w0 L (fun u M=>u=.bool (bQ H k)/\M=L):=by
 refine KE.mk (n:=19) func79 rfl ntmps79 aj ?_;intro w hw;obtain⟨V,hV,hc⟩:=nf hw hp;have JK:=hc 0 _ rfl;refine y6 ?_;by_cases h1:0<=k
 ·by_cases h2:k<4
  ·refine Z7 ?_;refine uh ?_;refine uo ?_;refine vz ?_;refine qJ ?_;refine uo ?_;refine Ek ?_;refine GY ?_;refine EM ?_;refine KO.on rfl rfl (by simp[h2]) ?_;refine KO.pb rfl rfl isAgg3 JK rfl ?_;refine lV ?_;refine y9 ?_;refine qJ ?_;refine fK ?_;refine KQ.a_ rfl rfl (fun w' hs=>⟨_,_,rfl,⟨?_,rfl⟩,hw.aA hs.below,hs.below⟩);unfold bQ;simp[h1,h2]
  ·refine Z7 ?_;refine uh ?_;refine uo ?_;refine vz ?_;refine qJ ?_;refine Ev ?_;refine vy ?_;refine fK ?_;refine KQ.a_ rfl rfl (fun w' hs=>⟨_,_,rfl,⟨?_,rfl⟩,hw.aA hs.below,hs.below⟩);unfold bQ;simp[h2]
 ·refine Z7 ?_;refine uh ?_;refine Hh ?_;refine vy ?_;refine BU ?_;refine IE ?_;refine G1 ?_;refine KQ.a_ rfl rfl (fun w' hs=>⟨_,_,rfl,⟨?_,rfl⟩,hw.aA hs.below,hs.below⟩);unfold bQ;simp[h1]
theorem Ji{α β:Type}(f:α->Option β)(l:List α)(a:α):(l++[a]).mapM f=(l.mapM f).bind fun xs=>(f a).map fun x=>xs++[x]:=by
 rw[List.mapM_append];cases l.mapM f with
 |none=>rfl
 |some xs=>
  cases h:f a with
  |none=>simp[h]
  |some x=>simp[h]
theorem mapM_none{α β:Type}(f:α->Option β){l:List α}{a:α}(h:a∈l)(hn:f a=none):l.mapM f=none:=by
 induction l with
 |nil=>cases h
 |cons b l ih=>
  rw[List.mapM_cons];rcases aJ.1 h with rfl|h
  ·rw[hn];rfl
  ·rw[ih h];cases f b<;>rfl
theorem A2(w0:World)(L:List HP)(s:ak)(hs:s.size<=80000)(hM:oB w0):
 KE prog 238 #[.string s] w0 L (fun u M=>match oF s with|none=>u=.tuple #[.slice none 0 0,.bool false]/\M=L|some l=> ∃v,u=.tuple #[v,.bool true]/\M=SL 3 1 cR v l::L):=by
 refine KE.mk (n:=29) func238 rfl ntmps238 aj ?_;intro w hw;have hMw:oB w:=hM.ext (Ext.bB hw.below);have rG:∀x∈cH 32 s,x.size<=80000:=fun x hx=>by have :=gK hx;omega
 have qA:(cH 32 s).length<=100000:=by have :=qU 32 s;omega
 refine jX ?_;refine BM ?_;refine KO.ce (cp:=[]) rfl rfl rfl call133 rfl (kS w _ s 32 ae hMw) ?_;rintro v' L' ⟨Az,rfl,rfl⟩;refine Hc ?_;refine lf ?_;refine K.loop (fun p:Nat×List Int×Value=>[(4,p.2.2),(10,.slice (some ⟨Az,0,none⟩) (cH 32 s).length (cH 32 s).length),(11,.int .i64 ((cH 32 s).length:Nat)),(12,.int .i64 (p.1:Nat))]) (fun p=>SL 3 1 cR p.2.2 p.2.1::[iR (.slice (some ⟨Az,0,none⟩) (cH 32 s).length (cH 32 s).length) (cH 32 s)]) (fun p=>p.1<=(cH 32 s).length/\((cH 32 s).take p.1).mapM dM=some p.2.1/\p.2.1.length=p.1) (fun p=>(cH 32 s).length-p.1) (0,[],.slice none 0 0)
  ⟨aR _,by rfl,rfl⟩ ⟨rfl,rfl,rfl,rfl,trivial⟩ (fun w' h=>cL h) ?_
 rintro⟨i,l,v⟩ ⟨hi,hm,hl⟩;dsimp only at hi hm hl ⊢;refine gZ ?_;refine K.bI rfl (fun h=>?_) (fun h=>?_)
 ·obtain⟨x,hx⟩:∃e,(cH 32 s)[i]? =some e:=⟨(cH 32 s)[i],ao ae⟩;have oc:=rG x (ax hx);have KB:=bA hx;refine Wl ?_;refine KO.fJ (i:=i) (sz:=1) (cf:=fI) (e:=x) rfl rfl isAgg9 aX (fun _=>rfl) hx aj aL rfl ?_;refine jH ?_;cases lO:dM x with
  |none=>
   have og:oF s=none:=mapM_none dM (ax hx) lO;refine Z7 ?_;refine KO.ce (cp:=[]) rfl rfl rfl call136 rfl (fH w _ x ae hMw) ?_;rintro v' L' ⟨hR,rfl⟩;unfold ia at hR;rw[lO]at hR;obtain⟨xx,TT,yy,rfl⟩:=hR;refine Ha ?_;refine BD ?_;refine jX ?_;refine nD ?_;refine KQ.ef rfl rfl rfl (fun w' aY=>⟨_,_,rfl,?_,hw.aA aY.below,aY.below⟩);rw[og];exact⟨rfl,rfl⟩
  |some k=>
   have OM:((cH 32 s).take (i+1)).mapM dM=some (l++[k]):=by rw[KB,Ji,hm,lO];rfl
   refine Z7 ?_;refine KO.ce (cp:=[]) rfl rfl rfl call136 rfl (fH w _ x ae hMw) ?_;rintro v' L' ⟨hR,rfl⟩;unfold ia at hR;rw[lO]at hR;subst hR;refine jY ?_;refine qo ?_;refine BB ?_;refine ES ?_;refine iw ?_;refine KO.iN (z:=(Value.int .i64 0)) (sz:=1) (cV:=8) rfl rfl underlying23 bm aL aL ai ai rfl ?_;intro b25;refine KO.app (cf:=cR) (z:=Value.int .i64 0) (sz:=1) (cV:=8) (xs:=l) rfl rfl rfl (.tail .head) .head underlying23 bm aL k rfl rfl rfl ae ai rfl ?_;intro v26;refine rz ?_;refine KQ.round (i+1,l++[k],v26) ⟨by dsimp only;omega,OM,by dsimp only;simp;omega⟩ ji ⟨rfl,rfl,rfl,rfl,trivial⟩ (fun _ h=>h.all Ov)
 ·have hie:i=(cH 32 s).length:=by omega
  subst hie;rw[List.take_length]at hm;have hio:oF s=some l:=hm;refine yu ?_;refine nE ?_;refine KQ.ef rfl rfl rfl (fun w' aY=>⟨_,SL 3 1 cR v l::L,rfl,?_,?_,aY.below⟩)
  ·rw[hio];exact⟨v,rfl,rfl⟩
  ·exact hw.stack (M:=[SL 3 1 cR v l]) (aY.all (by with_reducible repeat(first|exact iI.nil|refine iI.cons (by with_reducible repeat(exact bC.head)) ?_)))
theorem kx(us:List (Value×Value)):(us.flatMap (fun p=>[p.1,p.2])).length=2*us.length:=by
 induction us with
 |nil=>rfl
 |cons a l ih=>rw[aO,aQ,ih];simp;omega
theorem zX(bd:Nat)(V:rM)(H:Ho):eG bd V H=(([.int .i64 H.id,aZ bd,.int .i64 (H.used:Nat),.bool H.down,.int .i64 H.c6,.int .i64 H.next,V.nv,.map (some V.mb)]:List Value)++(V.ps.take 4).map aZ)++(V.us.flatMap (fun p=>[p.1,p.2])++(V.bs++(H.bU.map (Value.int .i64)++H.aF.map (Value.int .i64)))):=by
 unfold eG;simp
theorem uc{α:Type}(A R:List α)(i:Nat):(A++R)[A.length+i]? =R[i]? :=by rw[bM ae,Nat.add_sub_cancel_left]
theorem pI{α:Type}(A R:List α)(i:Nat)(v:α):(A++R).set (A.length+i) v=A++R.set i v:=by rw[List.set_append_right _ _ ae,Nat.add_sub_cancel_left]
theorem tE(bd:Nat){V:rM}{H:Ho}(hV:iY V H):∃A:List Value,A.length=22/\∀(bs:List Value) (sn ar:List Int),eG bd {V with bs:=bs} {H with bU:=sn,aF:=ar}=A++(bs++(sn.map (Value.int .i64)++ar.map (Value.int .i64))):=by
 refine⟨(([.int .i64 H.id,aZ bd,.int .i64 (H.used:Nat),.bool H.down,.int .i64 H.c6,.int .i64 H.next,V.nv,.map (some V.mb)]:List Value)++(V.ps.take 4).map aZ)++V.us.flatMap (fun p=>[p.1,p.2]),?_,fun bs sn ar=>?_⟩
 ·have h1:=hV.ps;simp only[aQ,aV,bp,kx,hV.us,List.length_cons,List.length_nil];omega
 ·rw[zX];simp only[aK]
theorem pX{bd:Nat}{V:rM}{H:Ho}(hV:iY V H){k:Nat}{v:Value}(h:V.bs[k]? =some v):(eG bd V H)[22+k]? =some v/\∀u,(eG bd V H).set (22+k) u=eG bd {V with bs:=V.bs.set k u} H:=by
 obtain⟨A,hA,hc⟩:=tE bd hV;have h1:=hc V.bs H.bU H.aF;have hk:=(au.1 h).1;refine⟨?_,fun u=>?_⟩
 ·rw[show eG bd V H=_ from h1,<-hA,uc,List.getElem?_append_left hk];exact h
 ·rw[show eG bd V H=_ from h1,<-hA,pI,List.set_append_left _ _ hk];exact(hc _ _ _).symm
theorem vZ{bd:Nat}{V:rM}{H:Ho}(hV:iY V H){k:Nat}(hk:k<4):(eG bd V H)[26+k]? =some (.int .i64 (da H k))/\∀u,(eG bd V H).set (26+k) (.int .i64 u)=eG bd V {H with bU:=H.bU.set k u}:=by
 obtain⟨A,hA,hc⟩:=tE bd hV;have h1:=hc V.bs H.bU H.aF;have hs:=hV.bU;have hb:=hV.bs;have e1:26+k=A.length+(V.bs.length+k):=by omega
 refine⟨?_,fun u=>?_⟩
 ·rw[show eG bd V H=_ from h1,e1,uc,uc,List.getElem?_append_left lY,aH];unfold da;rw[aq,ao ae];rfl
 ·rw[show eG bd V H=_ from h1,e1,pI,pI,List.set_append_left _ _ lY,<-List.map_set];exact(hc _ _ _).symm
theorem v7{bd:Nat}{V:rM}{H:Ho}(hV:iY V H){k:Nat}(hk:k<4):(eG bd V H)[30+k]? =some (.int .i64 (cT H k))/\∀u,(eG bd V H).set (30+k) (.int .i64 u)=eG bd V {H with aF:=H.aF.set k u}:=by
 obtain⟨A,hA,hc⟩:=tE bd hV;have h1:=hc V.bs H.bU H.aF;have hs:=hV.bU;have ha:=hV.aF;have hb:=hV.bs;have e1:30+k=A.length+(V.bs.length+((H.bU.map (Value.int .i64)).length+k)):=by rw[aV];omega
 refine⟨?_,fun u=>?_⟩
 ·rw[show eG bd V H=_ from h1,e1,uc,uc,uc,aH];unfold cT;rw[aq,ao ae];rfl
 ·rw[show eG bd V H=_ from h1,e1,pI,pI,pI,<-List.map_set];exact(hc _ _ _).symm
theorem Pl{w0 w:World}{L:List HP}{g cap:Nat}{a b:Int}{l:List Int}(h:St w0 (SL 3 1 cR (.slice (some ⟨g,0,none⟩) (l.length+2) cap) (a::b::l)::L) w):
 St w0 (dB (.slice (some (cutAt g 1 1 cap)) (l.length+2-1) (cap-1)) (b::l)::L) w:=by
 obtain⟨h1,h2,h3,cur,h4,h5,h6⟩:=g_ h;have e1:(cutAt g 1 1 cap)=⟨g,1,none⟩:=by unfold cutAt;rw[if_neg ae]
 rw[e1];refine LO (cs:=cur.toList) (cap:=cap-1) (l:=b::l) (off:=1) (fun i x hx=>?_) (by simpa using h6);have h7:(cur.toList.take ((a::b::l).length*1))[1+i]? =some (.int .i64 x):=by
  rw[h5];have h8:∀l:List Int,l.flatMap cR=l.map (Value.int .i64):=fun l=>by
   induction l with
   |nil=>rfl
   |cons x l ih=>rw[aO,ih];rfl
  rw[h8,aH,show(1+i)=i+1 by omega,List.getElem?_cons_succ,hx];rfl
 rw[List.getElem?_take]at h7;split at h7
 ·exact h7
 ·cases h7
theorem Qm(w0:World)(L:List HP)(bh bd n:Nat)(H:Ho)(s:ak)(hM:oB w0)(hB:cE n H)(hn:n<=90000)(hs:s.size<=80000):
 KC prog 140 #[aZ bh,.string s] w0 (cW bh bd H::L) (fun u M=>u=.bool (gO H s).2/\M=cW bh bd (gO H s).1::L):=by
 refine KC.mk (n:=48) func140 rfl ntmps140 aj ?_;refine y6 ?_;cases hi:oF s with
 |none=>
  have he:gO H s=(H,false):=by unfold gO;rw[hi]
  rw[he];refine Z7 ?_;refine KO.ce (cp:=[]) rfl rfl rfl call238 rfl (A2 w0 _ s hs hM) ?_;rintro v' L' hR;rw[hi]at hR;obtain⟨rfl,rfl⟩:=hR;refine jY ?_;refine oY ?_;refine rD ?_;refine za ?_;refine IE ?_;refine G_ ?_;refine KQ.a_ rfl rfl (fun w' aY=>⟨_,_,rfl,⟨rfl,rfl⟩,aY⟩)
 |some l=>
  refine Z7 ?_;refine KO.ce (cp:=[]) rfl rfl rfl call238 rfl (A2 w0 _ s hs hM) ?_;rintro v' L' hR;rw[hi]at hR;obtain⟨v,rfl,rfl⟩:=hR;refine pD ?_;refine K.fact (fun w hw=>aN (hw.pick (A:=SL 3 1 cR v l) .head)) ?_;rintro⟨ad,cap,rfl,had⟩;by_cases hl:l.length<2
  ·have he:gO H s=(H,false):=by
    unfold gO;rw[hi]
    match l,hl with
    |[],_=>rfl
    |[a],_=>rfl
   rw[he];refine yA ?_;refine BR ?_;refine sG ?_;refine vz ?_;refine qj ?_;refine Ev ?_;refine BP ?_;refine K.cA rfl (by simp[hl];try omega) ?_;refine vH ?_;refine KQ.a_ rfl rfl (fun w' aY=>⟨_,_,rfl,⟨rfl,rfl⟩,aY.drop⟩)
  obtain⟨g,rfl⟩:=had ae;obtain⟨k,a,r,rfl⟩:∃k a r,l=k::a::r:=by
   match l,hl with
   |[],h=>exact absurd aj h
   |[a],h=>exact absurd aj h
   |k::a::r,_=>exact⟨k,a,r,rfl⟩
  have hld:∀z:Int,decide ((((z::a::r).length:Nat):Int)<2)=false:=fun z=>by rw[decide_eq_false_iff_not];simp;omega
  cases hk:bQ H k with
  |false=>
   have qf:=hld k;have he:gO H s=(H,false):=by unfold gO;rw[hi];simp[hk]
   rw[he];refine yA ?_;refine BR ?_;refine sG ?_;refine vz ?_;refine EF ?_;refine Z1 ?_;refine KO.on rfl rfl qf ?_;refine KO.eN (i:=0) rfl rfl runUnderlying23 sizeOf3 rfl aj rfl ?_;refine KO.on rfl rfl qf ?_;refine KO.fJ (i:=0) (sz:=1) (cf:=cR) (e:=k) rfl rfl isAgg3 bE (fun _=>rfl) rfl aL aL rfl ?_;refine KO.on rfl rfl qf ?_;refine KO.ce (cp:=[]) rfl rfl rfl call79 rfl (dV w0 _ _ bh bd H k aX) ?_;rintro v' L' ⟨rfl,rfl⟩;rw[hk];refine y_ ?_;refine BQ ?_;refine K.cA rfl (by simp[qf]) ?_;refine vH ?_;refine KQ.a_ rfl rfl (fun w' aY=>⟨_,_,rfl,⟨rfl,rfl⟩,aY.drop⟩)
  |true=>
   obtain⟨vf,tG,-⟩:=bT.1 hk;obtain⟨j,rfl⟩:∃j:Nat,k=(j:Int):=⟨k.toNat,by omega⟩;have hj:j<4:=by omega
   have qf:=hld (j:Int);have he:gO H s=({H with batch:=H.batch.set j (a::r),bU:=H.bU.set j (da H j+1)},true):=by unfold gO;rw[hi];simp[hk]
   rw[he];refine yA ?_;refine BR ?_;refine sG ?_;refine vz ?_;refine EF ?_;refine Z1 ?_;refine KO.on rfl rfl qf ?_;refine KO.eN (i:=0) rfl rfl runUnderlying23 sizeOf3 rfl aj rfl ?_;refine KO.on rfl rfl qf ?_;refine KO.fJ (i:=0) (sz:=1) (cf:=cR) (e:=(j:Int)) rfl rfl isAgg3 bE (fun _=>rfl) rfl aL aL rfl ?_;refine KO.on rfl rfl qf ?_;refine KO.ce (cp:=[]) rfl rfl rfl call79 rfl (dV w0 _ _ bh bd H (j:Int) aX) ?_;rintro v' L' ⟨rfl,rfl⟩;rw[hk];refine y_ ?_;refine BQ ?_;refine K.cP rfl (by simp[qf]) ?_;refine Z6 ?_;refine K.cg (fun _ h=>cb (h.pick aX)) ?_;rintro⟨V,hV⟩;dsimp only;refine K.fact (fun w hw=>(B1 (hw.pick (A:=SL 3 1 cR _ _) aX)).2) ?_;intro Qv;have Vc:=hV.bs;have rI:=hV.batch;obtain⟨bv,z_⟩:∃e,V.bs[j]? =some e:=⟨_,ao ae⟩;obtain⟨bl,hbl⟩:∃e,H.batch[j]? =some e:=⟨_,ao ae⟩;obtain⟨c1,c2⟩:=pX (bd:=bd) hV z_;obtain⟨mJ,rH⟩:0<=da H j/\da H j<=(n:Int):=np hB.ext.W3;obtain⟨vb,hvb⟩:∃vb,vb=Value.slice (some (cutAt g 1 1 cap)) (((j:Int)::a::r).length-1) (cap-1):=⟨_,rfl⟩;have sr:∀u,iY {V with bs:=V.bs.set j u} H:=fun u=>⟨hV.ps,hV.us,by simp[Vc],hV.ways,hV.az,hV.batch,hV.bU,hV.aF⟩
   refine K.draw [.pure,.pure,.pure,.read,.pure,.pure,.pure,.pure,.pure,.write] [0,1,2,3,4,5,6,7,8,9] bm bm ?_;refine jh ?_;refine Z75 ?_;refine Z1 ?_;refine KO.cutFrom (lo:=1) rfl rfl underlying23 sizeOf3 rfl aj (by simpa using Qv) rfl ?_;rw[<-hvb];refine lb ?_;refine Ru ?_;refine KO.iA (i:=22+j) rfl rfl rfl (by rw[hvb];rfl) (by exact sizeOf23) (by rw[hvb];rfl) bE wz OV ?_;rw[c2];refine Z0 ?_;obtain⟨d1,d2⟩:=vZ (bd:=bd) (sr vb) hj;refine K.draw [.pure,.pure,.pure,.read,.pure,.pure,.pure,.read,.pure,.pure,.pure,.pure,.write] [0,1,2,3,4,5,6,7,8,9,10,11,12] bm bm ?_;refine jh ?_;refine Z75 ?_;refine lb ?_;refine RT ?_;refine KO.di (i:=26+j) rfl rfl isAgg3 bE wz d1 rfl ?_;refine uS ?_;refine lb ?_;refine RT ?_;refine KO.iA (i:=26+j) rfl rfl rfl aL AB rfl bE wz (by rw[pW (sr _)];omega) ?_;rw[d2];refine jf ?_;refine KQ.a_ rfl rfl (fun w' aY=>⟨_,_,rfl,⟨rfl,rfl⟩,?_⟩);have h1:=Pl (a:=(j:Int)) (b:=a) (l:=r) (aY.pick (A:=SL 3 1 cR (.slice (some ⟨g,0,none⟩) ((j:Int)::a::r).length cap) ((j:Int)::a::r)) aX);rw[show Value.slice (some (cutAt g 1 1 cap)) (r.length+2-1) (cap-1)=vb from hvb.symm]at h1;have h2:=ew z_ hbl (h1.pick (A:=ck dB V.bs H.batch) aX)
   have h3:=po (f:=dB) (ps:=V.bs) (xs:=H.batch) (i:=j) (p:=vb) (x:=a::r) ae ae (h2.all (M:=dB vb (a::r)::ck dB (V.bs.eraseIdx j) (H.batch.eraseIdx j)::_) Y5);exact bK {V with bs:=V.bs.set j vb} ⟨hV.ps,hV.us,by simp[Vc],hV.ways,hV.az,by simp[rI],by simp[hV.bU],hV.aF⟩ (h3.all Y7)
theorem CK(q:Qu)(l:List Int)(a:Int):dA q (l++[a])=fm (dA q l) a:=by unfold dA;rw[List.foldl_append];rfl
theorem CB{w0 w:World}{L:List HP}{T:TypeId}{v:Value}{l:List Int}(hl:0<l.length)(h:St w0 (W4 T v l::L) w):
 ∃c:{c:Nat×Nat×List Value×Nat//v=.slice (some ⟨c.1,c.2.1,none⟩) l.length c.2.2.2/\∀(i:Nat) x,l[i]? =some x->c.2.2.1[c.2.1+i]? =some (Value.int .i64 x)},St w0 (bD c.1.1 (.cells c.1.2.2.1.toArray T (0,0))::L) w:=by
 obtain⟨c,h⟩:=h.B9
 match c,h with
 |none,h=>obtain⟨⟨rfl,rfl⟩,_⟩:=h.qQ;simp at hl
 |some (g,off,cs,cap),h=>obtain⟨h1,h2⟩:=h.split.qQ;exact⟨⟨(g,off,cs,cap),h1⟩,h2⟩
theorem M9(w0:World)(L:List HP)(bh bd n:Nat)(H:Ho)(s:ak)(hM:oB w0)(hB:cE n H)(hn:n<=90000)(hs:s.size<=80000):
 KC prog 141 #[aZ bh,.string s] w0 (cW bh bd H::L) (fun u M=>u=.bool (eQ H s).2/\M=cW bh bd (eQ H s).1::L):=by
 refine KC.mk (n:=63) func141 rfl ntmps141 aj ?_;refine y6 ?_;cases hi:oF s with
 |none=>
  have he:eQ H s=(H,false):=by unfold eQ;rw[hi]
  rw[he];refine Z7 ?_;refine KO.ce (cp:=[]) rfl rfl rfl call238 rfl (A2 w0 _ s hs hM) ?_;rintro v' L' hR;rw[hi]at hR;obtain⟨rfl,rfl⟩:=hR;refine jY ?_;refine oY ?_;refine rD ?_;refine za ?_;refine IE ?_;refine G_ ?_;refine KQ.a_ rfl rfl (fun w' aY=>⟨_,_,rfl,⟨rfl,rfl⟩,aY⟩)
 |some l=>
  refine Z7 ?_;refine KO.ce (cp:=[]) rfl rfl rfl call238 rfl (A2 w0 _ s hs hM) ?_;rintro v' L' hR;rw[hi]at hR;obtain⟨v,rfl,rfl⟩:=hR;refine pD ?_;refine K.fact (fun w hw=>aN (hw.pick (A:=SL 3 1 cR v l) .head)) ?_;rintro⟨ad,cap,rfl,had⟩;by_cases hl:l.length=1
  ·obtain⟨g,rfl⟩:=had ae;obtain⟨k,rfl⟩:∃k,l=[k]:=by
    match l,hl with
    |[k],_=>exact⟨k,rfl⟩
   have qf:decide ((([k].length:Nat):Int)≠1)=false:=rfl;cases hk:bQ H k with
   |false=>
    have he:eQ H s=(H,false):=by unfold eQ;rw[hi];simp[hk]
    rw[he];refine yA ?_;refine BR ?_;refine sG ?_;refine y9 ?_;refine EF ?_;refine Z1 ?_;refine KO.on rfl rfl qf ?_;refine KO.eN (i:=0) rfl rfl runUnderlying23 sizeOf3 rfl aj rfl ?_;refine KO.on rfl rfl qf ?_;refine KO.fJ (i:=0) (sz:=1) (cf:=cR) (e:=k) rfl rfl isAgg3 bE (fun _=>rfl) rfl aL aL rfl ?_;refine KO.on rfl rfl qf ?_;refine KO.ce (cp:=[]) rfl rfl rfl call79 rfl (dV w0 _ _ bh bd H k aX) ?_;rintro v' L' ⟨rfl,rfl⟩;rw[hk];refine y_ ?_;refine qj ?_;refine BD ?_;refine vH ?_;refine KQ.a_ rfl rfl (fun w' aY=>⟨_,_,rfl,⟨rfl,rfl⟩,aY.drop⟩)
   |true=>
    obtain⟨vf,tG,-⟩:=bT.1 hk;obtain⟨j,rfl⟩:∃j:Nat,k=(j:Int):=⟨k.toNat,by omega⟩;have hj:j<4:=by omega
    have he:eQ H s=({H.iS j (dA (H.hF j) (bR H j))with batch:=H.batch.set j []},true):=by unfold eQ;rw[hi];simp[hk]
    rw[he];refine yA ?_;refine BR ?_;refine sG ?_;refine y9 ?_;refine EF ?_;refine Z1 ?_;refine KO.on rfl rfl qf ?_;refine KO.eN (i:=0) rfl rfl runUnderlying23 sizeOf3 rfl aj rfl ?_;refine KO.on rfl rfl qf ?_;refine KO.fJ (i:=0) (sz:=1) (cf:=cR) (e:=(j:Int)) rfl rfl isAgg3 bE (fun _=>rfl) rfl aL aL rfl ?_;refine KO.on rfl rfl qf ?_;refine KO.ce (cp:=[]) rfl rfl rfl call79 rfl (dV w0 _ _ bh bd H (j:Int) aX) ?_;rintro v' L' ⟨rfl,rfl⟩;rw[hk];refine y_ ?_;refine qj ?_;refine yr ?_;refine K.cg (fun _ h=>cb (h.pick aX)) ?_;rintro⟨V,hV⟩;dsimp only;have Vc:=hV.bs;have rI:=hV.batch;have oO:=hV.ps;obtain⟨bv,z_⟩:∃e,V.bs[j]? =some e:=⟨_,ao ae⟩;obtain⟨bl,tN⟩:∃e,H.batch[j]? =some e:=⟨_,ao ae⟩;have Qy:bR H j=bl:=by unfold bR;rw[aq,tN];rfl
    have Zv:=hB.ext.Te bl (ax tN);rw[Qy];obtain⟨c1,c2⟩:=pX (bd:=bd) hV z_;obtain⟨p,hp⟩:∃p,V.ps[j]? =some p:=⟨_,ao ae⟩;have hw:=oe (bd:=bd) hV hj hp;have hqB:=hB.w hj;have fZ:=qH hV.ways hj;refine RM ?_;refine K.fact (fun w hw=>o2 (hw.pick (A:=dB bv bl) .head)) ?_;rintro⟨ba,bc,rfl⟩;refine K.draw [.pure,.pure,.pure,.read,.pure,.pure,.pure,.read,.pure,.pure] [0,1,2,3,4,5,6,7,8,9] bm bm ?_;refine jh ?_;refine Z75 ?_;refine lb ?_;refine Ru ?_;refine Om ?_;refine lf ?_;refine K.loop (fun i:Nat=>[(0,aZ bh),(5,.slice (some ⟨g,0,none⟩) [(j:Int)].length cap),(36,.slice ba bl.length bc),(37,.int .i64 (bl.length:Nat)),(38,.int .i64 (i:Nat))])
     (fun i=>dB (.slice ba bl.length bc) bl::ck dB (V.bs.eraseIdx j) (H.batch.eraseIdx j)::SL 3 1 cR (.slice (some ⟨g,0,none⟩) [(j:Int)].length cap) [(j:Int)]::bD bh (.cells (eG bd V H).toArray 133 (0,0))::jg V.nv H.names::cD Value.string V.mb (c7 V H)::ck iU V.ps (H.all.set j (dA (H.hF j) (bl.take i)))::ck cN (V.us.map (·.1)) (H.az.map (·.aU))::ck cK (V.us.map (·.2)) (H.az.map (·.bj))::L)
     (fun i=>i<=bl.length) (fun i=>bl.length-i) 0 (aR _) ⟨rfl,rfl,rfl,rfl,rfl,trivial⟩ (fun w' aY=>?_) ?_
    ·rw[show H.all.set j (dA (H.hF j) (bl.take 0))=H.all from nT fZ];exact aY.all Y7
    intro i hi2;refine gZ ?_;refine K.bI rfl (fun h=>?_) (fun h=>?_)
    ·obtain⟨x,hx⟩:∃e,bl[i]? =some e:=⟨bl[i],ao ae⟩;have KB:dA (H.hF j) (bl.take (i+1))=fm (dA (H.hF j) (bl.take i)) x:=by rw[bA hx,CK]
     have MZ:=hqB.Sd (bl.take i);have tB:=MZ.len;have tI:(H.all.set j (dA (H.hF j) (bl.take i)))[j]? =some (dA (H.hF j) (bl.take i)):=List.getElem?_set_self (au.1 fZ).1;generalize htm:qP (dA (H.hF j) (bl.take i)) x=tm;obtain⟨ti,tp,tb,tq,th⟩:=tm;refine RY ?_;refine K.cg (fun w' hw'=>CB ae (hw'.pick (A:=dB (.slice ba bl.length bc) bl) bE)) ?_;rintro⟨⟨gb,off,cs,ajK⟩,hv,mL⟩;dsimp only at hv mL ⊢;simp only[Value.slice.injEq,true_and]at hv;obtain⟨rfl,rfl⟩:=hv;refine dC ?_;refine KO.tA (i:=i) rfl rfl runUnderlying23 sizeOf3 rfl ae rfl ?_;refine KO.di (i:=off+i) rfl rfl isAgg3 bE (by rw[Addr.add_lit,Nat.mul_one]) (mL i x hx) rfl ?_;refine iH ?_;refine K.draw [.pure,.pure,.pure,.read,.pure,.pure,.pure,.read,.pure,.write,.pure,.pure,.pure] [0,1,2,3,4,5,6,7,8,9,10,11,12] bm bm ?_;refine jh ?_;refine Z75 ?_;refine RN ?_;refine KO.di (i:=8+j) rfl rfl isAgg119 aX wz hw rfl ?_;refine Z1 ?_;refine KO.cl (cp:=[]) rfl rfl rfl call161 rfl (KC.ri (φ:=fun v=>v=.tuple #[.agg (dN (qP (dA (H.hF j) (bl.take i)) x)).toArray,cz 70 (lF (dA (H.hF j) (bl.take i)) x)]) hp tI aX (fun L=>Ly w0 L p (dA (H.hF j) (bl.take i)) x ae)) ?_;rintro v' L' ⟨rfl,rfl⟩;rw[htm,List.set_set];refine Cb ?_;refine um ?_
     refine KQ.round (i+1) ae ae ⟨rfl,rfl,rfl,rfl,rfl,trivial⟩ (fun w' aY=>?_);rw[KB];have h1:St w0 (dB (.slice (some ⟨gb,off,none⟩) bl.length bc) bl::_) w':=LO (T:=3) (g:=gb) (off:=off) (cap:=bc) (cs:=cs) (l:=bl) mL (aY.pick aX);exact St.all h1 Y7
    ·obtain rfl:i=bl.length:=by omega
     rw[List.take_length];refine wx ?_;refine K.draw [.pure,.pure,.pure,.read,.pure,.pure,.pure,.write] [0,1,2,3,4,5,6,7] bm bm ?_;refine jh ?_;refine Z75 ?_;refine lb ?_;refine Ru ?_;refine KO.iA (i:=22+j) rfl rfl rfl rfl (by exact sizeOf23) rfl aX wz OV ?_;rw[c2];refine jf ?_;refine KQ.a_ rfl rfl (fun w' aY=>⟨_,_,rfl,⟨rfl,rfl⟩,?_⟩);have h3:=po (f:=dB) (ps:=V.bs) (xs:=H.batch) (i:=j) (p:=.slice none 0 0) (x:=[]) ae ae (Hx (aY.all (M:=ck dB (V.bs.eraseIdx j) (H.batch.eraseIdx j)::bD bh (.cells (eG bd {V with bs:=V.bs.set j (.slice none 0 0)} H).toArray 133 (0,0))::jg V.nv H.names::cD Value.string V.mb (c7 V H)::ck iU V.ps (H.all.set j (dA (H.hF j) bl))::ck cN (V.us.map (·.1)) (H.az.map (·.aU))::ck cK (V.us.map (·.2)) (H.az.map (·.bj))::L) Y5))
     refine bK {V with bs:=V.bs.set j (.slice none 0 0)} ⟨hV.ps,hV.us,by simp[Vc],by simp[Ho.iS,hV.ways],hV.az,by simp[rI],hV.bU,hV.aF⟩ ?_;have e1:({H.iS j (dA (H.hF j) bl)with batch:=H.batch.set j []}:Ho).all=H.all.set j (dA (H.hF j) bl):=nB (by rw[hV.ways];exact hj) _;unfold yL;rw[e1];exact h3.all Y7
  ·have he:eQ H s=(H,false):=by
    unfold eQ;rw[hi]
    match l,hl with
    |[],_=>rfl
    |[a],h=>exact absurd rfl h
    |a::b::r,_=>rfl
   rw[he];refine yA ?_;refine BR ?_;refine sG ?_;refine y9 ?_;refine qj ?_;refine Ev ?_;refine N6 ?_;refine vH ?_;refine KQ.a_ rfl rfl (fun w' aY=>⟨_,_,rfl,⟨rfl,rfl⟩,aY.drop⟩)
theorem Qw(w0:World)(L:List HP)(bh bd n:Nat)(H:Ho)(s:ak)(hT:nI w0)(hM:oB w0)(hs:s.size<=80000)(hB:cE n H)(hn:n<=90000)(hr:∀a b c l,cH 47 s=[a,b,c]->qZ b=some l->n+l.length<=90000/\l.length<=(cH 43 c).length):
 KC prog 142 #[aZ bh,.string s] w0 (cW bh bd H::L) (fun u M=>u=.bool (gR H s).2/\M=cW bh bd (gR H s).1::L):=by
 have rG:∀x∈cH 47 s,x.size<=80000:=fun x hx=>by have :=gK hx;omega
 refine KC.mk (n:=81) func142 rfl ntmps142 aj ?_;refine iG ?_;refine KO.ce (cp:=[]) rfl rfl rfl call133 rfl (kS w0 _ s 47 ae hM) ?_;rintro v' L' ⟨b15,rfl,rfl⟩;refine jH ?_;by_cases h3:(cH 47 s).length=3
 ·obtain⟨wa,wb,wc,he⟩:∃a b c,cH 47 s=[a,b,c]:=by
   match h:cH 47 s,h3 with
   |[a,b,c],_=>exact⟨a,b,c,rfl⟩
  have hrr:=hr wa wb wc;rw[he]at rG ⊢;have hza:=rG wa aj;have hzb:=rG wb aj;have hzc:=rG wc aj;refine Z7 ?_;refine N1 ?_;refine Z5 ?_;refine K.cP rfl aj ?_;refine Z6 ?_;have hce:gR H s=match dM wa,qZ wb with
   |some k,some l=>if bQ H k=true then(if(dP H (l.zip (cH 43 wc))).2=true then({(dP H (l.zip (cH 43 wc))).1 with aF:=H.aF.set k.toNat (cT H k.toNat+1)},true)else((dP H (l.zip (cH 43 wc))).1,false))else(H,false)
   |_,_=>(H,false):=by unfold gR;rw[he];try rfl
  cases lO:dM wa with
  |none=>
   have kG:gR H s=(H,false):=by rw[hce,lO]
   rw[kG];refine Z7 ?_;refine WD ?_;refine KO.ce (cp:=[]) rfl rfl rfl call136 rfl (fH w0 _ wa ae hM) ?_;rintro v' L' ⟨hR,rfl⟩;unfold ia at hR;rw[lO]at hR;obtain⟨xx,TT,yy,rfl⟩:=hR;refine pD ?_;cases hm:qZ wb with
   |none=>
    refine Z7 ?_;refine Xz ?_;refine KO.ce (cp:=[]) rfl rfl rfl call160 rfl (oa w0 _ wb ae hT hM) ?_;rintro v' L' hR;unfold R6 at hR;rw[hm]at hR;obtain⟨rfl,rfl⟩:=hR;refine Ha ?_;refine lg ?_;refine za ?_;refine G_ ?_;refine KQ.a_ rfl rfl (fun w' aY=>⟨_,_,rfl,⟨rfl,rfl⟩,aY.all Y1⟩)
   |some l=>
    refine Z7 ?_;refine Xz ?_;refine KO.ce (cp:=[]) rfl rfl rfl call160 rfl (oa w0 _ wb ae hT hM) ?_;rintro v' L' hR;unfold R6 at hR;rw[hm]at hR;obtain⟨v,rfl,rfl⟩:=hR;refine Ha ?_;refine lg ?_;refine za ?_;refine G_ ?_;refine KQ.a_ rfl rfl (fun w' aY=>⟨_,_,rfl,⟨rfl,rfl⟩,aY.all Y1⟩)
  |some k=>
   cases hm:qZ wb with
   |none=>
    have kG:gR H s=(H,false):=by rw[hce,lO,hm]
    rw[kG];refine Z7 ?_;refine WD ?_;refine KO.ce (cp:=[]) rfl rfl rfl call136 rfl (fH w0 _ wa ae hM) ?_;rintro v' L' ⟨hR,rfl⟩;unfold ia at hR;rw[lO]at hR;subst hR;refine jY ?_;refine Xz ?_;refine KO.ce (cp:=[]) rfl rfl rfl call160 rfl (oa w0 _ wb ae hT hM) ?_;rintro v' L' hR;unfold R6 at hR;rw[hm]at hR;obtain⟨rfl,rfl⟩:=hR;refine jY ?_;refine Oa ?_;refine KO.Uf rfl bm rfl ?_;refine qj ?_;refine BU ?_;refine G_ ?_;refine KQ.a_ rfl rfl (fun w' aY=>⟨_,_,rfl,⟨rfl,rfl⟩,aY.all Y1⟩)
   |some l=>
    obtain⟨xH,Xi⟩:=hrr l he hm;have jU:∀m∈l,bG m=true:=fun m OM=>dm (mY hm).1 m OM
    refine Z7 ?_;refine WD ?_;refine KO.ce (cp:=[]) rfl rfl rfl call136 rfl (fH w0 _ wa ae hM) ?_;rintro v' L' ⟨hR,rfl⟩;unfold ia at hR;rw[lO]at hR;subst hR;refine jY ?_;refine Xz ?_;refine KO.ce (cp:=[]) rfl rfl rfl call160 rfl (oa w0 _ wb ae hT hM) ?_;rintro v' L' hR;unfold R6 at hR;rw[hm]at hR;obtain⟨v,rfl,rfl⟩:=hR;refine pD ?_;refine K.fact (fun w hw=>aN (hw.pick (A:=SL 44 5 dN v l) .head)) ?_;rintro⟨ad,cap,rfl,had⟩;cases hk:bQ H k with
    |false=>
     have kG:gR H s=(H,false):=by rw[hce,lO,hm];simp[hk]
     rw[kG];refine GX ?_;refine BO ?_;refine Z1 ?_;refine KO.on rfl rfl rfl ?_;refine KO.ce (cp:=[]) rfl rfl rfl call79 rfl (dV w0 _ _ bh bd H k aX) ?_;rintro v' L' ⟨rfl,rfl⟩;rw[hk];refine y_ ?_;refine qj ?_;refine BD ?_;refine vH ?_;refine KQ.a_ rfl rfl (fun w' aY=>⟨_,_,rfl,⟨rfl,rfl⟩,aY.all Y1⟩)
    |true=>
     obtain⟨vf,tG,-⟩:=bT.1 hk;obtain⟨j,rfl⟩:∃j:Nat,k=(j:Int):=⟨k.toNat,by omega⟩;have hj:j<4:=by omega
     have kG:gR H s=if(dP H (l.zip (cH 43 wc))).2=true then({(dP H (l.zip (cH 43 wc))).1 with aF:=H.aF.set j (cT H j+1)},true)else((dP H (l.zip (cH 43 wc))).1,false):=by rw[hce,lO,hm];simp[hk]
     have qA:=qU 43 wc;refine GX ?_;refine BO ?_;refine Z1 ?_;refine KO.on rfl rfl rfl ?_;refine KO.ce (cp:=[]) rfl rfl rfl call79 rfl (dV w0 _ _ bh bd H (j:Int) aX) ?_;rintro v' L' ⟨rfl,rfl⟩;rw[hk];refine y_ ?_;refine qj ?_;refine BB ?_;refine mG ?_;refine KO.eN (i:=2) rfl rfl runUnderlying115 sizeOf9 rfl aj rfl ?_;refine aaS ?_;refine KO.ce (cp:=[]) rfl rfl rfl call133 rfl (kS w0 _ wc 43 ae hM) ?_;rintro v' L' ⟨b48,rfl,rfl⟩;refine kQ ?_;refine EA ?_;generalize cH 43 wc=ts at Xi kG qA ⊢;have Kx:(l.zip ts).length=l.length:=by rw[List.length_zip];omega
     refine K.loop (fun p:Nat×Ho=>[(0,aZ bh),(6,.int .i64 (j:Nat)),(10,.slice (some ⟨b48,0,none⟩) ts.length ts.length),(49,.slice ad l.length cap),(50,.int .i64 (l.length:Nat)),(51,.int .i64 (p.1:Nat))]) (fun p=>cW bh bd p.2::iR (.slice (some ⟨b48,0,none⟩) ts.length ts.length) ts::SL 44 5 dN (.slice ad l.length cap) l::L) (fun p=>p.1<=l.length/\cE (n+p.1) p.2/\dP p.2 ((l.zip ts).drop p.1)=dP H (l.zip ts)/\p.2.aF=H.aF) (fun p=>l.length-p.1) (0,H)
      ⟨aR _,hB,rfl,rfl⟩ ⟨rfl,rfl,rfl,rfl,rfl,rfl,trivial⟩ (fun _ h=>h.all Y1) ?_
     rintro⟨i,H1⟩ ⟨hi,kK,mD,ZB⟩;dsimp only at hi kK mD ZB ⊢;refine gZ ?_;refine K.bI rfl (fun h=>?_) (fun h=>?_)
     ·obtain⟨m,JC⟩:∃e,l[i]? =some e:=⟨l[i],ao ae⟩;obtain⟨t,Xa⟩:∃e,ts[i]? =some e:=⟨ts[i],ao ae⟩;have Dz:=jU m (ax JC);obtain⟨m1,m2,m3,m4,-,-,m7,m8⟩:=bP Dz;obtain⟨g,rfl⟩:=had ae;have me:(l.zip ts).drop i=(m,t)::(l.zip ts).drop (i+1):=by
       have hz:(l.zip ts)[i]? =some (m,t):=by rw[List.getElem?_zip_eq_some];exact⟨JC,Xa⟩
       obtain⟨h1,e⟩:=au.1 hz;rw[<-e];exact List.drop_eq_getElem_cons h1
      rw[me,dP]at mD;have MX:small m.pri:=by unfold small;omega
      obtain⟨mi,mp,mb,mq,mh⟩:=m;dsimp only at m1 m2 m3 m4 m7 m8 MX;refine EE ?_;refine Wx ?_;refine KO.alloc rfl zeroValue44 aL rfl ?_;intro VT;refine Z8 ?_;refine BH ?_;refine K.cg (fun _ h=>cb (h.pick aX)) ?_;rintro⟨V,hV⟩;dsimp only;have oO:=hV.ps;have hg:=kt hV t;obtain⟨zv,FY⟩:∃zv,zv=(gC (c7 V H1) t).getD (.pointer none):=⟨_,rfl⟩;refine K.draw [.pure,.pure,.pure,.read,.pure,.pure,.pure,.read,.read,.pure] [0,1,2,3,4,5,6,7,8,9] bm bm ?_;refine uk ?_;refine V5 ?_;refine jh ?_;refine KO.eN (i:=i) rfl rfl runUnderlying115 sizeOf9 rfl ae rfl ?_;refine KO.fJ (i:=i) (sz:=1) (cf:=fI) (e:=t) rfl rfl isAgg9 aX (fun _=>rfl) Xa aj aL rfl ?_;refine KO.Jl fj t rfl rfl rfl underlying123 underlying9 zeroValue119 aX rfl ?_;rw[<-FY];refine jH ?_;cases hq:H1.qI t with
      |none=>
       rw[hq]at hg mD;rw[hg]at FY;subst FY;dsimp only at mD;refine Z7 ?_;refine KO.QP rfl underlying119 rfl ?_;refine BD ?_;refine jX ?_;refine Z9 ?_;refine KQ.a_ rfl rfl (fun w' aY=>⟨_,_,rfl,⟨?_,rfl⟩,?_⟩)
       ·rw[kG,<-mD];rfl
       ·rw[kG,<-mD];exact bK V hV (aY.all Y5)
      |some q=>
       have Xd:=(i_ hq).1;obtain⟨p,hp⟩:∃p,V.ps[4+q]? =some p:=⟨_,ao ae⟩;rw[hq]at hg mD;simp only[Option.bind_some,hp,Option.map_some]at hg;rw[hg]at FY;subst FY;dsimp only at mD;refine Z7 ?_;refine KO.JV rfl underlying119 rfl ?_;refine BB ?_;refine ES ?_;refine Z7 ?_;refine BV ?_;refine KO.cl (cp:=[]) rfl rfl rfl call147 rfl (KC.ri (φ:=fun v=>v=.tuple #[]) hp (oH hV.ways Xd) aX (fun L=>AU w0 L p (H1.dX q) ⟨mi,mp,mb,mq,mh⟩ (-1) ((kK.qa Xd).ok ae) MX)) ?_;rintro v' L' ⟨rfl,rfl⟩;refine um ?_;refine KQ.round (i+1,H1.ft q (dS (H1.dX q) ⟨mi,mp,mb,mq,mh⟩ (-1))) ⟨by dsimp only;omega,?_,mD,ZB⟩ ji ⟨rfl,rfl,rfl,rfl,rfl,rfl,trivial⟩ (fun w' aY=>?_)
       ·exact(kK.le (Nat.le_succ _)).ft ((kK.qa Xd).s9 ⟨by dsimp only;omega,by dsimp only;omega⟩ ⟨by dsimp only;omega,by dsimp only;omega⟩ (-1)) q
       ·have h1:=xG V hV q _ (L:=iR (.slice (some ⟨b48,0,none⟩) ts.length ts.length) ts::SL 44 5 dN (.slice (some ⟨g,0,none⟩) l.length cap) l::L) (aY.all Y5);exact h1
     ·obtain rfl:i=l.length:=by omega
      rw[show(l.zip ts).drop l.length=[]by rw[<-Kx];exact List.drop_length,dP]at mD;rw[<-mD]at kG;rw[kG,if_pos rfl];refine wx ?_;refine K.cg (fun _ h=>cb (h.pick bE)) ?_;rintro⟨V,hV⟩;dsimp only;have aep:cT H1 j=cT H j:=by unfold cT;rw[ZB]
      obtain⟨d1,d2⟩:=v7 (bd:=bd) hV hj;obtain⟨Vi,ha9⟩:0<=cT H j/\cT H j<=(n:Int):=np hB.ext.arr;rw[aep]at d1;refine K.draw [.pure,.pure,.pure,.pure,.pure,.read,.pure,.pure,.pure,.pure,.write] [0,1,2,3,4,5,6,7,8,9,10] bm bm ?_;refine yw ?_;refine RL ?_;refine uS ?_;refine lb ?_;refine Z67 ?_;refine KO.iA (i:=30+j) rfl rfl rfl aL AB rfl bE wz OV ?_;rw[d2];refine jf ?_;refine KQ.a_ rfl rfl (fun w' aY=>⟨_,_,rfl,⟨rfl,rfl⟩,?_⟩);rw[<-ZB];exact bK V ⟨hV.ps,hV.us,hV.bs,hV.ways,hV.az,hV.batch,hV.bU,by simp[hV.aF]⟩ (aY.all Y5)
 ·have kG:gR H s=(H,false):=by
   unfold gR;split
   ·rename_i a b c e;rw[e]at h3;exact absurd rfl h3
   ·rfl
  rw[kG];refine Z7 ?_;refine N1 ?_;refine N4 ?_;refine vH ?_;refine KQ.a_ rfl rfl (fun w' aY=>⟨_,_,rfl,⟨rfl,rfl⟩,aY.drop⟩)
theorem O_(w0:World)(L:List HP)(s:ak):KE prog 138 #[.string s,.string ⟨#[45]⟩] w0 L (fun u M=>u=.string (dash s)/\M=L):=KE.bB fun w hw=>
 (Tryz.strings_TrimPrefix s ⟨#[45]⟩ w).mono fun e w' h=>⟨h.1,by rw[h.2];exact Below.refl _ _⟩
theorem J3(s:ak):(dash s).size<=s.size:=by
 unfold dash Lib.trimPrefix;split
 ·simp only[toB,jE];simp
 ·simp only[toB,jE];simp
theorem Dv(w0:World)(L:List HP)(bh bd n k:Nat)(H:Ho)(s:ak)(hT:nI w0)(hM:oB w0)(hB:cE n H)(hr:eX k s)(hn:n+k<=90000):
 KC prog 53 #[aZ bh,.string s] w0 (cW bh bd H::L) (fun u M=>u=.bool (bO H s).2/\M=cW bh bd (bO H s).1::L):=by
 have cj:=hr.size;have kG:=(ny 58 s).2;have xH:=hB.kr;have yJ:=hB.sorted;have hmx:(1000000:Nat)<=maxLen:=by decide
 refine KC.mk (n:=74) func53 rfl ntmps53 aj ?_;refine iG ?_;refine KO.ce (cp:=[]) rfl rfl rfl call135 rfl (GG w0 _ s 58 ae hM) ?_;rintro v' L' ⟨rfl,rfl⟩;refine Cb ?_;refine rB ?_;refine ry ?_;refine kQ ?_;refine OS ?_;generalize kP:(cQ 58 s).2.1=rest at kG;by_cases h1:(cQ 58 s).1=bV 110
 ·refine vF ?_;refine K.cA rfl (decide_eq_true h1) ?_;have rG:∀x∈cH 32 rest,x.size<=80000:=fun x hx=>by have :=gK hx;omega
  refine gU ?_;refine KO.ce (cp:=[]) rfl rfl rfl call133 rfl (kS w0 _ rest 32 ae hM) ?_;rintro v' L' ⟨b21,rfl,rfl⟩;refine jH ?_;by_cases h3:(cH 32 rest).length=3
  ·obtain⟨wa,wb,wc,he⟩:∃a b c,cH 32 rest=[a,b,c]:=by
    match h:cH 32 rest,h3 with
    |[a,b,c],_=>exact⟨a,b,c,rfl⟩
   rw[he]at rG ⊢;have hza:=rG wa aj;have hzb:=rG wb aj;have hzc:=rG wc aj;have hdz:=J3 wb;have Xg:rb rest=(dM wc).map fun k=>⟨wa,dash wb,k⟩:=by unfold rb;rw[he]
   refine Z7 ?_;refine N1 ?_;refine Z5 ?_;refine K.cP rfl aj ?_;refine Z6 ?_;cases lO:dM wc with
   |none=>
    rw[lO]at Xg;have qA:bO H s=(H,false):=by unfold bO;rw[if_pos h1,kP,Xg];rfl
    rw[qA];refine Z7 ?_;refine WC ?_;refine KO.ce (cp:=[]) rfl rfl rfl call136 rfl (fH w0 _ wc ae hM) ?_;rintro v' L' ⟨hR,rfl⟩;unfold ia at hR;rw[lO]at hR;obtain⟨xx,TT,yy,rfl⟩:=hR;refine abi ?_;refine Z1 ?_;refine KO.aeY rfl bm rfl ?_;refine BU ?_;refine IE ?_;refine IE ?_;refine IE ?_;refine IE ?_;refine qj ?_;refine nD ?_;refine KQ.a_ rfl rfl (fun w' aY=>⟨_,_,rfl,⟨rfl,rfl⟩,aY.drop⟩)
   |some kk=>
    rw[lO]at Xg;have qA:bO H s=(eP H ⟨wa,dash wb,kk⟩,decide (Dq H ⟨wa,dash wb,kk⟩=0)):=by unfold bO;rw[if_pos h1,kP,Xg];rfl
    rw[qA];refine Z7 ?_;refine WC ?_;refine KO.ce (cp:=[]) rfl rfl rfl call136 rfl (fH w0 _ wc ae hM) ?_;rintro v' L' ⟨hR,rfl⟩;unfold ia at hR;rw[lO]at hR;subst hR;refine abi ?_;refine Z1 ?_;refine KO.aeZ rfl bm rfl ?_;refine K3 ?_;refine Z1 ?_;refine KO.on rfl rfl rfl ?_;refine KO.eN (i:=0) rfl rfl runUnderlying115 sizeOf9 rfl aj rfl ?_;refine KO.on rfl rfl rfl ?_;refine KO.fJ (i:=0) (sz:=1) (cf:=fI) (e:=wa) rfl rfl isAgg9 bE (fun _=>rfl) rfl aL aL rfl ?_;refine BG ?_;refine KO.on rfl rfl rfl ?_;refine KO.eN (i:=1) rfl rfl runUnderlying115 sizeOf9 rfl aj rfl ?_;refine KO.on rfl rfl rfl ?_;refine KO.fJ (i:=1) (sz:=1) (cf:=fI) (e:=wb) rfl rfl isAgg9 bE (fun _=>rfl) rfl aL aL rfl ?_;refine BG ?_;refine KO.on rfl rfl rfl ?_;refine KO.ce (cp:=[]) rfl rfl rfl call138 rfl (O_ w0 _ wb) ?_;rintro v' L' ⟨rfl,rfl⟩;refine sG ?_;refine KO.sE (pl:=[(0,1),(1,1),(2,1)]) rfl zeroValue75 runUnderlying75 Y21 aL rfl ?_;refine KO.on rfl rfl rfl ?_;refine KO.cl (cp:=[]) rfl rfl rfl call137 rfl (KC.qR aX (UF w0 _ bh bd H ⟨wa,dash wb,kk⟩ ji ji xH yJ)) ?_;rintro v' L' ⟨rfl,rfl⟩;refine sG ?_;refine KO.eqN rfl bm rfl ?_;refine y4 ?_;refine nD ?_
    refine KQ.a_ rfl rfl (fun w' aY=>⟨_,_,rfl,⟨rfl,rfl⟩,aY.all Y1⟩)
  ·have Xg:rb rest=none:=by
    unfold rb;split
    ·rename_i a b c e;rw[e]at h3;exact absurd rfl h3
    ·rfl
   have qA:bO H s=(H,false):=by unfold bO;rw[if_pos h1,kP,Xg]
   rw[qA];refine Z7 ?_;refine N1 ?_;refine N4 ?_;refine jX ?_;refine Z9 ?_;refine KQ.a_ rfl rfl (fun w' aY=>⟨_,_,rfl,⟨rfl,rfl⟩,aY.drop⟩)
 refine vF ?_;refine K.cP rfl (decide_eq_false h1) ?_;refine oQ ?_;by_cases h2:(cQ 58 s).1=bV 100
 ·have qA:bO H s=(nn H rest,decide (tJ H rest=0)):=by unfold bO;rw[if_neg h1,if_pos h2,kP]
  rw[qA];refine vF ?_;refine K.cA rfl (decide_eq_true h2) ?_;refine y8 ?_;refine KO.cl (cp:=[]) rfl rfl rfl call139 rfl (Qq w0 _ bh bd H rest xH yJ) ?_;rintro v' L' ⟨rfl,rfl⟩;refine KO.eqN rfl bm rfl ?_;refine nD ?_;refine KQ.a_ rfl rfl (fun w' aY=>⟨_,_,rfl,⟨rfl,rfl⟩,aY⟩)
 refine vF ?_;refine K.cP rfl (decide_eq_false h2) ?_;refine oQ ?_;by_cases h4:(cQ 58 s).1=bV 117
 ·have qA:bO H s=fq H rest:=by unfold bO;rw[if_neg h1,if_neg h2,if_pos h4,kP]
  have M5:=hr.many h4;rw[kP]at M5;rw[qA];refine vF ?_;refine K.cA rfl (decide_eq_true h4) ?_;refine y8 ?_;refine KO.cl (cp:=[]) rfl rfl rfl call65 rfl (Ij w0 _ bh bd n H rest hT hM ae hB (fun l hl=>by have :=M5 l hl;omega) ae) ?_;rintro v' L' ⟨rfl,rfl⟩;refine nD ?_;refine KQ.a_ rfl rfl (fun w' aY=>⟨_,_,rfl,⟨rfl,rfl⟩,aY⟩)
 refine vF ?_;refine K.cP rfl (decide_eq_false h4) ?_;refine oQ ?_;by_cases h5:(cQ 58 s).1=bV 98
 ·have qA:bO H s=gO H rest:=by unfold bO;rw[if_neg h1,if_neg h2,if_neg h4,if_pos h5,kP]
  rw[qA];refine vF ?_;refine K.cA rfl (decide_eq_true h5) ?_;refine y8 ?_;refine KO.cl (cp:=[]) rfl rfl rfl call140 rfl (Qm w0 _ bh bd n H rest hM hB ae ae) ?_;rintro v' L' ⟨rfl,rfl⟩;refine nD ?_;refine KQ.a_ rfl rfl (fun w' aY=>⟨_,_,rfl,⟨rfl,rfl⟩,aY⟩)
 refine vF ?_;refine K.cP rfl (decide_eq_false h5) ?_;refine oQ ?_;by_cases h6:(cQ 58 s).1=bV 97
 ·have qA:bO H s=eQ H rest:=by unfold bO;rw[if_neg h1,if_neg h2,if_neg h4,if_neg h5,if_pos h6,kP]
  rw[qA];refine vF ?_;refine K.cA rfl (decide_eq_true h6) ?_;refine y8 ?_;refine KO.cl (cp:=[]) rfl rfl rfl call141 rfl (M9 w0 _ bh bd n H rest hM hB ae ae) ?_;rintro v' L' ⟨rfl,rfl⟩;refine nD ?_;refine KQ.a_ rfl rfl (fun w' aY=>⟨_,_,rfl,⟨rfl,rfl⟩,aY⟩)
 refine vF ?_;refine K.cP rfl (decide_eq_false h6) ?_;refine oQ ?_;by_cases h7:(cQ 58 s).1=bV 114
 ·have qA:bO H s=gR H rest:=by unfold bO;rw[if_neg h1,if_neg h2,if_neg h4,if_neg h5,if_neg h6,if_pos h7,kP]
  have SV:=hr.Q_ h7;rw[kP]at SV;rw[qA];refine vF ?_;refine K.cA rfl (decide_eq_true h7) ?_;refine y8 ?_;refine KO.cl (cp:=[]) rfl rfl rfl call142 rfl (Qw w0 _ bh bd n H rest hT hM ae hB ae (fun a b c l h8 h9=>by have :=SV a b c l h8 h9;exact⟨by omega,this.2⟩)) ?_;rintro v' L' ⟨rfl,rfl⟩;refine nD ?_;refine KQ.a_ rfl rfl (fun w' aY=>⟨_,_,rfl,⟨rfl,rfl⟩,aY⟩)
 have qA:bO H s=(H,false):=by unfold bO;rw[if_neg h1,if_neg h2,if_neg h4,if_neg h5,if_neg h6,if_neg h7]
 rw[qA];refine vF ?_;refine K.cP rfl (decide_eq_false h7) ?_;refine VY ?_;refine Ex ?_;refine KQ.a_ rfl rfl (fun w' aY=>⟨_,_,rfl,⟨rfl,rfl⟩,aY⟩)
theorem nb(w0:World)(L:List HP)(bh bd n k:Nat)(H:Ho)(D:Dk)(s:ak)(hT:nI w0)(hM:oB w0)(hB:cE n H)(hr:eX k s)(hn:n+k<=90000)(h3:D.places.length=300)(hd: -4000000000000000000<=D.left/\D.left<=9223372036854775807):
 KC prog 84 #[aZ bh,.string s] w0 (cW bh bd H::fa bd D::L) (fun u M=>u=cz 70 (ep H D)/\M=cW bh bd (oU H D s)::fa bd (ig H D s)::L):=by
 have cj:=hr.size;have hu:=hB.used;refine KC.mk (n:=15) func84 rfl ntmps84 aj ?_;refine BI ?_;refine KO.cl (cp:=[]) rfl rfl rfl call61 rfl (Mw w0 _ bh bd H D s hT h3 hd ae hu) ?_;rintro v' L' ⟨rfl,rfl⟩;refine vE ?_;refine K.bI rfl (fun h=>?_) (fun h=>?_)
 ·have e:oU H D s=dY H D:=by unfold oU;rw[if_neg h]
  rw[e];refine Ew ?_;refine KQ.a_ rfl rfl (fun w' aY=>⟨_,_,rfl,⟨rfl,rfl⟩,aY⟩)
 ·have h0:ep H D=0:=by simpa using h
  have e:oU H D s=(bO (dY H D) s).1:=by unfold oU;rw[if_pos h0]
  rw[e];refine Z6 ?_;refine iw ?_;refine KO.cl (cp:=[]) rfl rfl rfl call53 rfl (Dv w0 _ bh bd n k (dY H D) s hT hM hB.log hr hn) ?_;rintro v' L' ⟨rfl,rfl⟩;refine jf ?_;refine KQ.a_ rfl rfl (fun w' aY=>⟨_,_,rfl,⟨by rw[h0];rfl,rfl⟩,aY⟩)
theorem Py(w0:World)(L R R2:List HP)(b off:Nat)(cs:List Value)(T:TypeId)(v:Value)(l:List Nm)(x:Nm)(hp:bC L (bD b (.cells cs.toArray T (0,0))) R)(hq:bC R (jg v l) R2)(hc:cs[off]? =some v)(hl:l.length<=20)(hs:du l)(hr:∀y∈l,bW y=true)(h1:x.name.size<=maxLen)(h2:x.iQ.size<=maxLen):
 KC prog 83 #[.pointer (some ⟨b,off,none⟩),.agg x.cells.toArray] w0 L (fun u M=>u=cz 70 (cu l x)/\M=L):=by
 obtain⟨xn,xt,xh⟩:=x;dsimp only at h1 h2;have hmx:(1000000:Nat)<=maxLen:=by decide
 refine KC.mk (n:=20) func83 rfl ntmps83 aj ?_;refine Z2 ?_;refine KO.box rfl rfl aL rfl ?_;intro b3;refine qm ?_;refine KO.alloc rfl zeroValue125 aL rfl ?_;intro b5;refine oy ?_;refine KO.ce (cp:=[]) rfl rfl rfl call169 rfl (FK w0 _ _ _ b off cs T v l (.tail (.tail hp)) (.tail (.tail hq)) hc ae) ?_;rintro va L' rfl;refine KO.fact (fun w hw=>aN (E:=75) (sz:=3) (cf:=Nm.cells) (hw.pick .head)) ?_;rintro⟨ad,cap,rfl,had⟩;refine Kj ?_;refine lf ?_;refine K.loop (fun p:Nat×Value=>[(3,.pointer (some ⟨b3,0,none⟩)),(5,.pointer (some ⟨b5,0,none⟩)),(9,.slice ad l.length cap),(10,.int .i64 (l.length:Nat)),(11,.int .i64 (p.1:Nat))])
  (fun p=>bD b5 (.cells [p.2].toArray 125 (0,0))::jg p.2 (l.take p.1)::jg (.slice ad l.length cap) l::bD b3 (.cells [Value.string xn,.string xt,.int .i64 xh].toArray 75 (0,0))::L) (fun p=>p.1<=l.length) (fun p=>l.length-p.1) (0,.slice none 0 0)
  (aR _) ⟨rfl,rfl,rfl,rfl,rfl,trivial⟩ (fun _ h=>?_) ?_
 ·have h1:=cL (E:=75) (sz:=3) (cf:=Nm.cells) h;dsimp only[List.take_zero];exact h1.all Y7
 rintro⟨k,vm⟩ hk;dsimp only at hk ⊢;refine gZ ?_;refine K.bI rfl (fun h=>?_) (fun h=>?_)
 ·obtain⟨y,hy⟩:∃e,l[k]? =some e:=⟨l[k],ao ae⟩;obtain⟨g,rfl⟩:=had ae;have hyr:=hr y (ax hy);have cj:=mT hyr;have e1:=LG hs hr hl hy;have kO:du (l.take k):=List.Pairwise.sublist (List.take_sublist _ _) hs;obtain⟨yn,yt,yh⟩:=y;dsimp only at cj;refine pE ?_;refine KO.eN rfl rfl runUnderlying86 sizeOf75 aL ae rfl ?_;refine KO.yU rfl rfl isAgg75 sizeOf75 aX (fun _=>rfl) uT rfl ?_;refine KO.alloc rfl zeroValue75 aL rfl ?_;intro b7;refine KO.lC rfl rfl rfl aL (by exact sizeOf75) aL bE aL ?_;refine Z5 ?_;refine dC ?_;refine KO.xA rfl rfl isAgg75 sizeOf75 bE aL rfl ?_;refine KO.cl (cp:=[]) rfl rfl rfl call170 rfl (FI w0 _ _ _ b5 0 [vm] 125 vm (l.take k) ⟨yn,yt,yh⟩ aX aX rfl ji ji fV kO) ?_;rintro v' L' ⟨rfl,v2,rfl⟩;rw[e1,show[vm].set 0 v2=[v2]from rfl];refine um ?_;refine KQ.round (k+1,v2) ji ji ⟨rfl,rfl,rfl,rfl,rfl,trivial⟩ (fun _ h=>h.all Y1)
 ·have oX:k=l.length:=by omega
  subst oX;rw[List.take_length];refine wx ?_;refine dC ?_;refine KO.xA rfl rfl isAgg75 sizeOf75 aX aL rfl ?_;refine KO.cl (cp:=[]) rfl rfl rfl call170 rfl (FI w0 _ _ _ b5 0 [vm] 125 vm l ⟨xn,xt,xh⟩ bE bE rfl h1 h2 hl hs) ?_;rintro v' L' ⟨rfl,v2,rfl⟩;refine fK ?_;refine KQ.a_ rfl rfl (fun w' aY=>⟨_,_,rfl,⟨rfl,rfl⟩,aY.all (by with_reducible repeat(first|exact iI.refl|apply iI.drop))⟩)
theorem Ih(w0:World)(L:List HP)(bh bd n:Nat)(H:Ho)(D:Dk)(x:Nm)(hT:nI w0)(hM:oB w0)(hB:cE n H)(hn:n+1<=90000)(h3:D.places.length=300)(hd: -4000000000000000000<=D.left/\D.left<=9223372036854775807)(h1:x.name.size<=maxLen)(h2:x.iQ.size<=maxLen):
 KC prog 31 #[aZ bh,.agg x.cells.toArray] w0 (cW bh bd H::fa bd D::L) (fun u M=>u=cz 70 (jL H D x)/\M=cW bh bd (gL H D x)::fa bd (jb H D x)::L):=by
 have xH:=hB.kr;have yJ:=hB.sorted;have ku:=fun h0:cu H.names x=0=>kV h0
 obtain⟨xn,xt,xh⟩:=x;dsimp only at h1 h2;refine KC.mk (n:=38) func31 rfl ntmps31 aj ?_;refine oQ ?_;refine K.cg (fun _ h=>cb h) ?_;rintro⟨V,hV⟩;dsimp only;refine K.fact (fun w hw=>aN (E:=75) (sz:=3) (cf:=Nm.cells) (v:=V.nv) (xs:=H.names) (hw.pick (A:=jg V.nv H.names) aX)) ?_;rintro⟨na,nk,hnv,-⟩;refine dC ?_;refine KO.box rfl rfl aL rfl ?_;intro b3;refine kQ ?_;refine Es ?_;refine KO.Ur (us:=[V.nv]) rfl rfl isAgg125 sizeOf125 aX aL aL rfl ?_;refine KO.alloc rfl zeroValue125 aL rfl ?_;intro b5;refine KO.lC (us:=[V.nv]) rfl rfl rfl (by rw[hnv];rfl) (by exact sizeOf125) (by rw[hnv];rfl) bE aL ?_;refine E9 ?_;refine KO.xA rfl rfl isAgg75 sizeOf75 aX aL rfl ?_;refine KO.cl (cp:=[]) rfl rfl rfl call83 rfl (Py w0 _ _ _ b5 0 [V.nv] 125 V.nv H.names ⟨xn,xt,xh⟩ bE aX rfl xH yJ hB.right h1 h2) ?_;rintro v' L' ⟨rfl,rfl⟩;refine vE ?_;refine K.bI rfl (fun h=>?_) (fun h=>?_)
 ·have oW:fC H ⟨xn,xt,xh⟩=cu H.names ⟨xn,xt,xh⟩:=by unfold fC;rw[if_pos h]
  refine Ew ?_;refine KQ.a_ rfl rfl (fun w' aY=>⟨_,_,rfl,⟨?_,rfl⟩,?_⟩)
  ·unfold jL;rw[oW,if_pos h]
  ·unfold gL jb;rw[oW,if_pos h,if_pos h];exact bK V hV (aY.all Y5)
 have h0:cu H.names ⟨xn,xt,xh⟩=0:=by simpa using h
 have hr0:=w9 (ku h0);have cj:=mT (ku h0);obtain⟨-,-,FZ,Dj⟩:=eJ (ku h0);dsimp only at cj FZ Dj;refine oR ?_;refine Hj ?_;refine rE ?_;refine yv ?_;refine Z5 ?_;refine K.bI rfl (fun h5=>?_) (fun h5=>?_)
 ·have oW:fC H ⟨xn,xt,xh⟩=5:=by unfold fC;exact(if_neg h).trans (if_pos h5)
  refine qk ?_;refine KQ.a_ rfl rfl (fun w' aY=>⟨_,_,rfl,⟨?_,rfl⟩,?_⟩)
  ·unfold jL;rw[oW];rfl
  ·unfold gL jb;rw[oW,if_pos ai,if_pos ai];exact bK V hV (aY.all Y5)
 have oW:fC H ⟨xn,xt,xh⟩=0:=by unfold fC;exact(if_neg h).trans (if_neg h5)
 refine oR ?_;refine V9 ?_;refine rE ?_;refine kQ ?_;refine yv ?_;refine Z5 ?_;refine K.cut (fun _:Unit=>[(0,aZ bh),(3,.pointer (some ⟨b3,0,none⟩)),(7,.string (jD xt))]) (fun _=>cW bh bd H::fa bd D::bD b3 (.cells [Value.string xn,.string xt,.int .i64 xh].toArray 75 (0,0))::L) (fun _=>True) ?_ ?_
 ·refine K.bI rfl (fun h8=>?_) (fun h8=>?_)
  ·(skip)
   refine dC ?_;refine oz ?_;exact KQ.qc () trivial ⟨rfl,rfl,by unfold jD;rw[if_pos h8];rfl,trivial⟩ (fun w' aY=>bK V hV (aY.all Y5))
  ·refine vI ?_;exact KQ.qc () trivial ⟨rfl,rfl,by unfold jD;rw[if_neg h8];rfl,trivial⟩ (fun w' aY=>bK V hV (aY.all Y5))
 ·rintro⟨⟩-
  try dsimp only
  have hi:=bJ (n:=xh) ⟨by omega,by omega⟩;have hdz:(jD xt).size<=8:=by
   unfold jD;split
   ·decide
   ·omega
  have z1:(⟨#[110,58]⟩:ak).size=2:=rfl;have z2:(⟨#[32]⟩:ak).size=1:=rfl;have z3:(⟨#[110,58]⟩++xn:ak).size<=10:=by simp only[aB];omega
  have z4:(⟨#[110,58]⟩++xn++⟨#[32]⟩:ak).size<=11:=by simp only[aB];omega
  have z5:(⟨#[110,58]⟩++xn++⟨#[32]⟩++jD xt:ak).size<=19:=by simp only[aB];omega
  have z6:(⟨#[110,58]⟩++xn++⟨#[32]⟩++jD xt++⟨#[32]⟩:ak).size<=20:=by simp only[aB];omega
  refine oQ ?_;refine K.draw [.pure,.pure,.read,.pure,.pure,.pure,.pure,.pure,.pure,.read,.cx,.pure,.write,.pure] [0,1,2,3,4,5,6,7,8,9,10,11,12,13] bm bm ?_;refine Z1 ?_;refine Hj ?_;refine rE ?_;refine nG ?_;refine nG ?_;refine Z1 ?_;refine nG ?_;refine nG ?_;refine V8 ?_;refine E8 ?_;refine KO.ce (cp:=[]) rfl rfl rfl call59 rfl (fF w0 _ xh hT ⟨by omega,by omega⟩) ?_;rintro v' L' ⟨rfl,rfl⟩;refine nG ?_;refine KO.cl (cp:=[]) rfl rfl rfl call84 rfl (nb w0 _ bh bd n 1 H D (jK ⟨xn,xt,xh⟩) hT hM hB hr0 hn h3 hd) ?_;rintro v' L' ⟨rfl,rfl⟩;refine fK ?_;refine KQ.a_ rfl rfl (fun w' aY=>⟨_,_,rfl,⟨?_,rfl⟩,?_⟩)
  ·unfold jL;rw[oW];rfl
  ·unfold gL jb;rw[oW,if_neg ai,if_neg ai];exact aY.all Y5
theorem zW{w0 w:World}{bh bd:Nat}{H:Ho}{L:List HP}{V:rM}(hV:iY V H){cs:List Value}{nv:Value}{l:List Nm}{m:List (ak×Value)}{mb:Nat}{ps:List Nat}{a:List Qu}{p1 p2 bs:List Value}{u1:List (List (Ms×Int))}{u2:List (List (Int×ak))}{ba:List (List Int)}(h:St w0 (bD bh (.cells cs.toArray 133 (0,0))::jg nv l::cD Value.string mb m::ck iU ps a::ck cN p1 u1::ck cK p2 u2::ck dB bs ba::L) w)(e1:cs=eG bd V H)(e2:nv=V.nv)(e3:l=H.names)(e4:m=c7 V H)(e5:mb=V.mb)(e6:ps=V.ps)(e7:a=H.all)(e8:p1=V.us.map (·.1))(e9:u1=H.az.map (·.aU))(e10:p2=V.us.map (·.2))(e11:u2=H.az.map (·.bj))(e12:bs=V.bs)(e13:ba=H.batch):
 St w0 (cW bh bd H::L) w:=by
 subst e1 e2 e3 e4 e5 e6 e7 e8 e9 e10 e11 e12 e13;exact bK V hV h
theorem flat_get:∀(us:List (Value×Value)) (u:Nat) (p:Value×Value),us[u]? =some p->(us.flatMap (fun p=>[p.1,p.2]))[2*u]? =some p.1/\(us.flatMap (fun p=>[p.1,p.2]))[2*u+1]? =some p.2
 |[],_,_,h=>by simp at h
 |a::us,0,p,h=>by simp at h;subst h;exact⟨rfl,rfl⟩
 |a::us,u+1,p,h=>by
  have ih:=flat_get us u p IF;rw[aO,show 2*(u+1)=2*u+2 by omega];exact⟨ih.1,ih.2⟩
theorem xQ:∀(us:List (Value×Value)) (u:Nat) (p:Value×Value) (v:Value),us[u]? =some p->(us.flatMap (fun p=>[p.1,p.2])).set (2*u) v=(us.set u (v,p.2)).flatMap (fun p=>[p.1,p.2])/\(us.flatMap (fun p=>[p.1,p.2])).set (2*u+1) v=(us.set u (p.1,v)).flatMap (fun p=>[p.1,p.2])
 |[],_,_,_,h=>by simp at h
 |a::us,0,p,v,h=>by simp at h;subst h;exact⟨rfl,rfl⟩
 |a::us,u+1,p,v,h=>by
  have ih:=xQ us u p v IF;rw[aO,show 2*(u+1)=2*u+2 by omega,List.set_cons_succ,List.set_cons_succ,aO,aO,<-ih.1,<-ih.2];exact⟨rfl,rfl⟩
theorem ng{bd:Nat}{V:rM}{H:Ho}(hV:iY V H){u:Nat}{p:Value×Value}(hp:V.us[u]? =some p):
 (eG bd V H)[12+2*u]? =some p.1/\(eG bd V H)[13+2*u]? =some p.2/\(∀v,(eG bd V H).set (12+2*u) v=eG bd {V with us:=V.us.set u (v,p.2)} H)/\(∀v,(eG bd V H).set (13+2*u) v=eG bd {V with us:=V.us.set u (p.1,v)} H):=by
 have oO:=hV.ps;have hu:=(au.1 hp).1;have Vk:(([.int .i64 H.id,aZ bd,.int .i64 (H.used:Nat),.bool H.down,.int .i64 H.c6,.int .i64 H.next,V.nv,.map (some V.mb)]:List Value)++(V.ps.take 4).map aZ).length=12:=by simp[oO]
 have KK:=kx V.us;obtain⟨g1,g2⟩:=flat_get V.us u p hp;have s1:=fun v=>(xQ V.us u p v hp).1
 have s2:=fun v=>(xQ V.us u p v hp).2
 simp only[zX];generalize ([.int .i64 H.id,aZ bd,.int .i64 (H.used:Nat),.bool H.down,.int .i64 H.c6,.int .i64 H.next,V.nv,.map (some V.mb)]:List Value)++(V.ps.take 4).map aZ=A at Vk;refine⟨?_,?_,fun v=>?_,fun v=>?_⟩
 ·rw[bM ae,Vk,show 12+2*u-12=2*u by omega,List.getElem?_append_left ae,g1]
 ·rw[bM ae,Vk,show 13+2*u-12=2*u+1 by omega,List.getElem?_append_left ae,g2]
 ·rw[List.set_append_right _ _ ae,Vk,show 12+2*u-12=2*u by omega,List.set_append_left _ _ ae,s1]
 ·rw[List.set_append_right _ _ ae,Vk,show 13+2*u-12=2*u+1 by omega,List.set_append_left _ _ ae,s2]
def PA (V:rM) (H:Ho) (s:ak):Value:=if(kE H s).2.2≠0 then .pointer none else match V.ps[lI H s]? with
 |some p=>aZ p
 |none=>.pointer none
theorem Pz(w0:World)(L:List HP)(bh bd n:Nat)(V:rM)(H:Ho)(s:ak)(hV:iY V H)(hB:cE n H):
 KC prog 55 #[aZ bh,.string s] w0 (yL bh bd V H L) (fun u M=>u=.tuple #[PA V H s,.string (kE H s).1,.int .i64 (kE H s).2.1,cz 70 (kE H s).2.2]/\M=yL bh bd V H L):=by
 have xH:=hB.kr;have yJ:=hB.sorted;have oO:=hV.ps;have dI:=xe hB (s:=s);have fin:∀(a:Value) (b:ak) (c d:Int),PA V H s=a->kE H s=(b,c,d)->(Value.tuple #[a,.string b,.int .i64 c,cz 70 d])=.tuple #[PA V H s,.string (kE H s).1,.int .i64 (kE H s).2.1,cz 70 (kE H s).2.2]:=fun a b c d h1 h2=>by rw[h1,h2]
 refine KC.mk (n:=54) func55 rfl ntmps55 aj ?_;refine jX ?_;refine ry ?_;refine kQ ?_;refine Es ?_;refine Z1 ?_;refine KO.ce (cp:=[]) rfl rfl rfl call144 rfl (I6 w0 _ _ _ bh 6 (eG bd V H) 133 V.nv H.names s bE bE rfl ae yJ) ?_;rintro v' L' ⟨rfl,rfl⟩;refine Cb ?_;refine rB ?_;refine ry ?_;refine Z8 ?_;refine OS ?_;obtain⟨⟨t,k,e⟩,hr⟩:∃r,fe H.names (H.names.length+1) s=r:=⟨_,rfl⟩;have yK:kE H s=(if e≠0 then(⟨#[]⟩,0,e)else if k<0\/k=H.id then if dO H.names t=false then(⟨#[]⟩,0,7)else(t,-1,0)else(t,k,0)):=by unfold kE;rw[hr]
 rw[hr];refine Z7 ?_;refine KO.Uf rfl bm rfl ?_;refine iH ?_;refine K.bI rfl (fun h=>?_) (fun h=>?_)
 ·rw[if_pos h]at yK;refine gU ?_;refine ry ?_;refine Z8 ?_;refine nD ?_;refine KQ.Pt rfl rfl rfl rfl rfl (fun w' aY=>⟨_,_,rfl,⟨fin _ _ _ _ ?_ yK,rfl⟩,aY⟩);unfold PA;rw[yK,if_pos h]
 rw[if_neg h]at yK;have JJ:e=0:=by simpa using h
 subst JJ;refine oQ ?_;refine K.cut (fun _:Unit=>[(0,aZ bh),(5,.string t),(6,.int .i64 k),(21,.bool (decide (k<0\/k=H.id)))]) (fun _=>yL bh bd V H L) (fun _=>True) ?_ ?_
 ·by_cases vf:k<0
  ·refine BX ?_;refine Ev ?_;refine qJ ?_;refine oz ?_;exact KQ.qc () trivial ⟨rfl,rfl,rfl,by simp[vf,cF],trivial⟩ (fun w' aY=>aY)
  ·refine BT ?_;refine Ek ?_;refine GY ?_;refine EM ?_;refine KO.on rfl rfl Oo ?_;refine KO.di (i:=0) rfl rfl isAgg3 bE rfl rfl rfl ?_;refine lV ?_;refine IC ?_;refine vy ?_;refine oz ?_;exact KQ.qc () trivial ⟨rfl,rfl,rfl,by simp[vf,cF],trivial⟩ (fun w' aY=>aY)
 rintro⟨⟩-;refine K.bI rfl (fun hk=>?_) (fun hk=>?_)
 ·rw[if_pos hk]at yK;refine gU ?_;refine Es ?_;refine Z1 ?_;refine KO.ce (cp:=[]) rfl rfl rfl call57 rfl (sg w0 _ _ _ bh 6 (eG bd V H) 133 V.nv H.names t bE bE rfl ae yJ) ?_;rintro v' L' ⟨rfl,rfl⟩;refine oY ?_;refine Z5 ?_;cases Za:dO H.names t with
  |false=>
   rw[Za]at yK;rw[if_pos rfl]at yK;refine sH ?_;refine K4 ?_;refine ry ?_;refine nD ?_;refine KQ.Pt rfl rfl rfl rfl rfl (fun w' aY=>⟨_,_,rfl,⟨fin _ _ _ 7 ?_ yK,rfl⟩,aY⟩);unfold PA;rw[yK];rfl
  |true=>
   rw[Za]at yK;rw[if_neg aj]at yK;obtain⟨h1,h2,-⟩:=dI (by rw[yK]);obtain⟨-,i,hi,hj⟩:=h2 (by rw[yK];exact(by decide:(-1:Int)<0));rw[yK]at hi;have hg:=kt hV t;have uK:=(i_ hi).1;obtain⟨p,hp⟩:∃p,V.ps[4+i]? =some p:=⟨_,ao ae⟩;rw[show H.qI t=some i from hi]at hg;simp only[Option.bind_some,hp,Option.map_some]at hg;refine uj ?_;refine mG ?_;refine lb ?_;refine aaP ?_;refine KO.Jl fj t rfl rfl rfl underlying123 underlying9 zeroValue119 aX rfl ?_;rw[hg];refine Z1 ?_;refine ry ?_;refine Z8 ?_;refine nD ?_;refine KQ.Pt rfl rfl rfl rfl rfl (fun w' aY=>⟨_,_,rfl,⟨fin _ _ _ 0 ?_ yK,rfl⟩,aY⟩);unfold PA;rw[hj,hp,if_neg (by rw[yK];simp)];rfl
 ·rw[if_neg hk]at yK;obtain⟨h1,-,h2⟩:=dI (by rw[yK]);obtain⟨h3,h4⟩:=h2 (by rw[yK];exact fun h=>hk (.inl h));rw[yK]at h4;dsimp only at h4;obtain⟨p,hp⟩:∃p,V.ps[lI H s]? =some p:=⟨_,ao ae⟩;have hw:=oe hV (bd:=bd) h3 hp;refine VY ?_;refine iw ?_;refine On ?_;refine KO.mC (i:=lI H s) rfl rfl runUnderlying126 sizeOf119 h4 ae rfl ?_;refine KO.di (i:=8+lI H s) rfl rfl isAgg119 bE wz hw rfl ?_;refine jh ?_;refine ry ?_;refine nE ?_;refine KQ.Pt rfl rfl rfl rfl rfl (fun w' aY=>⟨_,_,rfl,⟨fin _ _ _ 0 ?_ yK,rfl⟩,aY⟩);unfold PA;rw[hp,if_neg (by rw[yK];simp)]
theorem Dw{w0 w:World}{bh bd:Nat}{H:Ho}{L:List HP}{V:rM}(hV:iY V H)(j:Nat)(q:Qu)(u:Nat)(k:Int)(x:rL)(p:Value×Value){p1 p2:List Value}{u1:List (List (Ms×Int))}{u2:List (List (Int×ak))}(h:St w0 (bD bh (.cells (eG bd {V with us:=V.us.set u p} {H with next:=k}).toArray 133 (0,0))::jg V.nv H.names::cD Value.string V.mb (c7 V H)::ck iU V.ps (H.all.set j q)::ck cN p1 u1::ck cK p2 u2::ck dB V.bs H.batch::L) w)(e1:p1=(V.us.map (·.1)).set u p.1)(e2:p2=(V.us.map (·.2)).set u p.2)(e3:u1=(H.az.map (·.aU)).set u x.aU)(e4:u2=(H.az.map (·.bj)).set u x.bj):
 St w0 (cW bh bd (dc {H.eI j q with next:=k} u x)::L) w:=by
 refine zW (V:={V with us:=V.us.set u p}) ⟨?_,by simp[hV.us],hV.bs,?_,?_,?_,?_,?_⟩ h ?_ rfl ?_ ?_ rfl rfl ?_ ?_ ?_ ?_ ?_ rfl ?_
 ·unfold dc;dsimp only;rw[zu];exact hV.ps
 ·unfold dc;dsimp only;rw[IZ];exact hV.ways
 ·unfold dc;dsimp only;rw[iT];simp[hV.az]
 ·unfold dc;dsimp only;rw[qM];exact hV.batch
 ·unfold dc;dsimp only;rw[s5];exact hV.bU
 ·unfold dc;dsimp only;rw[nU];exact hV.aF
 ·unfold dc eG;dsimp only;rw[AN,pJ,I1,I0,s5,nU]
 ·unfold dc;dsimp only;rw[qL]
 ·unfold dc c7;dsimp only;exact sd _ _ _ (wT j q).symm
 ·exact(Ei hV.ways j q).symm
 ·rw[e1,List.map_set]
 ·rw[e3];unfold dc;dsimp only;rw[iT,List.map_set]
 ·rw[e2,List.map_set]
 ·rw[e4];unfold dc;dsimp only;rw[iT,List.map_set]
 ·unfold dc;dsimp only;rw[qM]
theorem sy{α β:Type}{l:List α}{f:α->β}{i:Nat}{x:α}{y:β}(h:l[i]? =some x)(e:f x=y):l.map f=(l.map f).set i y:=by
 rw[<-e,<-List.map_set,List.gH h]
theorem UN(w0:World)(L:List HP)(bh bd n:Nat)(H:Ho)(u:Int)(s:ak)(pri:Int)(body:ak)(hB:cE n H)(hn:n<90000)(hs:s.size<=maxLen)(hb:body.size<=maxLen)(hl:∀x∈H.az,x.aU.length<=90000):
 KC prog 14 #[aZ bh,.int .i64 u,.string s,.int .i64 pri,.string body] w0 (cW bh bd H::L) (fun v M=>v=.tuple #[.int .i64 (u4 H u s pri body),cz 70 (ic H u s pri body)]/\M=cW bh bd (jt H u s pri body)::L):=by
 have hx:=hB.next
 have hid:=hB.id;have ends:∀k:Int,k≠0->ic H u s pri body=k->∀w',St w0 (cW bh bd H::L) w'->(Value.tuple #[.int .i64 0,cz 70 k]=.tuple #[.int .i64 (u4 H u s pri body),cz 70 (ic H u s pri body)]/\cW bh bd H::L=cW bh bd (jt H u s pri body)::L):=fun k hk he w' _=>by
  have h0:¬ic H u s pri body=0:=by rw[he];exact hk
  unfold u4 jt;rw[if_neg h0,if_neg h0,he];exact⟨rfl,rfl⟩
 refine KC.mk (n:=109) func14 rfl ntmps14 aj ?_;refine jX ?_;refine jH ?_;by_cases hu:u<0\/5<=u
 ·have he:ic H u s pri body=2:=by unfold ic;rw[if_pos hu]
  by_cases UC:u<0
  ·refine G9 ?_;refine N6 ?_;refine l3 ?_;refine KQ.ef rfl rfl rfl (fun w' aY=>⟨_,_,rfl,ends 2 ai he w' aY,aY⟩)
  ·refine BN ?_;refine Z5 ?_;refine K.cA rfl Oo ?_;refine l3 ?_;refine KQ.ef rfl rfl rfl (fun w' aY=>⟨_,_,rfl,ends 2 ai he w' aY,aY⟩)
 refine BN ?_;refine Z5 ?_;refine K.cP rfl Oo ?_;refine Z6 ?_;by_cases hp:pri<0\/9<pri
 ·have he:ic H u s pri body=1:=by unfold ic;rw[if_neg hu,if_pos (.inl hp)]
  by_cases hp0:pri<0
  ·refine G9 ?_;refine qJ ?_;refine rD ?_;refine y4 ?_;refine Z5 ?_;refine K.cA rfl Y63 ?_;refine l3 ?_;refine KQ.ef rfl rfl rfl (fun w' aY=>⟨_,_,rfl,ends 1 ai he w' aY,aY⟩)
  ·refine BT ?_;refine BL ?_;refine N_ ?_;refine N6 ?_;refine l3 ?_;refine KQ.ef rfl rfl rfl (fun w' aY=>⟨_,_,rfl,ends 1 ai he w' aY,aY⟩)
 refine BT ?_;refine BL ?_;refine Ek ?_;refine Z1 ?_;refine KO.on rfl rfl Oo ?_;refine KO.ce (cp:=[]) rfl rfl rfl call54 rfl (yj w0 _ body hb) ?_;rintro v' L' ⟨rfl,rfl⟩;refine lV ?_;refine oY ?_;refine vy ?_;refine Z5 ?_;cases Zw:jN body with
 |false=>
  have he:ic H u s pri body=1:=by unfold ic;rw[if_neg hu,if_pos (.inr Zw)]
  refine K.cA rfl aj ?_;refine l3 ?_;refine KQ.ef rfl rfl rfl (fun w' aY=>⟨_,_,rfl,ends 1 ai he w' aY,aY⟩)
 |true=>
 refine K.cP rfl Y63 ?_;have UC:¬((pri<0\/9<pri)\/jN body=false):=by rw[Zw];simpa using hp
 refine Z6 ?_;refine K.cg (fun _ h=>cb h) ?_;rintro⟨V,hV⟩;dsimp only;have oO:=hV.ps;refine iw ?_;refine KO.cl (cp:=[]) rfl rfl rfl call55 rfl (Pz w0 L bh bd n V H s hV hB) ?_;rintro v' L' ⟨rfl,rfl⟩;refine Cb ?_;refine Z15 ?_;refine ry ?_;refine Z8 ?_;refine vE ?_;refine K.bI rfl (fun h=>?_) (fun h=>?_)
 ·have he:ic H u s pri body=(kE H s).2.2:=by unfold ic;rw[if_neg hu,if_neg UC,if_pos h]
  refine gU ?_;refine Em ?_;refine KQ.ef rfl rfl rfl (fun w' aY=>⟨_,_,rfl,ends _ h he w' (bK V hV aY),bK V hV aY⟩)
 have h0:(kE H s).2.2=0:=by simpa using h
 refine Z6 ?_;cases ph:H.down with
 |true=>
  have he:ic H u s pri body=6:=by unfold ic;rw[if_neg hu,if_neg UC,if_neg h,if_pos ph]
  refine Er ?_;refine Z5 ?_;refine K.cA rfl ph ?_;refine l3 ?_;refine KQ.ef rfl rfl rfl (fun w' aY=>⟨_,_,rfl,ends 6 ai he w' (bK V hV aY),bK V hV aY⟩)
 |false=>
 refine Er ?_;refine Z5 ?_;refine K.cP rfl ph ?_;refine Z6 ?_;have he:ic H u s pri body=jr (H.uR (lI H s)) (fk H s pri body):=by unfold ic;rw[if_neg hu,if_neg UC,if_neg h,if_neg (by simp[ph])]
 obtain⟨hj,h2,h3⟩:=xe hB h0;have Xj:=ox hV.ways;obtain⟨p,kJ⟩:∃p,V.ps[lI H s]? =some p:=⟨_,ao ae⟩;have hpV:PA V H s=aZ p:=by unfold PA;rw[kJ,if_neg h]
 rw[hpV];refine K.draw [.pure,.pure,.pure,.read,.pure,.pure,.pure,.pure,.read,.pure,.pure,.pure,.pure,.pure,.pure,.cx,.write] [0,1,2,3,4,5,6,7,8,9,10,11,12,13,14,15,16] bm bm ?_;refine Z1 ?_;refine Oj ?_;refine KO.di (i:=5) rfl rfl isAgg3 bE rfl rfl rfl ?_;refine KO.mul rfl rfl rfl ae rfl ?_;refine uk ?_;refine EM ?_;refine KO.di (i:=0) rfl rfl isAgg3 bE rfl rfl rfl ?_;refine uS ?_;refine jh ?_;refine jh ?_;refine Z64 ?_;refine KO.alloc rfl zeroValue44 aL rfl ?_;intro b16;refine BH ?_;refine BX ?_;refine Z5 ?_;refine K.cut (fun _:Unit=>[(0,aZ bh),(1,.int .i64 u),(12,aZ p),(14,.int .i64 (kE H s).2.1),(16,.pointer (some ⟨b16,0,none⟩))]) (fun _=>bD b16 (.cells (dN (fk H s pri body)).toArray 44 (0,0))::yL bh bd V H L) (fun _=>True) ?_ ?_
 ·refine K.bI rfl (fun Gt=>?_) (fun Gt=>?_)
  ·(skip)
   refine ED ?_;refine EM ?_;refine KO.di (i:=0) rfl rfl isAgg3 aX rfl rfl rfl ?_;refine ER ?_
   (refine KO.Pd rfl rfl rfl aL AB aL bE aL Y0 ?_)
   refine KO.nil ?_;exact KQ.qc () trivial ⟨rfl,rfl,rfl,rfl,rfl,trivial⟩ (fun w' aY=>by unfold fk;rw[if_pos Gt];exact aY.all mH)
  ·refine vI ?_;exact KQ.qc () trivial ⟨rfl,rfl,rfl,rfl,rfl,trivial⟩ (fun w' aY=>by unfold fk;rw[if_neg Gt];exact aY.all mH)
 ·rintro⟨⟩-
  try dsimp only
  have YT:=(hB.a hj).ok ae;have UT:(fk H s pri body).queue.size<=maxLen:=Nat.le_trans (iO (L9 hB h0)).2 ai;have YZ:(fk H s pri body).body.size<=maxLen:=hb;rcases wh:fk H s pri body with⟨mi,mp,mb,mq,mh⟩
  rw[wh]at UT YZ;dsimp only at UT YZ;refine gU ?_;refine EK ?_;refine Z1 ?_;refine KO.cl (cp:=[]) rfl rfl rfl call56 rfl (KC.ri (φ:=fun v=>v=cz 70 (jr (H.uR (lI H s)) ⟨mi,mp,mb,mq,mh⟩)) kJ (Ej hj) aX (fun L=>Yo w0 L p (H.uR (lI H s)) ⟨mi,mp,mb,mq,mh⟩ u YT YZ UT)) ?_;rintro v' L' ⟨rfl,rfl⟩;refine jH ?_;rw[wh]at he;refine Z7 ?_;refine RS ?_;refine K.bI rfl (fun Xu=>?_) (fun Xu=>?_)
  ·have zS:nY (H.uR (lI H s)) ⟨mi,mp,mb,mq,mh⟩ u=H.uR (lI H s):=by unfold nY;rw[if_neg Xu]
   refine gU ?_;refine Em ?_;refine KQ.ef rfl rfl rfl (fun w' aY=>?_);rw[zS,nT (Ej hj)]at aY;exact⟨_,_,rfl,ends _ Xu he w' (bK V hV (aY.all Y5)),bK V hV (aY.all Y5)⟩
  ·have aeO:jr (H.uR (lI H s)) ⟨mi,mp,mb,mq,mh⟩=0:=by simpa using Xu
   rw[aeO]at he;have Qa:u.toNat<5:=by omega
   have W_:u=((u.toNat:Nat):Int):=by omega
   have MT:=hV.us;have l9:=hV.az;obtain⟨pv,Dr⟩:∃e,V.us[u.toNat]? =some e:=⟨_,ao ae⟩;obtain⟨x,A5⟩:∃e,H.az[u.toNat]? =some e:=⟨_,ao ae⟩;have qd:=hl x (ax A5);have Ky:H.iJ u.toNat=x:=by unfold Ho.iJ;rw[aq,A5];rfl
   have Gj:iY V {H with next:=H.next+1}:=⟨hV.ps,hV.us,hV.bs,hV.ways,hV.az,hV.batch,hV.bU,hV.aF⟩;obtain⟨c1,-,c3,-⟩:=ng (bd:=bd) Gj Dr;have xL:(V.us.map (·.1))[u.toNat]? =some pv.1:=by rw[aH,Dr];rfl
   have JI:(H.az.map (·.aU))[u.toNat]? =some x.aU:=by rw[aH,A5];rfl
   have ad9:u4 H u s pri body=mi:=by unfold u4;rw[if_pos he,wh]
   refine mG ?_;refine Oj ?_;refine KO.di (i:=5) rfl rfl isAgg3 aX rfl rfl rfl ?_;refine uS ?_;refine Oj ?_;refine KO.iA (i:=5) rfl rfl rfl aL AB rfl aX rfl OV ?_;rw[show(eG bd V H).set 5 (.int .i64 (H.next+1))=eG bd V {H with next:=H.next+1}from rfl];refine Z0 ?_;refine K.conv (fun w hw=>ew xL JI (hw.pick (A:=ck cN (V.us.map (·.1)) (H.az.map (·.aU))) aX)) ?_
   refine K.draw [.pure,.pure,.pure,.pure,.pure,.pure,.pure,.pure,.read,.read,.pure,.pure,.cx,.write,.pure,.pure,.pure,.pure,.write] [0,1,2,3,4,5,6,7,8,9,10,11,14,15,12,13,16,17,18] bm bm ?_;refine jh ?_;refine yw ?_;refine VZ ?_;refine Wf ?_;refine KO.di (i:=12+2*u.toNat) rfl rfl isAgg127 aX R0 c1 rfl ?_;refine BV ?_;refine Z1 ?_;refine KO.sE (pl:=[(0,5),(5,1)]) rfl zeroValue142 runUnderlying142 (by intro w;simp[sizeOf3,sizeOf44]) aL rfl ?_;refine lb ?_;refine KO.ij (off:=12) rfl runUnderlying133 rfl rfl sizeOf131 rfl ?_;refine KO.iN (z:=(Value.agg #[.int .i64 0,.int .i64 0,.string ⟨#[]⟩,.string ⟨#[]⟩,.int .i64 0,.int .i64 0])) (sz:=6) (cV:=64) rfl rfl underlying127 bm aL aL ai ai rfl ?_;intro ajQ;refine KO.app (z:=Value.agg #[.int .i64 0,.int .i64 0,.string ⟨#[]⟩,.string ⟨#[]⟩,.int .i64 0,.int .i64 0]) (sz:=6) (cV:=64) (xs:=x.aU) (cf:=AT) rfl rfl rfl (.tail .head) .head underlying127 bm aL (⟨mi,mp,mb,mq,mh⟩,(kE H s).2.1) rfl rfl rfl ae ai rfl ?_;intro v13;refine KO.fact (fun _ hs=>aN hs) ?_;rintro⟨a13,k13,MS,-⟩;refine KO.mC (i:=u.toNat) rfl rfl runUnderlying131 sizeOf130 W_ ae rfl ?_;refine Wf ?_
   refine KO.iA (i:=12+2*u.toNat) rfl rfl rfl (by rw[MS];rfl) (by exact sizeOf127) (by rw[MS];rfl) aX R0 (by rw[pW Gj];omega) ?_;rw[c3];refine E9 ?_;refine OT ?_;refine E8 ?_;refine nE ?_;refine KQ.ef rfl rfl rfl (fun w' aY=>⟨_,_,rfl,⟨by rw[he,ad9];rfl,rfl⟩,?_⟩);have e1:jt H u s pri body=dc {H.eI (lI H s) (nY (H.uR (lI H s)) (fk H s pri body) u)with next:=H.next+1} u.toNat ⟨x.aU++[(fk H s pri body,(kE H s).2.1)],x.bj⟩:=by unfold jt;rw[if_pos he,Ky]
   rw[e1,wh];have vY:=po (f:=cN) (ps:=V.us.map (·.1)) (xs:=H.az.map (·.aU)) (i:=u.toNat) (p:=v13) (x:=x.aU++[(⟨mi,mp,mb,mq,mh⟩,(kE H s).2.1)]) (by simp[MT];omega) (by simp[l9];omega) (aY.all (M:=cN v13 (x.aU++[(⟨mi,mp,mb,mq,mh⟩,(kE H s).2.1)])::ck cN ((V.us.map (·.1)).eraseIdx u.toNat) ((H.az.map (·.aU)).eraseIdx u.toNat)::bD bh (.cells (eG bd {V with us:=V.us.set u.toNat (v13,pv.2)} {H with next:=H.next+1}).toArray 133 (0,0))::jg V.nv H.names::cD Value.string V.mb (c7 V H)::ck iU V.ps (H.all.set (lI H s) (nY (H.uR (lI H s)) ⟨mi,mp,mb,mq,mh⟩ u))::ck cK (V.us.map (·.2)) (H.az.map (·.bj))::ck dB V.bs H.batch::L) Y5)
   exact Dw hV (lI H s) _ u.toNat (H.next+1) _ (v13,pv.2) (vY.all Y7) rfl (sy Dr rfl) rfl (sy A5 rfl)
theorem Gd(w0:World)(L:List HP)(bh bd n:Nat)(H:Ho)(u:Int)(s:ak)(hB:cE n H)(hn:n<90000)(hl:∀x∈H.az,x.bj.length<=90000):
 KC prog 15 #[aZ bh,.int .i64 u,.string s] w0 (cW bh bd H::L) (fun v M=>v=.tuple #[.agg (dN (getM H u s)).toArray,cz 70 (gm H u s)]/\M=cW bh bd (iE H u s)::L):=by
 have xH:=hB.kr;have yJ:=hB.sorted;have ends:∀k:Int,k≠0->gm H u s=k->(Value.tuple #[.agg (dN mm).toArray,cz 70 k]=.tuple #[.agg (dN (getM H u s)).toArray,cz 70 (gm H u s)]/\cW bh bd H::L=cW bh bd (iE H u s)::L):=fun k hk he=>by
  have h0:¬gm H u s=0:=by rw[he];exact hk
  unfold getM iE;rw[if_neg h0,if_neg h0,he];exact⟨rfl,rfl⟩
 refine KC.mk (n:=81) func15 rfl ntmps15 aj ?_;refine Z2 ?_;refine KO.alloc rfl zeroValue44 aL rfl ?_;intro b6;refine jH ?_;by_cases hu:u<0\/5<=u
 ·have he:gm H u s=2:=by unfold gm;rw[if_pos hu]
  by_cases UC:u<0
  ·refine G9 ?_;refine N6 ?_;refine G8 ?_;refine K2 ?_;refine vx ?_;refine KQ.jn rfl rfl isAgg44 bE IG rfl (fun w' aY=>⟨_,cW bh bd H::L,rfl,?_,?_⟩)
   ·exact ends 2 ai he
   ·exact aY.all Y1
  ·refine BN ?_;refine Z5 ?_;refine K.cA rfl Oo ?_;refine G8 ?_;refine K2 ?_;refine vx ?_;refine KQ.jn rfl rfl isAgg44 bE IG rfl (fun w' aY=>⟨_,cW bh bd H::L,rfl,?_,?_⟩)
   ·exact ends 2 ai he
   ·exact aY.all Y1
 refine BN ?_;refine Z5 ?_;refine K.cP rfl Oo ?_;refine Z6 ?_;refine K.cg (fun _ h=>cb (h.pick aX)) ?_;rintro⟨V,hV⟩;dsimp only;have oO:=hV.ps;have hg:=kt hV s;cases hq:H.qI s with
 |none=>
  have he:gm H u s=7:=by unfold gm;rw[if_neg hu,hq]
  rw[hq]at hg;refine G7 ?_;refine KO.H_ fj s rfl rfl rfl underlying123 underlying9 zeroValue119 aX rfl ?_;rw[hg];refine jY ?_;refine oY ?_;refine rD ?_;refine Oi ?_;refine Oi ?_;refine Ry ?_;refine y4 ?_;refine Z5 ?_;refine K.cA rfl aj ?_;refine G8 ?_;refine EH ?_;refine vx ?_;refine KQ.jn rfl rfl isAgg44 bE IG rfl (fun w' aY=>⟨_,cW bh bd H::L,rfl,?_,?_⟩)
  ·exact ends 7 ai he
  ·exact bK V hV (aY.all Y1)
 |some i=>
 have uK:=(i_ hq).1;obtain⟨p,hp⟩:∃p,V.ps[4+i]? =some p:=⟨_,ao ae⟩;rw[hq]at hg;simp only[Option.bind_some,hp,Option.map_some]at hg;have heq:gm H u s=if s≠c_/\dO H.names s=false then 7 else if H.down=true then 6 else lH (H.dX i):=by unfold gm;rw[if_neg hu,hq]
 refine G7 ?_;refine KO.H_ fj s rfl rfl rfl underlying123 underlying9 zeroValue119 aX rfl ?_;rw[hg];refine pD ?_;refine K.cut (fun _:Unit=>[(0,aZ bh),(1,.int .i64 u),(2,.string s),(6,.pointer (some ⟨b6,0,none⟩)),(8,aZ p),(42,.bool (decide (s≠c_/\dO H.names s=false)))]) (fun _=>bD b6 (.cells [Value.int .i64 0,.int .i64 0,.string ⟨#[]⟩,.string ⟨#[]⟩,.int .i64 0].toArray 44 (0,0))::yL bh bd V H L) (fun _=>True) ?_ ?_
 ·by_cases Qe:s=c_
  ·have A7:s=⟨#[100,101,97,100]⟩:=Qe;have UG:(!decide (s=⟨#[100,101,97,100]⟩))=false:=by rw[A7];rfl
   clear Qe;refine Rw ?_;refine BG ?_;refine EL ?_;refine EL ?_;refine KO.no rfl rfl UG rfl ?_;refine KO.no rfl rfl uT rfl ?_;refine sG ?_;refine KO.o7 rfl ?_ rfl rfl ?_
   (focus assumption)
   refine qj ?_;refine KO.nil ?_;exact KQ.qc () trivial ⟨rfl,rfl,rfl,rfl,rfl,by simp[A7,c_,cF],trivial⟩ (fun w' aY=>aY.all Y3)
  ·have A7:¬s=⟨#[100,101,97,100]⟩:=Qe;refine Rw ?_;refine BG ?_;refine y5 ?_;refine Z1 ?_;refine y5 ?_;refine lb ?_;refine y5 ?_;refine Z88 ?_;refine y5 ?_;refine Z1 ?_;refine KO.on rfl rfl (by simp[A7]) ?_;refine KO.ce (cp:=[]) rfl rfl rfl call57 rfl (sg w0 _ _ _ bh 6 (eG bd V H) 133 V.nv H.names s bE bE rfl ae yJ) ?_;rintro v' L' ⟨rfl,rfl⟩;refine y5 ?_;refine oY ?_;refine sG ?_;refine KO.r7 rfl ?_ rfl rfl ?_
   (focus(simp_all;done))
   refine qj ?_;refine KO.nil ?_;exact KQ.qc () trivial ⟨rfl,rfl,rfl,rfl,rfl,by simp[Qe,cF],trivial⟩ (fun w' aY=>aY.all Y3)
 rintro⟨⟩-
 try dsimp only
 refine K.bI rfl (fun h4=>?_) (fun h4=>?_)
 ·have he:gm H u s=7:=by rw[heq,if_pos h4]
  refine G8 ?_;refine K2 ?_;refine vx ?_;refine KQ.jn rfl rfl isAgg44 bE IG rfl (fun w' aY=>⟨_,cW bh bd H::L,rfl,?_,?_⟩)
  ·exact ends 7 ai he
  ·exact bK V hV (aY.all Y1)
 rw[if_neg h4]at heq;refine Z6 ?_;cases ph:H.down with
 |true=>
  have he:gm H u s=6:=by rw[heq,if_pos ph]
  refine Z7 ?_;refine Z48 ?_;refine KO.di (i:=3) rfl rfl isAgg4 aX rfl rfl rfl ?_;refine Z5 ?_;refine K.cA rfl ph ?_;refine G8 ?_;refine K2 ?_;refine vx ?_;refine KQ.jn rfl rfl isAgg44 bE IG rfl (fun w' aY=>⟨_,cW bh bd H::L,rfl,?_,?_⟩)
  ·exact ends 6 ai he
  ·exact bK V hV (aY.all Y1)
 |false=>
 have he:gm H u s=lH (H.dX i):=by rw[heq,if_neg (by simp[ph])]
 have tB:=(hB.qa uK).len;refine Z7 ?_;refine Z48 ?_;refine KO.di (i:=3) rfl rfl isAgg4 aX rfl rfl rfl ?_;refine Z5 ?_;refine K.cP rfl ph ?_;refine Z6 ?_;rcases wh:lG (H.dX i)with⟨mi,mp,mb,mq,mh⟩
 refine iw ?_;refine KO.cl (cp:=[]) rfl rfl rfl call58 rfl (KC.ri (φ:=fun v=>v=.tuple #[.agg (dN (lG (H.dX i))).toArray,cz 70 (lH (H.dX i))]) hp (oH hV.ways uK) aX (fun L=>ZT w0 L p (H.dX i) u ae)) ?_;rintro v' L' ⟨rfl,rfl⟩;rw[wh];refine Cb ?_;refine KO.alloc rfl zeroValue44 aL rfl ?_;intro Az;refine K2 ?_;refine vE ?_;refine K.bI rfl (fun h9=>?_) (fun h9=>?_)
 ·have zS:mW (H.dX i) u=H.dX i:=by
   unfold lH at h9;unfold mW;split
   ·rfl
   ·rename_i k hk;rw[hk]at h9;exact absurd rfl h9
  refine aaQ ?_;refine Z1 ?_;refine EH ?_;refine vx ?_;refine KQ.jn rfl rfl isAgg44 bE IG rfl (fun w' aY=>?_);rw[zS,nT (oH hV.ways uK)]at aY;exact⟨_,cW bh bd H::L,rfl,ends _ h9 he,bK V hV (aY.all Y5)⟩
 have h90:lH (H.dX i)=0:=by simpa using h9
 rw[h90]at he;have Qa:u.toNat<5:=by omega
 have W_:u=((u.toNat:Nat):Int):=by omega
 have MT:=hV.us;have l9:=hV.az;obtain⟨pv,Dr⟩:∃e,V.us[u.toNat]? =some e:=⟨_,ao ae⟩;obtain⟨x,A5⟩:∃e,H.az[u.toNat]? =some e:=⟨_,ao ae⟩;have qd:=hl x (ax A5);have Ky:H.iJ u.toNat=x:=by unfold Ho.iJ;rw[aq,A5];rfl
 obtain⟨-,c2,-,c4⟩:=ng (bd:=bd) hV Dr;have xL:(V.us.map (·.2))[u.toNat]? =some pv.2:=by rw[aH,Dr];rfl
 have JI:(H.az.map (·.bj))[u.toNat]? =some x.bj:=by rw[aH,A5];rfl
 have OM:getM H u s=⟨mi,mp,mb,mq,mh⟩:=by unfold getM;rw[if_pos he,hq];exact wh
 refine Z6 ?_;refine K.conv (fun w hw=>ew xL JI (hw.pick (A:=ck cK (V.us.map (·.2)) (H.az.map (·.bj))) aX)) ?_
 refine K.draw [.pure,.pure,.pure,.pure,.pure,.pure,.pure,.pure,.read,.pure,.read,.pure,.pure,.cx,.write,.pure,.pure,.pure,.pure,.write] [0,1,2,3,4,5,6,7,8,9,10,11,12,15,16,13,14,17,18,19] bm bm ?_;refine jh ?_;refine yw ?_;refine VZ ?_;refine Wd ?_;refine KO.di (i:=13+2*u.toNat) rfl rfl isAgg128 aX R0 c2 rfl ?_;refine OT ?_;refine E8 ?_;refine Z1 ?_;refine KO.sE (pl:=[(0,1),(1,1)]) rfl zeroValue146 runUnderlying146 Y21 aL rfl ?_;refine lb ?_;refine KO.ij (off:=12) rfl runUnderlying133 rfl rfl sizeOf131 rfl ?_;refine KO.iN (z:=(Value.agg #[.int .i64 0,.string ⟨#[]⟩])) (sz:=2) (cV:=24) rfl rfl underlying128 bm aL aL ai ai rfl ?_;intro b74;refine KO.app (z:=Value.agg #[.int .i64 0,.string ⟨#[]⟩]) (sz:=2) (cV:=24) (xs:=x.bj) (cf:=Bi) rfl rfl rfl (.tail .head) .head underlying128 bm aL (mi,s) rfl rfl rfl ae ai rfl ?_;intro XJ;refine KO.fact (fun _ hs=>aN hs) ?_;rintro⟨a13,k13,MS,-⟩;refine KO.mC (i:=u.toNat) rfl rfl runUnderlying131 sizeOf130 W_ ae rfl ?_;refine Wd ?_;refine KO.iA (b:=bh) (i:=13+2*u.toNat) rfl rfl rfl (by rw[MS];rfl) (by exact sizeOf128) (by rw[MS];rfl) aX R0 OV ?_;rw[c4];refine E9 ?_;refine BV ?_;refine EH ?_;refine fK ?_
 refine KQ.jn rfl rfl isAgg44 bE IG rfl (fun w' aY=>⟨_,_,rfl,⟨by rw[he,OM];rfl,rfl⟩,?_⟩);have e1:iE H u s=dc {H.eI (4+i) (mW (H.dX i) u)with next:=H.next} u.toNat ⟨x.aU,x.bj++[(mi,s)]⟩:=by
  unfold iE;rw[if_pos he,Ky,hq];simp only[Option.getD_some];rw[wh];unfold Ho.eI;rw[if_neg ae,show 4+i-4=i by omega];rfl
 rw[e1];have vY:=po (f:=cK) (ps:=V.us.map (·.2)) (xs:=H.az.map (·.bj)) (i:=u.toNat) (p:=XJ) (x:=x.bj++[(mi,s)]) (by simp[MT];omega) (by simp[l9];omega) (aY.all (M:=cK XJ (x.bj++[(mi,s)])::ck cK ((V.us.map (·.2)).eraseIdx u.toNat) ((H.az.map (·.bj)).eraseIdx u.toNat)::bD bh (.cells (eG bd {V with us:=V.us.set u.toNat (pv.1,XJ)} H).toArray 133 (0,0))::jg V.nv H.names::cD Value.string V.mb (c7 V H)::ck iU V.ps (H.all.set (4+i) (mW (H.dX i) u))::ck cN (V.us.map (·.1)) (H.az.map (·.aU))::ck dB V.bs H.batch::L) Y5)
 exact Dw hV (4+i) _ u.toNat H.next _ (pv.1,XJ) (vY.all Y7) (sy Dr rfl) rfl (sy A5 rfl) rfl
def AV (p:Nat):List Value:=[aZ p]
def HY (v:Value) (l:List Nat):HP:=SL 119 1 AV v l
theorem JQ{l:List Nat}(h:4<=l.length):l.take 4=[0,1,2,3].map fun j=>l.getD j 0:=by
 match l,h with
 |a::b::c::d::l,_=>rfl
theorem Qj{w0 w:World}{L R:List HP}{bh bd:Nat}{V:rM}{H:Ho}(hV:iY V H)(hp:bC L (bD bh (.cells (eG bd V H).toArray 133 (0,0))) R)(hw:St w0 L w):Src w AV (.slice (some ((⟨bh,8,none⟩:Addr).add 0)) 4 4) (V.ps.take 4):=by
 have oO:=hV.ps;have h4:(V.ps.take 4).length=4:=by simp[oO]
 refine⟨_,4,by rw[h4],(fun h=>by cases h),fun ad had=>?_⟩;cases had
 intro j c hj;have KK:(V.ps.take 4).flatMap AV=(V.ps.take 4).map aZ:=by
  generalize V.ps.take 4=l
  induction l with
  |nil=>rfl
  |cons a l ih=>rw[aO,ih];rfl
 rw[KK,aH]at hj;cases kJ:(V.ps.take 4)[j]? with
 |none=>rw[kJ]at hj;cases hj
 |some p=>
  rw[kJ]at hj;simp only[Option.map_some,ay]at hj;subst hj;have SR:j<4:=by have :=(au.1 kJ).1;omega
  rw[List.getElem?_take,if_pos SR]at kJ;have :=oe (bd:=bd) hV SR kJ;rw[Addr.add_lit,Addr.add_lit,World.cell?,(hw.lK hp).2];simpa using this
theorem H8{V:rM}{H:Ho}(hV:iY V H){r:Nat}(hr:r<H.aE.length):∃s,(c7 V H).getD r default=(s,aZ (V.ps.getD (4+r) 0)):=by
 have oO:=hV.ps;obtain⟨x,hx⟩:∃e,H.aE[r]? =some e:=⟨_,ao hr⟩;obtain⟨p,hp⟩:∃e,V.ps[4+r]? =some e:=⟨_,ao ae⟩;refine⟨x.1,?_⟩;unfold c7 q9;rw[aq,List.getElem?_zipWith,hx,List.getElem?_drop,hp,aq,hp];rfl
theorem mZ{α β:Type}(f:α->β):∀(l:List α) (i:Nat),(l.map f).eraseIdx i=(l.eraseIdx i).map f
 |[],_=>rfl
 |a::l,0=>rfl
 |a::l,i+1=>by simp[mZ f l i]
theorem n9{α:Type}:∀{l:List α} {i:Nat} (h:i<l.length),(l[i]::l.eraseIdx i).Perm l
 |a::l,0,_=>.refl _
 |a::l,i+1,h=>(List.Perm.swap _ _ _).trans ((n9 (l:=l) (i:=i) IF).cons a)
theorem Tg(w0:World)(L:List HP)(bh bd:Nat)(V:rM)(H:Ho)(hV:iY V H)(hn:H.aE.length<=100000):
 KC prog 63 #[aZ bh] w0 (yL bh bd V H L) (fun u M=> ∃js:List Nat,js.Perm (List.range V.ps.length)/\M=HY u (js.map fun j=>V.ps.getD j 0)::yL bh bd V H L):=by
 have oO:=hV.ps;have hsE:∀w,(Go.sizeOf (prog.elem 126)).run prog w=.ok 1 w:=by
  have e:prog.elem 126=119:=by kernel_rfl
  rw[e];exact sizeOf119
 refine KC.mk (n:=25) func63 rfl ntmps63 aj ?_;refine Z2 ?_;refine BM ?_;refine lb ?_;refine V5 ?_;refine KO.rng rfl rfl underlying123 aX rfl ?_;intro r10;refine Tn ?_;refine K.loop (fun p:List Nat×List Nat×Value×Option (ak×Value)=>[(0,aZ bh),(3,p.2.2.1),(10,.pointer (some ⟨r10,0,none⟩))])
  (fun p=>HY p.2.2.1 (p.2.1.map fun r=>V.ps.getD (4+r) 0)::EX Value.string V.mb r10 (c7 V H) (p.1.map fun r=>(c7 V H).getD r default) p.2.2.2::bD bh (.cells (eG bd V H).toArray 133 (0,0))::jg V.nv H.names::ck iU V.ps H.all::ck cN (V.us.map (·.1)) (H.az.map (·.aU))::ck cK (V.us.map (·.2)) (H.az.map (·.bj))::ck dB V.bs H.batch::L)
  (fun p=>(p.2.1++p.1).Perm (List.range H.aE.length)) (fun p=>p.1.length) (List.range H.aE.length,[],.slice none 0 0,none)
  aj ⟨rfl,rfl,rfl,trivial⟩ (fun _ h=>?_) ?_
 ·have h1:=cL (E:=119) (sz:=1) (cf:=AV) h;have e1:(List.range H.aE.length).map (fun r=>(c7 V H).getD r default)=c7 V H:=by
   have hl:(c7 V H).length=H.aE.length:=by unfold c7 q9;rw[List.length_zipWith,bo];omega
   rw[<-hl];apply List.ext_getElem
   ·simp
   ·intro i h1 h2;simp[aq,ao h2]
  dsimp only;rw[e1];exact h1.all mH
 rintro⟨rest,done,v,cur⟩ iB;dsimp only at iB ⊢;refine Z2 ?_;refine KO.PJ rfl rfl aX rfl (fun h0=>?_) (fun i e he=>?_);refine rB ?_;refine Z0 ?_;have kP:rest=[]:=by simpa using h0
 subst kP;rw[List.append_nil]at iB;have me:done.length<=100000:=by have :=iB.length_eq;simp at this;omega
 refine uj ?_;refine wx ?_;refine iw ?_;refine On ?_;refine KO.VI (len:=3) (sz:=1) rfl bm bm hsE rfl ?_;refine KO.Ro (cf:=AV) (z:=Value.pointer none) (sz:=1) (cV:=8) (xs:=done.map fun r=>V.ps.getD (4+r) 0) (ys:=V.ps.take 4) rfl rfl rfl (.tail .head) (fun w hw=>Qj hV aX hw) underlying152 bm rfl (fun _=>rfl) (fun _=>rfl) fV ai rfl ?_;intro v24;refine fK ?_;refine KQ.a_ rfl rfl (fun w' aY=>⟨_,_,rfl,⟨done.map (4+ ·)++[0,1,2,3],?_,rfl⟩,?_⟩)
 ·rw[oO,List.range_add];exact List.perm_append_comm.trans ((List.Perm.refl _).append (iB.map _))
 ·rw[bu,<-JQ ae,List.map_map];exact aY.all Y7
 obtain⟨r,hr,rfl⟩:∃r,rest[i]? =some r/\(c7 V H).getD r default=e:=by
  rw[aH]at he;cases hr:rest[i]? with
  |none=>rw[hr]at he;cases he
  |some r=>rw[hr]at he;exact⟨r,rfl,by simpa using he⟩
 have JA:r<H.aE.length:=by
  have :r∈List.range H.aE.length:=iB.mem_iff.1 (List.mem_append_right _ (ax hr));simpa using this
 obtain⟨s,mJ⟩:=H8 hV JA;rw[mJ];have me:done.length<=100000:=by have :=iB.length_eq;simp at this;omega
 refine rB ?_;refine Z0 ?_;refine sH ?_;refine pE ?_;refine KO.JW rfl rfl bE rfl ?_;refine rB ?_;refine iH ?_;refine iw ?_;refine KO.iN (z:=(Value.pointer none)) (sz:=1) (cV:=8) rfl rfl underlying152 bm aL aL ai ai rfl ?_;intro b17;refine KO.app (cf:=AV) (z:=Value.pointer none) (sz:=1) (cV:=8) (xs:=done.map fun r=>V.ps.getD (4+r) 0) rfl rfl rfl (.tail (.tail .head)) .head underlying152 bm aL (V.ps.getD (4+r) 0) rfl rfl rfl fV ai rfl ?_;intro W0;refine Z8 ?_;refine yD ?_;refine KQ.round (rest.eraseIdx i,done++[r],W0,some (s,aZ (V.ps.getD (4+r) 0))) ?_ ?_ ⟨rfl,rfl,rfl,trivial⟩ (fun _ h=>?_)
 ·dsimp only;refine List.Perm.trans ?_ iB;rw[aK];refine(List.Perm.refl done).append ?_;obtain⟨hi,rfl⟩:=au.1 hr;exact n9 hi
 ·dsimp only;have hi:=(au.1 hr).1;rw[List.length_eraseIdx,if_pos hi];omega
 ·dsimp only;rw[bu,<-mZ];exact h.all mH
theorem CN:∀(i:Nat) (a c:Value) (cs:List Value),i+2<=cs.length->nZ i [a,c] cs=(cs.set i a).set (i+1) c
 |0,a,c,x::y::cs,_=>rfl
 |0,a,c,[x],h=>by simp at h
 |0,a,c,[],h=>by simp at h
 |i+1,a,c,x::cs,h=>by
  simp only[List.length_cons]at h;rw[nZ,CN i a c cs ae];rfl
 |i+1,a,c,[],h=>by simp at h
theorem Dx{bd:Nat}{V:rM}{H:Ho}(hV:iY V H){u:Nat}(hu:u<5):nZ (12+2*u) [.slice none 0 0,.slice none 0 0] (eG bd V H)=eG bd {V with us:=V.us.set u (.slice none 0 0,.slice none 0 0)} H:=by
 have MT:=hV.us;obtain⟨p,hp⟩:∃e,V.us[u]? =some e:=⟨_,ao ae⟩;rw[CN _ _ _ _ OV,(ng (bd:=bd) hV hp).2.2.1];have sr:iY {V with us:=V.us.set u (.slice none 0 0,p.2)} H:=⟨hV.ps,by simp[hV.us],hV.bs,hV.ways,hV.az,hV.batch,hV.bU,hV.aF⟩;have kJ:(V.us.set u (.slice none 0 0,p.2))[u]? =some (.slice none 0 0,p.2):=by rw[List.getElem?_set_self ae]
 rw[show 12+2*u+1=13+2*u by omega];have :=(ng (bd:=bd) sr kJ).2.2.2 (.slice none 0 0);rw[this];simp only[List.set_set]
theorem IQ{w0 w:World}{L:List HP}{V:rM}{H:Ho}(hV:iY V H){u:Nat}(hu:u<5)(h:St w0 (ck cN (V.us.map (·.1)) (H.az.map (·.aU))::ck cK (V.us.map (·.2)) (H.az.map (·.bj))::L) w):
 St w0 (ck cN ((V.us.set u (.slice none 0 0,.slice none 0 0)).map (·.1)) ((H.az.set u dt).map (·.aU))::ck cK ((V.us.set u (.slice none 0 0,.slice none 0 0)).map (·.2)) ((H.az.set u dt).map (·.bj))::L) w:=by
 have MT:=hV.us;have l9:=hV.az;obtain⟨p,hp⟩:∃e,V.us[u]? =some e:=⟨_,ao ae⟩;obtain⟨x,hx⟩:∃e,H.az[u]? =some e:=⟨_,ao ae⟩;rw[List.map_set,List.map_set,List.map_set,List.map_set];have h1:=ew (i:=u) (p:=p.1) (x:=x.aU) (by rw[aH,hp];rfl) (by rw[aH,hx];rfl) h;have h2:=po (f:=cN) (i:=u) (p:=.slice none 0 0) (x:=[]) fV fV (cL (E:=142) (sz:=6) (cf:=AT) h1.drop);have h3:=ew (i:=u) (p:=p.2) (x:=x.bj) (by rw[aH,hp];rfl) (by rw[aH,hx];rfl) (h2.all (M:=ck cK (V.us.map (·.2)) (H.az.map (·.bj))::ck cN ((V.us.map (·.1)).set u (.slice none 0 0)) ((H.az.map (·.aU)).set u [])::L) Y3)
 have h4:=po (f:=cK) (i:=u) (p:=.slice none 0 0) (x:=[]) fV fV (cL (E:=146) (sz:=2) (cf:=Bi) h3.drop);exact h4.all Y7
theorem zV{w0 w:World}{bh bd:Nat}{H:Ho}{L:List HP}{V:rM}(hV:iY V H)(a:Int){u:Nat}(hu:u<5)(h:St w0 (bD bh (.cells (eG bd {V with us:=V.us.set u (.slice none 0 0,.slice none 0 0)} H).toArray 133 (0,0))::jg V.nv H.names::cD Value.string V.mb (c7 V H)::ck iU V.ps (H.all.map fun q=>fp q a true)::ck cN (V.us.map (·.1)) (H.az.map (·.aU))::ck cK (V.us.map (·.2)) (H.az.map (·.bj))::ck dB V.bs H.batch::L) w):
 St w0 (cW bh bd (dc (cY H a) u dt)::L) w:=by
 have h1:=IQ (L:=bD bh (.cells (eG bd {V with us:=V.us.set u (.slice none 0 0,.slice none 0 0)} H).toArray 133 (0,0))::jg V.nv H.names::cD Value.string V.mb (c7 V H)::ck iU V.ps (H.all.map fun q=>fp q a true)::ck dB V.bs H.batch::L) hV hu (h.all Y3);refine zW (V:={V with us:=V.us.set u (.slice none 0 0,.slice none 0 0)}) (H:=dc (cY H a) u dt) ⟨?_,by simp[hV.us],hV.bs,?_,by simp[dc,cY,hV.az],hV.batch,hV.bU,hV.aF⟩ (h1.all (M:=bD bh (.cells (eG bd {V with us:=V.us.set u (.slice none 0 0,.slice none 0 0)} H).toArray 133 (0,0))::jg V.nv H.names::cD Value.string V.mb (c7 V H)::ck iU V.ps (H.all.map fun q=>fp q a true)::ck cN ((V.us.set u (.slice none 0 0,.slice none 0 0)).map (·.1)) ((H.az.set u dt).map (·.aU))::ck cK ((V.us.set u (.slice none 0 0,.slice none 0 0)).map (·.2)) ((H.az.set u dt).map (·.bj))::ck dB V.bs H.batch::L) Y3) rfl rfl rfl ?_ rfl rfl ?_ rfl rfl rfl rfl rfl rfl
 ·simp[dc,cY,hV.ps]
 ·simp[dc,cY,hV.ways]
 ·unfold c7;exact sd _ _ _ (by simp[dc,cY])
 ·exact(tP H a).symm
theorem Ik(w0:World)(L:List HP)(bh bd n:Nat)(H:Ho)(u:Int)(hB:cE n H)(hn:n<90000)(hl:∀x∈H.az,x.aU.length+x.bj.length<=90000):
 KC prog 17 #[aZ bh,.int .i64 u] w0 (cW bh bd H::L) (fun v M=>v=cz 70 (wq H u)/\M=cW bh bd (uQ H u)::L):=by
 have tB:=hB.mV;have ends:∀k:Int,k≠0->wq H u=k->(cz 70 k=cz 70 (wq H u)/\cW bh bd H::L=cW bh bd (uQ H u)::L):=fun k hk he=>by
  have h0:¬wq H u=0:=by rw[he];exact hk
  unfold uQ;rw[if_neg h0,he];exact⟨rfl,rfl⟩
 refine KC.mk (n:=58) func17 rfl ntmps17 aj ?_;refine jX ?_;refine OS ?_;by_cases hu:u<0\/5<=u
 ·have he:wq H u=2:=by unfold wq;rw[if_pos hu]
  by_cases UC:u<0
  ·refine G9 ?_;refine qJ ?_;refine iH ?_;refine K.cA rfl Y63 ?_;refine vA ?_;refine KQ.a_ rfl rfl (fun w' aY=>⟨_,_,rfl,ends 2 ai he,aY⟩)
  ·refine BN ?_;refine iH ?_;refine K.cA rfl Oo ?_;refine vA ?_;refine KQ.a_ rfl rfl (fun w' aY=>⟨_,_,rfl,ends 2 ai he,aY⟩)
 refine BN ?_;refine iH ?_;refine K.cP rfl Oo ?_;refine oQ ?_;refine K.cg (fun _ h=>cb h) ?_;rintro⟨V,hV⟩;dsimp only;have Qa:u.toNat<5:=by omega
 have W_:u=((u.toNat:Nat):Int):=by omega
 have MT:=hV.us;have l9:=hV.az;have oO:=hV.ps;obtain⟨pv,Dr⟩:∃e,V.us[u.toNat]? =some e:=⟨_,ao ae⟩;obtain⟨x,A5⟩:∃e,H.az[u.toNat]? =some e:=⟨_,ao ae⟩;have qd:=hl x (ax A5);have Ky:H.iJ u.toNat=x:=by unfold Ho.iJ;rw[aq,A5];rfl
 obtain⟨c1,c2,-,-⟩:=ng (bd:=bd) hV Dr;refine K.fact (fun w hw=>aN (E:=142) (sz:=6) (cf:=AT) (v:=pv.1) (xs:=x.aU) (ew (f:=cN) (i:=u.toNat) (by rw[aH,Dr];rfl) (by rw[aH,A5];rfl) (hw.pick (A:=ck cN (V.us.map (·.1)) (H.az.map (·.aU))) aX))) ?_
 rintro⟨a1,k1,P_,-⟩;refine K.fact (fun w hw=>aN (E:=146) (sz:=2) (cf:=Bi) (v:=pv.2) (xs:=x.bj) (ew (f:=cK) (i:=u.toNat) (by rw[aH,Dr];rfl) (by rw[aH,A5];rfl) (hw.pick (A:=ck cK (V.us.map (·.2)) (H.az.map (·.bj))) aX))) ?_
 rintro⟨a2,k2,hv2,-⟩;rw[P_]at c1;rw[hv2]at c2;refine K.draw [.pure,.pure,.pure,.pure,.pure,.pure,.read,.pure,.pure,.pure,.pure,.pure,.pure,.pure,.read,.pure,.pure,.pure,.pure] [0,1,2,3,4,5,6,7,8,9,10,11,12,13,14,15,16,17,18] bm bm ?_;refine yw ?_;refine VZ ?_;refine Wf ?_;refine KO.di (i:=12+2*u.toNat) rfl rfl isAgg127 bE R0 c1 rfl ?_;refine KO.len rfl underlying127 rfl ?_;refine yw ?_;refine VZ ?_;refine Wd ?_;refine KO.di (i:=13+2*u.toNat) rfl rfl isAgg128 bE R0 c2 rfl ?_;refine KO.len rfl underlying128 rfl ?_;refine uS ?_;refine IC ?_;refine iH ?_;refine K.bI rfl (fun h3=>?_) (fun h3=>?_)
 ·have he:wq H u=8:=by unfold wq;rw[if_neg hu,Ky,if_pos ae]
  refine vA ?_;refine KQ.a_ rfl rfl (fun w' aY=>⟨_,_,rfl,ends 8 ai he,bK V hV (aY.all Ov)⟩)
 refine oQ ?_;cases ph:H.down with
 |true=>
  have he:wq H u=6:=by unfold wq;rw[if_neg hu,Ky,if_neg ae,if_pos ph]
  refine Er ?_;refine iH ?_;refine K.cA rfl ph ?_;refine vA ?_;refine KQ.a_ rfl rfl (fun w' aY=>⟨_,_,rfl,ends 6 ai he,bK V hV (aY.all Ov)⟩)
 |false=>
 have he:wq H u=0:=by unfold wq;rw[if_neg hu,Ky,if_neg ae,if_neg (by simp[ph])]
 refine Er ?_;refine iH ?_;refine K.cP rfl ph ?_;refine VY ?_;refine Z7 ?_;refine KO.cl (cp:=[]) rfl rfl rfl call63 rfl (Tg w0 L bh bd V H hV ae) ?_;rintro va L' ⟨js,Gc,rfl⟩;refine KO.fact (fun w hw=>aN (E:=119) (sz:=1) (cf:=AV) (hw.pick .head)) ?_;rintro⟨ad,cap,rfl,had⟩;refine KO.len rfl underlying152 rfl ?_;refine lf ?_;have Xj:js.length=V.ps.length:=by have :=Gc.length_eq;simpa using this
 refine K.loop (fun k:Nat=>[(0,aZ bh),(1,.int .i64 u),(42,.slice ad (js.map fun j=>V.ps.getD j 0).length cap),(43,.int .i64 ((js.map fun j=>V.ps.getD j 0).length:Nat)),(44,.int .i64 (k:Nat))])
  (fun k=>HY (.slice ad (js.map fun j=>V.ps.getD j 0).length cap) (js.map fun j=>V.ps.getD j 0)::ck iU V.ps (jB u H.all (js.take k))::bD bh (.cells (eG bd V H).toArray 133 (0,0))::jg V.nv H.names::cD Value.string V.mb (c7 V H)::ck cN (V.us.map (·.1)) (H.az.map (·.aU))::ck cK (V.us.map (·.2)) (H.az.map (·.bj))::ck dB V.bs H.batch::L)
  (fun k=>k<=js.length) (fun k=>js.length-k) 0 (aR _) ⟨rfl,rfl,rfl,rfl,rfl,trivial⟩ (fun _ h=>h.all Y7) ?_
 rintro k hk;refine gZ ?_;refine K.bI rfl (fun h8=>?_) (fun h8=>?_)
 ·rw[aV]at h8;obtain⟨j,hj⟩:∃e,js[k]? =some e:=⟨js[k],ao ae⟩;have hjr:j<V.ps.length:=by have :=Gc.mem_iff.1 (ax hj);simpa using this
  obtain⟨p,hp⟩:∃e,V.ps[j]? =some e:=⟨_,ao hjr⟩;have hpj:(js.map fun j=>V.ps.getD j 0)[k]? =some p:=by rw[aH,hj,Option.map_some,aq,hp];rfl
  obtain⟨g,rfl⟩:=had lY;have hal:=ox hV.ways;have hle:=tT u (js.take k) H.all;have hq:(jB u H.all (js.take k))[j]? =some ((jB u H.all (js.take k)).getD j default):=by rw[aq,ao ae];rfl
  have YT:=x6 u (js.take k) H.all hB.qs _ (ax hq);have SK:=YT.len;have xF:=x5 (u:=u) (l:=H.all) hj;generalize jB u H.all (js.take k)=lk at hq SK xF;generalize lk.getD j default=q at hq SK xF;refine pE ?_;refine aa_ ?_;refine iH ?_;refine iw ?_;refine KO.cl (cp:=[]) rfl rfl rfl call64 rfl (KC.ri (φ:=fun v=>v=.tuple #[]) hp hq aX (fun L=>Ny w0 L p q u true ae)) ?_;rintro v' L' ⟨rfl,rfl⟩;refine um ?_;refine KQ.round (k+1) ae ae ⟨rfl,rfl,rfl,rfl,rfl,trivial⟩ (fun _ h=>?_);rw[xF];exact h.all Y3
 ·have oX:k=js.length:=by rw[aV]at h8;omega
  subst oX;rw[List.take_length,Al u (by rw[ox hV.ways,<-oO];exact Gc)];refine wx ?_;refine aa2 ?_;refine lb ?_;refine VZ ?_;refine KO.Sf (b:=bh) (off:=12+2*u.toNat) (us:=[.slice none 0 0,.slice none 0 0]) rfl rfl R0 rfl aL (by exact sizeOf130) aL aX (by rw[pW hV];simp;omega) (Dx hV Qa) ?_;refine jf ?_;refine KQ.a_ rfl rfl (fun w' aY=>⟨_,_,rfl,⟨by rw[he];rfl,rfl⟩,?_⟩);have e1:uQ H u=dc (cY H u) u.toNat dt:=by unfold uQ;rw[if_pos he]
  rw[e1];exact zV hV u Qa (aY.all Y1)
theorem Qi{w0 w:World}{L R:List HP}{bh bd:Nat}{V:rM}{H:Ho}(hV:iY V H){u:Nat}{p:Value×Value}(hp:V.us[u]? =some p)(hk:bC L (bD bh (.cells (eG bd V H).toArray 133 (0,0))) R)(hw:St w0 L w){ad:Addr}(ha:ad=⟨bh,12+2*u,none⟩):cU w ad [p.1,p.2]:=by
 obtain⟨c1,c2,-,-⟩:=ng (bd:=bd) hV hp;subst ha;intro j c hj;rw[Addr.add_lit,World.cell?,(hw.lK hk).2]
 match j with
 |0=>simp at hj;subst hj;simpa using c1
 |1=>simp at hj;subst hj;rw[show 12+2*u+1=13+2*u by omega];simpa using c2
 |j+2=>simp at hj
theorem z8(w0:World)(L:List HP)(bh bd n:Nat)(H:Ho)(D:Dk)(u:Int)(hT:nI w0)(hM:oB w0)(hB:cE n H)(hn:n+700<=90000)(hl:∀x∈H.az,ga x)(h3:D.places.length=300)(hd: -4000000000000000000<=D.left/\D.left<=9223372036854775807):
 KC prog 16 #[aZ bh,.int .i64 u] w0 (cW bh bd H::fa bd D::L) (fun v M=>v=cz 70 (vq H D u)/\M=cW bh bd (p5 H D u)::fa bd (t_ H D u)::L):=by
 have tB:=hB.mV;have ady:=hB.used;have ends:∀k:Int,k≠0->kC H u=k->(cz 70 k=cz 70 (vq H D u)/\cW bh bd H::fa bd D::L=cW bh bd (p5 H D u)::fa bd (t_ H D u)::L):=fun k hk he=>by
  have h0:kC H u≠0:=by rw[he];exact hk
  unfold vq p5 t_;rw[if_pos h0,if_pos h0,if_pos h0,he];exact⟨rfl,rfl⟩
 refine KC.mk (n:=113) func16 rfl ntmps16 aj ?_;refine y6 ?_;by_cases hu:u<0\/5<=u
 ·have he:kC H u=2:=by unfold kC;rw[if_pos hu]
  by_cases UC:u<0
  ·refine G9 ?_;refine N6 ?_;refine qk ?_;refine KQ.a_ rfl rfl (fun w' aY=>⟨_,_,rfl,ends 2 ai he,aY⟩)
  ·refine BN ?_;refine Z5 ?_;refine K.cA rfl Oo ?_;refine qk ?_;refine KQ.a_ rfl rfl (fun w' aY=>⟨_,_,rfl,ends 2 ai he,aY⟩)
 refine BN ?_;refine Z5 ?_;refine K.cP rfl Oo ?_;refine Z6 ?_;refine K.cg (fun _ h=>cb h) ?_;rintro⟨V,hV⟩;dsimp only;have Qa:u.toNat<5:=by omega
 have W_:u=((u.toNat:Nat):Int):=by omega
 have MT:=hV.us;have l9:=hV.az;have oO:=hV.ps;obtain⟨⟨v1,v2⟩,Dr⟩:∃e,V.us[u.toNat]? =some e:=⟨_,ao ae⟩;obtain⟨x,A5⟩:∃e,H.az[u.toNat]? =some e:=⟨_,ao ae⟩;have SH:=hl x (ax A5);have M5:=SH.many;have Ky:H.iJ u.toNat=x:=by unfold Ho.iJ;rw[aq,A5];rfl
 have g1:(V.us.map (·.1))[u.toNat]? =some v1:=by rw[aH,Dr];rfl
 have g2:(V.us.map (·.2))[u.toNat]? =some v2:=by rw[aH,Dr];rfl
 have g3:(H.az.map (·.aU))[u.toNat]? =some x.aU:=by rw[aH,A5];rfl
 have g4:(H.az.map (·.bj))[u.toNat]? =some x.bj:=by rw[aH,A5];rfl
 refine K.fact (fun w hw=>aN (E:=142) (sz:=6) (cf:=AT) (v:=v1) (xs:=x.aU) (ew (f:=cN) g1 g3 (hw.pick (A:=ck cN (V.us.map (·.1)) (H.az.map (·.aU))) aX))) ?_
 rintro⟨a1,k1,rfl,aeu⟩;refine K.fact (fun w hw=>aN (E:=146) (sz:=2) (cf:=Bi) (v:=v2) (xs:=x.bj) (ew (f:=cK) g2 g4 (hw.pick (A:=ck cK (V.us.map (·.2)) (H.az.map (·.bj))) aX))) ?_
 rintro⟨a2,k2,rfl,aet⟩;refine vC ?_;refine VZ ?_;refine KO.Uq (cs:=#[.slice a1 x.aU.length k1,.slice a2 x.bj.length k2]) rfl rfl isAgg130 sizeOf130 rfl (fun w hw=>Qi hV Dr (L:=yL bh bd V H (fa bd D::L)) .head hw R0) rfl ?_;refine KO.alloc rfl zeroValue130 aL rfl ?_;intro b5;refine KO.lC rfl rfl rfl aL (by exact sizeOf130) aL bE aL ?_;refine E9 ?_;refine KO.ij (off:=0) rfl runUnderlying130 rfl rfl sizeOf127 rfl ?_;refine KO.ld rfl rfl isAgg127 bE aL rfl ?_;refine KO.len rfl underlying127 rfl ?_;refine KO.ij (off:=1) rfl runUnderlying130 rfl rfl sizeOf128 rfl ?_;refine KO.ld rfl rfl isAgg128 bE aL rfl ?_;refine KO.len rfl underlying128 rfl ?_;refine uS ?_;refine sI ?_;refine K.bI rfl (fun h4=>?_) (fun h4=>?_)
 ·have he:kC H u=8:=by unfold kC;rw[if_neg hu,Ky,if_pos ae]
  refine qk ?_;refine KQ.a_ rfl rfl (fun w' aY=>⟨_,cW bh bd H::fa bd D::L,rfl,?_,?_⟩)
  ·exact ends 8 ai he
  ·exact bK V hV (aY.all Y1)
 have he:kC H u=0:=by unfold kC;rw[if_neg hu,Ky,if_neg ae]
 have Zt:vq H D u=ep H D:=by unfold vq;rw[if_neg (by rw[he];decide)]
 have Zu:t_ H D u=ig H D (oK x):=by unfold t_;rw[if_neg (by rw[he];decide),Ky]
 have Qt:p5 H D u=if ep H D≠0 then dY H D else(fq (dc (cY (dY H D) u) u.toNat dt) (o4 x)).1:=by unfold p5;rw[if_neg (by rw[he];decide),Ky]
 refine oR ?_;refine jH ?_;refine K.conv (L':=SL 142 6 AT (.slice a1 x.aU.length k1) x.aU::SL 146 2 Bi (.slice a2 x.bj.length k2) x.bj::bD b5 (.cells [Value.slice a1 x.aU.length k1,.slice a2 x.bj.length k2].toArray 130 (0,0))::bD bh (.cells (eG bd V H).toArray 133 (0,0))::jg V.nv H.names::cD Value.string V.mb (c7 V H)::ck iU V.ps H.all::ck cN ((V.us.map (·.1)).eraseIdx u.toNat) ((H.az.map (·.aU)).eraseIdx u.toNat)::ck cK ((V.us.map (·.2)).eraseIdx u.toNat) ((H.az.map (·.bj)).eraseIdx u.toNat)::ck dB V.bs H.batch::fa bd D::L) (fun w hw=>?_) ?_
 ·have h1:=ew (f:=cN) g1 g3 (hw.pick (A:=ck cN (V.us.map (·.1)) (H.az.map (·.aU))) aX)
  have h2:=ew (f:=cK) g2 g4 (h1.pick (A:=ck cK (V.us.map (·.2)) (H.az.map (·.bj))) aX)
  exact h2.all Y7
 refine dC ?_;refine KO.ij (off:=1) rfl runUnderlying130 rfl rfl sizeOf128 rfl ?_;refine KO.ld rfl rfl isAgg128 aX aL rfl ?_;refine KO.len rfl underlying128 rfl ?_;refine lf ?_;refine K.loop (fun p:Nat×Value=>[(0,aZ bh),(1,.int .i64 u),(5,.pointer (some ⟨b5,0,none⟩)),(6,p.2),(40,.slice a2 x.bj.length k2),(41,.int .i64 (x.bj.length:Nat)),(42,.int .i64 (p.1:Nat))])
  (fun p=>iR p.2 ((x.bj.take p.1).map gX)::SL 142 6 AT (.slice a1 x.aU.length k1) x.aU::SL 146 2 Bi (.slice a2 x.bj.length k2) x.bj::bD b5 (.cells [Value.slice a1 x.aU.length k1,.slice a2 x.bj.length k2].toArray 130 (0,0))::bD bh (.cells (eG bd V H).toArray 133 (0,0))::jg V.nv H.names::cD Value.string V.mb (c7 V H)::ck iU V.ps H.all::ck cN ((V.us.map (·.1)).eraseIdx u.toNat) ((H.az.map (·.aU)).eraseIdx u.toNat)::ck cK ((V.us.map (·.2)).eraseIdx u.toNat) ((H.az.map (·.bj)).eraseIdx u.toNat)::ck dB V.bs H.batch::fa bd D::L) (fun p=>p.1<=x.bj.length) (fun p=>x.bj.length-p.1) (0,.slice none 0 0)
  (aR _) ⟨rfl,rfl,rfl,rfl,rfl,rfl,rfl,trivial⟩ (fun _ h=>?_) ?_
 ·have h1:=cL (E:=9) (sz:=1) (cf:=fI) h;exact h1
 rintro⟨k,v6⟩ hk;dsimp only at hk ⊢;refine gZ ?_;refine K.bI rfl (fun h8=>?_) (fun h8=>?_)
 ·obtain⟨g,hg⟩:∃e,x.bj[k]? =some e:=⟨x.bj[k],ao ae⟩;obtain⟨ag,rfl⟩:=aet ae;have Xm:=SH.bj g (ax hg);obtain⟨gi,gq⟩:=g;dsimp only at Xm;have hq8:=(iO Xm.2.2).2;have hi:=bJ (n:=gi) ⟨by omega,by omega⟩;have z2:(⟨#[32]⟩:ak).size=1:=rfl;have z3:(bH gi++⟨#[32]⟩:ak).size<=22:=by simp only[aB];omega
  refine pE ?_;refine KO.eN rfl rfl runUnderlying128 sizeOf146 aL ae rfl ?_;refine KO.yU rfl rfl isAgg146 sizeOf146 aX (fun _=>rfl) uT rfl ?_;refine KO.alloc rfl zeroValue146 aL rfl ?_;intro b8;refine KO.lC rfl rfl rfl aL (by exact sizeOf146) aL bE aL ?_;refine Z5 ?_;refine K.draw [.pure,.pure,.read,.cx,.pure,.pure,.read,.pure,.cx,.write,.pure] [0,1,2,5,6,3,4,7,8,9,10] bm bm ?_;refine Z1 ?_;refine KO.ij (off:=0) rfl runUnderlying146 rfl rfl sizeOf3 rfl ?_;refine KO.ld (v:=.int .i64 gi) rfl rfl isAgg3 bE aL rfl ?_;refine KO.ij (off:=1) rfl runUnderlying146 rfl rfl sizeOf9 rfl ?_;refine KO.ld (v:=.string gq) rfl rfl isAgg9 bE aL rfl ?_;refine KO.ce (cp:=[]) rfl rfl rfl call59 rfl (fF w0 _ gi hT ⟨by omega,by omega⟩) ?_;rintro v' L' ⟨rfl,rfl⟩;refine nG ?_;refine nG ?_;refine KO.iN (z:=(Value.string ⟨#[]⟩)) (sz:=1) (cV:=16) rfl rfl underlying115 bm aL aL ai ai rfl ?_;intro b54;refine KO.app (cf:=fI) (z:=Value.string ⟨#[]⟩) (sz:=1) (cV:=16) (xs:=(x.bj.take k).map gX) rfl rfl rfl (.tail (.tail .head)) .head underlying115 kg rfl (gX (gi,gq)) rfl rfl rfl fV ai rfl ?_;intro v9;refine rz ?_;refine KQ.round (k+1,v9) ji ji ⟨rfl,rfl,rfl,rfl,rfl,rfl,rfl,trivial⟩ (fun _ h=>?_);dsimp only
  rw[bA hg,bu];exact h.all Y5
 have oX:k=x.bj.length:=by omega
 subst oX;rw[List.take_length];refine wx ?_;refine dC ?_;refine qm ?_;refine KO.ij (off:=0) rfl runUnderlying130 rfl rfl sizeOf127 rfl ?_;refine KO.ld rfl rfl isAgg127 aX aL rfl ?_;refine KO.len rfl underlying127 rfl ?_;refine lf ?_;refine K.loop (fun p:Nat×Value=>[(0,aZ bh),(1,.int .i64 u),(6,v6),(9,p.2),(58,.slice a1 x.aU.length k1),(59,.int .i64 (x.aU.length:Nat)),(60,.int .i64 (p.1:Nat))])
  (fun p=>SL 44 5 dN p.2 ((x.aU.take p.1).map (·.1))::iR v6 (x.bj.map gX)::SL 142 6 AT (.slice a1 x.aU.length k1) x.aU::SL 146 2 Bi (.slice a2 x.bj.length k2) x.bj::bD bh (.cells (eG bd V H).toArray 133 (0,0))::jg V.nv H.names::cD Value.string V.mb (c7 V H)::ck iU V.ps H.all::ck cN ((V.us.map (·.1)).eraseIdx u.toNat) ((H.az.map (·.aU)).eraseIdx u.toNat)::ck cK ((V.us.map (·.2)).eraseIdx u.toNat) ((H.az.map (·.bj)).eraseIdx u.toNat)::ck dB V.bs H.batch::fa bd D::L) (fun p=>p.1<=x.aU.length) (fun p=>x.aU.length-p.1) (0,.slice none 0 0)
  (aR _) ⟨rfl,rfl,rfl,rfl,rfl,rfl,rfl,trivial⟩ (fun _ h=>?_) ?_
 ·have h1:=cL (E:=44) (sz:=5) (cf:=dN) h;exact h1.all Y5
 rintro⟨k,v9⟩ hk;dsimp only at hk ⊢;refine gZ ?_;refine K.bI rfl (fun Xu=>?_) (fun Xu=>?_)
 ·obtain⟨g,hg⟩:∃e,x.aU[k]? =some e:=⟨x.aU[k],ao ae⟩;obtain⟨ag,rfl⟩:=aeu ae;obtain⟨⟨mi,mp,mb,mq,mh⟩,pt⟩:=g;refine pE ?_;refine KO.eN rfl rfl runUnderlying127 sizeOf142 aL ae rfl ?_;refine KO.yU rfl rfl isAgg142 sizeOf142 aX (fun _=>rfl) uT rfl ?_;refine KO.alloc rfl zeroValue142 aL rfl ?_;intro Rl;refine KO.lC rfl rfl rfl aL (by exact sizeOf142) aL bE aL ?_;refine Z5 ?_;refine Z7 ?_;refine KO.ij (off:=0) rfl runUnderlying142 rfl rfl sizeOf44 rfl ?_
  (refine KO.Ur rfl rfl isAgg44 sizeOf44 bE Y9 aL rfl ?_)
  refine KO.iN (z:=(Value.agg #[.int .i64 0,.int .i64 0,.string ⟨#[]⟩,.string ⟨#[]⟩,.int .i64 0])) (sz:=5) (cV:=56) rfl rfl underlying49 bm aL aL ai ai rfl ?_;intro b67;refine KO.app (cf:=dN) (z:=Value.agg #[.int .i64 0,.int .i64 0,.string ⟨#[]⟩,.string ⟨#[]⟩,.int .i64 0]) (sz:=5) (cV:=56) (xs:=(x.aU.take k).map (·.1)) rfl rfl rfl (.tail (.tail .head)) .head underlying49 bm aL (⟨mi,mp,mb,mq,mh⟩:Ms) rfl rfl rfl fV ai rfl ?_;intro v9'
  refine rz ?_;refine KQ.round (k+1,v9') ji ji ⟨rfl,rfl,rfl,rfl,rfl,rfl,rfl,trivial⟩ (fun _ h=>?_);dsimp only;rw[bA hg,bu];exact h.all Y5
 have oX:k=x.aU.length:=by omega
 subst oX;rw[List.take_length];refine K.conv (L':=SL 44 5 dN v9 (x.aU.map (·.1))::iR v6 (x.bj.map gX)::cW bh bd H::fa bd D::L) (fun w hw=>?_) ?_
 ·have h1:=kz (f:=cN) g1 g3 (hw.all (M:=cN (.slice a1 x.aU.length k1) x.aU::ck cN ((V.us.map (·.1)).eraseIdx u.toNat) ((H.az.map (·.aU)).eraseIdx u.toNat)::cK (.slice a2 x.bj.length k2) x.bj::ck cK ((V.us.map (·.2)).eraseIdx u.toNat) ((H.az.map (·.bj)).eraseIdx u.toNat)::SL 44 5 dN v9 (x.aU.map (·.1))::iR v6 (x.bj.map gX)::bD bh (.cells (eG bd V H).toArray 133 (0,0))::jg V.nv H.names::cD Value.string V.mb (c7 V H)::ck iU V.ps H.all::ck dB V.bs H.batch::fa bd D::L) Y7)
  have h2:=kz (f:=cK) g2 g4 (h1.all (M:=cK (.slice a2 x.bj.length k2) x.bj::ck cK ((V.us.map (·.2)).eraseIdx u.toNat) ((H.az.map (·.bj)).eraseIdx u.toNat)::SL 44 5 dN v9 (x.aU.map (·.1))::iR v6 (x.bj.map gX)::bD bh (.cells (eG bd V H).toArray 133 (0,0))::jg V.nv H.names::cD Value.string V.mb (c7 V H)::ck iU V.ps H.all::ck cN (V.us.map (·.1)) (H.az.map (·.aU))::ck dB V.bs H.batch::fa bd D::L) Y7)
  exact(bK V hV (h2.all (M:=yL bh bd V H (SL 44 5 dN v9 (x.aU.map (·.1))::iR v6 (x.bj.map gX)::fa bd D::L)) Y7)).all Y3
 refine wx ?_;have fg:=SH.bad;have UM:∀m∈x.aU.map (·.1),m.body.size<=maxLen/\m.queue.size<=maxLen:=fun m hm=>lE (dm fg m hm)
 have hgs:=SH.ZQ;have hpz:=SH.Yp;have hrb:=SH.size;refine Z7 ?_;refine KO.ce (cp:=[]) rfl rfl rfl call60 rfl (jv w0 _ v9 (x.aU.map (·.1)) (fun w hw=>oS.tf (E:=44) (fun _=>rfl) .head hw) hT UM fV) ?_;rintro v' L' hR;unfold K8 at hR;rw[fg]at hR;obtain⟨rfl,rfl⟩:=hR
 refine jY ?_;refine qo ?_;refine yr ?_;have z1:(⟨#[117,58]⟩:ak).size=2:=rfl;have z2:(⟨#[47]⟩:ak).size=1:=rfl;have z3:(⟨#[117,58]⟩++bL (x.aU.map (·.1)):ak).size<=70702:=by simp only[aB];omega
 have z4:(⟨#[117,58]⟩++bL (x.aU.map (·.1))++⟨#[47]⟩:ak).size<=70703:=by simp only[aB];omega
 have z5:(bL (x.aU.map (·.1))++⟨#[47]⟩:ak).size<=70701:=by simp only[aB];omega
 have hrU:(oK x).size<=80000:=SH.Yl.size;refine iw ?_;refine nG ?_;refine nG ?_;refine Z1 ?_;refine KO.ce (cp:=[]) rfl rfl rfl call62 rfl (ra w0 _ _ v6 (x.bj.map gX) plus aX fV ae) ?_;rintro v' L' ⟨rfl,rfl⟩;refine nG ?_;refine KO.cl (cp:=[]) rfl rfl rfl call61 rfl (KC.OI aX aX (Mw w0 _ bh bd H D (oK x) hT h3 hd ae ady)) ?_;rintro v' L' ⟨rfl,rfl⟩;refine vE ?_;refine K.bI rfl (fun h22=>?_) (fun h22=>?_)
 ·rw[if_pos h22]at Qt;refine Ew ?_;refine KQ.a_ rfl rfl (fun w' aY=>⟨_,_,rfl,⟨by rw[Zt],rfl⟩,?_⟩);rw[Qt,Zu];exact aY.all Y5
 rw[if_neg h22]at Qt;have aeM:ep H D=0:=by simpa using h22
 have kK:cE n (dY H D):=hB.log;have YU:=kK.mV;generalize QC:dY H D=H1 at *;refine Z6 ?_;refine K.cg (fun _ h=>cb (h.pick bE)) ?_;rintro⟨V1,Gj⟩;dsimp only;have adN:=Gj.ps;refine Z7 ?_;refine KO.cl (cp:=[]) rfl rfl rfl call63 rfl (Tg w0 _ bh bd V1 H1 Gj ae) ?_;rintro va L' ⟨js,Gc,rfl⟩;refine KO.fact (fun w hw=>aN (E:=119) (sz:=1) (cf:=AV) (hw.pick .head)) ?_;rintro⟨ad,cap,rfl,had⟩;refine KO.len rfl underlying152 rfl ?_;refine lf ?_;have Xj:js.length=V1.ps.length:=by have :=Gc.length_eq;simpa using this
 refine K.loop (fun k:Nat=>[(0,aZ bh),(1,.int .i64 u),(6,v6),(12,.string (bL (x.aU.map (·.1)))),(90,.slice ad (js.map fun j=>V1.ps.getD j 0).length cap),(91,.int .i64 ((js.map fun j=>V1.ps.getD j 0).length:Nat)),(92,.int .i64 (k:Nat))])
  (fun k=>HY (.slice ad (js.map fun j=>V1.ps.getD j 0).length cap) (js.map fun j=>V1.ps.getD j 0)::ck iU V1.ps (jB u H1.all (js.take k))::bD bh (.cells (eG bd V1 H1).toArray 133 (0,0))::jg V1.nv H1.names::cD Value.string V1.mb (c7 V1 H1)::ck cN (V1.us.map (·.1)) (H1.az.map (·.aU))::ck cK (V1.us.map (·.2)) (H1.az.map (·.bj))::ck dB V1.bs H1.batch::iR v6 (x.bj.map gX)::fa bd (ig H D (oK x))::L)
  (fun k=>k<=js.length) (fun k=>js.length-k) 0 (aR _) ⟨rfl,rfl,rfl,rfl,rfl,rfl,rfl,trivial⟩ (fun _ h=>h.all Y5) ?_
 rintro k hk;refine gZ ?_;refine K.bI rfl (fun h8=>?_) (fun h8=>?_)
 ·rw[aV]at h8;obtain⟨j,hj⟩:∃e,js[k]? =some e:=⟨js[k],ao ae⟩;have hjr:j<V1.ps.length:=by have :=Gc.mem_iff.1 (ax hj);simpa using this
  obtain⟨p,hp⟩:∃e,V1.ps[j]? =some e:=⟨_,ao hjr⟩;have hpj:(js.map fun j=>V1.ps.getD j 0)[k]? =some p:=by rw[aH,hj,Option.map_some,aq,hp];rfl
  obtain⟨g,rfl⟩:=had lY;have hal:=ox Gj.ways;have hle:=tT u (js.take k) H1.all;have hq:(jB u H1.all (js.take k))[j]? =some ((jB u H1.all (js.take k)).getD j default):=by rw[aq,ao ae];rfl
  have YT:=x6 u (js.take k) H1.all kK.qs _ (ax hq);have SK:=YT.len;have xF:=x5 (u:=u) (l:=H1.all) hj;generalize jB u H1.all (js.take k)=lk at hq SK xF;generalize lk.getD j default=q at hq SK xF;refine pE ?_;refine aa_ ?_;refine iH ?_;refine iw ?_;refine KO.cl (cp:=[]) rfl rfl rfl call64 rfl (KC.ri (φ:=fun v=>v=.tuple #[]) hp hq aX (fun L=>Ny w0 L p q u true ae)) ?_;rintro v' L' ⟨rfl,rfl⟩;refine um ?_;refine KQ.round (k+1) ae ae ⟨rfl,rfl,rfl,rfl,rfl,rfl,rfl,trivial⟩ (fun _ h=>?_);rw[xF];exact h.all Y3
 have oX:k=js.length:=by rw[aV]at h8;omega
 subst oX;rw[List.take_length,Al u (by rw[ox Gj.ways,<-adN];exact Gc)];refine wx ?_;refine aa2 ?_;refine lb ?_;refine VZ ?_;refine KO.Sf (b:=bh) (off:=12+2*u.toNat) (us:=[.slice none 0 0,.slice none 0 0]) rfl rfl R0 rfl aL (by exact sizeOf130) aL aX (by rw[pW Gj];simp;omega) (Dx Gj Qa) ?_;refine Z0 ?_;refine K.conv (L':=cW bh bd (dc (cY H1 u) u.toNat dt)::iR v6 (x.bj.map gX)::fa bd (ig H D (oK x))::L) (fun w hw=>zV Gj u Qa (hw.all Y1)) ?_
 have Gr:cE n (dc (cY H1 u) u.toNat dt):=(kK.cY u).dc _ _;have YS:∀l,qZ (cQ 47 (o4 x)).1=some l->n+l.length<=90000:=fun l JE=>by
  rw[SH.read]at JE;simp only[ay]at JE;subst JE;simp;omega
 refine iw ?_;refine nG ?_;refine Z1 ?_;refine KO.ce (cp:=[]) rfl rfl rfl call62 rfl (ra w0 _ _ v6 (x.bj.map gX) plus aX fV ae) ?_;rintro v' L' ⟨rfl,rfl⟩;refine nG ?_;refine KO.cl (cp:=[]) rfl rfl rfl call65 rfl (KC.qR bE (Ij w0 _ bh bd n (dc (cY H1 u) u.toNat dt) (o4 x) hT hM ae Gr YS ae)) ?_;rintro v' L' ⟨rfl,rfl⟩;refine jf ?_;refine KQ.a_ rfl rfl (fun w' aY=>⟨_,_,rfl,⟨by rw[Zt,aeM];rfl,rfl⟩,?_⟩);rw[Qt,Zu];exact aY.all Y5
def nR:List Value:=List.replicate 14 (.slice none 0 0)++List.replicate 8 (.int .i64 0)
def nC (id:Int) (bd mb:Nat) (ps:List Nat):List Value:=
 [.int .i64 id,aZ bd,.int .i64 0,.bool false,.int .i64 (-1),.int .i64 0,.slice none 0 0,.map (some mb)]++(ps.map aZ++(List.replicate (4-ps.length) (.pointer none)++nR))
theorem Mn{id:Int}{bd mb:Nat}{ps:List Nat}(p:Nat)(h:ps.length<4):(nC id bd mb ps).set (8+ps.length) (aZ p)=nC id bd mb (ps++[p])/\(nC id bd mb ps).length=34:=by
 match ps,h with
 |[],_=>exact⟨rfl,rfl⟩
 |[a],_=>exact⟨rfl,rfl⟩
 |[a,b],_=>exact⟨rfl,rfl⟩
 |[a,b,c],_=>exact⟨rfl,rfl⟩
theorem Qh{w0 w:World}{L:List HP}{id:Int}{bh bd mb p0:Nat}{ps:List Nat}(h4:ps.length=4)(h:St w0 (bD bh (.cells (nC id bd mb ps).toArray 133 (0,0))::ck iU ps (List.replicate 4 ⟨[],0⟩)::iU p0 ⟨[],0⟩::cD Value.string mb [(c_,aZ p0)]::L) w):St w0 (cW bh bd (eo id)::L) w:=by
 have h1:=xU (f:=iU) (ps:=ps) (xs:=List.replicate 4 ⟨[],0⟩) (p:=p0) (x:=⟨[],0⟩) (by simpa using h4) (h.all (M:=iU p0 ⟨[],0⟩::ck iU ps (List.replicate 4 ⟨[],0⟩)::bD bh (.cells (nC id bd mb ps).toArray 133 (0,0))::cD Value.string mb [(c_,aZ p0)]::L) Y3);have h2:=xW (f:=cN) (p:=.slice none 0 0) (x:=[]) (fun L h=>cL (E:=142) (sz:=6) (cf:=AT) h) 5 h1;have h3:=xW (f:=cK) (p:=.slice none 0 0) (x:=[]) (fun L h=>cL (E:=146) (sz:=2) (cf:=Bi) h) 5 h2;have h5:=xW (f:=dB) (p:=.slice none 0 0) (x:=[]) (fun L h=>Hx h) 4 h3;have h6:=cL (E:=75) (sz:=3) (cf:=Nm.cells) h5;refine bK ⟨.slice none 0 0,mb,ps++[p0],List.replicate 5 (.slice none 0 0,.slice none 0 0),List.replicate 4 (.slice none 0 0)⟩ ⟨by simp[eo,h4],rfl,rfl,rfl,rfl,rfl,rfl,rfl⟩ ?_
 match ps,h4 with
 |[a,b,c,d],_=>exact h6.all Y7
theorem A_(w0:World)(L:List HP)(bd:Nat)(id:Int)(D:Dk)(hT:nI w0)(hM:oB w0)(hid:0<=id/\id<4)(hD:Hn D):
 KC prog 11 #[.int .i64 id,aZ bd] w0 (fa bd D::L) (fun u M=> ∃bh,u=.tuple #[aZ bh,.nilIface]/\M=cW bh bd (gy id D)::fa bd D::L):=by
 have hlen:=hD.len;refine KC.mk (n:=79) func11 rfl ntmps11 aj ?_;refine jX ?_;refine Z8 ?_;refine OS ?_;refine BN ?_;refine iH ?_;refine K.cP rfl Oo ?_;refine gU ?_;refine KO.JV rfl underlying25 rfl ?_;refine Z8 ?_;refine BB ?_;refine VY ?_;refine iw ?_;refine KO.mkm (Value.string) rfl rfl ?_;intro Xx;refine Wm ?_;refine KO.box rfl rfl aL rfl ?_;intro VR;refine KO.ins fj c_ rfl rfl rfl rfl underlying123 underlying9 aX ?_;refine Z1 ?_;refine KO.sE (pl:=[(0,1),(1,1),(2,1),(3,1),(4,1),(5,1),(6,1),(7,1),(8,4),(12,10),(22,4),(26,4),(30,4)]) rfl zeroValue133 runUnderlying133 (by intro w;simp[sizeOf3,sizeOf4,sizeOf25,sizeOf94,sizeOf95,sizeOf123,sizeOf125,sizeOf126,sizeOf131]) aL rfl ?_;refine KO.box rfl rfl aL rfl ?_;intro IB;refine kQ ?_;refine Tn ?_;refine K.loop (fun k:List Nat=>[(1,aZ bd),(6,aZ IB),(30,.int .i64 (k.length:Nat))])
  (fun k=>bD IB (.cells (nC id bd Xx k).toArray 133 (0,0))::ck iU k (List.replicate k.length ⟨[],0⟩)::iU VR ⟨[],0⟩::cD Value.string Xx [(c_,aZ VR)]::fa bd D::L) (fun k=>k.length<=4) (fun k=>4-k.length) []
  aj ⟨rfl,rfl,rfl,trivial⟩ (fun w h=>?_) ?_
 ·have h1:=cL (E:=243) (sz:=8) (cf:=lZ) h;have h2:St w0 (iU VR ⟨[],0⟩::bD IB (.cells (nC id bd Xx []).toArray 133 (0,0))::cD Value.string Xx [(c_,aZ VR)]::fa bd D::L) w:=jR (h1.all Y7);exact(QN (f:=iU) h2).all Y7
 rintro ps hk;refine gZ ?_;refine K.bI rfl (fun h7=>?_) (fun h7=>?_)
 ·have tG:ps.length<4:=by omega
  refine EE ?_;refine iH ?_;refine iw ?_;refine Wm ?_;refine KO.box rfl rfl aL rfl ?_;intro VQ;refine On ?_;refine KO.mC (i:=ps.length) rfl rfl runUnderlying126 sizeOf119 rfl ae rfl ?_;refine KO.iA (b:=IB) (i:=8+ps.length) rfl rfl rfl aL (by exact sizeOf119) rfl aX wz (by rw[(Mn 0 tG).2];omega) ?_;rw[show Value.pointer (some ⟨VQ,0,none⟩)=aZ VQ from rfl,(Mn VQ tG).1];refine um ?_;refine KQ.round (ps++[VQ]) fV fV ⟨rfl,rfl,by simp[cF],trivial⟩ (fun w h=>?_);have h1:=cL (E:=243) (sz:=8) (cf:=lZ) h;have h2:St w0 (iU VQ ⟨[],0⟩::ck iU ps (List.replicate ps.length ⟨[],0⟩)::bD IB (.cells (nC id bd Xx (ps++[VQ])).toArray 133 (0,0))::iU VR ⟨[],0⟩::cD Value.string Xx [(c_,aZ VR)]::fa bd D::L) w:=jR (h1.all Y7);have h3:=xU aj h2;rw[aQ,List.length_singleton,List.replicate_succ'];exact h3.all Y3
 have tG:ps.length=4:=by omega
 repeat(first|(with_reducible refine K.seq ?_)|(with_reducible refine KQ.next ?_)|(with_reducible refine KQ.iZ ?_)|(with_reducible refine KQ.kD ?_)|(with_reducible refine K.exit ?_)|(with_reducible refine K.block ?_))
 refine K.conv (L':=cW IB bd (eo id)::fa bd D::L) (fun w h=>Qh tG (by rw[tG]at h;exact h)) ?_
 refine K.loop (fun p:Nat×Ho=>[(1,aZ bd),(6,aZ IB)]) (fun p=>cW IB bd p.2::fa bd D::L) (fun p=>p.1<=300/\p.2.used=p.1/\cE (10+250*p.1) p.2/\h_ D (300-p.1) p.2=gy id D) (fun p=>300-p.1) (0,eo id)
  ⟨aR _,rfl,Gk hid,rfl⟩ ⟨rfl,rfl,trivial⟩ (fun _ h=>h) ?_
 rintro⟨j,H⟩ ⟨hj,hju,hB,hop⟩;dsimp only at hj hju hB hop ⊢;have fin:∀w',St w0 (cW IB bd (gy id D)::fa bd D::L) w'->∃v L',Ending.returned (.tuple #[aZ IB,.nilIface])=Ending.returned v/\(∃bh,v=.tuple #[aZ bh,.nilIface]/\L'=cW bh bd (gy id D)::fa bd D::L)/\St w0 L' w':=fun w' aY=>⟨_,_,rfl,⟨IB,rfl,rfl⟩,aY⟩
 refine K.cg (fun _ h=>cb (h.pick bE)) ?_;rintro⟨V,hV⟩;dsimp only;refine gU ?_;refine Kn ?_;refine Eo ?_;refine K.bI rfl (fun Gt=>?_) (fun Gt=>?_)
 ·have hj3:j<300:=by omega
  obtain⟨t,ht⟩:∃t,D.places[H.used]? =some t:=⟨_,ao ae⟩;have htz:=hD.size t (ax ht);have iD:=J1 ht;have hg:D.places.getD H.used ⟨#[]⟩=t:=by rw[aq,ht];rfl
  obtain⟨f,hf⟩:∃f,300-j=f+1:=⟨299-j,by omega⟩;rw[hf,h_,hg]at hop;refine RY ?_;refine K.draw [.pure,.pure,.pure,.read,.pure,.pure,.pure,.pure,.read,.pure,.pure,.pure,.read,.cx,.pure,.pure,.pure,.pure,.pure] [0,1,2,3,4,5,6,7,8,9,10,11,12,13,14,15,16,17,18] bm bm ?_;refine Z1 ?_;refine Kn ?_;refine jh ?_;refine Kn ?_;refine lb ?_;refine KO.ij (off:=0) rfl runUnderlying28 rfl rfl sizeOf26 rfl ?_;refine KO.mC (i:=H.used) rfl rfl runUnderlying26 sizeOf9 rfl ae rfl ?_;refine KO.di (b:=bd) (cs:=Bo D) (i:=H.used) rfl rfl isAgg9 (.tail (.tail (.tail (.tail (.tail (.tail (.tail .head))))))) wz iD rfl ?_;refine KO.ce (cp:=[]) rfl rfl rfl call52 rfl (Md w0 _ (H.used:Nat) t ⟨by omega,by omega⟩ htz hT hM) ?_;rintro v' L' ⟨rfl,rfl⟩;refine pD ?_;refine K.conv (L':=cW IB bd H::fa bd D::L) (fun w h=>bK V hV (h.all Ov)) ?_
  cases yJ:gx (H.used:Nat) t with
  |none=>
   rw[yJ]at hop
   replace hop:H=gy id D:=hop
   refine Od ?_;refine BU ?_;refine sL ?_;refine abk ?_;rw[hop];refine Z7 ?_;refine nE ?_;refine KQ.ef rfl rfl rfl (fun w' aY=>fin w' aY)
  |some s=>
   rw[yJ]at hop;have hr:=hD.mr _ t s ht yJ;have Gr:=(hB.HZ hr ae).le (show 10+250*j+250<=10+250*(j+1)by omega);have MX:=fP H s;refine yA ?_;refine Z1 ?_;refine KO.on rfl rfl rfl ?_;refine KO.cl (cp:=[]) rfl rfl rfl call53 rfl (KC.qR bE (Dv w0 _ IB bd (10+250*j) 250 H s hT hM hB hr ae)) ?_;rintro v' L' ⟨rfl,rfl⟩;refine y_ ?_;refine BQ ?_;cases qA:(bO H s).2 with
   |false=>
    simp only[qA,if_true]at hop;refine sH ?_;refine abk ?_;rw[hop];refine Z7 ?_;refine nE ?_;refine KQ.ef rfl rfl rfl (fun w' aY=>fin w' (aY.all Ov))
   |true=>
    simp only[qA,Bool.true_eq_false,if_false]at hop;refine uj ?_;generalize hH2:(bO H s).1=H2 at hop Gr MX;refine ES ?_;refine K.cg (fun _ h=>cb (h.pick bE)) ?_;rintro⟨V2,sr⟩;dsimp only;have Qb:H2.used=H.used:=MX.used;refine Z7 ?_;refine Kn ?_;refine uS ?_;refine Z82 ?_;refine KO.iA (i:=2) rfl rfl rfl aL AB rfl bE rfl (by rw[pW sr];omega) ?_;rw[show(eG bd V2 H2).set 2 (.int .i64 ((H2.used:Nat)+1:Int))=eG bd V2 {H2 with used:=H2.used+1}from rfl];refine yD ?_;refine KQ.round (j+1,{H2 with used:=H2.used+1}) ⟨by dsimp only;omega,by dsimp only;omega,(Gr.Sb ae),?_⟩ ji ⟨rfl,rfl,trivial⟩ (fun w h=>?_)
    ·dsimp only;rw[show 300-(j+1)=f by omega,Qb];exact hop
    ·exact bK V2 ⟨sr.ps,sr.us,sr.bs,sr.ways,sr.az,sr.batch,sr.bU,sr.aF⟩ (h.all mH)
 ·have hj3:j=300:=by omega
  subst hj3;rw[Nat.sub_self,h_]at hop;refine wx ?_;refine K.conv (L':=cW IB bd H::fa bd D::L) (fun w h=>bK V hV (h.all Ov)) ?_
  rw[hop];refine Z7 ?_;refine nE ?_;refine KQ.ef rfl rfl rfl (fun w' aY=>fin w' aY)
theorem Qc(w0:World)(L:List HP)(bh bd:Nat)(H:Ho)(n:Int):KC prog 19 #[aZ bh,.int .i64 n] w0 (cW bh bd H::L) (fun u M=>u=.tuple #[]/\M=cW bh bd {H with c6:=n}::L):=by
 refine KC.mk (n:=8) func19 rfl ntmps19 aj ?_;refine K.cg (fun _ h=>cb h) ?_;rintro⟨V,hV⟩;dsimp only;refine vC ?_;refine KO.ij (off:=4) rfl runUnderlying133 rfl rfl sizeOf3 rfl ?_;refine KO.iA (i:=4) rfl rfl rfl aL AB rfl bE rfl OV ?_;rw[show(eG bd V H).set 4 (.int .i64 n)=eG bd V {H with c6:=n}from rfl];refine KO.nil ?_;refine KQ.tU rfl (fun w' aY=>⟨_,_,rfl,⟨rfl,rfl⟩,bK V ⟨hV.ps,hV.us,hV.bs,hV.ways,hV.az,hV.batch,hV.bU,hV.aF⟩ (aY.all mH)⟩)
theorem Mv{V:rM}{H:Ho}(hV:iY V H){r:Nat}{x:ak×Qu}(hx:H.aE[r]? =some x):∃v,(c7 V H).getD r default=(x.1,v):=by
 have oO:=hV.ps;have hr:=(au.1 hx).1;obtain⟨p,hp⟩:∃e,V.ps[4+r]? =some e:=⟨_,ao ae⟩;refine⟨aZ p,?_⟩;unfold c7 q9;rw[aq,List.getElem?_zipWith,hx,List.getElem?_drop,hp];rfl
theorem U0(N M:Nat)(hNM:M *N<=900000000)(hM1:M<=800000)(hN1:N<=800000)(w0:World)(L:List HP)(bh bd n:Nat)(H:Ho)(hB:cE n H)(hn:n<=N)(F2:H.aE.length<=M):
 KC prog 20 #[aZ bh] w0 (cW bh bd H::L) (fun u M=> ∃ns:List ak,ns.Perm (H.aE.map (·.1))/\M=SL 44 5 dN u ((dZ ns).flatMap (gN H))::cW bh bd H::L):=by
 have tB:=hB.mV;refine KC.mk (n:=40) func20 rfl ntmps20 aj ?_;refine oQ ?_;refine K.cg (fun _ h=>cb h) ?_;rintro⟨V,hV⟩;dsimp only;have oO:=hV.ps;refine dC ?_;refine BM ?_;refine lb ?_;refine V5 ?_;refine KO.rng rfl rfl underlying123 aX rfl ?_;intro r12;refine Tn ?_;refine K.loop (fun p:List Nat×List Nat×Value×Option (ak×Value)=>[(0,aZ bh),(3,p.2.2.1),(12,.pointer (some ⟨r12,0,none⟩))])
  (fun p=>SL 9 1 Td p.2.2.1 (p.2.1.map fun r=>(H.aE.getD r (⟨#[]⟩,default)).1)::EX Value.string V.mb r12 (c7 V H) (p.1.map fun r=>(c7 V H).getD r default) p.2.2.2::bD bh (.cells (eG bd V H).toArray 133 (0,0))::jg V.nv H.names::ck iU V.ps H.all::ck cN (V.us.map (·.1)) (H.az.map (·.aU))::ck cK (V.us.map (·.2)) (H.az.map (·.bj))::ck dB V.bs H.batch::L)
  (fun p=>(p.2.1++p.1).Perm (List.range H.aE.length)) (fun p=>p.1.length) (List.range H.aE.length,[],.slice none 0 0,none)
  aj ⟨rfl,rfl,rfl,trivial⟩ (fun _ h=>?_) ?_
 ·have h1:=cL (E:=9) (sz:=1) (cf:=Td) h;have e1:(List.range H.aE.length).map (fun r=>(c7 V H).getD r default)=c7 V H:=by
   have hl:(c7 V H).length=H.aE.length:=by unfold c7 q9;rw[List.length_zipWith,bo];omega
   rw[<-hl];apply List.ext_getElem
   ·simp
   ·intro i h1 h2;simp[aq,ao h2]
  dsimp only;rw[e1];exact h1.all mH
 rintro⟨rest,done,v,cur⟩ iB;dsimp only at iB ⊢;have me:done.length<=M:=by have :=iB.length_eq;simp at this;omega
 refine Z2 ?_;refine KO.PJ rfl rfl aX rfl (fun h0=>?_) (fun i e he=>?_);refine rB ?_;refine Z0 ?_;have kP:rest=[]:=by simpa using h0
 subst kP;rw[List.append_nil]at iB;have E3:(done.map fun r=>(H.aE.getD r (⟨#[]⟩,default)).1).Perm (H.aE.map (·.1)):=by
  refine(iB.map _).trans ?_;have :(List.range H.aE.length).map (fun r=>(H.aE.getD r (⟨#[]⟩,default)).1)=H.aE.map (·.1):=by
   apply List.ext_getElem
   ·simp
   ·intro i h1 h2;simp only[aV]at h2;simp[aq,ao h2]
  rw[this]
 generalize hgn:(done.map fun r=>(H.aE.getD r (⟨#[]⟩,default)).1)=ns at E3;have aio:ns.length<=M:=by rw[<-hgn,aV];exact me
 have SI:(dZ ns).length=ns.length:=(qK ns).length_eq;have MX:∀s∈dZ ns,∃i,H.qI s=some i:=fun s hs=>by
  have h1:s∈H.aE.map (·.1):=E3.mem_iff.1 ((qK ns).mem_iff.1 hs)
  cases hq:H.qI s with
  |some i=>exact⟨i,rfl⟩
  |none=>
   rw[o5,List.findIdx?_eq_none_iff]at hq;have :=hq s h1;simp at this
 refine uj ?_;refine yu ?_;refine KO.cl (cp:=[]) rfl rfl rfl call66 rfl (KC.qR (.tail .head) (IW (E:=9) Tryz.slices_Sort_string_none Tryz.slices_Sort_string w0 _ v ns ae)) ?_;rintro v' L' ⟨rfl,rfl⟩;refine Z0 ?_;refine K.fact (fun w hw=>aN (E:=9) (sz:=1) (cf:=Td) (hw.pick .head)) ?_;rintro⟨ad,cap,rfl,had⟩;refine dC ?_;refine kQ ?_;refine Hc ?_;refine lf ?_;refine K.loop (fun p:Nat×Value=>[(0,aZ bh),(5,p.2),(23,.slice ad (dZ ns).length cap),(24,.int .i64 ((dZ ns).length:Nat)),(25,.int .i64 (p.1:Nat))])
  (fun p=>SL 44 5 dN p.2 (((dZ ns).take p.1).flatMap (gN H))::SL 9 1 Td (.slice ad (dZ ns).length cap) (dZ ns)::cD Value.string V.mb (c7 V H)::bD bh (.cells (eG bd V H).toArray 133 (0,0))::jg V.nv H.names::ck iU V.ps H.all::ck cN (V.us.map (·.1)) (H.az.map (·.aU))::ck cK (V.us.map (·.2)) (H.az.map (·.bj))::ck dB V.bs H.batch::L) (fun p=>p.1<=(dZ ns).length/\(((dZ ns).take p.1).flatMap (gN H)).length<=p.1 *N) (fun p=>(dZ ns).length-p.1) (0,.slice none 0 0)
  ⟨aR _,by simp⟩ ⟨rfl,rfl,rfl,rfl,rfl,trivial⟩ (fun _ h=>?_) ?_
 ·have h1:=cL (E:=44) (sz:=5) (cf:=dN) h;exact h1.all mH
 rintro⟨k,v5⟩ ⟨hk,oX⟩;dsimp only at hk oX ⊢;refine gZ ?_;refine K.bI rfl (fun h9=>?_) (fun h9=>?_)
 ·obtain⟨s,hs⟩:∃e,(dZ ns)[k]? =some e:=⟨(dZ ns)[k],ao ae⟩;obtain⟨ag,rfl⟩:=had ae;obtain⟨i,hi⟩:=MX s (ax hs);have uK:=(i_ hi).1;have hg:=kt hV s;obtain⟨p,hp⟩:∃p,V.ps[4+i]? =some p:=⟨_,ao ae⟩;rw[hi]at hg;simp only[Option.bind_some,hp,Option.map_some]at hg;have Qo:gN H s=cM (H.dX i):=by unfold gN;rw[hi]
  have SK:=(hB.qa uK).len;have sO:(cM (H.dX i)).length<=N:=by
   unfold cM;have :=List.length_filter_le (fun e:It=>decide (e.put<0)) (H.dX i).l;rw[aV];omega
  have hk3:k *N+N<=900000000:=by have :=Nat.mul_le_mul_right N (show k+1<=M by omega);rw[Nat.succ_mul]at this;omega
  refine Wl ?_;refine KO.fJ rfl rfl isAgg9 aX (fun _=>rfl) uT aL aL rfl ?_;refine iH ?_;refine vC ?_;refine RJ ?_;refine KO.di (i:=7) rfl rfl isAgg123 aX rfl rfl rfl ?_;refine Z1 ?_;refine KO.Jl fj s rfl rfl rfl underlying123 underlying9 zeroValue119 aX rfl ?_;rw[hg];refine KO.ce (cp:=[]) rfl rfl rfl call67 rfl (KE.D1 (A:=fun v=>SL 44 5 dN v (cM (H.dX i))) (φ:=fun _=>True) hp (oH hV.ways uK) aX (fun L=>(FT w0 _ L p (H.dX i) .head ae).oI (by rintro v M rfl;exact⟨_,⟨trivial,rfl⟩,fun _ h=>h⟩))) ?_;rintro vk L' ⟨-,rfl⟩;refine KO.Ro (cf:=dN) (z:=Value.agg #[.int .i64 0,.int .i64 0,.string ⟨#[]⟩,.string ⟨#[]⟩,.int .i64 0]) (sz:=5) (cV:=56) (xs:=((dZ ns).take k).flatMap (gN H)) (ys:=cM (H.dX i)) rfl rfl rfl (.tail (.tail .head)) (fun w hw=>Src.of (E:=44) (sz:=5) (cf:=dN) .head w hw) underlying49 bm rfl (fun _=>rfl) (fun _=>rfl) ae ai rfl ?_;intro v37;refine rz ?_;refine KQ.round (k+1,v37) ⟨by dsimp only;omega,?_⟩ ji ⟨rfl,rfl,rfl,rfl,rfl,trivial⟩ (fun _ h=>?_)
  ·dsimp only;rw[bA hs,List.flatMap_append,aQ];simp only[aO,List.flatMap_nil,List.append_nil,Qo,Nat.succ_mul];omega
  ·dsimp only;rw[bA hs,List.flatMap_append];simp only[aO,List.flatMap_nil,List.append_nil,Qo];exact h.all Y5
 have M_:k=(dZ ns).length:=by omega
 subst M_;rw[List.take_length];refine yu ?_;refine fK ?_;refine KQ.a_ rfl rfl (fun w' aY=>⟨_,_,rfl,⟨ns,E3,rfl⟩,?_⟩);exact(bK V hV (aY.all (M:=yL bh bd V H (SL 44 5 dN v5 ((dZ ns).flatMap (gN H))::L)) Y1)).all Y3;obtain⟨r,hr,rfl⟩:∃r,rest[i]? =some r/\(c7 V H).getD r default=e:=by
  rw[aH]at he;cases hr:rest[i]? with
  |none=>rw[hr]at he;cases he
  |some r=>rw[hr]at he;exact⟨r,rfl,by simpa using he⟩
 have JA:r<H.aE.length:=by
  have :r∈List.range H.aE.length:=iB.mem_iff.1 (List.mem_append_right _ (ax hr));simpa using this
 obtain⟨x,hx⟩:∃e,H.aE[r]? =some e:=⟨_,ao JA⟩;have hxe:(H.aE.getD r (⟨#[]⟩,default)).1=x.1:=by rw[aq,hx];rfl
 obtain⟨pv,mJ⟩:=Mv hV hx;rw[mJ];refine rB ?_;refine Z0 ?_;refine sH ?_;refine pE ?_;refine KO.JW rfl rfl bE rfl ?_;refine rB ?_;refine iH ?_;refine iw ?_;refine KO.iN (z:=(Value.string ⟨#[]⟩)) (sz:=1) (cV:=16) rfl rfl underlying115 bm aL aL ai ai rfl ?_;intro b19;refine KO.app (cf:=Td) (z:=Value.string ⟨#[]⟩) (sz:=1) (cV:=16) (xs:=done.map fun r=>(H.aE.getD r (⟨#[]⟩,default)).1) rfl rfl rfl (.tail (.tail .head)) .head underlying115 kg rfl x.1 rfl rfl rfl fV ai rfl ?_;intro v20;refine Z8 ?_;refine yD ?_;refine KQ.round (rest.eraseIdx i,done++[r],v20,some (x.1,pv)) ?_ ?_ ⟨rfl,rfl,rfl,trivial⟩ (fun _ h=>?_)
 ·dsimp only;refine List.Perm.trans ?_ iB;rw[aK];refine(List.Perm.refl done).append ?_;obtain⟨hi,rfl⟩:=au.1 hr;exact n9 hi
 ·dsimp only;have hi:=(au.1 hr).1;rw[List.length_eraseIdx,if_pos hi];omega
 ·dsimp only;rw[bu,<-mZ,aT,List.map_nil,hxe];exact h.all mH
theorem DG(w0:World)(L:List HP)(bh bd n:Nat)(H:Ho)(hB:cE n H)(hn:n<=80000)(F2:H.aE.length<=1000):
 KC prog 20 #[aZ bh] w0 (cW bh bd H::L) (fun u M=> ∃ns:List ak,ns.Perm (H.aE.map (·.1))/\M=SL 44 5 dN u ((dZ ns).flatMap (gN H))::cW bh bd H::L):=
 U0 80000 1000 ai ai ai w0 L bh bd n H hB hn F2
theorem MU(w0:World)(L:List HP)(bh bd n:Nat)(H:Ho)(s:ak)(hB:cE n H)(hn:n<=80000):
 KC prog 28 #[aZ bh,.string s] w0 (cW bh bd H::L) (fun u M=> ∃v,u=.tuple #[v,cz 70 (gh H s)]/\M=SL 44 5 dN v (jP H s)::cW bh bd H::L):=by
 have xH:=hB.kr;have yJ:=hB.sorted;have ends:gh H s=7->∀w',St w0 (cW bh bd H::L) w'->∃v L',Ending.returned (.tuple #[.slice none 0 0,cz 70 7])=Ending.returned v/\(∃u,v=.tuple #[u,cz 70 (gh H s)]/\L'=SL 44 5 dN u (jP H s)::cW bh bd H::L)/\St w0 L' w':=fun he w' aY=>by
  refine⟨_,_,rfl,⟨_,by rw[he],rfl⟩,?_⟩;unfold jP;rw[if_neg (by rw[he];decide)];exact cL aY
 refine KC.mk (n:=34) func28 rfl ntmps28 aj ?_;refine oQ ?_;refine K.cg (fun _ h=>cb h) ?_;rintro⟨V,hV⟩;dsimp only;have oO:=hV.ps;have hg:=kt hV s;refine dC ?_;refine Z8 ?_;refine jH ?_;cases hq:H.qI s with
 |none=>
  have he:gh H s=7:=by unfold gh;rw[hq]
  rw[hq]at hg;refine G7 ?_;refine KO.H_ fj s rfl rfl rfl underlying123 underlying9 zeroValue119 aX rfl ?_;rw[hg];refine jY ?_;refine oY ?_;refine rD ?_;refine Oi ?_;refine Oi ?_;refine Ry ?_;refine y4 ?_;refine Z5 ?_;refine K.cA rfl aj ?_;refine l3 ?_;refine KQ.ef rfl rfl rfl (fun w' aY=>ends he w' (bK V hV (aY.all Ov)))
 |some i=>
 have uK:=(i_ hq).1;obtain⟨p,hp⟩:∃p,V.ps[4+i]? =some p:=⟨_,ao ae⟩;rw[hq]at hg;simp only[Option.bind_some,hp,Option.map_some]at hg;have heq:gh H s=if s≠c_/\dO H.names s=false then 7 else 0:=by unfold gh;rw[hq]
 refine G7 ?_;refine KO.H_ fj s rfl rfl rfl underlying123 underlying9 zeroValue119 aX rfl ?_;rw[hg];refine pD ?_;refine K.cut (fun _:Unit=>[(0,aZ bh),(6,aZ p),(30,.bool (decide (s≠c_/\dO H.names s=false)))]) (fun _=>yL bh bd V H L) (fun _=>True) ?_ ?_
 ·by_cases Qe:s=c_
  ·have A7:s=⟨#[100,101,97,100]⟩:=Qe;have UG:(!decide (s=⟨#[100,101,97,100]⟩))=false:=by rw[A7];rfl
   clear Qe;refine Rw ?_;refine BG ?_;refine EL ?_;refine EL ?_;refine KO.no rfl rfl UG rfl ?_;refine KO.no rfl rfl uT rfl ?_;refine sG ?_;refine KO.o7 rfl ?_ rfl rfl ?_
   (focus assumption)
   refine qj ?_;refine KO.nil ?_;exact KQ.qc () trivial ⟨rfl,rfl,by simp[A7,c_,cF],trivial⟩ (fun w' aY=>aY)
  ·have A7:¬s=⟨#[100,101,97,100]⟩:=Qe;refine Rw ?_;refine BG ?_;refine y5 ?_;refine Z1 ?_;refine y5 ?_;refine lb ?_;refine y5 ?_;refine Z88 ?_;refine y5 ?_;refine Z1 ?_;refine KO.on rfl rfl (by simp[A7]) ?_;refine KO.ce (cp:=[]) rfl rfl rfl call57 rfl (sg w0 _ _ _ bh 6 (eG bd V H) 133 V.nv H.names s bE bE rfl ae yJ) ?_;rintro v' L' ⟨rfl,rfl⟩;refine y5 ?_;refine oY ?_;refine sG ?_;refine KO.r7 rfl ?_ rfl rfl ?_
   (focus(simp_all;done))
   refine qj ?_;refine KO.nil ?_;exact KQ.qc () trivial ⟨rfl,rfl,by simp[Qe,cF],trivial⟩ (fun w' aY=>aY)
 rintro⟨⟩-;refine K.bI rfl (fun h4=>?_) (fun h4=>?_)
 ·have he:gh H s=7:=by rw[heq,if_pos h4]
  refine l3 ?_;refine KQ.ef rfl rfl rfl (fun w' aY=>ends he w' (bK V hV aY))
 have he:gh H s=0:=by rw[heq,if_neg h4]
 have tB:=(hB.qa uK).len;have Ie:jP H s=eK (H.dX i):=by unfold jP;rw[if_pos he,hq];rfl
 refine mG ?_;refine KO.ce (cp:=[]) rfl rfl rfl call80 rfl (KE.D1 (A:=fun v=>SL 44 5 dN v (eK (H.dX i))) (φ:=fun _=>True) hp (oH hV.ways uK) aX (fun L=>(Hw w0 _ L p (H.dX i) .head ae).oI (by rintro v M rfl;exact⟨_,⟨trivial,rfl⟩,fun _ h=>h⟩))) ?_;rintro vk L' ⟨-,rfl⟩;refine nE ?_;refine KQ.ef rfl rfl rfl (fun w' aY=>⟨_,_,rfl,⟨vk,by rw[he];rfl,rfl⟩,?_⟩);rw[Ie];exact(bK V hV (aY.all (M:=yL bh bd V H (SL 44 5 dN vk (eK (H.dX i))::L)) Y3)).all Y3
theorem Qr(w0:World)(L R:List HP)(bh bd:Nat)(H:Ho)(hp:bC L (cW bh bd H) R):KE prog 76 #[aZ bh] w0 L (fun u M=>u=.bool H.down/\M=L):=by
 refine KE.mk (n:=7) func76 rfl ntmps76 aj ?_;intro w hw;obtain⟨V,hV,hc⟩:=nf hw hp;have Xq:=hc 3 _ rfl;refine iG ?_;refine V3 ?_;refine fK ?_;refine KQ.a_ rfl rfl (fun w' hs=>⟨_,_,rfl,⟨rfl,rfl⟩,hw.aA hs.below,hs.below⟩)
theorem M4(w0:World)(L:List HP)(bh bd:Nat)(H:Ho)(hl:H.names.length<=20):KC prog 107 #[aZ bh] w0 (cW bh bd H::L) (fun u M=>M=jg u H.names::cW bh bd H::L):=by
 refine KC.mk (n:=7) func107 rfl ntmps107 aj ?_;refine oQ ?_;refine K.cg (fun _ h=>cb h) ?_;rintro⟨V,hV⟩;dsimp only;refine dC ?_;refine kQ ?_;refine Es ?_;refine KO.ce (cp:=[]) rfl rfl rfl call169 rfl (FK w0 _ _ _ bh 6 (eG bd V H) 133 V.nv H.names bE bE rfl ae) ?_;rintro va L' rfl;refine fK ?_;refine KQ.a_ rfl rfl (fun w' aY=>⟨_,_,rfl,rfl,?_⟩);have h1:=bK V hV (L:=jg va H.names::L) (aY.all Y7);exact h1.all Y3
def Ck (H:Ho) (k:Int):Int:=if bQ H k=true then 0 else 2
def gp (H:Ho) (k:Int):List Ms:=if bQ H k=true then cM (H.hF k.toNat)else[]
theorem Dl(w0:World)(L:List HP)(bh bd n:Nat)(H:Ho)(k:Int)(hB:cE n H)(hn:n<=80000):
 KC prog 27 #[aZ bh,.int .i64 k] w0 (cW bh bd H::L) (fun u M=> ∃v,u=.tuple #[v,cz 70 (Ck H k)]/\M=SL 44 5 dN v (gp H k)::cW bh bd H::L):=by
 unfold Ck gp;refine KC.mk (n:=18) func27 rfl ntmps27 aj ?_;refine jX ?_;refine jH ?_;cases hk:bQ H k with
 |false=>
  refine iw ?_;refine KO.ce (cp:=[]) rfl rfl rfl call79 rfl (dV w0 _ _ bh bd H k bE) ?_;rintro v' L' ⟨rfl,rfl⟩;rw[hk];refine GV ?_;refine l3 ?_;refine KQ.ef rfl rfl rfl (fun w' aY=>⟨_,_,rfl,⟨_,rfl,rfl⟩,cL aY⟩)
 |true=>
  obtain⟨vf,tG,-⟩:=bT.1 hk;obtain⟨j,rfl⟩:∃j:Nat,k=(j:Int):=⟨k.toNat,by omega⟩;have hj:j<4:=by omega
  refine iw ?_;refine KO.ce (cp:=[]) rfl rfl rfl call79 rfl (dV w0 _ _ bh bd H (j:Int) bE) ?_;rintro v' L' ⟨rfl,rfl⟩;rw[hk];refine oY ?_;refine yr ?_;refine K.cg (fun _ h=>cb h) ?_;rintro⟨V,hV⟩;dsimp only;have oO:=hV.ps;obtain⟨p,hp⟩:∃p,V.ps[j]? =some p:=⟨_,ao ae⟩;have hw:=oe (bd:=bd) hV hj hp;have fZ:=qH hV.ways hj;have tB:=(hB.w hj).len;refine iw ?_;refine RN ?_;refine KO.di (i:=8+j) rfl rfl isAgg119 bE wz hw rfl ?_;refine KO.ce (cp:=[]) rfl rfl rfl call67 rfl (KE.D1 (A:=fun v=>Jh v (cM (H.hF j))) (φ:=fun _=>True) hp fZ aX (fun L=>KE.mono (FT w0 _ _ p (H.hF j) .head ae) (fun v M h=>⟨trivial,h⟩))) ?_;rintro va L' ⟨-,rfl⟩;refine nE ?_;refine KQ.ef rfl rfl rfl (fun w' aY=>⟨_,_,rfl,⟨_,rfl,rfl⟩,?_⟩);have h1:=bK V hV (L:=Jh va (cM (H.hF j))::L) (aY.all Y7);exact h1.all Y7
def VV (H:Ho) (k:Int):Int:=if bQ H k=true then 0 else 2
def Eg (H:Ho) (k:Int):Int:=if bQ H k=true then cT H k.toNat else 0
theorem Gh(w0:World)(L R:List HP)(bh bd:Nat)(H:Ho)(k:Int)(hp:bC L (cW bh bd H) R):
 KE prog 111 #[aZ bh,.int .i64 k] w0 L (fun u M=>u=.tuple #[.int .i64 (Eg H k),cz 70 (VV H k)]/\M=L):=by
 unfold VV Eg;refine KE.mk (n:=17) func111 rfl ntmps111 aj ?_;intro w hw;have hri:=dV w0 L R bh bd H k hp;obtain⟨V,hV,hc⟩:=nf hw hp;refine jX ?_;refine jH ?_;cases hk:bQ H k with
 |false=>
  rw[hk]at hri;refine iw ?_;refine KO.ce (cp:=[]) rfl rfl rfl call79 rfl (hri.jQ hw) ?_;rintro v' L' ⟨rfl,rfl⟩;refine GV ?_;refine l3 ?_;refine KQ.ef rfl rfl rfl (fun w' hs=>⟨_,_,rfl,⟨rfl,rfl⟩,hw.aA hs.below,hs.below⟩)
 |true=>
  rw[hk]at hri;obtain⟨vf,tG,-⟩:=bT.1 hk;obtain⟨j,rfl⟩:∃j:Nat,k=(j:Int):=⟨k.toNat,by omega⟩;have hj:j<4:=by omega
  have hcj:=hc (30+j) _ (v7 (bd:=bd) hV hj).1;have aek:w.cell? ((⟨bh,30,none⟩:Addr).add (j *1))=some (.int .i64 (cT H j)):=by rw[Addr.add_lit,Nat.mul_one];exact hcj
  refine iw ?_;refine KO.ce (cp:=[]) rfl rfl rfl call79 rfl (hri.jQ hw) ?_;rintro v' L' ⟨rfl,rfl⟩;refine oY ?_;refine yr ?_;refine vC ?_;refine Z67 ?_;refine KO.pb rfl rfl isAgg3 aek rfl ?_;refine nE ?_;refine KQ.ef rfl rfl rfl (fun w' hs=>⟨_,_,rfl,⟨rfl,rfl⟩,hw.aA hs.below,hs.below⟩)
theorem Uc{w0 w w':World}{L:List HP}{e:TypeId}{sz n:Nat}{v:Value}{xs:List Value}(hw:St w0 L w)(hb:Below w.heap.size w w')(ho:w'.ownsRow w.heap.size e sz v n xs):St w0 (ie e sz v n xs::L) w':=by
 obtain⟨hl,⟨rfl,rfl⟩|⟨g,cap,cur,rfl,hg,hh,h1,h2,h3,h4⟩⟩:=ho
 ·have :xs=[]:=List.eq_nil_of_length_eq_zero (by simpa using hl);subst this;exact(hw.aA hb).pM
 ·have hs:St w [bD g (.cells cur e (0,0))] w':=by
   refine⟨hb.os,hb.tape,hb.output,hb.size,hb.block,⟨fun k=>if k=g then some (.cells cur e (0,0))else none,fun k o hk=>?_,?_⟩⟩
   ·dsimp only at hk;split at hk
    ·rename_i e1;subst e1;simp only[ay]at hk;subst hk;exact⟨hg,hh⟩
    ·cases hk
   ·refine⟨fun k=>if k=g then some (.cells cur e (0,0))else none,fun _=>none,fun k=>.inr rfl,?_,⟨if_pos rfl,fun k hk=>if_neg hk⟩,fun _=>rfl⟩;funext k;unfold nL;split<;>simp_all
  have h5:=(hw.stack hs).ju (n:=n) (size:=sz) (xs:=xs) h1 h2 h3 h4;exact h5
theorem Rb(w0:World)(L R:List HP)(v:Value)(l:List Int)(hl:0<l.length)(JE:l.length<=1000000)(hp:bC L (dB v l) R):KE prog 195 #[v] w0 L (fun u M=>M=SL 3 1 cR u l::L):=fun w hw=>by
 obtain⟨⟨⟨g,off,cs,cap⟩,hv,mL⟩,hs⟩:=CB hl (hw.pick hp);dsimp only at hv mL hs;subst hv;refine(Tryz.slices_Clone_int g off l.length cap l w (aC _) ae (fun j hj=>?_)).mono ?_
 ·rw[World.cell?,hs.look.2];have :=mL j (l.getD j 0) (by rw[aq,ao hj];rfl);simpa using this
 ·rintro e w' ⟨v',rfl,ho,-,hb⟩;refine⟨v',_,rfl,rfl,?_,hb⟩;rw[List.take_length]at ho;have h8:∀l:List Int,l.map (Value.int .i64)=l.flatMap cR:=fun l=>by
   induction l with
   |nil=>rfl
   |cons x l ih=>rw[aO,<-ih];rfl
  rw[h8]at ho;exact Uc hw hb ho
def dbE (H:Ho) (k:Int):Int:=if bQ H k=true then 0 else 2
def VE (H:Ho) (k:Int):Int:=if bQ H k=true then(if(bR H k.toNat).length=0 then 0 else da H k.toNat)else 0
def yc (H:Ho) (k:Int):List Int:=if bQ H k=true then bR H k.toNat else[]
theorem Nd(w0:World)(L:List HP)(bh bd n:Nat)(H:Ho)(k:Int)(hB:cE n H):
 KC prog 110 #[aZ bh,.int .i64 k] w0 (cW bh bd H::L) (fun u M=> ∃v,u=.tuple #[.int .i64 (VE H k),v,cz 70 (dbE H k)]/\M=SL 3 1 cR v (yc H k)::cW bh bd H::L):=by
 unfold dbE VE yc;refine KC.mk (n:=33) func110 rfl ntmps110 aj ?_;refine jX ?_;refine Z8 ?_;refine jH ?_;cases hk:bQ H k with
 |false=>
  refine iw ?_;refine KO.ce (cp:=[]) rfl rfl rfl call79 rfl (dV w0 _ _ bh bd H k bE) ?_;rintro v' L' ⟨rfl,rfl⟩;rw[hk];refine GV ?_;refine K4 ?_;refine Em ?_;refine KQ.CG rfl rfl rfl rfl (fun w' aY=>⟨_,_,rfl,⟨_,rfl,rfl⟩,cL aY⟩)
 |true=>
  obtain⟨vf,tG,-⟩:=bT.1 hk;obtain⟨j,rfl⟩:∃j:Nat,k=(j:Int):=⟨k.toNat,by omega⟩;have hj:j<4:=by omega
  refine iw ?_;refine KO.ce (cp:=[]) rfl rfl rfl call79 rfl (dV w0 _ _ bh bd H (j:Int) bE) ?_;rintro v' L' ⟨rfl,rfl⟩;rw[hk];refine oY ?_;refine yr ?_;refine K.cg (fun _ h=>cb h) ?_;rintro⟨V,hV⟩;dsimp only;have Vc:=hV.bs;have rI:=hV.batch;obtain⟨bv,z_⟩:∃e,V.bs[j]? =some e:=⟨_,ao ae⟩;obtain⟨bl,tN⟩:∃e,H.batch[j]? =some e:=⟨_,ao ae⟩;have Qy:bR H j=bl:=by unfold bR;rw[aq,tN];rfl
  have Zv:=hB.ext.Te bl (ax tN);rw[aM];rw[Qy];obtain⟨c1,c2⟩:=pX (bd:=bd) hV z_;obtain⟨d1,d2⟩:=vZ (bd:=bd) hV hj;refine RM ?_;refine K.fact (fun w hw=>o2 (hw.pick (A:=dB bv bl) .head)) ?_;rintro⟨ba,bc,rfl⟩;have back:∀{w':World} {M:List HP},St w0 (dB (.slice ba bl.length bc) bl::ck dB (V.bs.eraseIdx j) (H.batch.eraseIdx j)::bD bh (.cells (eG bd V H).toArray 133 (0,0))::jg V.nv H.names::cD Value.string V.mb (c7 V H)::ck iU V.ps H.all::ck cN (V.us.map (·.1)) (H.az.map (·.aU))::ck cK (V.us.map (·.2)) (H.az.map (·.bj))::M) w'->St w0 (cW bh bd H::M) w':=fun h=>bK V hV ((kz z_ tN h).all Y7)
  refine vC ?_;refine Ru ?_;refine Om ?_;refine sI ?_;refine K.bI rfl (fun h0=>?_) (fun h0=>?_)
  ·have S3:bl.length=0:=by omega
   have Qk:bl=[]:=List.length_eq_zero_iff.1 S3;refine jX ?_;refine Em ?_;refine KQ.CG rfl rfl rfl rfl (fun w' aY=>⟨_,_,rfl,⟨_,by rw[if_pos rfl,if_pos S3,if_pos rfl];rfl,rfl⟩,?_⟩);rw[if_pos rfl];have h1:=back (aY.all mH);subst Qk;exact cL h1
  ·have S3:¬bl.length=0:=by omega
   refine Z6 ?_;refine K.draw [.pure,.pure,.pure,.pure,.pure,.read,.pure,.pure,.pure,.pure,.pure,.read,.cx,.pure,.pure,.pure] [0,1,2,3,4,5,6,7,8,9,10,11,12,13,14,15] bm bm ?_;refine yw ?_;refine RT ?_;refine KO.di (i:=26+j) rfl rfl isAgg3 aX wz d1 rfl ?_;refine yw ?_;refine Ru ?_;refine KO.di (i:=22+j) rfl rfl isAgg23 aX wz c1 rfl ?_;refine KO.ce (cp:=[]) rfl rfl rfl call195 rfl (Rb w0 _ _ _ bl ae ae bE) ?_;rintro va L' rfl;refine Z8 ?_;refine nE ?_;refine KQ.CG rfl rfl rfl rfl (fun w' aY=>⟨_,_,rfl,⟨_,by rw[if_pos rfl,if_neg S3,if_pos rfl];rfl,rfl⟩,?_⟩);rw[if_pos rfl];have h1:=back (M:=SL 3 1 cR va bl::L) (aY.all Y7);exact h1.all Y7
theorem Uv(w0:World)(L:List HP)(v:Value)(xs:List Nm)(f:FuncId)(cp:List Value)(pf:Nm->Bool)(hr:∀w,St w0 L w->oS w 3 Nm.cells v xs)(hlen:xs.length<1000000)(dx:∀args w,(callFunc f args).run prog w=.ok (.enter f args) w)(oG:∀e,e∈xs->KE prog f ([]++([Value.agg e.cells.toArray]++cp)).toArray w0 L (fun v L'=>v=.bool (pf e)/\L'=L)):
 KE prog 270 #[v,.func (.func f) [].toArray cp.toArray] w0 L (fun v L'=>v=.int .i64 (ot pf xs)/\L'=L):=by
 refine KE.mk (n:=19) func270 rfl ntmps270 aj ?_;intro w hw;obtain⟨a,cap,rfl,hc⟩:=hr w hw;refine iG ?_;refine Kj ?_;refine lf ?_;refine K.loop (fun k:Nat=>[(0,.slice a xs.length cap),(1,.func (.func f) [].toArray cp.toArray),(7,.int .i64 (xs.length:Nat)),(8,.int .i64 (k:Nat))]) (fun _=>[]) (fun k=>k<=xs.length/\∀(j:Nat) (u:Nm),j<k->xs[j]? =some u->pf u=false) (fun k=>xs.length-k) 0 ⟨by omega,fun j u h=>by omega⟩ ⟨rfl,rfl,rfl,rfl,trivial⟩ (fun _ h=>h) ?_;rintro k ⟨hk,og⟩;refine gZ ?_;refine K.bI rfl (fun h=>?_) (fun h=>?_)
 ·have dI:k<xs.length:=by omega
  obtain⟨e,he⟩:∃e,xs[k]? =some e:=⟨xs[k],ao dI⟩;obtain⟨ad,rfl,hh⟩:=hc k e he;refine G5 ?_;refine jh ?_;refine KO.tA rfl rfl runUnderlying86 sizeOf75 aL ae rfl ?_;refine KO.Jp (cs:=e.cells.toArray) rfl rfl isAgg75 sizeOf75 rfl hh rfl ?_;refine KO.ce rfl rfl rfl dx rfl ((oG e (ax he)).jQ hw) ?_;rintro v L' ⟨rfl,rfl⟩;refine Z5 ?_;refine K.cond rfl (fun h1=>?_) (fun h1=>?_)
  ·refine gU ?_;refine nD ?_;refine KQ.a_ rfl rfl (fun w' hs=>⟨_,_,rfl,⟨?_,rfl⟩,hw.aA hs.below,hs.below⟩);rw[sw he h1 og]
  ·refine rA ?_;refine KQ.round (k+1) ⟨by omega,fun j u hj hu=>?_⟩ ae ⟨rfl,rfl,rfl,rfl,trivial⟩ (fun _ h=>h);by_cases E5:j=k
   ·subst E5;rw[he]at hu;simp only[ay]at hu;rw[<-hu];exact h1
   ·exact og j u ae hu
 ·refine wx ?_;refine Ex ?_;refine KQ.a_ rfl rfl (fun w' hs=>⟨_,_,rfl,⟨?_,rfl⟩,hw.aA hs.below,hs.below⟩);rw[pY fun j u hu=>og j u Y17 hu]
theorem VJ(w0:World)(L:List HP)(v:Value)(xs:List Nm)(f:FuncId)(cp:List Value)(pf:Nm->Bool)(hr:∀w,St w0 L w->oS w 3 Nm.cells v xs)(hlen:xs.length<1000000)(dx:∀args w,(callFunc f args).run prog w=.ok (.enter f args) w)(oG:∀e,e∈xs->KE prog f ([]++([Value.agg e.cells.toArray]++cp)).toArray w0 L (fun v L'=>v=.bool (pf e)/\L'=L)):
 KE prog 178 #[v,.func (.func f) [].toArray cp.toArray] w0 L (fun v L'=>v=.bool (xs.any pf)/\L'=L):=by
 refine KE.mk (n:=9) func178 rfl ntmps178 aj ?_;intro w hw;refine BI ?_;refine KO.ce rfl rfl rfl call270 rfl ((Uv w0 L v xs f cp pf hr hlen dx oG).jQ hw) ?_;rintro v L' ⟨rfl,rfl⟩;refine uh ?_;refine fK ?_;refine KQ.a_ rfl rfl (fun w' hs=>⟨_,_,rfl,⟨?_,rfl⟩,hw.aA hs.below,hs.below⟩);rw[sx]
theorem XK(w0:World)(L R:List HP)(e:Nm)(b:Nat)(s:ak)(E:TypeId)(hp:bC L (bD b (.cells [Value.string s].toArray E (0,0))) R):
 KE prog 179 #[.agg e.cells.toArray,.pointer (some ⟨b,0,none⟩)] w0 L (fun v L'=>v=.bool (decide (e.name=s))/\L'=L):=by
 obtain⟨en,et,eh⟩:=e;refine KE.mk (n:=8) func179 rfl ntmps179 aj ?_;intro w hw;have hw:=hw.pick hp;refine Z2 ?_;refine KO.box rfl rfl aL rfl ?_;intro b2;refine qm ?_;refine Hj ?_;refine qn ?_;refine KO.ldb hw rfl rfl isAgg9 bE aL rfl ?_;refine yv ?_;refine fK ?_;refine KQ.a_ rfl rfl (fun w' hs=>⟨_,_,rfl,⟨rfl,rfl⟩,(hw.sY hp).aA hs.below,hs.below⟩)
theorem zR(w0:World)(L:List HP)(bh bd n:Nat)(H:Ho)(D:Dk)(s:ak)(hT:nI w0)(hM:oB w0)(hB:cE n H)(hn:n+1<=90000)(h3:D.places.length=300)(hd: -4000000000000000000<=D.left/\D.left<=9223372036854775807):
 KC prog 94 #[aZ bh,.string s] w0 (cW bh bd H::fa bd D::L) (fun u M=>u=cz 70 (Sc H D s)/\M=cW bh bd (IT H D s)::fa bd (Lr H D s)::L):=by
 have xH:=hB.kr;have UL:=hB.right;unfold Sc IT Lr;refine KC.mk (n:=17) func94 rfl ntmps94 aj ?_;refine oQ ?_;refine K.cg (fun _ h=>cb h) ?_;rintro⟨V,hV⟩;dsimp only;refine dC ?_;refine KO.box rfl rfl aL rfl ?_;intro b3;refine kQ ?_;refine Es ?_;refine KO.ce (cp:=[]) rfl rfl rfl call169 rfl (FK w0 _ _ _ bh 6 (eG bd V H) 133 V.nv H.names aX aX rfl ae) ?_;rintro va L' rfl;refine Ep ?_;refine KO.ce rfl rfl rfl call178 rfl (VJ w0 _ va H.names 179 [.pointer (some ⟨b3,0,none⟩)] (fun x=>decide (x.name=s)) (fun w' hw'=>oS.tf (E:=75) (sz:=3) (cf:=Nm.cells) (fun _=>rfl) .head hw') ae call179 (fun e _=>XK _ _ _ e b3 s _ aX)) ?_;rintro v' L' ⟨rfl,rfl⟩;refine oY ?_;refine Z5 ?_;have back:∀{w':World},St w0 (jg va H.names::bD b3 (.cells [Value.string s].toArray 9 (0,0))::bD bh (.cells (eG bd V H).toArray 133 (0,0))::jg V.nv H.names::cD Value.string V.mb (c7 V H)::ck iU V.ps H.all::ck cN (V.us.map (·.1)) (H.az.map (·.aU))::ck cK (V.us.map (·.2)) (H.az.map (·.bj))::ck dB V.bs H.batch::fa bd D::L) w'->St w0 (cW bh bd H::fa bd D::L) w':=fun h=>bK V hV (h.all Y5)
 cases ha:H.names.any (fun x=>decide (x.name=s))with
 |false=>
  have he:nQ H s=7:=by unfold nQ;rw[ha];rfl
  rw[he];refine sH ?_;refine qk ?_;refine KQ.a_ rfl rfl (fun w' aY=>⟨_,_,rfl,⟨rfl,rfl⟩,bK V hV (aY.all Y5)⟩)
 |true=>
  have he:nQ H s=0:=by unfold nQ;rw[ha];rfl
  obtain⟨x,hx,oc⟩:=List.any_eq_true.1 ha;have oc:x.name=s:=by simpa using oc
  have cj:=(mT (UL x hx)).1;rw[oc]at cj;have kZ:eX 1 (r4 s):=l5 ai ai ai ae;rw[he];refine uj ?_;refine Z6 ?_;refine K.conv (L':=cW bh bd H::fa bd D::bD b3 (.cells [Value.string s].toArray 9 (0,0))::L) (fun w' aY=>bK V hV (aY.all Y5)) ?_
  refine Z7 ?_;refine rE ?_;refine KO.cat rfl rfl (by have :(⟨#[100,58]⟩:ak).size=2:=rfl;omega) rfl ?_;rw[show(⟨#[100,58]⟩++s:ak)=r4 s from by unfold r4;rw[show(⟨#[100,58]⟩:ak)=bV 100++bV 58 by decide]];refine KO.cl (cp:=[]) rfl rfl rfl call84 rfl (KC.OI bE bE (nb w0 _ bh bd n 1 H D (r4 s) hT hM hB kZ ae h3 hd)) ?_;rintro v' L' ⟨rfl,rfl⟩;refine fK ?_;refine KQ.a_ rfl rfl (fun w' aY=>⟨_,_,rfl,⟨rfl,rfl⟩,aY.all Y5⟩)
theorem QD(w0:World)(L:List HP)(bh bd n:Nat)(H:Ho)(D:Dk)(k m:Int)(hT:nI w0)(hM:oB w0)(hB:cE n H)(hn:n+1<=90000)(h3:D.places.length=300)(hd: -4000000000000000000<=D.left/\D.left<=9223372036854775807):
 KC prog 100 #[aZ bh,.int .i64 k,.int .i64 m] w0 (cW bh bd H::fa bd D::L) (fun u M=>u=cz 70 (caE H D k m)/\M=cW bh bd (E7 H D k m)::fa bd (KW H D k m)::L):=by
 unfold caE E7 KW;refine KC.mk (n:=44) func100 rfl ntmps100 aj ?_;refine jX ?_;refine OS ?_;cases hk:bQ H k with
 |false=>
  have he:mF H k m=2:=by unfold mF;rw[if_pos hk]
  rw[he];refine iw ?_;refine KO.ce (cp:=[]) rfl rfl rfl call79 rfl (dV w0 _ _ bh bd H k bE) ?_;rintro v' L' ⟨rfl,rfl⟩;rw[hk];refine oY ?_;refine Z8 ?_;refine BD ?_;refine vA ?_;refine KQ.a_ rfl rfl (fun w' aY=>⟨_,_,rfl,⟨rfl,rfl⟩,aY⟩)
 |true=>
 obtain⟨vf,tG,-⟩:=bT.1 hk;obtain⟨j,rfl⟩:∃j:Nat,k=(j:Int):=⟨k.toNat,by omega⟩;have hj:j<4:=by omega
 refine iw ?_;refine KO.ce (cp:=[]) rfl rfl rfl call79 rfl (dV w0 _ _ bh bd H (j:Int) bE) ?_;rintro v' L' ⟨rfl,rfl⟩;rw[hk];refine oY ?_;refine Z8 ?_;refine BB ?_;refine oQ ?_;refine K.cg (fun _ h=>cb h) ?_;rintro⟨V,hV⟩;dsimp only;cases ph:H.down with
 |true=>
  have he:mF H (j:Int) m=6:=by unfold mF;rw[if_neg WJ,if_pos ph]
  rw[he];refine Er ?_;refine iH ?_;refine K.cA rfl ph ?_;refine vA ?_;refine KQ.a_ rfl rfl (fun w' aY=>⟨_,_,rfl,⟨rfl,rfl⟩,bK V hV aY⟩)
 |false=>
 refine Er ?_;refine iH ?_;refine K.cP rfl ph ?_;refine oQ ?_;have Vc:=hV.bs;have rI:=hV.batch;obtain⟨bv,z_⟩:∃e,V.bs[j]? =some e:=⟨_,ao ae⟩;obtain⟨bl,tN⟩:∃e,H.batch[j]? =some e:=⟨_,ao ae⟩;have Qy:bR H j=bl:=by unfold bR;rw[aq,tN];rfl
 obtain⟨c1,c2⟩:=pX (bd:=bd) hV z_;obtain⟨d1,d2⟩:=vZ (bd:=bd) hV hj;have he:mF H (j:Int) m=if bl=[]\/m≠da H j then 8 else 0:=by unfold mF;rw[if_neg WJ,if_neg (by simp[ph]),aM,Qy]
 refine RM ?_;refine K.fact (fun w hw=>o2 (hw.pick (A:=dB bv bl) .head)) ?_;rintro⟨ba,bc,rfl⟩;have back:∀{w':World} {M:List HP},St w0 (dB (.slice ba bl.length bc) bl::ck dB (V.bs.eraseIdx j) (H.batch.eraseIdx j)::bD bh (.cells (eG bd V H).toArray 133 (0,0))::jg V.nv H.names::cD Value.string V.mb (c7 V H)::ck iU V.ps H.all::ck cN (V.us.map (·.1)) (H.az.map (·.aU))::ck cK (V.us.map (·.2)) (H.az.map (·.bj))::M) w'->St w0 (cW bh bd H::M) w':=fun h=>bK V hV ((kz z_ tN h).all Y7)
 refine K.cut (fun b:Bool=>[(0,aZ bh),(1,.int .i64 (j:Nat)),(19,.bool b)]) (fun _=>cW bh bd H::fa bd D::L) (fun b=>b=decide (bl=[]\/m≠da H j)) ?_ ?_
 ·by_cases h0:bl=[]
  ·have S3:(bl.length:Int)=0:=by rw[h0];rfl
   refine vC ?_;refine Ru ?_;refine Om ?_;refine IC ?_;refine Ev ?_;refine Tm ?_;refine qJ ?_;refine oz ?_;exact KQ.qc true (by simp[h0]) ⟨rfl,rfl,rfl,trivial⟩ (fun w' aY=>back (aY.all mH))
  ·have S3:¬(bl.length:Int)=0:=by
    have :bl.length≠0:=fun e=>h0 (List.length_eq_zero_iff.1 e)
    omega
   refine vC ?_;refine Ru ?_;refine Om ?_;refine IC ?_;refine uo ?_;refine uo ?_;refine GY ?_;refine KO.ij (off:=26) rfl runUnderlying133 rfl rfl sizeOf95 rfl ?_;refine KO.on rfl rfl (decide_eq_false S3) ?_;refine KO.mC (i:=j) rfl rfl runUnderlying95 sizeOf3 rfl ae rfl ?_;refine KO.on rfl rfl (decide_eq_false S3) ?_;refine KO.di (i:=26+j) rfl rfl isAgg3 aX wz d1 rfl ?_;refine lV ?_;refine y9 ?_;refine vy ?_;refine oz ?_;exact KQ.qc (decide (m≠da H j)) (by simp[h0]) ⟨rfl,rfl,rfl,trivial⟩ (fun w' aY=>back (aY.all mH))
 ·rintro b hb;rw[hb];refine K.bI rfl (fun h6=>?_) (fun h6=>?_)
  ·rw[if_pos h6]at he;rw[he];refine vA ?_;refine KQ.a_ rfl rfl (fun w' aY=>⟨_,_,rfl,⟨rfl,rfl⟩,aY⟩)
  ·rw[if_neg h6]at he;rw[he];have kZ:=vV (k:=(j:Int)) ⟨by omega,by omega⟩;have his:=bJ (n:=(j:Int)) ⟨by omega,by omega⟩;refine aaW ?_;refine y8 ?_;refine KO.ce (cp:=[]) rfl rfl rfl call59 rfl (fF w0 _ (j:Int) hT ⟨by omega,by omega⟩) ?_;rintro v' L' ⟨rfl,rfl⟩;refine KO.cat rfl rfl (by have :(⟨#[97,58]⟩:ak).size=2:=rfl;omega) rfl ?_;rw[show(⟨#[97,58]⟩++bH (j:Int):ak)=u3 (j:Int)from by unfold u3;rw[show(⟨#[97,58]⟩:ak)=bV 97++bV 58 by decide]];refine KO.cl (cp:=[]) rfl rfl rfl call84 rfl (KC.OI bE bE (nb w0 _ bh bd n 1 H D (u3 (j:Int)) hT hM hB kZ ae h3 hd)) ?_;rintro v' L' ⟨rfl,rfl⟩;refine fK ?_;refine KQ.a_ rfl rfl (fun w' aY=>⟨_,_,rfl,⟨rfl,rfl⟩,aY.all mH⟩)
end Go.Proofs.YtjhogocabcdjbabGreatDoor
