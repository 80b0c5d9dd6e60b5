import Derived.Shelf.SlSortCmp.NoneTotal
import Derived.Shelf.SlSortCmp.WholeK
import Derived.Shelf.Lay
import Derived.Ground.SlsfProg
import Derived.Conc.Holds
import Derived.Leaving
import Derived.SevenTiedAt
import Derived.Test.YtjhogocabcdjbabGreatDoorB4
set_option linter.unusedSimpArgs false
set_option linter.unusedVariables false
/- worlds: each message is once: what units do -/
namespace WB
open Go
theorem hput1_names {H H1:Ho} {m:Ms} (h:hput1 H m=some H1):H1.names=H.names:=by
 unfold hput1 at h
 dsimp only at h
 split at h
 ·simp only[Option.some.injEq]at h;subst h;rfl
 ·split at h
  ·cases h
  ·simp only[Option.some.injEq]at h;subst h;rfl
theorem hputs_names:∀(l:List Ms) (H:Ho),(hputs H l).1.names=H.names
 |[],H=>rfl
 |m::l,H=>by
  unfold hputs
  cases hp:hput1 H m with
  |none=>rfl
  |some H1=>exact(hputs_names l H1).trans (hput1_names hp)
theorem hgets_names:∀(l:List ByteArray) (H:Ho),(hgets H l).1.names=H.names
 |[],H=>rfl
 |s::l,H=>by
  unfold hgets
  cases hp:hget1 H s with
  |none=>rfl
  |some H1=>
   refine(hgets_names l H1).trans ?_
   unfold hget1 at hp
   split at hp
   ·cases hp
   ·split at hp
    ·cases hp
    ·split at hp
     ·simp only[Option.some.injEq]at hp;subst hp;rfl
     ·cases hp
theorem hends_names (H:Ho) (s:ByteArray):(hends H s).1.names=H.names:=by
 unfold hends
 split
 ·rfl
 ·split
  ·rfl
  ·rename_i l hl
   split
   ·exact hputs_names l H
   ·split
    ·exact hputs_names l H
    ·exact(hgets_names _ _).trans (hputs_names l H)
theorem hmade_names (H:Ho) (s:ByteArray):(hmade H s).1.names=H.names:=by
 unfold hmade
 split
 ·split<;>rfl
 ·rfl
theorem hknown_names (H:Ho) (s:ByteArray):(hknown H s).1.names=H.names:=by
 unfold hknown
 split
 ·split<;>rfl
 ·rfl
theorem hcomes_names:∀(l:List (Ms×ByteArray)) (H:Ho),(hcomes H l).1.names=H.names
 |[],H=>rfl
 |(m,t)::l,H=>by
  unfold hcomes
  split
  ·rfl
  ·exact hcomes_names l _
theorem hcame_names (H:Ho) (s:ByteArray):(hcame H s).1.names=H.names:=by
 unfold hcame
 split
 ·split
  ·split
   ·split
    ·exact hcomes_names _ _
    ·exact hcomes_names _ _
   ·rfl
  ·rfl
 ·rfl
theorem wrH_names (H:Ho) (D:Dk) {c:UInt8} {s:ByteArray} (hc:c=97∨c=98∨c=114):(wrH H D (chr1 c++chr1 58++s)).names=H.names:=by
 unfold wrH
 split
 ·refine Eq.trans ?_ (logH_same H D).2.2.1
  unfold hplays
  rw[rec_cut (by rcases hc with rfl|rfl|rfl<;>decide)]
  rcases hc with rfl|rfl|rfl
  ·dsimp only
   rw[if_neg (by decide),if_neg (by decide),if_neg (by decide),if_neg (by decide),if_pos rfl]
   exact hknown_names _ _
  ·dsimp only
   rw[if_neg (by decide),if_neg (by decide),if_neg (by decide),if_pos rfl]
   exact hmade_names _ _
  ·dsimp only
   rw[if_neg (by decide),if_neg (by decide),if_neg (by decide),if_neg (by decide),if_neg (by decide),if_pos rfl]
   exact hcame_names _ _
 ·exact(logH_same H D).2.2.1
theorem cmH_names (H:Ho) (D:Dk) (u:Int):(cmH H D u).names=H.names:=by
 unfold cmH
 split
 ·rfl
 ·split
  ·exact(logH_same H D).2.2.1
  ·exact(hends_names _ _).trans (logH_same H D).2.2.1
theorem btH_names (H:Ho) (D:Dk) (a:Int):(btH H D a).names=H.names:=by
 unfold btH;split
 ·exact wrH_names H D (.inr (.inl rfl))
 ·rfl
theorem caH_names (H:Ho) (D:Dk) (a m:Int):(caH H D a m).names=H.names:=by
 unfold caH;split
 ·rfl
 ·exact wrH_names H D (.inl rfl)
theorem arH_names (H:Ho) (D:Dk) (a m:Int) (l:List Ms):(arH H D a m l).names=H.names:=by
 unfold arH;split
 ·exact wrH_names H D (.inr (.inr rfl))
 ·rfl
theorem putH_names (H:Ho) (u:Int) (s:ByteArray) (pri:Int) (body:ByteArray):(putH H u s pri body).names=H.names:=by
 unfold putH;split
 ·exact setA_names _ _
 ·rfl
theorem getH_names (H:Ho) (u:Int) (s:ByteArray):(getH H u s).names=H.names:=by
 unfold getH;split<;>rfl
theorem bkH_names (H:Ho) (u:Int):(bkH H u).names=H.names:=by
 unfold bkH;split<;>rfl
theorem btH_units (H:Ho) (D:Dk) (a:Int):(btH H D a).units=H.units:=by
 unfold btH;split
 ·exact(wrH_same _ _ _).2
 ·rfl
theorem caH_units (H:Ho) (D:Dk) (a m:Int):(caH H D a m).units=H.units:=by
 unfold caH;split
 ·rfl
 ·exact(wrH_same _ _ _).2
theorem arH_units (H:Ho) (D:Dk) (a m:Int) (l:List Ms):(arH H D a m l).units=H.units:=by
 unfold arH;split
 ·exact(wrH_same _ _ _).2
 ·rfl
section
variable {c kb n:Nat} {W:Wo} {C0:Nat→Ho} {T:List Ms}
theorem GI.at (g:GI n W C0 T) {k:Nat} (hk:k<n):∃x,W.hs[k]? =some x∧W.H k=x.1∧W.D k=x.2∧HI k x.1 x.2 (C0 k):=by
 obtain⟨x,hx,e1,e2⟩:=wo_get (W:=W) (j:=k) (by rw[g.hn];exact hk)
 exact⟨x,hx,e1,e2,g.hi k x hx⟩
theorem GI.kept_in (g:GI n W C0 T) {k:Nat} (hk:k<n) {y:Nat×Ms} (hy:y∈WB.hk (W.H k)) (h4:4≤y.1):y.2∈T:=by
 obtain⟨x,hx,e1,-,h⟩:=g.at hk
 rw[e1]at hy
 rw[←g.gc.led.mem_iff]
 unfold ledC view
 refine List.mem_flatMap.2 ⟨k,List.mem_range.2 hk,List.mem_map_of_mem (List.mem_filter.2 ⟨h.sim.mem_iff.1 hy,?_⟩)⟩
 unfold visC;simp[h4]
theorem GI.gets_in (g:GI n W C0 T) {k:Nat} (hk:k<n) {u:Nat} {y:Unt} (hy:(W.H k).units[u]? =some y):∀i∈y.gets.map (·.1),i∈T.map (·.id):=fun i hi=>by
 obtain⟨x,hx,e1,-,h⟩:=g.at hk
 rw[e1]at hy
 obtain⟨p,hp,rfl⟩:=List.mem_map.1 hi
 obtain⟨i,-,e,he,hj,hid,hput,-⟩:=(h.unit u y hy).gets p hp
 have :e.m∈T:=g.kept_in hk (y:=(e.j,e.m)) (by
  rw[e1];unfold WB.hk
  exact List.mem_map.2 ⟨e,List.mem_filter.2 ⟨he,by unfold keptB;simpa using hput⟩,rfl⟩) Y47
 exact List.mem_map.2 ⟨e.m,this,hid⟩
theorem GI.put (g:GI n W C0 T) (hw:WoB c kb W) {k u:Nat} (hk:k<n) (hu:u<5) {s:ByteArray} {pri:Int} {body:ByteArray} (he:putE (W.H k) u s pri body=0):GI n (W.setH k (putH (W.H k) u s pri body,W.D k)) C0 T:=by
 obtain⟨x,hx,e1,e2,h⟩:=g.at hk
 rw[e1]at he ⊢
 rw[e2]
 have hB:=(hw.hs k x hx).B
 obtain⟨h1,hid⟩:=h.put hB hu he
 refine g.same h1 (by rw[putH_names];exact g.nms k x hx) fun v y hy p hp=>?_
 have hun:(putH x.1 u s pri body).units=x.1.units.set u ⟨(x.1.uAt u).puts++[(putM x.1 s pri body,(plR x.1 s).2.1)],(x.1.uAt u).gets⟩:=by
  unfold putH
  rw[if_pos he]
  unfold putU
  dsimp only
  rw[setA_units,Int.toNat_natCast]
 have hux:=uAt_of hB hu
 rw[hun]at hy
 rcases unit_set Y32 hy with⟨rfl,rfl⟩|⟨hne,hy⟩
 ·rcases List.mem_append.1 hp with hp|hp
  ·exact g.fresh k x hx v _ hux p hp
  ·simp at hp;subst hp
   dsimp only
   intro hm
   obtain⟨m,hm,e⟩:=List.mem_map.1 hm
   obtain⟨o,ho,a,b⟩:=g.gc.org m hm
   have hn4:=hw.n1
   rw[g.hn]at hn4
   have :o=k:=by rw[e,hid]at a;omega
   subst this
   have h2:=h.nx
   have b:m.id/4<(C0 o).next:=b
   rw[e,hid]at b
   omega
 ·exact g.fresh k x hx v y hy p hp
theorem GI.get (g:GI n W C0 T) (hw:WoB c kb W) {k u:Nat} (hk:k<n) (hu:u<5) {s:ByteArray} (he:getE (W.H k) u s=0):GI n (W.setH k (getH (W.H k) u s,W.D k)) C0 T∧getM (W.H k) u s∈T:=by
 obtain⟨x,hx,e1,e2,h⟩:=g.at hk
 rw[e1]at he ⊢
 rw[e2]
 have hB:=(hw.hs k x hx).B
 obtain⟨h1,i,hid,h4⟩:=h.get hB hu he
 refine⟨g.same h1 (by rw[getH_names];exact g.nms k x hx) fun v y hy p hp=>?_,g.kept_in hk (y:=(i,_)) (by rw[e1];exact hid) h4⟩
 have hun:(getH x.1 u s).units=x.1.units.set u ⟨(x.1.uAt u).puts,(x.1.uAt u).gets++[((qgetM (x.1.qAt ((x.1.qI s).getD 0))).id,s)]⟩:=by
  unfold getH
  rw[if_pos he]
  rfl
 have hux:=uAt_of hB hu
 rw[hun]at hy
 rcases unit_set Y32 hy with⟨rfl,rfl⟩|⟨hne,hy⟩
 ·exact g.fresh k x hx v _ hux p hp
 ·exact g.fresh k x hx v y hy p hp
theorem GI.back (g:GI n W C0 T) (hw:WoB c kb W) {k u:Nat} (hk:k<n) (hu:u<5) (he:bkE (W.H k) u=0):GI n (W.setH k (bkH (W.H k) u,W.D k)) C0 T:=by
 obtain⟨x,hx,e1,e2,h⟩:=g.at hk
 rw[e1]at he ⊢
 rw[e2]
 have hB:=(hw.hs k x hx).B
 refine g.same (h.back hB hu he) (by rw[bkH_names];exact g.nms k x hx) fun v y hy p hp=>?_
 have hun:(bkH x.1 u).units=x.1.units.set u noUnit:=by
  unfold bkH
  rw[if_pos he]
  rfl
 rw[hun]at hy
 rcases unit_set Y32 hy with⟨rfl,rfl⟩|⟨hne,hy⟩
 ·cases hp
 ·exact g.fresh k x hx v y hy p hp
theorem GI.commitF (g:GI n W C0 T) (hw:WoB c kb W) {k u:Nat} (hk:k<n) (hu:u<5) (he:cmE (W.H k) (W.D k) u≠0):GI n (W.setH k (cmH (W.H k) (W.D k) u,cmD (W.H k) (W.D k) u)) C0 T:=by
 obtain⟨x,hx,e1,e2,h⟩:=g.at hk
 rw[e1,e2]at he ⊢
 refine g.same (h.commitF (hw.hs k x hx) hu he) (by rw[cmH_names];exact g.nms k x hx) (g.units hx ?_)
 rw[cmH_units,if_neg he]
def overT (T:List Ms) (x:Unt):List Ms:=(x.puts.map (·.1)++T).filter fun m=> !decide (m.id∈x.gets.map (·.1))
theorem GI.commit (g:GI n W C0 T) (hw:WoB c kb W) (hK:kb≤1000000000000) (hc:c≤250) {k u:Nat} (hk:k<n) (hu:u<5) (he:cmE (W.H k) (W.D k) u=0):
 ∃C1,GI n (W.setH k (cmH (W.H k) (W.D k) u,cmD (W.H k) (W.D k) u)) C1 (overT T ((W.H k).uAt u)):=by
 obtain⟨x,hx,e1,e2,h⟩:=g.at hk
 rw[e1,e2]at he ⊢
 have hb:=hw.hs k x hx
 have hn4:=hw.n1
 rw[g.hn]at hn4
 obtain⟨H3,h1,h2,h3,h4,h5,h6,h7⟩:=h.commit hb (by omega) hK hc hu he
 have hux:=uAt_of hb.B hu
 have hun:=cmH_units (H:=x.1) (D:=x.2) (u:Int)
 rw[if_pos he,Int.toNat_natCast]at hun
 generalize hy:x.1.uAt u=y at h2 h7 hux ⊢
 have ui:=h.unit u y hux
 obtain⟨hox,-⟩:=hb.units y (List.mem_of_getElem? hux)
 have hPm:(y.puts.map fun p=>(jOf x.1 p.1,p.1)).map (·.2)=y.puts.map (·.1):=by rw[List.map_map];rfl
 have hPi:(y.puts.map fun p=>(jOf x.1 p.1,p.1)).map idY=y.puts.map fun p=>p.1.id:=by rw[List.map_map];rfl
 have hfr:=g.fresh k x hx u y hux
 have hgc:=GC.commit (c:=crOf H3) g.gc hk (P:=y.puts.map fun p=>(jOf x.1 p.1,p.1)) (G:=y.gets.map (·.1)) h2
  (by show bcAt H3=bcAt (C0 k);funext d;unfold bcAt;rw[h3]) (by show snAt H3=snAt (C0 k);funext d;unfold snAt;rw[h4]) (by show avAt H3=avAt (C0 k);funext d;unfold avAt;rw[h5]) h6
  (fun z hz=>by
   obtain⟨p,hp,rfl⟩:=List.mem_map.1 hz
   obtain⟨-,a,-⟩:=ui.puts p hp
   obtain⟨-,-,-,-,-,-,m7,m8⟩:=msRight_parts (hox.puts p hp)
   refine⟨?_,by rw[←h.hid];exact a,h7 p hp⟩
   dsimp only
   unfold jOf
   split
   ·rename_i hh
    right
    intro e
    have :=h.hid
    exact hh (by omega)
   ·left;omega)
  (by rw[hPi];exact ui.pn)
  (fun z hz=>by
   obtain⟨p,hp,rfl⟩:=List.mem_map.1 hz
   exact hfr p hp)
  (fun z hz=>by
   obtain⟨p,hp,rfl⟩:=List.mem_map.1 hz
   obtain⟨-,-,e,he1,-,he2,he3⟩:=ui.puts p hp
   intro hm
   obtain⟨w,hw1,hw2⟩:=List.mem_map.1 hm
   obtain⟨e',hw3,rfl⟩:=List.mem_map.1 hw1
   obtain⟨e4,a1,a2,a3,a4⟩:=h.in0 hw3
   have a5:e4.m.id=p.1.id:=by rw[a3];exact hw2
   have :e4=e:=nodup_inj h.nod a1 he1 (by unfold idE;rw[he2];exact a5)
   rw[this,he3]at a4;omega)
  (fun i hi=>by
   obtain⟨p,hp,rfl⟩:=List.mem_map.1 hi
   obtain⟨i,-,e,a1,a2,a3,a4,-⟩:=ui.gets p hp
   obtain⟨e',b1,b2,b3⟩:=h.to0 a1 a4
   exact⟨jmE e',List.mem_map_of_mem b1,by show 4≤e'.j;omega,by rw[←a3];show e'.m.id=e.m.id;rw[b3]⟩)
 rw[hPm]at hgc
 have hsub:∀q,q∉T.map (·.id)→q∉(y.puts.map fun p=>p.1.id)→q∉(overT T y).map (·.id):=fun q hq1 hq2 hm=>by
  unfold overT at hm
  obtain⟨m,hm5,rfl⟩:=List.mem_map.1 hm
  rcases List.mem_append.1 (List.mem_filter.1 hm5).1 with h8|h8
  ·obtain⟨p,hp,rfl⟩:=List.mem_map.1 h8
   exact hq2 (List.mem_map_of_mem (f:=fun p:Ms×Int=>p.1.id) hp)
  ·exact hq1 (List.mem_map_of_mem (f:=(·.id)) h8)
 refine⟨_,g.set h1 hgc (by rw[cmH_names];exact g.nms k x hx) (fun v z hz p hp=>?_) fun i x' hne hx' v z hz p hp=>?_⟩
 ·rw[hun]at hz
  rcases unit_set (by rw[hb.B.units];exact hu) hz with⟨rfl,rfl⟩|⟨hne,hz⟩
  ·cases hp
  ·refine hsub _ (g.fresh k x hx v z hz p hp) fun hm=>?_
   obtain⟨q,hq,e⟩:=List.mem_map.1 hm
   obtain⟨-,-,e3,a1,-,a2,a3⟩:=(h.unit v z hz).puts p hp
   obtain⟨-,-,e4,b1,-,b2,b3⟩:=ui.puts q hq
   have :e3=e4:=nodup_inj h.nod a1 b1 (by unfold idE;rw[a2,b2];exact e.symm)
   rw[this,b3]at a3
   exact hne (by omega)
 ·refine hsub _ (g.fresh i x' hx' v z hz p hp) fun hm=>?_
  obtain⟨q,hq,e⟩:=List.mem_map.1 hm
  have a1:=((g.hi i x' hx').unit v z hz).puts p hp |>.2.1
  have b1:=(ui.puts q hq).2.1
  rw[(g.hi i x' hx').hid]at a1
  rw[h.hid]at b1
  have e:q.1.id=p.1.id:=e
  exact hne (by omega)
end
end WB
/- worlds: each message is once: what goes between houses -/
namespace WB
open Go
section
variable {c kb n:Nat} {W:Wo} {C0:Nat→Ho} {T:List Ms}
theorem setH_H {W:Wo} {k:Nat} {x:Ho×Dk} (i:Nat):(W.setH k x).H i=if i=k∧k<W.hs.length then x.1 else W.H i:=by
 unfold Wo.H Wo.at' Wo.setH
 dsimp only
 rw[List.getD_eq_getElem?_getD,List.getD_eq_getElem?_getD,List.getElem?_set]
 by_cases e:k=i
 ·subst e
  by_cases h:k<W.hs.length
  ·rw[if_pos rfl,if_pos h,if_pos ⟨rfl,h⟩];rfl
  ·rw[if_pos rfl,if_neg h,if_neg (fun x=>h x.2),List.getElem?_eq_none (by omega)]
 ·rw[if_neg e,if_neg (fun x=>e x.1.symm)]
def UnS (W W':Wo):Prop:= ∀i,(W'.H i).units=(W.H i).units
theorem UnS.refl (W:Wo):UnS W W:=fun _=>rfl
theorem UnS.trans {A B C:Wo} (h:UnS A B) (g:UnS B C):UnS A C:=fun i=>(g i).trans (h i)
theorem UnS.set {k:Nat} {x:Ho×Dk} (h:x.1.units=(W.H k).units):UnS W (W.setH k x):=fun i=>by
 rw[setH_H]
 split
 ·rename_i h1;rw[h1.1];exact h
 ·rfl
theorem UnS.hs {W W':Wo} (h:W'.hs=W.hs):UnS W W':=fun i=>by unfold Wo.H Wo.at';rw[h]
theorem UnS.wput (W:Wo) (g:Gm):UnS W (wPut W g):=UnS.hs (wPut_hs _ _)
theorem UnS.wsend (W:Wo) (dst:Int) (f:Fr) (l:List Ms):UnS W (wSend W dst f l):=UnS.hs (wSend_hs _ _ _ _)
theorem UnS.se (W:Wo) (k dst:Int):UnS W (seW W k dst):=by
 unfold seW
 split
 ·have h1:UnS W (seW1 W k dst):=by unfold seW1;exact UnS.set (btH_units _ _ _)
  split
  ·exact h1.trans (UnS.wsend _ _ _ _)
  ·exact h1
 ·exact UnS.refl W
theorem UnS.cm (W:Wo) (g:Gm):UnS W (cmW W g):=by
 unfold cmW
 split
 ·exact UnS.set (caH_units _ _ _ _)
 ·split
  ·exact(UnS.set (arH_units _ _ _ _ _)).trans (UnS.wsend _ _ _ _)
  ·exact UnS.set (arH_units _ _ _ _ _)
theorem UnS.out (W:Wo) (i:Nat):UnS W (outW W i):=UnS.hs rfl
theorem UnS.de (W:Wo) (i:Int):UnS W (deW W i):=by
 unfold deW;split
 ·exact(UnS.out W _).trans (UnS.cm _ _)
 ·exact UnS.refl W
theorem UnS.lo (W:Wo) (i:Int):UnS W (loW W i):=by
 unfold loW;split
 ·exact UnS.out W _
 ·exact UnS.refl W
theorem UnS.tw (W:Wo) (i:Int):UnS W (twW W i):=by
 unfold twW;split
 ·exact UnS.wput _ _
 ·exact UnS.refl W
theorem UnS.floN:∀(f:Nat) (W:Wo),UnS W (floN f W)
 |0,W=>UnS.refl W
 |f+1,W=>by
  unfold WB.floN;split
  ·exact UnS.refl W
  ·exact(UnS.de W 0).trans (UnS.floN f _)
theorem UnS.flo (W:Wo):UnS W (floW W):=UnS.floN _ W
theorem UnS.clP (W:Wo) (k dst:Nat):UnS W (clP W k dst):=by
 unfold WB.clP;split
 ·exact(UnS.se W k dst).trans (UnS.flo _)
 ·exact UnS.se W k dst
theorem UnS.fold {α:Type} {f:Wo→α→Wo} (h:∀W a,UnS W (f W a)):∀(l:List α) (W:Wo),UnS W (l.foldl f W)
 |[],W=>UnS.refl W
 |a::l,W=>by rw[List.foldl_cons];exact(h W a).trans (UnS.fold h l _)
theorem UnS.clQ (m:Nat) (W:Wo) (k:Nat):UnS W (clQ m W k):=UnS.fold (fun W a=>UnS.clP W k a) _ W
theorem GI.cut (g:GI n W C0 T) {k:Nat} (hk:k<n) (t m:Int):GI n (W.setH k ({W.H k with torn:=t},dkCut (W.D k) m)) C0 T:=by
 obtain⟨x,hx,e1,e2,h⟩:=g.at hk
 rw[e1,e2]
 exact g.same ((h.torn t).cut m) (g.nms k x hx) (g.units hx rfl)
theorem GI.cut0 (g:GI n W C0 T) {k:Nat} (hk:k<n) (m:Int):GI n (W.setH k (W.H k,dkCut (W.D k) m)) C0 T:=by
 obtain⟨x,hx,e1,e2,h⟩:=g.at hk
 rw[e1,e2]
 exact g.same (h.cut m) (g.nms k x hx) (g.units hx rfl)
theorem GI.reH (g:GI n W C0 T) {k:Nat} (hk:k<n):GI n (reH W k) C0 T∧((reH W k).H k).units=List.replicate 5 ⟨[],[]⟩:=by
 obtain⟨x,hx,e1,e2,h⟩:=g.at hk
 unfold WB.reH
 rw[e2]
 have h1:=(h.cut (-1)).reopen
 rw[(h.cut (-1)).opened]
 have hu:=h.units0
 refine⟨g.same h1 (by rw[h.names];exact g.nms k x hx) (fun u y hy p hp=>?_),?_⟩
 ·rw[hu]at hy
  have :=List.eq_of_mem_replicate (List.mem_of_getElem? hy)
  subst this
  cases hp
 ·rw[setH_H,if_pos ⟨rfl,by rw[g.hn];exact hk⟩]
  exact hu
theorem seE_parts {k d:Int} (h:seE W k d=0):W.is k=true∧W.is d=true∧btE (W.H k.toNat) (W.D k.toNat) d=0:=by
 unfold seE at h
 split at h
 ·rename_i h1;exact⟨h1.1,h1.2,h⟩
 ·cases h
theorem btE_parts {H:Ho} {D:Dk} {a:Int} (h:btE H D a=0):btPE H a=0∧(btNew H a=true→logE H D=0):=by
 unfold btE at h
 by_cases h1:btPE H a≠0
 ·rw[if_pos h1]at h;exact absurd h h1
 ·rw[if_neg h1]at h
  refine⟨by simpa using h1,fun h2=>?_⟩
  rw[if_pos h2]at h;exact h
theorem btPE_right {H:Ho} {a:Int} (h:btPE H a=0):rightK H a=true:=by
 unfold btPE at h
 split at h
 ·cases h
 ·rename_i h1;simpa using h1
theorem batL_at {H0 H:Ho} {D:Dk} {k m:Nat} (h:HI k H D H0) (hB:HoB m H) {d:Nat} (hd:d<4):((qkept (H.wAt d)).filter (inB (bcAt H d))).Perm (batL (crOf H0) d):=by
 rw[←hk_at hB.ways hd]
 unfold batL
 refine(h.sim.filter _).map _ |>.trans (List.Perm.of_eq ?_)
 have e:bcAt H0 d=bcAt H d:=by unfold bcAt;rw[h.bt]
 congr 2
 funext y
 unfold batB inB
 rw[show(crOf H0).bt d=bcAt H0 d from rfl,e];rfl
theorem GI.se (g:GI n W C0 T) (hw:WoB c kb W) (hK:kb≤1000000000000) (k d:Int):∃C1,GI n (seW W k d) C1 T:=by
 unfold seW
 split
 ·rename_i hh
  have hk:=wo_is' hh.1
  have hd:=wo_is' hh.2
  have hn:=g.hn
  have hn4:=hw.n1
  obtain⟨x,hx,e1,e2,h⟩:=g.at (k:=k.toNat) (by omega)
  have hb:=hw.hs _ x hx
  have hbt:=hb.bt d
  have hnm:=g.nms _ x hx
  have hkk:((k.toNat:Nat):Int)=k:=by omega
  have hdd:((d.toNat:Nat):Int)=d:=by omega
  have hd4:d.toNat<4:=by omega
  have key:∃C1,GI n (seW1 W k d) C1 T∧HI k.toNat (btH x.1 x.2 d) (btD x.1 x.2 d) (C1 k.toNat)∧(∀i,i≠k.toNat→C1 i=C0 i):=by
   unfold seW1
   rw[e1,e2]
   by_cases hN:btNew x.1 d=true∧logE x.1 x.2=0
   ·obtain⟨H3,h1,h2,h3,h4,h5,h6,h7,h8,-⟩:=h.made hb hN.1 hN.2
    have hr:=rightK_iff.1 (btNew_parts hN.1).1
    have h0:bcAt (C0 k.toNat) d.toNat=[]:=by
     have :=(btNew_parts hN.1).2.2.1
     unfold bcAt at this ⊢;rw[h.bt];exact this
    have hB0:=(h.B0 hb (by omega) hK).1
    have hgc:=GC.made (c:=crOf H3) g.gc (k:=k.toNat) (d:=d.toNat) (by omega) (by omega) (by have :=h.hid;omega) hd4 h7 h0 h8 (by unfold crOf;rw[h2];rfl)
     (fun b=>by show bcAt H3 b=_;unfold bcAt;rw[h3,getD_set (by rw[hB0.batch];exact hd4)];rfl)
     (fun b=>by show snAt H3 b=_;unfold snAt;rw[h4,getD_set (by rw[hB0.sent];exact hd4)];rfl)
     (by show avAt H3=avAt (C0 k.toNat);funext b;unfold avAt;rw[h5]) h6
    refine⟨updH C0 k.toNat H3,g.set h1 hgc (by rw[btH_names];exact hnm) (g.units hx (btH_units _ _ _)) (fun i x _ hx=>g.fresh i x hx),?_,fun i hi=>?_⟩
    ·unfold updH;rw[if_pos rfl];exact h1
    ·unfold updH;rw[if_neg hi]
   ·have h1:=h.madeF hb (a:=d) (by
     by_cases h2:btNew x.1 d=true
     ·exact .inr fun h3=>hN ⟨h2,h3⟩
     ·exact .inl Y52)
    exact⟨C0,g.same h1 (by rw[btH_names];exact hnm) (g.units hx (btH_units _ _ _)),h1,fun _ _=>rfl⟩
  obtain⟨C1,g1,h1,hC⟩:=key
  split
  ·rename_i hse
   obtain⟨-,-,hbe⟩:=seE_parts hse
   rw[e1,e2]at hbe
   obtain⟨hp,-⟩:=btE_parts hbe
   have hr:=rightK_iff.1 (btPE_right hp)
   have hne:k.toNat≠d.toNat:=by have :=h.hid;omega
   refine⟨C1,g1.wsend ⟨k.toNat,d.toNat,hkk.symm,hdd.symm,by omega,by omega,hne,(fun hh=>by cases hh),fun _=>?_⟩⟩
   dsimp only
   rw[e1,e2]
   have hN:btN x.1 x.2 d=snAt (C1 k.toNat) d.toNat:=by
    unfold btN
    rw[if_pos hbe]
    unfold snAt;rw[h1.sn]
   have hL:(btL x.1 x.2 d).Perm (batL (crOf (C1 k.toNat)) d.toNat):=by
    unfold btL
    rw[if_pos hbe]
    exact batL_at h1 hbt.B hd4
   rw[hN]
   refine⟨Int.le_refl _,fun _ h2=>⟨fun h3=>?_,hL⟩⟩
   have :=(g1.gc.pr k.toNat d.toNat (by omega) (by omega) hne).2.2 h3
   have h2:avAt (C1 d.toNat) k.toNat<snAt (C1 k.toNat) d.toNat:=h2
   have this :avAt (C1 d.toNat) k.toNat=snAt (C1 k.toNat) d.toNat:=this
   omega
  ·exact⟨C1,g1⟩
 ·exact⟨C0,g⟩
theorem GI.cm (g:GI n W C0 T) (hw:WoB c kb W) (hK:kb≤1000000000000) {m:Gm} (hm:FrOk n (CC C0) m) (hmb:GmB W.hs.length m):∃C1,GI n (cmW W m) C1 T:=by
 obtain⟨a,b,f1,f2,ha,hb,hab,f3,f4⟩:=hm.ok
 have hn:=g.hn
 have hn4:=hw.n1
 have hbn:m.to.toNat=b:=by rw[f2];rfl
 have han:m.f.frm.toNat=a:=by rw[f1];rfl
 obtain⟨x,hx,e1,e2,h⟩:=g.at (k:=b) hb
 have hxb:=hw.hs _ x hx
 have hnm:=g.nms _ x hx
 have hB0:=(h.B0 hxb (by omega) hK).1
 have ha4:a<4:=by omega
 unfold cmW
 rw[hbn,e1,e2]
 split
 ·rename_i hack
  by_cases hc:caPE x.1 m.f.frm m.f.num=0∧logE x.1 x.2=0
  ·obtain⟨q1,-,q3,q4⟩:=caPE_parts hc.1
   obtain⟨H3,h1,h2,h3,h4,h5,h6⟩:=h.known hxb (by omega) hK hc.1 hc.2
   rw[han]at h2 h3 q3 q4
   have hfa:=f3 hack
   have ebt:bcAt (C0 b) a=bcAt x.1 a:=by unfold bcAt;rw[h.bt]
   have esn:snAt (C0 b) a=snAt x.1 a:=by unfold snAt;rw[h.sn]
   have hgc:=GC.known (c:=crOf H3) g.gc (k:=b) (d:=a) hb ha (fun e=>hab e.symm) (by omega) (by show bcAt (C0 b) a≠[];rw[ebt];exact q3) (by show snAt (C0 b) a≤avAt (C0 a) b;have :m.f.num≤avAt (C0 a) b:=hfa;omega) h2
    (fun d=>by show bcAt H3 d=_;unfold bcAt;rw[h3,getD_set (by rw[hB0.batch];exact ha4)];rfl)
    (by show snAt H3=snAt (C0 b);funext d;unfold snAt;rw[h4]) (by show avAt H3=avAt (C0 b);funext d;unfold avAt;rw[h5]) h6
   exact⟨_,g.set h1 hgc (by rw[caH_names];exact hnm) (g.units hx (caH_units _ _ _ _)) (fun i x _ hx=>g.fresh i x hx)⟩
  ·have h1:=h.knownF (a:=m.f.frm) (num:=m.f.num) (by
    by_cases h2:caPE x.1 m.f.frm m.f.num=0
    ·exact .inr fun h3=>hc ⟨h2,h3⟩
    ·exact .inl h2)
   exact⟨C0,g.same h1 (by rw[caH_names];exact hnm) (g.units hx (caH_units _ _ _ _))⟩
 ·rename_i hack
  have hack:m.f.ack=false:=by simpa using hack
  obtain⟨f5,f6⟩:=f4 hack
  have hl:m.l.length≤250:=by have :=hmb.ok;unfold okF at this;omega
  have key:∃C1,GI n (W.setH b (arH x.1 x.2 m.f.frm m.f.num m.l,arD x.1 x.2 m.f.frm m.f.num m.l)) C1 T∧HI b (arH x.1 x.2 m.f.frm m.f.num m.l) (arD x.1 x.2 m.f.frm m.f.num m.l) (C1 b):=by
   by_cases hc:arW x.1 m.f.frm m.f.num m.l=true∧logE x.1 x.2=0
   ·obtain⟨q1,-,q3,-⟩:=arW_parts hc.1
    obtain⟨H3,P,h1,h2,h3,h4,h5,h6,h7,h8,-⟩:=h.came hxb (by omega) hK hl hc.1 hc.2
    rw[han]at h7 q3
    have eav:avAt (C0 b) a=avAt x.1 a:=by unfold avAt;rw[h.av]
    have hpr:=g.gc.pr a b ha hb hab
    have p1:avAt (C0 b) a≤snAt (C0 a) b∧snAt (C0 a) b≤avAt (C0 b) a+1:=⟨hpr.1,hpr.2.1⟩
    have f5':m.f.num≤snAt (C0 a) b:=f5
    have hsn:snAt (C0 a) b=avAt (C0 b) a+1:=by omega
    obtain⟨q5,q6⟩:=f6 (show m.f.num=snAt (C0 a) b by omega) (show avAt (C0 b) a<m.f.num by omega)
    have hgc:=GC.came (c:=crOf H3) g.gc (k:=a) (d:=b) ha hb hab (by omega) h3 q5 hsn (by rw[h2];exact q6) h4
     (by
      have :=h1.ids0
      unfold crOf
      rw[List.map_map];exact this)
     (by show bcAt H3=bcAt (C0 b);funext d;unfold bcAt;rw[h5]) (by show snAt H3=snAt (C0 b);funext d;unfold snAt;rw[h6])
     (fun d=>by show avAt H3 d=_;unfold avAt;rw[h7,getD_set (by rw[hB0.arrived];exact ha4)];rfl) h8
    refine⟨_,g.set h1 hgc (by rw[arH_names];exact hnm) (g.units hx (arH_units _ _ _ _ _)) (fun i x _ hx=>g.fresh i x hx),?_⟩
    unfold updH;rw[if_pos rfl];exact h1
   ·have h1:=h.cameF (a:=m.f.frm) (num:=m.f.num) hl (by
     by_cases h2:arW x.1 m.f.frm m.f.num m.l=true
     ·exact .inr fun h3=>hc ⟨h2,h3⟩
     ·exact .inl Y52)
    exact⟨C0,g.same h1 (by rw[arH_names];exact hnm) (g.units hx (arH_units _ _ _ _ _)),h1⟩
  obtain⟨C1,g1,h1⟩:=key
  split
  ·rename_i har
   refine⟨C1,g1.wsend ⟨b,a,f2,f1,hb,ha,fun e=>hab e.symm,fun _=>?_,fun hh=>by cases hh⟩⟩
   dsimp only
   show arNo x.1 x.2 m.f.frm m.f.num m.l≤avAt (C1 b) a
   unfold arNo
   rw[if_pos har,han]
   unfold avAt;rw[h1.av];exact Int.le_refl _
  ·exact⟨C1,g1⟩
theorem GI.de (g:GI n W C0 T) (hw:WoB c kb W) (hK:kb≤1000000000000) (i:Int):∃C1,GI n (deW W i) C1 T:=by
 unfold deW
 split
 ·rename_i h0
  obtain⟨h1,h2⟩:=waE_z h0
  have hm:=List.mem_of_getElem? (gmAt_of (W:=W) (i:=i.toNat) (by omega))
  exact(g.out i.toNat).cm (hw.out i.toNat) hK (g.gc.fr _ hm) (hw.way _ hm)
 ·exact⟨C0,g⟩
theorem GI.lo (g:GI n W C0 T) (i:Int):GI n (loW W i) C0 T:=by
 unfold loW
 split
 ·exact g.out _
 ·exact g
theorem GI.tw (g:GI n W C0 T) (i:Int):GI n (twW W i) C0 T:=by
 unfold twW
 split
 ·rename_i h0
  obtain⟨h1,h2⟩:=waE_z h0
  have hm:=List.mem_of_getElem? (gmAt_of (W:=W) (i:=i.toNat) (by omega))
  exact g.wput (g.gc.fr _ hm)
 ·exact g
theorem GI.floN:∀(f:Nat) {kb:Nat} {W:Wo} {C0:Nat→Ho},GI n W C0 T→WoB c kb W→kb+2*f≤1000000000000→∃C1,GI n (floN f W) C1 T
 |0,_,_,C0,g,_,_=>⟨C0,g⟩
 |f+1,kb,W,C0,g,hw,hK=>by
  unfold WB.floN
  split
  ·exact⟨C0,g⟩
  ·obtain⟨C1,g1⟩:=g.de hw (by omega) 0
   exact GI.floN f g1 (hw.de 0) (by omega)
theorem GI.flo (g:GI n W C0 T) (hw:WoB c kb W) (hK:kb+400≤1000000000000):∃C1,GI n (floW W) C1 T:=g.floN _ hw (by have :=wayW_le hw;omega)
theorem GI.clP (g:GI n W C0 T) (hw:WoB c kb W) (hK:kb+402≤1000000000000) (k d:Nat):∃C1,GI n (clP W k d) C1 T:=by
 obtain⟨C1,g1⟩:=g.se hw (by omega) k d
 unfold WB.clP
 split
 ·exact g1.flo (hw.se k d) (by omega)
 ·exact⟨C1,g1⟩
theorem GI.fold {α:Type} {f:Wo→α→Wo} {b:Nat} (h:∀W a kb C0,GI n W C0 T→WoB c kb W→kb+b≤1000000000000→WoB c (kb+b) (f W a)∧∃C1,GI n (f W a) C1 T):∀(l:List α) {kb:Nat} {W:Wo} {C0:Nat→Ho},GI n W C0 T→WoB c kb W→kb+b *l.length≤1000000000000→∃C1,GI n (l.foldl f W) C1 T
 |[],_,_,C0,g,_,_=>⟨C0,g⟩
 |a::l,kb,W,C0,g,hw,hK=>by
  rw[List.length_cons,Nat.mul_succ]at hK
  obtain⟨h1,C1,g1⟩:=h W a kb C0 g hw (by omega)
  rw[List.foldl_cons]
  exact GI.fold h l g1 h1 (by omega)
theorem GI.clQ (g:GI n W C0 T) (hw:WoB c kb W) (hK:kb+1608≤1000000000000) (k:Nat) {m:Nat} (hm:m≤4):∃C1,GI n (clQ m W k) C1 T:=
 g.fold (f:=fun W d=>WB.clP W k d) (b:=402) (fun W a kb C0 g hw hK=>⟨hw.clP k a,g.clP hw hK k a⟩) (List.range m) hw Y27
theorem GI.clA (g:GI n W C0 T) {k:Nat} (hk:k<n):GI n (clA W k) C0 T:=by
 unfold WB.clA
 have g1:=g.cut0 hk (-1)
 split
 ·exact(g1.reH hk).1
 ·exact g1
theorem GI.clAs:∀(l:List Nat) {W:Wo},GI n W C0 T→(∀k∈l,k<n)→GI n (l.foldl WB.clA W) C0 T
 |[],_,g,_=>g
 |k::l,W,g,h=>GI.clAs l (g.clA (h k (by simp))) fun j hj=>h j (by simp[hj])
theorem GI.clU (g:GI n W C0 T) (hw:WoB c kb W) (hK:kb+400≤1000000000000):∃C1,GI n (clU W) C1 T:=by
 have hn:=g.hn
 unfold WB.clU
 exact(GI.clAs _ g fun k hk=>by rw[←hn];exact List.mem_range.1 hk).flo (WoB.clAs (by omega) _ W hw fun k hk=>List.mem_range.1 hk) (by omega)
theorem GI.clR (g:GI n W C0 T) (hw:WoB c kb W) (hK:kb+10000≤1000000000000):∃C1,GI n (clR W) C1 T:=by
 have hn:=hw.n1
 obtain⟨C1,g1⟩:=g.clU hw (by omega)
 unfold WB.clR
 exact g1.fold (b:=1608) (fun W' a kb' C0 g hw hK=>⟨hw.clQ a hn.2,g.clQ hw hK a hn.2⟩) (List.range W.hs.length) (hw.clU (by omega)) Y27
theorem clA_units (g:GI n W C0 T) {k:Nat} (hk:k<n) (i:Nat):((clA W k).H i).units=if i=k∧(W.H k).down=true then List.replicate 5 ⟨[],[]⟩else(W.H i).units:=by
 have hn:=g.hn
 unfold WB.clA
 have u1:UnS W (W.setH k (W.H k,dkCut (W.D k) (-1))):=UnS.set rfl
 split
 ·rename_i hd
  by_cases e:i=k
  ·subst e
   rw[if_pos ⟨rfl,hd⟩]
   exact((g.cut0 hk (-1)).reH hk).2
  ·rw[if_neg (fun x=>e x.1)]
   unfold reH
   rw[setH_H,if_neg (fun x=>e x.1)]
   exact u1 i
 ·rename_i hd
  rw[if_neg (fun x=>hd x.2)]
  exact u1 i
theorem clA_down {k:Nat} (i:Nat) (hi:i≠k):((clA W k).H i).down=(W.H i).down:=by
 unfold WB.clA
 split
 ·unfold reH
  rw[setH_H,if_neg (fun x=>hi x.1),setH_H,if_neg (fun x=>hi x.1)]
 ·rw[setH_H,if_neg (fun x=>hi x.1)]
theorem clAs_units:∀(l:List Nat) {W:Wo},GI n W C0 T→(∀k∈l,k<n)→l.Nodup→∀i,((l.foldl WB.clA W).H i).units=if i∈l∧(W.H i).down=true then List.replicate 5 ⟨[],[]⟩else(W.H i).units
 |[],_,_,_,_,i=>by simp
 |k::l,W,g,h,hnd,i=>by
  rw[List.nodup_cons]at hnd
  rw[List.foldl_cons,clAs_units l (g.clA (h k (by simp))) (fun j hj=>h j (by simp[hj])) hnd.2 i,clA_units g (h k (by simp)) i]
  by_cases e:i=k
  ·subst e
   rw[if_neg (fun x=>hnd.1 x.1)]
   simp
  ·rw[clA_down i e]
   by_cases hd:(W.H i).down=true<;>by_cases hm:i∈l<;>simp[e,hd,hm]
theorem clR_units (g:GI n W C0 T) {i:Nat} (hi:i<n):((clR W).H i).units=if(W.H i).down=true then List.replicate 5 ⟨[],[]⟩else(W.H i).units:=by
 have hn:=g.hn
 unfold WB.clR
 rw[UnS.fold (fun W a=>UnS.clQ _ W a) _ _ i]
 unfold WB.clU
 rw[UnS.flo _ i,clAs_units _ g (fun k hk=>by rw[←hn];exact List.mem_range.1 hk) List.nodup_range i]
 have :i∈List.range W.hs.length:=List.mem_range.2 (by omega)
 simp[this]
end
end WB
/- what the law HouseCrashes keeps -/
namespace WB
open Go Go.RowKit
structure AcK where
 what:Int
 k:Int
 n:Int
 m:Int
 unit:Int
def ackC (x:AcK):List Value:=[.int .i64 x.what,.int .i64 x.k,.int .i64 x.n,.int .i64 x.m,.int .i64 x.unit]
def iC (x:Int):List Value:=[.int .i64 x]
structure Hs where
 i:Nat
 bh:Nat
 H:Ho
 H0:Ho
 D:Dk
 R:List ByteArray
 T:List Int
 us:List Value
 P:List (List Int)
 vs:List Value
 G:List (List Int)
structure HsOk (c:Nat) (s:Hs):Prop where
 L:LInv wInOut 0 c s.H s.H0 s.D s.R s.T (fun u=>s.P.getD u []) (fun u=>s.G.getD u [])
 us:s.us.length=5
 P:s.P.length=5
 vs:s.vs.length=5
 G:s.G.length=5
def qOf (k:Nat):ByteArray:=if k=0 then inS else outS
end WB
/- the tale: its model -/
namespace WB
open Go
theorem HdB.put {c kb k:Nat} {x:Ho×Dk} (h:HdB c kb k x) (u:Int) (s:ByteArray) (pri:Int) (body:ByteArray) (hm:∀y∈x.1.units,y.puts.length+y.gets.length≤600):HdB (c+1) kb k (putH x.1 u s pri body,x.2):=by
 by_cases he:putE x.1 u s pri body=0
 ·obtain⟨hp2,hq0,hmr,-⟩:=putE_z he
  obtain⟨hj,-,-⟩:=plJ_lt h.B hp2
  have hB:=h.B.put u s pri body
  have e1:putH x.1 u s pri body=putU {x.1.setA (plJ x.1 s) (qpush (x.1.aAt (plJ x.1 s)) (putM x.1 s pri body) u)with next:=x.1.next+1} u.toNat ⟨(x.1.uAt u.toNat).puts++[(putM x.1 s pri body,(plR x.1 s).2.1)],(x.1.uAt u.toNat).gets⟩:=by
   unfold putH
   rw[if_pos he]
   unfold qput
   rw[if_pos hq0]
  rw[e1]at hB ⊢
  refine⟨(setA_id _ _).trans h.id,hB.le (by show _≤300+(c+1)+250*(x.1.setA _ _).used;rw[setA_used];omega),h.len,h.left,h.size,h.recs,fun y hy=>?_,?_,?_⟩
  ·have hy:y∈(x.1.setA (plJ x.1 s) (qpush (x.1.aAt (plJ x.1 s)) (putM x.1 s pri body) u)).units.set u.toNat ⟨(x.1.uAt u.toNat).puts++[(putM x.1 s pri body,(plR x.1 s).2.1)],(x.1.uAt u.toNat).gets⟩:=hy
   rw[setA_units]at hy
   rcases List.mem_or_eq_of_mem_set hy with h1|rfl
   ·exact⟨(h.units y h1).1,by have :=(h.units y h1).2;omega⟩
   ·rcases Nat.lt_or_ge u.toNat x.1.units.length with hu|hu
    ·have h2:=uAt_of h.B (u:=u.toNat) (by have :=h.B.units;omega)
     have h3:=List.mem_of_getElem? h2
     obtain⟨a,b⟩:=h.units _ h3
     have h4:=hm _ h3
     refine⟨⟨fun p hp=>?_,a.gets,by dsimp only;simp;omega⟩,by dsimp only;simp;omega⟩
     rcases List.mem_append.1 hp with hp|hp
     ·exact a.puts p hp
     ·simp at hp;subst hp;exact hmr
    ·have :(x.1.uAt u.toNat)=⟨[],[]⟩:=by unfold Ho.uAt;rw[List.getD_eq_getElem?_getD,List.getElem?_eq_none hu];rfl
     rw[this]
     refine⟨⟨fun p hp=>?_,(fun g hg=>by cases hg),by simp⟩,by simp⟩
     simp at hp;subst hp;exact hmr
  ·refine WR.of (H:=x.1.setA (plJ x.1 s) (qpush (x.1.aAt (plJ x.1 s)) (putM x.1 s pri body) u)) ?_ rfl
   unfold Ho.setA
   split
   ·rename_i h4
    refine h.ways.setW fun e he=>?_
    rcases qpush_mem he with rfl|he
    ·exact hmr
    ·rw[aAt_w h.B.ways h4]at he;exact h.ways.at' _ e he
   ·exact h.ways.of rfl
  ·have h1:(x.1.setA (plJ x.1 s) (qpush (x.1.aAt (plJ x.1 s)) (putM x.1 s pri body) u)).queues.length=x.1.queues.length:=setA_qlen _ _
   have h2:(x.1.setA (plJ x.1 s) (qpush (x.1.aAt (plJ x.1 s)) (putM x.1 s pri body) u)).used=x.1.used:=setA_used _ _
   show(x.1.setA _ _).queues.length≤2+(x.1.setA _ _).used
   rw[h1,h2];exact h.ql
 ·have :putH x.1 u s pri body=x.1:=by unfold putH;rw[if_neg he]
  rw[this];exact h.mono (Nat.le_succ c) (Nat.le_refl _)
theorem getE_z {H:Ho} {u:Int} {s:ByteArray} (he:getE H u s=0):∃i,H.qI s=some i∧qgetE (H.qAt i)=0∧H.down=false∧(s=deadS∨localB H.names s=true):=by
 have h0:=he
 unfold getE at h0
 split at h0
 ·cases h0
 ·cases hq:H.qI s with
  |none=>rw[hq]at h0;cases h0
  |some i=>
   rw[hq]at h0
   dsimp only at h0
   split at h0
   ·cases h0
   ·rename_i h1
    split at h0
    ·cases h0
    ·rename_i h2
     refine⟨i,rfl,h0,by simpa using h2,?_⟩
     by_cases hd:s=deadS
     ·exact .inl hd
     ·cases hl:localB H.names s with
      |true=>exact .inr rfl
      |false=>exact absurd ⟨hd,hl⟩ h1
theorem HdB.get {c kb k:Nat} {x:Ho×Dk} (h:HdB c kb k x) (u:Int) {s:ByteArray} (hs:wordB s=true) (hm:∀y∈x.1.units,y.puts.length+y.gets.length≤600):HdB (c+1) kb k (getH x.1 u s,x.2):=by
 by_cases he:getE x.1 u s=0
 ·obtain⟨i,hqi,hq0,-,-⟩:=getE_z he
  have hB:=h.B.get u s
  obtain⟨q,hik⟩:∃q,qgetI (x.1.qAt i)=some q:=by
   unfold qgetE at hq0
   split at hq0
   ·cases hq0
   ·rename_i q hk1;exact⟨q,hk1⟩
  obtain⟨hkl,-,-⟩:=List.findIdx?_eq_some_iff_getElem.1 hik
  have hgm:qgetM (x.1.qAt i)=((x.1.qAt i).l[q]).m:=by unfold qgetM;rw[hik];dsimp only;rw[itAt_of (List.getElem?_eq_getElem hkl)]
  have hids:=(h.B.qa (qI_lt hqi).1).ids _ (List.getElem_mem hkl)
  rw[←hgm]at hids
  have e1:getH x.1 u s=putU (x.1.setQ i (qget (x.1.qAt i) u)) u.toNat ⟨(x.1.uAt u.toNat).puts,(x.1.uAt u.toNat).gets++[((qgetM (x.1.qAt i)).id,s)]⟩:=by
   unfold getH
   rw[if_pos he,hqi]
   rfl
  rw[e1]at hB ⊢
  refine⟨h.id,hB.le (by show _≤300+(c+1)+250*x.1.used;omega),h.len,h.left,h.size,h.recs,fun y hy=>?_,h.ways.of rfl,by show(x.1.setQ _ _).queues.length≤_;rw[setQ_len];exact h.ql⟩
  have hy:y∈x.1.units.set u.toNat ⟨(x.1.uAt u.toNat).puts,(x.1.uAt u.toNat).gets++[((qgetM (x.1.qAt i)).id,s)]⟩:=hy
  rcases List.mem_or_eq_of_mem_set hy with h1|rfl
  ·exact⟨(h.units y h1).1,by have :=(h.units y h1).2;omega⟩
  ·rcases Nat.lt_or_ge u.toNat x.1.units.length with hu|hu
   ·have h2:=uAt_of h.B (u:=u.toNat) (by have :=h.B.units;omega)
    have h3:=List.mem_of_getElem? h2
    obtain⟨a,b⟩:=h.units _ h3
    have h4:=hm _ h3
    refine⟨⟨a.puts,fun g hg=>?_,by dsimp only;simp;omega⟩,by dsimp only;omega⟩
    rcases List.mem_append.1 hg with hg|hg
    ·exact a.gets g hg
    ·simp at hg;subst hg;exact⟨hids.1,hids.2,hs⟩
   ·have :(x.1.uAt u.toNat)=⟨[],[]⟩:=by unfold Ho.uAt;rw[List.getD_eq_getElem?_getD,List.getElem?_eq_none hu];rfl
    rw[this]
    refine⟨⟨(fun p hp=>by cases hp),fun g hg=>?_,by simp⟩,by simp⟩
    simp at hg;subst hg;exact⟨hids.1,hids.2,hs⟩
 ·have :getH x.1 u s=x.1:=by unfold getH;rw[if_neg he]
  rw[this];exact h.mono (Nat.le_succ c) (Nat.le_refl _)
theorem HdB.bk {c kb k:Nat} {x:Ho×Dk} (h:HdB c kb k x) (u:Int):HdB c kb k (bkH x.1 u,x.2):=by
 have hB:=h.B.bk u
 unfold bkH at hB ⊢
 split
 ·rename_i h0
  rw[if_pos h0]at hB
  refine⟨h.id,hB.le (by show _≤300+c+250*x.1.used;omega),h.len,h.left,h.size,h.recs,fun y hy=>?_,fun q hq=>?_,by show(hEnds x.1 u).queues.length≤2+x.1.used;unfold hEnds;simpa using h.ql⟩
  ·have hy:y∈x.1.units.set u.toNat noUnit:=hy
   rcases List.mem_or_eq_of_mem_set hy with h1|rfl
   ·exact h.units y h1
   ·exact⟨⟨(fun p hp=>by cases hp),(fun g hg=>by cases hg),by decide⟩,Nat.zero_le _⟩
  ·have hq:q∈x.1.ways.map fun q=>qends q u true:=hq
   obtain⟨q0,h1,rfl⟩:=List.mem_map.1 hq
   intro e he
   unfold qends at he
   split at he
   ·exact h.ways q0 h1 e he
   ·obtain⟨e0,h2,rfl⟩:=List.mem_map.1 he
    exact h.ways q0 h1 e0 (List.mem_filter.1 h2).1
 ·exact h
theorem HdB.cm {c kb k:Nat} {x:Ho×Dk} (h:HdB c kb k x) (hc:c≤240) {u:Nat} (hu:u<5):HdB c (kb+1) k (cmH x.1 x.2 u,cmD x.1 x.2 u):=by
 have hux:=uAt_of h.B hu
 have hum:=List.mem_of_getElem? hux
 obtain⟨hox,hpm⟩:=h.units _ hum
 have hrec:RecOk 250 (recU (x.1.uAt u)):=hox.recK (by omega)
 have hw:=h.write hrec (bar_rec hox)
 by_cases h1:cmPE x.1 u≠0
 ·unfold cmH cmD
  rw[if_pos h1,if_pos h1]
  exact h.mono (Nat.le_refl _) (Nat.le_succ _)
 by_cases h2:logE x.1 x.2≠0
 ·unfold cmH cmD
  rw[if_neg h1,if_neg h1,if_pos h2,Int.toNat_natCast]
  unfold wrH at hw
  rw[if_neg h2]at hw
  exact hw
 have hB:=h.B.cm (D:=x.2) (u:Int) fun y hy=>(h.units y hy).1
 have hun:=cmH_units (H:=x.1) (D:=x.2) (u:Int)
 have h1':cmPE x.1 u=0:=by simpa using h1
 have h2':logE x.1 x.2=0:=by simpa using h2
 have he:cmE x.1 x.2 u=0:=by unfold cmE;rw[if_neg h1];exact h2'
 rw[if_pos he,Int.toNat_natCast]at hun
 rw[Int.toNat_natCast]at hB
 have eD:cmD x.1 x.2 u=logD x.1 x.2 (recU (x.1.uAt u)):=by unfold cmD;rw[if_neg h1,Int.toNat_natCast]
 have eH:cmH x.1 x.2 u=(hends (putU (hEnds (logH x.1 x.2) u) u noUnit) (recB (x.1.uAt u))).1:=by
  unfold cmH;rw[if_neg h1,if_neg h2,Int.toNat_natCast]
 obtain⟨eL,-,-,-⟩:=logE_parts h2' (recU (x.1.uAt u))
 have eU:(cmH x.1 x.2 u).used=x.1.used+1:=by
  rw[eH,(hends_same _ _).used,eL];rfl
 refine⟨?_,hB.le (by dsimp only;rw[eU];omega),by dsimp only;rw[eD];exact hw.len,by dsimp only;rw[eD];exact hw.left,by dsimp only;rw[eD];exact hw.size,by dsimp only;rw[eD];exact hw.recs,fun y hy=>?_,?_,?_⟩
 ·dsimp only
  rw[eH,(hends_same _ _).id,eL];exact h.id
 ·dsimp only at hy
  rw[hun]at hy
  rcases List.mem_or_eq_of_mem_set hy with h3|rfl
  ·exact h.units y h3
  ·exact⟨⟨(fun p hp=>by cases hp),(fun g hg=>by cases hg),by decide⟩,Nat.zero_le _⟩
 ·dsimp only
  rw[eH]
  refine hends_WR ?_ _
  intro q hq
  have hq:q∈(logH x.1 x.2).ways.map fun q=>qends q u true:=hq
  rw[logH_ways]at hq
  obtain⟨q0,h1,rfl⟩:=List.mem_map.1 hq
  intro e he
  unfold qends at he
  split at he
  ·exact h.ways q0 h1 e he
  ·obtain⟨e0,h2,rfl⟩:=List.mem_map.1 he
   exact h.ways q0 h1 e0 (List.mem_filter.1 h2).1
 ·dsimp only
  rw[eU,eH,hends_ql]
  have h3:(putU (hEnds (logH x.1 x.2) u) u noUnit).queues.length=x.1.queues.length:=by
   rw[eL];unfold putU hEnds;simp
  rw[h3]
  have :=h.ql
  omega
theorem getK_mem {κ β:Type} [DecidableEq κ] {m:List (κ×β)} (hn:(m.map (·.1)).Nodup) {x:κ×β} (h:x∈m):getK m x.1=some x.2:=by
 induction m with
 |nil=>cases h
 |cons y r ih=>
  rw[List.map_cons,List.nodup_cons]at hn
  rcases List.mem_cons.1 h with rfl|h
  ·rw[getK,if_pos rfl]
  ·have hne:¬y.1=x.1:=fun e=>hn.1 (by rw[e];exact List.mem_map_of_mem (f:=(·.1)) h)
   rw[getK,if_neg hne]
   exact ih hn.2 h
theorem putK_new {κ β:Type} [DecidableEq κ] {m:List (κ×β)} {k:κ} (h:k∉m.map (·.1)) (v:β):putK m k v=m++[(k,v)]:=by
 induction m with
 |nil=>rfl
 |cons x r ih=>
  rw[List.map_cons,List.mem_cons,not_or]at h
  rw[putK,if_neg fun e=>h.1 e.symm,ih h.2];rfl
theorem delK_filter {κ β:Type} [DecidableEq κ] {m:List (κ×β)} (hn:(m.map (·.1)).Nodup) (k:κ):delK m k=m.filter fun x=> !decide (x.1=k):=by
 induction m with
 |nil=>rfl
 |cons x r ih=>
  rw[List.map_cons,List.nodup_cons]at hn
  rw[delK,List.filter_cons]
  by_cases e:x.1=k
  ·rw[if_pos e,if_neg (by simp[e]),List.filter_eq_self.2]
   intro y hy
   have :y.1≠k:=fun e2=>hn.1 (by rw[e,←e2];exact List.mem_map_of_mem (f:=(·.1)) hy)
   simpa using this
  ·rw[if_neg e,if_pos (by simpa using e),ih hn.2]
structure TaS where
 n:Nat
 W:Wo
 T:List (Int×Ms)
 P:List (List Ms)
 G:List (List Int)
 ks:List Int
 Ls:List (List Int)
 ok:Bool
def xS:ByteArray:=⟨#[120]⟩
def q3S (k:Nat):ByteArray:=if k=0 then inS else if k=1 then outS else farS
def ordI (ks:List Int) (x:Int):Option Nat:=ks.findIdx? fun k=>decide (k=x)
def ordK (ks:List Int) (x:Int):List Int:=match ordI ks x with|some _=>ks|none=>ks++[x]
def ordL (ks:List Int) (Ls:List (List Int)) (x id:Int):List (List Int):=match ordI ks x with|some i=>Ls.set i (Ls.getD i []++[id])|none=>Ls++[[id]]
structure OvS where
 T:List (Int×Ms)
 ks:List Int
 Ls:List (List Int)
def ovP (k:Nat) (s:OvS) (m:Ms):OvS:=
 if m.house≠(k:Int)then⟨putK s.T m.id m,ordK s.ks ((k:Int)*100+m.pri),ordL s.ks s.Ls ((k:Int)*100+m.pri) m.id⟩else⟨putK s.T m.id m,s.ks,s.Ls⟩
def ovG (s:List (Int×Ms)×Bool) (id:Int):List (Int×Ms)×Bool:=(delK s.1 id,s.2&&(getK s.1 id).isSome)
def ix (k u:Nat):Nat:=k *5+u
def taOver (S:TaS) (k u:Nat):TaS:=
 let o:=(S.P.getD (ix k u) []).foldl (ovP k) ⟨S.T,S.ks,S.Ls⟩
 let g:=(S.G.getD (ix k u) []).foldl ovG (o.T,S.ok)
 {S with T:=g.1,ks:=o.ks,Ls:=o.Ls,ok:=g.2,P:=S.P.set (ix k u) [],G:=S.G.set (ix k u) []}
def nil5 {α:Type} (P:List (List α)) (k:Nat):List (List α):=(List.range 5).foldl (fun P u=>P.set (ix k u) []) P
def taForget (S:TaS) (k:Nat):TaS:={S with P:=nil5 S.P k,G:=nil5 S.G k}
def taPutM (n k:Nat) (id pri:Int) (q:ByteArray):Ms:=if q=farS then⟨id,pri,xS,inS,((k:Int)+1)%n⟩else⟨id,pri,xS,q,k⟩
def taPut (S:TaS) (k u:Nat) (q:ByteArray) (pri:Int):TaS:=
 let S1:={S with W:=S.W.setH k (putH (S.W.H k) u q pri xS,S.W.D k)}
 if putE (S.W.H k) u q pri xS=0 then {S1 with P:=S.P.set (ix k u) (S.P.getD (ix k u) []++[taPutM S.n k (putI (S.W.H k) u q pri xS) pri q])}else S1
def taGet (S:TaS) (k u:Nat) (q:ByteArray):TaS:=
 let m:=getM (S.W.H k) u q
 let S1:={S with W:=S.W.setH k (getH (S.W.H k) u q,S.W.D k)}
 if getE (S.W.H k) u q=0 then {S1 with ok:=S.ok&&decide ((getK S.T m.id).getD zeroMs=m),G:=S.G.set (ix k u) (S.G.getD (ix k u) []++[m.id])}else S1
def taCom (S:TaS) (k u:Nat):TaS:=
 let S1:={S with W:=S.W.setH k (cmH (S.W.H k) (S.W.D k) u,cmD (S.W.H k) (S.W.D k) u)}
 if cmE (S.W.H k) (S.W.D k) u=0 then taOver S1 k u else S1
def taBk (S:TaS) (k u:Nat):TaS:=
 let S1:={S with W:=S.W.setH k (bkH (S.W.H k) u,S.W.D k)}
 if bkE (S.W.H k) u=0 then {S1 with P:=S.P.set (ix k u) [],G:=S.G.set (ix k u) []}else S1
def taDown (S:TaS) (k:Nat):TaS:=if(S.W.H k).down=true then taForget S k else S
def taCalm (S:TaS):TaS:={(List.range S.n).foldl taDown S with W:=calm 1 S.W}
def taI (S:TaS) (x:AcK):Int:=if 0<S.W.way.length then pk x.n (S.W.way.length:Nat)else 0
def taK (S:TaS) (x:AcK):Nat:=(pk x.k (S.n:Nat)).toNat
def taU (x:AcK):Nat:=(pk x.unit 5).toNat
def taDoes (S:TaS) (x:AcK):TaS:=
 if x.what=0 then taPut S (taK S x) (taU x) (q3S (pk x.n 3).toNat) (pk x.m 3)
 else if x.what=1 then taGet S (taK S x) (taU x) (if pk x.m 5=0 then deadS else q3S (pk x.n 2).toNat)
 else if x.what=2 then taCom S (taK S x) (taU x)
 else if x.what=3 then taBk S (taK S x) (taU x)
 else if x.what=4 then {S with W:=seW S.W (taK S x) (((taK S x:Nat)+1)%(S.n:Int))}
 else if x.what=5 then {S with W:=deW S.W (taI S x)}
 else if x.what=6 then {S with W:=loW S.W (taI S x)}
 else if x.what=7 then {S with W:=twW S.W (taI S x)}
 else if x.what=8 then {S with W:=wCut S.W (taK S x) (pk x.n 4) (pk x.m 150-1)}
 else if x.what=9 then {taForget S (taK S x)with W:=wRe S.W (taK S x)}
 else if x.what=10 then taCalm S
 else S
end WB
/- the tale: what holds all the time -/
namespace WB
open Go
section
variable {c kb n:Nat} {W W':Wo} {C0:Nat→Ho} {T T':List Ms}
theorem GI.perm (g:GI n W C0 T) (h:T.Perm T'):GI n W C0 T':=
 ⟨g.hn,g.hi,g.gc.perm h,fun k x hx u y hy p hp hm=>g.fresh k x hx u y hy p hp ((h.map _).mem_iff.2 hm),g.nms⟩
theorem setH_self {k:Nat} (h:k<W.hs.length):W.setH k (W.H k,W.D k)=W:=by
 unfold Wo.setH Wo.H Wo.D Wo.at'
 rw[List.getD_eq_getElem?_getD,List.getElem?_eq_getElem h]
 show({W with hs:=W.hs.set k (W.hs[k])}:Wo)=W
 rw[List.set_getElem_self]
def PT (W:Wo) (P:List (List Ms)):Prop:=P.length=20∧∀k u,k<4→u<5→P[ix k u]? =some (((W.H k).uAt u).puts.map (·.1))
def GT (W:Wo) (G:List (List Int)):Prop:=G.length=20∧∀k u,k<4→u<5→G[ix k u]? =some (((W.H k).uAt u).gets.map (·.1))
theorem uAt_units {H H':Ho} (h:H'.units=H.units) (u:Nat):H'.uAt u=H.uAt u:=by unfold Ho.uAt;rw[h]
theorem PT.same {P:List (List Ms)} (h:PT W P) (hu:UnS W W'):PT W' P:=⟨h.1,fun k u hk hu5=>by rw[uAt_units (hu k)];exact h.2 k u hk hu5⟩
theorem GT.same {P:List (List Int)} (h:GT W P) (hu:UnS W W'):GT W' P:=⟨h.1,fun k u hk hu5=>by rw[uAt_units (hu k)];exact h.2 k u hk hu5⟩
theorem uAt_set {W:Wo} {k i u v:Nat} {H':Ho} {D':Dk} {y:Unt} (hk:k<W.hs.length) (hu:u<5) (h5:(W.H k).units.length=5) (hun:H'.units=(W.H k).units.set u y):
 ((W.setH k (H',D')).H i).uAt v=if i=k∧v=u then y else(W.H i).uAt v:=by
 rw[setH_H]
 by_cases e:i=k
 ·subst e
  rw[if_pos ⟨rfl,hk⟩]
  unfold Ho.uAt
  dsimp only
  rw[hun,List.getD_eq_getElem?_getD,List.getD_eq_getElem?_getD,List.getElem?_set]
  by_cases e2:u=v
  ·rw[if_pos e2,if_pos (by omega),if_pos ⟨rfl,e2.symm⟩];rfl
  ·rw[if_neg e2,if_neg (fun x=>e2 x.2.symm)]
 ·rw[if_neg (fun x=>e x.1),if_neg (fun x=>e x.1)]
theorem ix_inj {k u i v:Nat} (hu:u<5) (hv:v<5):ix i v=ix k u↔i=k∧v=u:=by unfold ix;omega
theorem PT.set {P:List (List Ms)} (h:PT W P) {k u:Nat} (hk:k<W.hs.length) (hk4:k<4) (hu:u<5) {H':Ho} {D':Dk} {y:Unt} (h5:(W.H k).units.length=5) (hun:H'.units=(W.H k).units.set u y) {l:List Ms} (hl:l=y.puts.map (·.1)):PT (W.setH k (H',D')) (P.set (ix k u) l):=by
 refine⟨by simpa using h.1,fun i v hi hv=>?_⟩
 rw[uAt_set hk hu h5 hun,List.getElem?_set]
 by_cases e:i=k∧v=u
 ·rw[if_pos ((ix_inj hu hv).2 e).symm,if_pos (by rw[h.1];unfold ix;omega),if_pos e,hl]
 ·rw[if_neg (fun x=>e ((ix_inj hu hv).1 x.symm)),if_neg e];exact h.2 i v hi hv
theorem GT.set {P:List (List Int)} (h:GT W P) {k u:Nat} (hk:k<W.hs.length) (hk4:k<4) (hu:u<5) {H':Ho} {D':Dk} {y:Unt} (h5:(W.H k).units.length=5) (hun:H'.units=(W.H k).units.set u y) {l:List Int} (hl:l=y.gets.map (·.1)):GT (W.setH k (H',D')) (P.set (ix k u) l):=by
 refine⟨by simpa using h.1,fun i v hi hv=>?_⟩
 rw[uAt_set hk hu h5 hun,List.getElem?_set]
 by_cases e:i=k∧v=u
 ·rw[if_pos ((ix_inj hu hv).2 e).symm,if_pos (by rw[h.1];unfold ix;omega),if_pos e,hl]
 ·rw[if_neg (fun x=>e ((ix_inj hu hv).1 x.symm)),if_neg e];exact h.2 i v hi hv
theorem PT.stay {P:List (List Ms)} (h:PT W P) {k u:Nat} (hk:k<W.hs.length) (hk4:k<4) (hu:u<5) {H':Ho} {D':Dk} {y:Unt} (h5:(W.H k).units.length=5) (hun:H'.units=(W.H k).units.set u y) (hl:y.puts=((W.H k).uAt u).puts):PT (W.setH k (H',D')) P:=by
 refine⟨h.1,fun i v hi hv=>?_⟩
 rw[uAt_set hk hu h5 hun]
 split
 ·rename_i e;rw[hl,h.2 i v hi hv,e.1,e.2]
 ·exact h.2 i v hi hv
theorem GT.stay {P:List (List Int)} (h:GT W P) {k u:Nat} (hk:k<W.hs.length) (hk4:k<4) (hu:u<5) {H':Ho} {D':Dk} {y:Unt} (h5:(W.H k).units.length=5) (hun:H'.units=(W.H k).units.set u y) (hl:y.gets=((W.H k).uAt u).gets):GT (W.setH k (H',D')) P:=by
 refine⟨h.1,fun i v hi hv=>?_⟩
 rw[uAt_set hk hu h5 hun]
 split
 ·rename_i e;rw[hl,h.2 i v hi hv,e.1,e.2]
 ·exact h.2 i v hi hv
theorem nil5_get {α:Type} {P:List (List α)} (hP:P.length=20) {k i v:Nat} (hk:k<4) (hi:i<4) (hv:v<5):(nil5 P k)[ix i v]? =if i=k then some []else P[ix i v]? :=by
 have key:∀(l:List Nat) (P:List (List α)),P.length=20→(∀u∈l,u<5)→(l.foldl (fun P u=>P.set (ix k u) []) P)[ix i v]? =if i=k∧v∈l then some []else P[ix i v]? :=by
  intro l
  induction l with
  |nil=>intro P _ _;simp
  |cons a l ih=>
   intro P hP hl
   have ha:=hl a (by simp)
   have hset:(P.set (ix k a) [])[ix i v]? =if i=k∧v=a then some []else P[ix i v]? :=by
    rw[List.getElem?_set]
    by_cases e:i=k∧v=a
    ·rw[if_pos ((ix_inj ha hv).2 e).symm,if_pos (by rw[hP];unfold ix;omega),if_pos e]
    ·rw[if_neg (fun x=>e ((ix_inj ha hv).1 x.symm)),if_neg e]
   rw[List.foldl_cons,ih _ (by simpa using hP) (fun u hu=>hl u (by simp[hu])),hset]
   by_cases e1:i=k<;>by_cases e2:v=a<;>by_cases e3:v∈l<;>simp[e1,e2,e3]
 unfold nil5
 rw[key _ _ hP (fun u hu=>List.mem_range.1 hu)]
 by_cases e:i=k
 ·rw[if_pos ⟨e,List.mem_range.2 hv⟩,if_pos e]
 ·rw[if_neg (fun x=>e x.1),if_neg e]
theorem nil5_len {α:Type} (P:List (List α)) (k:Nat):(nil5 P k).length=P.length:=by
 have key:∀(l:List Nat) (P:List (List α)),(l.foldl (fun P u=>P.set (ix k u) []) P).length=P.length:=by
  intro l
  induction l with
  |nil=>intro P;rfl
  |cons a l ih=>intro P;rw[List.foldl_cons,ih];simp
 exact key _ P
theorem uAt_rep {H:Ho} (h:H.units=List.replicate 5 ⟨[],[]⟩) (u:Nat):H.uAt u=⟨[],[]⟩:=by
 unfold Ho.uAt
 rw[h,List.getD_eq_getElem?_getD,List.getElem?_replicate]
 split<;>rfl
theorem PT.nil {P:List (List Ms)} (h:PT W P) {k:Nat} (hk4:k<4) (h1:(W'.H k).units=List.replicate 5 ⟨[],[]⟩) (h2:∀i,i≠k→(W'.H i).units=(W.H i).units):PT W' (nil5 P k):=by
 refine⟨by rw[nil5_len];exact h.1,fun i v hi hv=>?_⟩
 rw[nil5_get h.1 hk4 hi hv]
 by_cases e:i=k
 ·subst e;rw[if_pos rfl,uAt_rep h1];rfl
 ·rw[if_neg e,uAt_units (h2 i e)];exact h.2 i v hi hv
theorem GT.nil {P:List (List Int)} (h:GT W P) {k:Nat} (hk4:k<4) (h1:(W'.H k).units=List.replicate 5 ⟨[],[]⟩) (h2:∀i,i≠k→(W'.H i).units=(W.H i).units):GT W' (nil5 P k):=by
 refine⟨by rw[nil5_len];exact h.1,fun i v hi hv=>?_⟩
 rw[nil5_get h.1 hk4 hi hv]
 by_cases e:i=k
 ·subst e;rw[if_pos rfl,uAt_rep h1];rfl
 ·rw[if_neg e,uAt_units (h2 i e)];exact h.2 i v hi hv
end
structure TaI (c kb:Nat) (S:TaS):Prop where
 n2:2≤S.n∧S.n≤4
 B:WoB c kb S.W
 gi:∃C0,GI S.n S.W C0 (S.T.map (·.2))
 key:∀x∈S.T,x.1=x.2.id
 um:∀k,∀y∈(S.W.H k).units,y.puts.length+y.gets.length≤c
 P:PT S.W S.P
 G:GT S.W S.G
 ok:S.ok=true
section
variable {c kb:Nat} {S:TaS}
theorem TaI.keys (h:TaI c kb S):(S.T.map (·.1)).Nodup∧S.T.map (·.1)=(S.T.map (·.2)).map (·.id):=by
 obtain⟨C0,g⟩:=h.gi
 have e:S.T.map (·.1)=(S.T.map (·.2)).map (·.id):=by
  rw[List.map_map]
  exact List.map_congr_left fun x hx=>h.key x hx
 exact⟨by rw[e];exact g.gc.tn,e⟩
theorem TaI.find (h:TaI c kb S) {m:Ms} (hm:m∈S.T.map (·.2)):getK S.T m.id=some m:=by
 obtain⟨x,hx,rfl⟩:=List.mem_map.1 hm
 rw[←h.key x hx]
 exact getK_mem h.keys.1 hx
theorem TaI.net (h:TaI c kb S) {W':Wo} {b:Nat} (hB:WoB c (kb+b) W') (hu:UnS S.W W') (g:∃C0,GI S.n W' C0 (S.T.map (·.2))):TaI c (kb+b) {S with W:=W'}:=
 ⟨h.n2,hB,g,h.key,fun k y hy=>h.um k y (by rw[←hu k];exact hy),h.P.same hu,h.G.same hu,h.ok⟩
theorem TaI.mono (h:TaI c kb S) {c' kb':Nat} (h1:c≤c') (h2:kb≤kb'):TaI c' kb' S:=⟨h.n2,h.B.mono h1 h2,h.gi,h.key,fun k y hy=>Nat.le_trans (h.um k y hy) h1,h.P,h.G,h.ok⟩
theorem TaI.hn (h:TaI c kb S):S.W.hs.length=S.n:=by obtain⟨C0,g⟩:=h.gi;exact g.hn
theorem nm_plR {H:Ho} {k n:Nat} (hid:H.id=(k:Int)) (hk:k<n) (hn:2≤n∧n≤4) (hnm:H.names=nmL k n) {j:Nat}:plR H (q3S j)=if q3S j=farS then(inS,((k:Int)+1)%n,0)else(q3S j,-1,0):=by
 unfold plR
 rw[hid,hnm]
 have hk4:k=0∨k=1∨k=2∨k=3:=by omega
 have hn4:n=2∨n=3∨n=4:=by omega
 have hq:q3S j=inS∨q3S j=outS∨q3S j=farS:=by unfold q3S;split;exact .inl rfl;split;exact .inr (.inl rfl);exact .inr (.inr rfl)
 rcases hq with hq|hq|hq<;>rw[hq]<;>rcases hn4 with rfl|rfl|rfl<;>rcases hk4 with rfl|rfl|rfl|rfl<;>first|(exact absurd hk (by decide))|decide+kernel
theorem setH_units {W:Wo} {k:Nat} {x:Ho×Dk} (hk:k<W.hs.length) {i:Nat} {y:Unt} (hy:y∈((W.setH k x).H i).units):(i=k∧y∈x.1.units)∨y∈(W.H i).units:=by
 rw[setH_H]at hy
 split at hy
 ·rename_i e;exact .inl ⟨e.1,hy⟩
 ·exact .inr hy
theorem TaI.at (h:TaI c kb S) {k:Nat} (hk:k<S.n):∃x,S.W.hs[k]? =some x∧S.W.H k=x.1∧S.W.D k=x.2∧HdB c kb k x∧x.1.names=nmL k S.n∧(S.W.H k).units.length=5:=by
 obtain⟨C0,g⟩:=h.gi
 obtain⟨x,hx,e1,e2,hh⟩:=g.at hk
 exact⟨x,hx,e1,e2,h.B.hs k x hx,g.nms k x hx,by rw[e1];exact(h.B.hs k x hx).B.units⟩
theorem TaI.put (h:TaI c kb S) (hc:c≤200) {k u j:Nat} (hk:k<S.n) (hu:u<5) (pri:Int):TaI (c+1) kb (taPut S k u (q3S j) pri):=by
 obtain⟨x,hx,e1,e2,hb,hnm,h5⟩:=h.at hk
 have hn:=h.hn
 have hn4:=h.n2
 unfold taPut
 dsimp only
 have hum:∀y∈x.1.units,y.puts.length+y.gets.length≤600:=fun y hy=>by
  have :=h.um k y (by rw[e1];exact hy);omega
 have hB1:WoB (c+1) kb (S.W.setH k (putH (S.W.H k) u (q3S j) pri xS,S.W.D k)):=by
  rw[e1,e2]
  exact(h.B.mono (Nat.le_succ c) (Nat.le_refl _)).set (hb.put _ _ _ _ hum)
 split
 ·rename_i he
  obtain⟨C0,g⟩:=h.gi
  have g1:=g.put h.B hk hu he
  have hux:=uAt_of hb.B hu
  have hun:(putH (S.W.H k) u (q3S j) pri xS).units=(S.W.H k).units.set u ⟨((S.W.H k).uAt u).puts++[(putM (S.W.H k) (q3S j) pri xS,(plR (S.W.H k) (q3S j)).2.1)],((S.W.H k).uAt u).gets⟩:=by
   unfold putH
   rw[if_pos he]
   unfold putU
   dsimp only
   rw[setA_units,Int.toNat_natCast]
  have hid:(S.W.H k).id=(k:Int):=by rw[e1];exact hb.id
  have hm:taPutM S.n k (putI (S.W.H k) u (q3S j) pri xS) pri (q3S j)=putM (S.W.H k) (q3S j) pri xS:=by
   unfold putI taPutM putM
   rw[if_pos he]
   have hpl:=nm_plR hid hk hn4 (by rw[e1];exact hnm) (j:=j)
   rw[hpl]
   by_cases hq:q3S j=farS
   ·rw[if_pos hq,if_pos hq]
    have :¬((k:Int)+1)%S.n<0:=by have :=Int.emod_nonneg ((k:Int)+1) (show(S.n:Int)≠0 by omega);omega
    dsimp only
    rw[if_neg this]
   ·rw[if_neg hq,if_neg hq]
    dsimp only
    rw[if_pos (by decide),hid]
  have hPk:=h.P.2 k u (by omega) hu
  have hPd:S.P.getD (ix k u) []=((S.W.H k).uAt u).puts.map (·.1):=by rw[List.getD_eq_getElem?_getD,hPk];rfl
  refine⟨h.n2,hB1,⟨C0,g1⟩,h.key,fun i y hy=>?_,?_,?_,h.ok⟩
  ·rcases setH_units (by omega) hy with⟨-,h1⟩|h1
   ·rw[hun]at h1
    rcases List.mem_or_eq_of_mem_set h1 with h2|rfl
    ·have :=h.um k y h2;omega
    ·have :=h.um k _ (by rw[e1];exact List.mem_of_getElem? hux)
     rw[e1]
     dsimp only
     simp;omega
   ·have :=h.um i y h1;omega
  ·refine h.P.set (by omega) (by omega) hu h5 hun ?_
   rw[hPd,hm]
   dsimp only
   rw[List.map_append];rfl
  ·exact h.G.stay (by omega) (by omega) hu h5 hun rfl
 ·rename_i he
  have e3:putH (S.W.H k) u (q3S j) pri xS=S.W.H k:=by unfold putH;rw[if_neg he]
  rw[e3,setH_self (by omega)]
  exact h.mono (Nat.le_succ c) (Nat.le_refl _)
theorem TaI.get (h:TaI c kb S) (hc:c≤200) {k u:Nat} (hk:k<S.n) (hu:u<5) {q:ByteArray} (hq:wordB q=true):TaI (c+1) kb (taGet S k u q):=by
 obtain⟨x,hx,e1,e2,hb,hnm,h5⟩:=h.at hk
 have hn:=h.hn
 have hn4:=h.n2
 unfold taGet
 dsimp only
 have hum:∀y∈x.1.units,y.puts.length+y.gets.length≤600:=fun y hy=>by
  have :=h.um k y (by rw[e1];exact hy);omega
 have hB1:WoB (c+1) kb (S.W.setH k (getH (S.W.H k) u q,S.W.D k)):=by
  rw[e1,e2]
  exact(h.B.mono (Nat.le_succ c) (Nat.le_refl _)).set (hb.get _ hq hum)
 split
 ·rename_i he
  obtain⟨C0,g⟩:=h.gi
  obtain⟨g1,hin⟩:=g.get h.B hk hu he
  have hux:=uAt_of hb.B hu
  have hun:(getH (S.W.H k) u q).units=(S.W.H k).units.set u ⟨((S.W.H k).uAt u).puts,((S.W.H k).uAt u).gets++[((getM (S.W.H k) u q).id,q)]⟩:=by
   unfold getH getM
   rw[if_pos he,if_pos he]
   rfl
  have hGk:=h.G.2 k u (by omega) hu
  have hGd:S.G.getD (ix k u) []=((S.W.H k).uAt u).gets.map (·.1):=by rw[List.getD_eq_getElem?_getD,hGk];rfl
  refine⟨h.n2,hB1,⟨C0,g1⟩,h.key,fun i y hy=>?_,?_,?_,?_⟩
  ·rcases setH_units (by omega) hy with⟨-,h1⟩|h1
   ·rw[hun]at h1
    rcases List.mem_or_eq_of_mem_set h1 with h2|rfl
    ·have :=h.um k y h2;omega
    ·have :=h.um k _ (by rw[e1];exact List.mem_of_getElem? hux)
     rw[e1]
     dsimp only
     simp;omega
   ·have :=h.um i y h1;omega
  ·exact h.P.stay (by omega) (by omega) hu h5 hun rfl
  ·refine h.G.set (by omega) (by omega) hu h5 hun ?_
   rw[hGd]
   dsimp only
   rw[List.map_append];rfl
  ·dsimp only
   rw[h.ok,h.find hin];simp
 ·rename_i he
  have e3:getH (S.W.H k) u q=S.W.H k:=by unfold getH;rw[if_neg he]
  rw[e3,setH_self (by omega)]
  exact h.mono (Nat.le_succ c) (Nat.le_refl _)
theorem TaI.back (h:TaI c kb S) {k u:Nat} (hk:k<S.n) (hu:u<5):TaI c kb (taBk S k u):=by
 obtain⟨x,hx,e1,e2,hb,hnm,h5⟩:=h.at hk
 have hn:=h.hn
 have hn4:=h.n2
 unfold taBk
 dsimp only
 have hB1:WoB c kb (S.W.setH k (bkH (S.W.H k) u,S.W.D k)):=by
  rw[e1,e2]
  exact h.B.set (hb.bk _)
 split
 ·rename_i he
  obtain⟨C0,g⟩:=h.gi
  have g1:=g.back h.B hk hu he
  have hun:(bkH (S.W.H k) u).units=(S.W.H k).units.set u noUnit:=by
   unfold bkH
   rw[if_pos he]
   rfl
  refine⟨h.n2,hB1,⟨C0,g1⟩,h.key,fun i y hy=>?_,h.P.set (by omega) (by omega) hu h5 hun rfl,h.G.set (by omega) (by omega) hu h5 hun rfl,h.ok⟩
  rcases setH_units (by omega) hy with⟨-,h1⟩|h1
  ·rw[hun]at h1
   rcases List.mem_or_eq_of_mem_set h1 with h2|rfl
   ·exact h.um k y h2
   ·exact Nat.zero_le _
  ·exact h.um i y h1
 ·rename_i he
  have e3:bkH (S.W.H k) u=S.W.H k:=by unfold bkH;rw[if_neg he]
  rw[e3,setH_self (by omega)]
  exact h
theorem ovP_T (k:Nat):∀(l:List Ms) (s:OvS),(s.T.map (·.1)++l.map (·.id)).Nodup→(l.foldl (ovP k) s).T=s.T++l.map fun m=>(m.id,m)
 |[],s,_=>by simp
 |m::l,s,h=>by
  have h1:m.id∉s.T.map (·.1):=fun hm=>by
   rw[List.nodup_append]at h
   exact h.2.2 _ hm m.id (by simp) rfl
  have e:(ovP k s m).T=s.T++[(m.id,m)]:=by
   unfold ovP
   split
   ·exact putK_new h1 m
   ·exact putK_new h1 m
  rw[List.foldl_cons,ovP_T k l _ (by
   rw[e,List.map_append,List.append_assoc]
   exact h),e,List.append_assoc]
  rfl
theorem ovG_all:∀(l:List Int) (T:List (Int×Ms)) (b:Bool),(T.map (·.1)).Nodup→l.Nodup→(∀i∈l,i∈T.map (·.1))→l.foldl ovG (T,b)=(T.filter fun x=> !decide (x.1∈l),b)
 |[],T,b,_,_,_=>by rw[List.filter_eq_self.2 (fun _ _=>by simp)];rfl
 |i::l,T,b,hn,hl,h=>by
  rw[List.nodup_cons]at hl
  have h1:(getK T i).isSome=true:=by
   obtain⟨x,hx,e⟩:=List.mem_map.1 (h i (by simp))
   rw[←e,getK_mem hn hx];rfl
  rw[List.foldl_cons,ovG]
  dsimp only
  rw[h1,Bool.and_true,delK_filter hn,ovG_all l _ b (hn.sublist (List.filter_sublist.map _)) hl.2 fun j hj=>?_]
  ·rw[List.filter_filter]
   congr 1
   apply List.filter_congr
   intro x _
   by_cases e1:x.1=i<;>by_cases e2:x.1∈l<;>simp[e1,e2]
  ·obtain⟨x,hx,e⟩:=List.mem_map.1 (h j (by simp[hj]))
   refine List.mem_map.2 ⟨x,List.mem_filter.2 ⟨hx,?_⟩,e⟩
   have :x.1≠i:=fun e2=>hl.1 (by rw[←e2,e];exact hj)
   simpa using this
theorem TaI.com (h:TaI c kb S) (hc:c≤200) (hK:kb≤1000000000) {k u:Nat} (hk:k<S.n) (hu:u<5):TaI c (kb+1) (taCom S k u):=by
 obtain⟨x,hx,e1,e2,hb,hnm,h5⟩:=h.at hk
 have hn:=h.hn
 have hn4:=h.n2
 unfold taCom
 dsimp only
 have hB1:WoB c (kb+1) (S.W.setH k (cmH (S.W.H k) (S.W.D k) u,cmD (S.W.H k) (S.W.D k) u)):=by
  rw[e1,e2]
  exact(h.B.mono (Nat.le_refl c) (Nat.le_succ _)).set (hb.cm (by omega) hu)
 obtain⟨C0,g⟩:=h.gi
 have hun0:=cmH_units (H:=S.W.H k) (D:=S.W.D k) (u:Int)
 split
 ·rename_i he
  rw[if_pos he,Int.toNat_natCast]at hun0
  obtain⟨C1,g1⟩:=g.commit h.B (by omega) (by omega) hk hu he
  obtain⟨hkn,hke⟩:=h.keys
  have hux:(S.W.H k).units[u]? =some ((S.W.H k).uAt u):=by rw[e1];exact uAt_of hb.B hu
  have hPk:=h.P.2 k u (by omega) hu
  have hPd:S.P.getD (ix k u) []=((S.W.H k).uAt u).puts.map (·.1):=by rw[List.getD_eq_getElem?_getD,hPk];rfl
  have hGk:=h.G.2 k u (by omega) hu
  have hGd:S.G.getD (ix k u) []=((S.W.H k).uAt u).gets.map (·.1):=by rw[List.getD_eq_getElem?_getD,hGk];rfl
  have hgin:=g.gets_in hk hux
  have hui:=(g.hi k x hx).unit u ((S.W.H k).uAt u) (by rw[←e1];exact hux)
  have hfr:=g.fresh k x hx u ((S.W.H k).uAt u) (by rw[←e1];exact hux)
  generalize (S.W.H k).uAt u=y at hPd hGd hgin hui hfr g1
  have hnd:(S.T.map (·.1)++(y.puts.map (·.1)).map (·.id)).Nodup:=by
   rw[List.nodup_append,List.map_map]
   refine⟨hkn,hui.pn,fun a ha b hb=>?_⟩
   obtain⟨p,hp,rfl⟩:=List.mem_map.1 hb
   rw[hke]at ha
   exact fun e=>hfr p hp (by rw[show p.1.id=a from e.symm];exact ha)
  unfold taOver
  dsimp only
  rw[hPd,hGd]
  have hT:=ovP_T k (y.puts.map (·.1)) ⟨S.T,S.ks,S.Ls⟩ hnd
  dsimp only at hT
  rw[hT]
  have hTk:((S.T++(y.puts.map (·.1)).map fun m=>(m.id,m)).map (·.1))=S.T.map (·.1)++(y.puts.map (·.1)).map (·.id):=by
   rw[List.map_append,List.map_map];rfl
  rw[ovG_all _ _ S.ok (by rw[hTk];exact hnd) hui.gn fun i hi=>by
   rw[hTk]
   refine List.mem_append_left _ ?_
   rw[hke];exact hgin i hi]
  dsimp only
  have hTm:((S.T++(y.puts.map (·.1)).map fun m=>(m.id,m)).map (·.2))=S.T.map (·.2)++y.puts.map (·.1):=by
   rw[List.map_append,List.map_map]
   congr 1
   exact List.map_id _
  have hkey:∀z∈S.T++(y.puts.map (·.1)).map fun m=>(m.id,m),z.1=z.2.id:=fun z hz=>by
   rcases List.mem_append.1 hz with h1|h1
   ·exact h.key z h1
   ·obtain⟨m,-,rfl⟩:=List.mem_map.1 h1;rfl
  have hTf:(((S.T++(y.puts.map (·.1)).map fun m=>(m.id,m)).filter fun z=> !decide (z.1∈y.gets.map (·.1))).map (·.2))=(S.T.map (·.2)++y.puts.map (·.1)).filter fun m=> !decide (m.id∈y.gets.map (·.1)):=by
   rw[←hTm,List.filter_map]
   congr 1
   apply List.filter_congr
   intro z hz
   rw[hkey z hz];rfl
  refine⟨h.n2,hB1,⟨C1,g1.perm ?_⟩,fun z hz=>hkey z (List.mem_filter.1 hz).1,fun i z hz=>?_,h.P.set (by omega) (by omega) hu h5 hun0 rfl,h.G.set (by omega) (by omega) hu h5 hun0 rfl,h.ok⟩
  ·dsimp only
   rw[hTf]
   unfold overT
   exact List.perm_append_comm.filter _
  ·rcases setH_units (by omega) hz with⟨-,h1⟩|h1
   ·dsimp only at h1
    rw[hun0]at h1
    rcases List.mem_or_eq_of_mem_set h1 with h2|rfl
    ·exact h.um k z h2
    ·exact Nat.zero_le _
   ·exact h.um i z h1
 ·rename_i he
  rw[if_neg he]at hun0
  exact h.net hB1 (UnS.set hun0) ⟨C0,g.commitF h.B hk hu he⟩
theorem taDowns:∀(l:List Nat) (S:TaS),S.P.length=20→S.G.length=20→(∀k∈l,k<4)→∃P G,l.foldl taDown S={S with P:=P,G:=G}∧P.length=20∧G.length=20∧∀i v,i<4→v<5→(P[ix i v]? =if i∈l∧(S.W.H i).down=true then some []else S.P[ix i v]?)∧(G[ix i v]? =if i∈l∧(S.W.H i).down=true then some []else S.G[ix i v]?)
 |[],S,hP,hG,_=>⟨S.P,S.G,rfl,hP,hG,fun i v _ _=>by simp⟩
 |k::l,S,hP,hG,hl=>by
  have hk:=hl k (by simp)
  by_cases hd:(S.W.H k).down=true
  ·obtain⟨P,G,e,p,g,hh⟩:=taDowns l (taForget S k) (by unfold taForget;dsimp only;rw[nil5_len];exact hP) (by unfold taForget;dsimp only;rw[nil5_len];exact hG) fun j hj=>hl j (by simp[hj])
   refine⟨P,G,by rw[List.foldl_cons,taDown,if_pos hd,e];rfl,p,g,fun i v hi hv=>?_⟩
   obtain⟨a,b⟩:=hh i v hi hv
   unfold taForget at a b
   dsimp only at a b
   rw[nil5_get hP hk hi hv]at a
   rw[nil5_get hG hk hi hv]at b
   rw[a,b]
   by_cases e1:i=k
   ·subst e1;simp[hd]
   ·by_cases e2:i∈l<;>by_cases e3:(S.W.H i).down=true<;>simp[e1,e2,e3]
  ·obtain⟨P,G,e,p,g,hh⟩:=taDowns l S hP hG fun j hj=>hl j (by simp[hj])
   refine⟨P,G,by rw[List.foldl_cons,taDown,if_neg hd,e],p,g,fun i v hi hv=>?_⟩
   obtain⟨a,b⟩:=hh i v hi hv
   rw[a,b]
   by_cases e1:i=k
   ·subst e1;simp[hd]
   ·by_cases e2:i∈l<;>by_cases e3:(S.W.H i).down=true<;>simp[e1,e2,e3]
theorem calm_one (W:Wo):calm 1 W=clR W:=rfl
theorem TaI.calm (h:TaI c kb S) (hK:kb≤1000000000):TaI c (kb+10000) (taCalm S):=by
 have hn:=h.hn
 have hn4:=h.n2
 obtain⟨C0,g⟩:=h.gi
 obtain⟨C1,g1⟩:=g.clR h.B (by omega)
 have hB1:=h.B.clR (by omega)
 obtain⟨P,G,e,p,gl,hh⟩:=taDowns (List.range S.n) S h.P.1 h.G.1 fun k hk=>by have :=List.mem_range.1 hk;omega
 unfold taCalm
 rw[e,calm_one]
 have hu:∀i,((clR S.W).H i).units=if i<S.n∧(S.W.H i).down=true then List.replicate 5 ⟨[],[]⟩else(S.W.H i).units:=fun i=>by
  by_cases hi:i<S.n
  ·rw[clR_units g hi];simp[hi]
  ·rw[if_neg (fun x=>hi x.1)]
   have h1:(S.W.H i)=hNew 0:=by unfold Wo.H Wo.at';rw[List.getD_eq_getElem?_getD,List.getElem?_eq_none (by omega)];rfl
   have h2:((clR S.W).H i)=hNew 0:=by unfold Wo.H Wo.at';rw[List.getD_eq_getElem?_getD,List.getElem?_eq_none (by rw[clR_n];omega)];rfl
   rw[h1,h2]
 refine⟨h.n2,hB1,⟨C1,g1⟩,h.key,fun i y hy=>?_,⟨p,fun i v hi hv=>?_⟩,⟨gl,fun i v hi hv=>?_⟩,h.ok⟩
 ·dsimp only at hy
  rw[hu]at hy
  split at hy
  ·have :=List.eq_of_mem_replicate hy
   subst this;exact Nat.zero_le _
  ·exact h.um i y hy
 ·rw[(hh i v hi hv).1]
  have :i∈List.range S.n↔i<S.n:=List.mem_range
  by_cases e1:i<S.n∧(S.W.H i).down=true
  ·rw[if_pos ⟨this.2 e1.1,e1.2⟩,uAt_rep ((hu i).trans (if_pos e1))];rfl
  ·rw[if_neg (fun x=>e1 ⟨this.1 x.1,x.2⟩),uAt_units ((hu i).trans (if_neg e1))];exact h.P.2 i v hi hv
 ·rw[(hh i v hi hv).2]
  have :i∈List.range S.n↔i<S.n:=List.mem_range
  by_cases e1:i<S.n∧(S.W.H i).down=true
  ·rw[if_pos ⟨this.2 e1.1,e1.2⟩,uAt_rep ((hu i).trans (if_pos e1))];rfl
  ·rw[if_neg (fun x=>e1 ⟨this.1 x.1,x.2⟩),uAt_units ((hu i).trans (if_neg e1))];exact h.G.2 i v hi hv
theorem q3S_word (j:Nat):wordB (q3S j)=true:=by
 unfold q3S
 split
 ·decide+kernel
 ·split<;>decide+kernel
set_option maxHeartbeats 2000000 in
theorem TaI.does (h:TaI c kb S) (hc:c≤200) (hK:kb≤100000000) (x:AcK):TaI (c+1) (kb+10000) (taDoes S x):=by
 have hn:=h.hn
 have hn4:=h.n2
 have hk:taK S x<S.n:=by
  unfold taK
  have :=pk_lt x.k (n:=(S.n:Int)) (by omega);omega
 have hu:taU x<5:=by
  unfold taU
  have :=pk_lt x.unit (n:=5) (by omega);omega
 obtain⟨C0,g⟩:=h.gi
 unfold taDoes
 split
 ·exact(h.put hc hk hu _).mono (Nat.le_refl _) (by omega)
 split
 ·refine(h.get hc hk hu ?_).mono (Nat.le_refl _) (by omega)
  split
  ·exact deadS_word
  ·exact q3S_word _
 split
 ·exact(h.com hc (by omega) hk hu).mono (by omega) (by omega)
 split
 ·exact(h.back hk hu).mono (by omega) (by omega)
 split
 ·exact(h.net (h.B.se _ _) (UnS.se _ _ _) (g.se h.B (by omega) _ _)).mono (by omega) (by omega)
 split
 ·exact(h.net (h.B.de _) (UnS.de _ _) (g.de h.B (by omega) _)).mono (by omega) (by omega)
 split
 ·exact(h.net (b:=0) (h.B.lo _) (UnS.lo _ _) ⟨C0,g.lo _⟩).mono (by omega) (by omega)
 split
 ·exact(h.net (h.B.tw _) (UnS.tw _ _) ⟨C0,g.tw _⟩).mono (by omega) (by omega)
 split
 ·have h4:=pk_lt x.n (n:=4) (by decide)
  have his:S.W.is (taK S x:Nat)=true:=by unfold Wo.is;rw[decide_eq_true_eq];omega
  have hBc:=h.B.cutW (taK S x:Nat) (pk x.m 150-1) (n:=pk x.n 4) (by omega)
  have e:wCut S.W (taK S x:Nat) (pk x.n 4) (pk x.m 150-1)=S.W.setH (taK S x) ({S.W.H (taK S x)with torn:=pk x.m 150-1},dkCut (S.W.D (taK S x)) (pk x.n 4)):=by
   unfold wCut;rw[if_pos his,Int.toNat_natCast]
  rw[e]at hBc ⊢
  exact(h.net (b:=0) hBc (UnS.set rfl) ⟨C0,g.cut hk _ _⟩).mono (by omega) (by omega)
 split
 ·have his:S.W.is (taK S x:Nat)=true:=by unfold Wo.is;rw[decide_eq_true_eq];omega
  have hBr:=h.B.re (by omega) (taK S x:Nat)
  have e:wRe S.W (taK S x:Nat)=reH S.W (taK S x):=by unfold wRe;rw[if_pos his,Int.toNat_natCast]
  rw[e]at hBr ⊢
  obtain⟨g1,hu1⟩:=g.reH hk
  have hu2:∀i,i≠taK S x→((reH S.W (taK S x)).H i).units=(S.W.H i).units:=fun i hi=>by
   unfold reH;rw[setH_H,if_neg (fun x=>hi x.1)]
  have h1:TaI c kb {taForget S (taK S x)with W:=reH S.W (taK S x)}:=by
   refine⟨h.n2,hBr,⟨C0,g1⟩,h.key,fun i y hy=>?_,h.P.nil (by omega) hu1 hu2,h.G.nil (by omega) hu1 hu2,h.ok⟩
   dsimp only at hy
   by_cases e:i=taK S x
   ·rw[e,hu1]at hy
    have :=List.eq_of_mem_replicate hy
    subst this;exact Nat.zero_le _
   ·rw[hu2 i e]at hy;exact h.um i y hy
  exact h1.mono (by omega) (by omega)
 split
 ·exact(h.calm (by omega)).mono (by omega) (by omega)
 ·exact h.mono (by omega) (by omega)
theorem TaI.led (h:TaI c kb S):(ledP S.W).Perm (S.T.map (·.2)):=by
 obtain⟨C0,g⟩:=h.gi
 exact g.led h.B
end
end WB
/- the tale: how its maps and tables lie -/
namespace WB
open Go Go.RowKit
def thM (T:List (Int×Ms)):List (Int×Value):=T.map fun x=>(x.1,.agg (msC x.2).toArray)
theorem thM_put (T:List (Int×Ms)) (k:Int) (m:Ms):putK (thM T) k (.agg (msC m).toArray)=thM (putK T k m):=by
 unfold thM
 induction T with
 |nil=>rfl
 |cons x r ih=>
  rw[List.map_cons,putK,putK]
  dsimp only
  by_cases h:x.1=k
  ·rw[if_pos h,if_pos h];rfl
  ·rw[if_neg h,if_neg h,ih];rfl
theorem thM_get (T:List (Int×Ms)) (k:Int):getK (thM T) k=(getK T k).map fun m=>.agg (msC m).toArray:=by
 unfold thM
 induction T with
 |nil=>rfl
 |cons x r ih=>
  rw[List.map_cons,getK,getK]
  dsimp only
  by_cases h:x.1=k
  ·rw[if_pos h,if_pos h];rfl
  ·rw[if_neg h,if_neg h,ih]
theorem thM_del (T:List (Int×Ms)) (k:Int):delK (thM T) k=thM (delK T k):=by
 unfold thM
 induction T with
 |nil=>rfl
 |cons x r ih=>
  rw[List.map_cons,delK,delK]
  dsimp only
  by_cases h:x.1=k
  ·rw[if_pos h,if_pos h]
  ·rw[if_neg h,if_neg h,ih];rfl
theorem thM_len (T:List (Int×Ms)):(thM T).length=T.length:=by unfold thM;simp
theorem zip_get:∀(ks:List Int) (os:List Value) (x:Int),os.length=ks.length→getK (ks.zip os) x=(ordI ks x).bind fun i=>os[i]?
 |[],[],x,_=>rfl
 |k::ks,o::os,x,h=>by
  have ih:=zip_get ks os x Y56
  unfold ordI at *
  rw[List.zip_cons_cons,getK,List.findIdx?_cons]
  dsimp only
  by_cases e:k=x
  ·simp[e]
  ·simp only[e,decide_false,if_false]
   rw[ih]
   cases List.findIdx? (fun k=>decide (k=x)) ks<;>simp
theorem zip_put_some:∀(ks:List Int) (os:List Value) (x:Int) (v:Value) (i:Nat),os.length=ks.length→ordI ks x=some i→putK (ks.zip os) x v=ks.zip (os.set i v)
 |[],[],x,v,i,_,h=>by cases h
 |k::ks,o::os,x,v,i,hl,h=>by
  unfold ordI at h
  rw[List.findIdx?_cons]at h
  rw[List.zip_cons_cons,putK]
  dsimp only
  by_cases e:k=x
  ·simp only[e,decide_true,if_true,Option.some.injEq]at h
   subst h
   rw[if_pos e];rfl
  ·simp only[e,decide_false,Bool.false_eq_true,if_false]at h
   obtain⟨j,hj,rfl⟩:=Option.map_eq_some_iff.1 h
   rw[if_neg e,zip_put_some ks os x v j Y50 hj];rfl
theorem zip_put_none:∀(ks:List Int) (os:List Value) (x:Int) (v:Value),os.length=ks.length→ordI ks x=none→putK (ks.zip os) x v=(ks++[x]).zip (os++[v])
 |[],[],x,v,_,_=>rfl
 |k::ks,o::os,x,v,hl,h=>by
  unfold ordI at h
  rw[List.findIdx?_cons]at h
  rw[List.zip_cons_cons,putK]
  dsimp only
  by_cases e:k=x
  ·simp[e]at h
  ·simp only[e,decide_false,Bool.false_eq_true,if_false]at h
   rw[if_neg e,zip_put_none ks os x v Y50 (by unfold ordI;cases hh:List.findIdx? (fun k=>decide (k=x)) ks with
    |none=>rfl
    |some j=>rw[hh]at h;cases h)]
   rfl
theorem ordI_lt {ks:List Int} {x:Int} {i:Nat} (h:ordI ks x=some i):i<ks.length:=(List.findIdx?_eq_some_iff_getElem.1 h).1
structure OrdB (b:Nat) (ks:List Int) (Ls:List (List Int)):Prop where
 len:Ls.length=ks.length
 small:∀l∈Ls,l.length≤b
theorem OrdB.mono {b c:Nat} {ks:List Int} {Ls:List (List Int)} (h:OrdB b ks Ls) (hb:b≤c):OrdB c ks Ls:=⟨h.len,fun l hl=>Nat.le_trans (h.small l hl) hb⟩
theorem OrdB.add {b:Nat} {ks:List Int} {Ls:List (List Int)} (h:OrdB b ks Ls) (x id:Int):OrdB (b+1) (ordK ks x) (ordL ks Ls x id):=by
 unfold ordK ordL
 cases hi:ordI ks x with
 |none=>
  refine⟨by simp[h.len],fun l hl=>?_⟩
  rcases List.mem_append.1 hl with h1|h1
  ·have :=h.small l h1;omega
  ·simp at h1;subst h1;simp
 |some i=>
  have hlt:=ordI_lt hi
  refine⟨by simp[h.len],fun l hl=>?_⟩
  rcases List.mem_or_eq_of_mem_set hl with h1|rfl
  ·have :=h.small l h1;omega
  ·have :=h.small (Ls.getD i []) (by rw[List.getD_eq_getElem?_getD,List.getElem?_eq_getElem (by rw[h.len];exact hlt)];exact List.getElem_mem _)
   rw[List.length_append,List.length_singleton];omega
theorem OrdB.ovs {k:Nat}:∀(l:List Ms) {b:Nat} {s:OvS},OrdB b s.ks s.Ls→OrdB (b+l.length) (l.foldl (ovP k) s).ks (l.foldl (ovP k) s).Ls
 |[],_,_,h=>h
 |m::l,b,s,h=>by
  have h1:OrdB (b+1) (ovP k s m).ks (ovP k s m).Ls:=by
   unfold ovP
   split
   ·exact h.add _ _
   ·exact h.mono (Nat.le_succ b)
  rw[List.foldl_cons]
  exact(OrdB.ovs l h1).mono Y61
theorem foldl_take {α β:Type} {f:α→β→α} {l:List β} {j:Nat} {x:β} (hx:l[j]? =some x) (s:α):(l.take (j+1)).foldl f s=f ((l.take j).foldl f s) x:=by
 rw[take_succ_some hx,List.foldl_append];rfl
theorem nil5_set (us:List Value) (h:us.length=20) {k:Nat} (hk:k<4) (z:Value):putL (k *5) [z,z,z,z,z] us=(List.range 5).foldl (fun P u=>P.set (ix k u) z) us:=by
 have hk4:k=0∨k=1∨k=2∨k=3:=by omega
 match us,h with
 |[a0,a1,a2,a3,a4,a5,a6,a7,a8,a9,b0,b1,b2,b3,b4,b5,b6,b7,b8,b9],_=>
  rcases hk4 with rfl|rfl|rfl|rfl<;>rfl
theorem putL_app (a:List Value):∀(i:Nat) (vs b c:List Value),i+vs.length≤b.length→putL (a.length+i) vs (a++b++c)=a++putL i vs b++c:=fun i vs b c h=>by
 rw[←putL_eq _ _ _ Y61,←putL_eq _ _ _ h]
 rw[List.append_assoc a b c,List.take_append,List.drop_append,show a.length+i-a.length=i by omega,show a.length+i+vs.length-a.length=i+vs.length by omega,List.take_of_length_le (by omega),List.drop_eq_nil_of_le (by omega),List.take_append_of_le_length (by omega),List.drop_append_of_le_length h]
 simp
theorem fam_nil1 {α β:Type} {f:α→β→HP} {w0 w:World} {L:List HP} {ps:List α} {xs:List β} {i:Nat} {p:α} {x:β} (hi:i<ps.length) (hx:i<xs.length) (hn:∀L,St w0 L w→St w0 (f p x::L) w) (h:St w0 (fam f ps xs::L) w):St w0 (fam f (ps.set i p) (xs.set i x)::L) w:=by
 have h1:=fam_out (f:=f) (i:=i) (List.getElem?_eq_getElem hi) (List.getElem?_eq_getElem hx) h
 exact fam_in hi hx (hn _ h1.drop)
theorem fam_nil5 {α:Type} {f:Value→List α→HP} {w0 w:World} {L:List HP} {us:List Value} {P:List (List α)} {k:Nat} {z:Value} (hk:k<4) (hu:us.length=20) (hP:P.length=20) (hn:∀L,St w0 L w→St w0 (f z []::L) w) (h:St w0 (fam f us P::L) w):St w0 (fam f ((List.range 5).foldl (fun P u=>P.set (ix k u) z) us) (nil5 P k)::L) w:=by
 have key:∀(l:List Nat) (us:List Value) (P:List (List α)),us.length=20→P.length=20→(∀u∈l,u<5)→St w0 (fam f us P::L) w→St w0 (fam f (l.foldl (fun P u=>P.set (ix k u) z) us) (l.foldl (fun P u=>P.set (ix k u) []) P)::L) w:=by
  intro l
  induction l with
  |nil=>intro us P _ _ _ h;exact h
  |cons a l ih=>
   intro us P h1 h2 h3 h
   have ha:=h3 a (by simp)
   rw[List.foldl_cons,List.foldl_cons]
   exact ih _ _ Y53 Y52 (fun u hu=>h3 u (by simp[hu])) (fam_nil1 (by rw[h1];unfold ix;omega) (by rw[h2];unfold ix;omega) hn h)
 exact key _ us P hu hP (fun u hu=>List.mem_range.1 hu) h
end WB
/- waybillkeep: where a tale lies; forget, over -/
namespace Go.Proofs.YtjhogocabcdjbabGreatDoor
open Go Go.RowKit WB
structure TaV where
 us:List Value
 vs:List Value
 os:List Value
 mT:Nat
 mO:Nat
def taC (bw:Nat) (V:TaV) (n:Nat):List Value:=[ptrV bw,.int .i64 (n:Nat),.map (some V.mT)]++V.us++(V.vs++[.map (some V.mO),.bool true])
abbrev tmS (v:Value) (l:List Ms):HP:=SL 44 5 msC v l
abbrev intS (v:Value) (l:List Int):HP:=SL 3 1 iC v l
abbrev taX (bt bw:Nat) (V:TaV) (S:TaS) (L:List HP):List HP:=
 blk bt (.cells (taC bw V S.n).toArray 62 (0,0))::omapK (Value.int .i64) V.mT (thM S.T)::omapK (Value.int .i64) V.mO (S.ks.zip V.os)::fam intS V.os S.Ls::fam tmS V.us S.P::fam intS V.vs S.G::L
structure TaVk (V:TaV) (ks:List Int):Prop where
 us:V.us.length=20
 vs:V.vs.length=20
 os:V.os.length=ks.length
def talP (bt bw:Nat) (S:TaS):HP:=ex fun V:TaV=>sep (pur (TaVk V S.ks)) (seps (taX bt bw V S []))
theorem talP_open {w0 w:World} {bt bw:Nat} {S:TaS} {L:List HP} (h:St w0 (talP bt bw S::L) w):∃V:{V:TaV//TaVk V S.ks},St w0 (taX bt bw V.1 S L) w:=by
 obtain⟨V,h⟩:=h.exs
 obtain⟨hV,h⟩:=h.split.purs
 exact⟨⟨V,hV⟩,by have :=h.splits;exact this⟩
theorem talP_mk {w0 w:World} {bt bw:Nat} {S:TaS} {L:List HP} (V:TaV) (hV:TaVk V S.ks) (h:St w0 (taX bt bw V S L) w):St w0 (talP bt bw S::L) w:=
 St.exi (F:=fun V:TaV=>sep (pur (TaVk V S.ks)) (seps (taX bt bw V S []))) V (St.join (St.puri hV (St.joins (L:=taX bt bw V S []) h)))
theorem taC_len {bw n:Nat} {V:TaV} (h1:V.us.length=20) (h2:V.vs.length=20):(taC bw V n).length=45:=by unfold taC;simp[h1,h2]
theorem taC_us {bw n i:Nat} {V:TaV} {v:Value} (h:V.us[i]? =some v):(taC bw V n)[3+i]? =some v:=by
 have hi:=(List.getElem?_eq_some_iff.1 h).1
 unfold taC
 rw[List.getElem?_append_left Y61,List.getElem?_append_right (by simp),show 3+i-[ptrV bw,Value.int .i64 (n:Nat),Value.map (some V.mT)].length=i by simp]
 exact h
theorem taC_vs {bw n i:Nat} {V:TaV} {v:Value} (h1:V.us.length=20) (h:V.vs[i]? =some v):(taC bw V n)[23+i]? =some v:=by
 have hi:=(List.getElem?_eq_some_iff.1 h).1
 unfold taC
 rw[List.getElem?_append_right (by(simp[h1];done)),List.getElem?_append_left (by(simp[h1];omega)),show 23+i-([ptrV bw,Value.int .i64 (n:Nat),Value.map (some V.mT)]++V.us).length=i by(simp[h1];done)]
 exact h
theorem taC_43 {bw n:Nat} {V:TaV} (h1:V.us.length=20) (h2:V.vs.length=20):(taC bw V n)[43]? =some (.map (some V.mO)):=by
 unfold taC
 rw[List.getElem?_append_right Y69,List.getElem?_append_right (by simp[h1,h2])]
 simp[h1,h2]
theorem taC_44 {bw n:Nat} {V:TaV} (h1:V.us.length=20) (h2:V.vs.length=20):(taC bw V n)[44]? =some (.bool true):=by
 unfold taC
 rw[List.getElem?_append_right Y69,List.getElem?_append_right (by simp[h1,h2])]
 simp[h1,h2]
theorem taC_setus {bw n i:Nat} {V:TaV} (hi:i<V.us.length) (v:Value):(taC bw V n).set (3+i) v=taC bw {V with us:=V.us.set i v} n:=by
 unfold taC
 rw[List.set_append_left _ _ Y61,List.set_append_right _ _ (by simp)]
 simp
theorem taC_setvs {bw n i:Nat} {V:TaV} (h1:V.us.length=20) (hi:i<V.vs.length) (v:Value):(taC bw V n).set (23+i) v=taC bw {V with vs:=V.vs.set i v} n:=by
 unfold taC
 rw[List.set_append_right _ _ (by(simp[h1];done)),List.set_append_left _ _ (by(simp[h1];omega)),show 23+i-([ptrV bw,Value.int .i64 (n:Nat),Value.map (some V.mT)]++V.us).length=i by(simp[h1];done)]
def nilV:Value:=.slice none 0 0
def nilU (us:List Value) (k:Nat):List Value:=(List.range 5).foldl (fun P u=>P.set (ix k u) nilV) us
theorem nilU_len (us:List Value) (k:Nat):(nilU us k).length=us.length:=by
 have key:∀(l:List Nat) (P:List Value),(l.foldl (fun P u=>P.set (ix k u) nilV) P).length=P.length:=by
  intro l
  induction l with
  |nil=>intro P;rfl
  |cons a l ih=>intro P;rw[List.foldl_cons,ih];simp
 exact key _ us
theorem taC_nilus {bw n k:Nat} {V:TaV} (h1:V.us.length=20) (hk:k<4):putL (3+k *5) [nilV,nilV,nilV,nilV,nilV] (taC bw V n)=taC bw {V with us:=nilU V.us k} n:=by
 unfold taC
 have :=putL_app [ptrV bw,Value.int .i64 (n:Nat),Value.map (some V.mT)] (k *5) [nilV,nilV,nilV,nilV,nilV] V.us (V.vs++[.map (some V.mO),.bool true]) (by(simp[h1];omega))
 rw[nil5_set _ h1 hk]at this
 exact this
theorem taC_nilvs {bw n k:Nat} {V:TaV} (h1:V.us.length=20) (h2:V.vs.length=20) (hk:k<4):putL (23+k *5) [nilV,nilV,nilV,nilV,nilV] (taC bw V n)=taC bw {V with vs:=nilU V.vs k} n:=by
 unfold taC
 have :=putL_app ([ptrV bw,Value.int .i64 (n:Nat),Value.map (some V.mT)]++V.us) (k *5) [nilV,nilV,nilV,nilV,nilV] V.vs [.map (some V.mO),.bool true] (by simp[h2];omega)
 rw[nil5_set _ h2 hk]at this
 rw[←List.append_assoc,←List.append_assoc]
 rw[show 23+k *5=([ptrV bw,Value.int .i64 (n:Nat),Value.map (some V.mT)]++V.us).length+k *5 by simp[h1]]
 exact this
theorem tforget_c (w0:World) (L:List HP) (bt bw k:Nat) (S:TaS) (hk:k<4) (hP:S.P.length=20) (hG:S.G.length=20):
 KC Tryz.prog 75 #[ptrV bt,.int .i64 (k:Nat)] w0 (talP bt bw S::L) (fun v M=>v=.tuple #[]∧M=talP bt bw (taForget S k)::L):=by
 refine KC.mk (n:=16) Tryz.func75 rfl Tryz.ntmps75 (by simp) ?_
 refine K.open' (fun _ h=>talP_open h) ?_
 rintro⟨V,hV⟩
 dsimp only
 obtain⟨h1,h2,h3⟩:=hV
 have hc1:=taC_nilus (bw:=bw) (n:=S.n) h1 hk
 have hc2:=taC_nilvs (bw:=bw) (n:=S.n) (V:={V with us:=nilU V.us k}) (by dsimp only;rw[nilU_len];exact h1) h2 hk
 have hl1:=taC_len (bw:=bw) (n:=S.n) h1 h2
 have hl2:=taC_len (bw:=bw) (n:=S.n) (V:={V with us:=nilU V.us k}) (by dsimp only;rw[nilU_len];exact h1) h2
 refine K.draw [.pure,.pure,.pure,.pure,.pure,.pure,.pure,.pure,.pure,.write,.pure,.pure,.pure,.write] [0,1,2,3,4,5,6,7,8,10,11,9,12,13] Y62 Y62 ?_
 refine Z34 ?_
 refine Z34 ?_
 refine KO.bld rfl (by intro w;go_simp;rfl) rfl ?_
 refine KO.bld rfl (by intro w;go_simp;rfl) rfl ?_
 refine Z49 ?_
 refine Z73 ?_
 refine Z49 ?_
 refine KO.fo0 (off:=23) rfl Tryz.runUnderlying62 rfl rfl Tryz.sizeOf59 rfl ?_
 refine KO.stoAt (b:=bt) (off:=3+k *5) (us:=[nilV,nilV,nilV,nilV,nilV]) rfl rfl (by(simp only[Addr.add_lit];done)) rfl Y68 (by exact Tryz.sizeOf57) Y68 Y21 (by rw[hl1];show _+5≤45;omega) hc1 ?_
 refine KO.idxA (i:=k) rfl rfl Tryz.runUnderlying59 Tryz.sizeOf36 rfl (by omega) rfl ?_
 refine KO.stoAt (b:=bt) (off:=23+k *5) (us:=[nilV,nilV,nilV,nilV,nilV]) rfl rfl (by(simp only[Addr.add_lit];done)) rfl Y68 (by exact Tryz.sizeOf36) Y68 Y21 (by rw[hl2];show _+5≤45;omega) hc2 ?_
 refine KO.nil ?_
 refine KQ.end0 rfl (fun w' hs'=>⟨_,_,rfl,⟨rfl,rfl⟩,?_⟩)
 have hs2:=fam_nil5 (f:=tmS) (z:=nilV) hk h1 hP (fun L h=>SL_nil h) (hs'.pick (A:=fam tmS V.us S.P) Y11)
 have hs3:=fam_nil5 (f:=intS) (z:=nilV) hk h2 hG (fun L h=>SL_nil h) (hs2.pick (A:=fam intS V.vs S.G) Y11)
 exact talP_mk ⟨nilU V.us k,nilU V.vs k,V.os,V.mT,V.mO⟩ ⟨by dsimp only;rw[nilU_len];exact h1,by dsimp only;rw[nilU_len];exact h2,h3⟩ (hs3.all Y7)
set_option maxRecDepth 100000 in
set_option maxHeartbeats 2000000 in
theorem tover_c (w0:World) (L:List HP) (bt bw k u b:Nat) (S:TaS) (hk:k<4) (hu:u<5) (hP:S.P.length=20) (hG:S.G.length=20) (hO:OrdB b S.ks S.Ls) (hb:b≤500000) (l:List Ms) (g:List Int) (hPl:S.P[ix k u]? =some l) (hGl:S.G[ix k u]? =some g) (hl:l.length≤1000) (hg:g.length≤1000)
 (hpri:∀m∈l,0≤m.pri∧m.pri≤9) (hnd:(S.T.map (·.1)++l.map (·.id)).Nodup) (hgn:g.Nodup) (hgi:∀i∈g,i∈S.T.map (·.1)):
 KC Tryz.prog 68 #[ptrV bt,.int .i64 (k:Nat),.int .i64 (u:Nat)] w0 (talP bt bw S::L) (fun v M=>v=.tuple #[]∧M=talP bt bw (taOver S k u)::L):=by
 have hixl:ix k u<20:=by unfold ix;omega
 have hPd:S.P.getD (ix k u) []=l:=by rw[List.getD_eq_getElem?_getD,hPl];rfl
 have hGd:S.G.getD (ix k u) []=g:=by rw[List.getD_eq_getElem?_getD,hGl];rfl
 refine KC.mk (n:=105) Tryz.func68 rfl Tryz.ntmps68 (by simp) ?_
 refine Z53 ?_
 refine K.open' (fun _ h=>talP_open h) ?_
 rintro⟨⟨us,vs,os,mT,mO⟩,hV⟩
 dsimp only
 obtain⟨h1,h2,h3⟩:=hV
 dsimp only at h1 h2 h3
 obtain⟨uv,huv⟩:∃e,us[ix k u]? =some e:=⟨us[ix k u],List.getElem?_eq_getElem (by omega)⟩
 obtain⟨vv,hvv⟩:∃e,vs[ix k u]? =some e:=⟨vs[ix k u],List.getElem?_eq_getElem (by omega)⟩
 refine Z276 ?_
 refine K.fact (fun _ hs=>SL_form hs) ?_
 rintro⟨a1,c1,rfl,hg1⟩
 refine Z270 ?_
 refine K.fact (fun _ hs=>SL_form hs) ?_
 rintro⟨a2,c2,rfl,hg2⟩
 have hcu:=taC_us (bw:=bw) (n:=S.n) (V:=⟨us,vs,os,mT,mO⟩) huv
 have hcv:=taC_vs (bw:=bw) (n:=S.n) (V:=⟨us,vs,os,mT,mO⟩) h1 hvv
 have hc43:=taC_43 (bw:=bw) (n:=S.n) (V:=⟨us,vs,os,mT,mO⟩) h1 h2
 have hlen:=taC_len (bw:=bw) (n:=S.n) (V:=⟨us,vs,os,mT,mO⟩) h1 h2
 refine Z72 ?_
 refine Z26 ?_
 refine Z73 ?_
 refine Z160 ?_
 refine KO.ldAt (i:=3+ix k u) rfl rfl Tryz.isAgg49 Y11 Y17 hcu rfl ?_
 refine Z285 ?_
 refine K.loop (fun s:Nat×List Value=>[(0,ptrV bt),(1,.int .i64 (k:Nat)),(2,.int .i64 (u:Nat)),(20,.slice a1 l.length c1),(21,.int .i64 (l.length:Nat)),(22,.int .i64 (s.1:Nat))])
  (fun s=>omapK (Value.int .i64) mT (thM ((l.take s.1).foldl (ovP k) ⟨S.T,S.ks,S.Ls⟩).T)::omapK (Value.int .i64) mO (((l.take s.1).foldl (ovP k) ⟨S.T,S.ks,S.Ls⟩).ks.zip s.2)::fam intS s.2 ((l.take s.1).foldl (ovP k) ⟨S.T,S.ks,S.Ls⟩).Ls::tmS (.slice a1 l.length c1) l::fam tmS (us.eraseIdx (ix k u)) (S.P.eraseIdx (ix k u))::blk bt (.cells (taC bw ⟨us,vs,os,mT,mO⟩ S.n).toArray 62 (0,0))::intS (.slice a2 g.length c2) g::fam intS (vs.eraseIdx (ix k u)) (S.G.eraseIdx (ix k u))::L)
  (fun s=>s.1≤l.length∧s.2.length=((l.take s.1).foldl (ovP k) ⟨S.T,S.ks,S.Ls⟩).ks.length) (fun s=>l.length-s.1) (0,os) ⟨Nat.zero_le _,h3⟩ ⟨rfl,rfl,rfl,rfl,rfl,rfl,trivial⟩ (fun w' hs'=>by exact hs'.all Y7) ?_
 rintro⟨j,os1⟩ ⟨hj,hos⟩
 dsimp only at hj hos ⊢
 have hOj:=OrdB.ovs (k:=k) (l.take j) (s:=⟨S.T,S.ks,S.Ls⟩) hO
 have hlj:(l.take j).length≤1000:=by rw[List.length_take];omega
 refine Z111 ?_
 refine K.condD rfl (fun h4=>?_) (fun h4=>?_)
 ·obtain⟨m,hm⟩:∃e,l[j]? =some e:=⟨l[j],List.getElem?_eq_getElem (by omega)⟩
  obtain⟨g1,rfl⟩:=hg1 (by omega)
  have hstep:=foldl_take (f:=ovP k) hm ⟨S.T,S.ks,S.Ls⟩
  have hpr:=hpri m (List.mem_of_getElem? hm)
  generalize (l.take j).foldl (ovP k) ⟨S.T,S.ks,S.Ls⟩=s at hos hOj hstep ⊢
  obtain⟨sT,sk,sL⟩:=s
  dsimp only at hos hOj ⊢
  have hmm:l[j]? =some ⟨m.id,m.pri,m.body,m.queue,m.house⟩:=hm
  refine Z145 ?_
  refine KO.idx0 (i:=j) rfl rfl Tryz.runUnderlying49 Tryz.sizeOf44 rfl (by omega) rfl ?_
  refine KO.ldEN (i:=j) (sz:=5) (cf:=msC) rfl rfl Tryz.isAgg44 Tryz.sizeOf44 Y11 (fun _=>rfl) hmm rfl ?_
  refine KO.alloc rfl Tryz.zeroValue44 Y68 rfl ?_;intro b7
  refine Z278 ?_
  refine K.draw [.pure,.pure,.pure,.read,.pure,.read,.read,.write] [0,1,2,3,4,5,6,7] Y62 Y62 ?_
  refine Z26 ?_
  refine Z95 ?_
  refine Z220 ?_
  refine Z124 ?_
  refine KO.upm (v:=.agg (msC m).toArray) intKey m.id rfl rfl rfl Y68 Tryz.underlying56 Tryz.underlying3 Y11 ?_;rw[thM_put]
  refine Z248 ?_
  refine Z82 ?_
  refine Z38 ?_
  refine Z1 ?_
  refine Z265 ?_
  refine Z2 ?_
  refine K.condD rfl (fun h5=>?_) (fun h5=>?_)
  ·have hov:ovP k ⟨sT,sk,sL⟩ m=⟨putK sT m.id m,ordK sk ((k:Int)*100+m.pri),ordL sk sL ((k:Int)*100+m.pri) m.id⟩:=by unfold ovP;rw[if_pos (by simpa using h5)]
   rw[hov]at hstep
   refine Z117 ?_
   refine KO.mul rfl rfl rfl (by omega) rfl ?_
   refine Z52 ?_
   refine KO.ld (v:=.int .i64 m.pri) rfl rfl Tryz.isAgg3 Y11 Y68 rfl ?_
   refine Z23 ?_
   refine Z83 ?_
   cases hi:ordI sk ((k:Int)*100+m.pri)with
   |none=>
    have hk1:ordK sk ((k:Int)*100+m.pri)=sk++[(k:Int)*100+m.pri]:=by unfold ordK;rw[hi]
    have hL1:ordL sk sL ((k:Int)*100+m.pri) m.id=sL++[[m.id]]:=by unfold ordL;rw[hi]
    rw[hk1,hL1]at hstep
    have hget:(getK (sk.zip os1) ((k:Int)*100+m.pri)).getD (.slice none 0 0)=.slice none 0 0:=by rw[zip_get _ _ _ hos,hi];rfl
    refine K.conv (fun w' hw'=>SL_nil (E:=3) (sz:=1) (cf:=iC) hw') ?_
    refine K.drawX [.pure,.pure,.pure,.read,.pure,.pure,.pure,.pure,.read,.pure,.read,.pure,.read,.keep,.write,.write] [(3,14)] [[0,1,2,3,4,5,6,7,8,9,10,11,12,13,14,15],[0,1,2,4,5,6,7,8,9,10,11,12,13,14,3,15]] Y62 Y62 Y62 ⟨?_,?_,trivial⟩
    focus
     show KO _ _ _ _ _ _ _ _ _ _
     refine Z26 ?_
     refine Z85 ?_
     refine Z217 ?_
     refine Z85 ?_
     refine Z1 ?_
     refine KO.lkm intKey ((k:Int)*100+m.pri) rfl rfl rfl Tryz.underlying60 Tryz.underlying3 Tryz.zeroValue23 Y11 rfl ?_;rw[hget]
     refine Z359 ?_
     refine KO.bs1 (z:=(Value.int .i64 0)) (sz:=1) (by':=8) rfl rfl Tryz.underlying23 Y62 Y68 Y68 (by decide) (by decide) rfl ?_;intro b55
     refine KO.app (cf:=iC) (z:=Value.int .i64 0) (sz:=1) (by':=8) (xs:=[]) rfl rfl rfl (.tail .head) .head Tryz.underlying23 Y62 Y68 m.id rfl rfl rfl (by simp) (by decide) rfl ?_;intro v56;refine KO.fact (fun _ hs=>SL_form hs) ?_;rintro⟨a56,k56,hv56,-⟩
     refine KO.upm intKey ((k:Int)*100+m.pri) rfl rfl rfl rfl Tryz.underlying60 Tryz.underlying3 Y11 ?_;rw[zip_put_none _ _ _ _ hos hi]
     refine Z13 ?_
    rotate_left
    focus
     show KO _ _ _ _ _ _ _ _ _ _
     refine Z26 ?_
     refine KO.fo0 (off:=43) rfl Tryz.runUnderlying62 rfl rfl Tryz.sizeOf60 rfl ?_
     refine Z217 ?_
     refine Z85 ?_
     refine Z1 ?_
     refine KO.lkm intKey ((k:Int)*100+m.pri) rfl rfl rfl Tryz.underlying60 Tryz.underlying3 Tryz.zeroValue23 Y11 rfl ?_;rw[hget]
     refine Z359 ?_
     refine KO.bs1 (z:=(Value.int .i64 0)) (sz:=1) (by':=8) rfl rfl Tryz.underlying23 Y62 Y68 Y68 (by decide) (by decide) rfl ?_;intro b55
     refine KO.app (cf:=iC) (z:=Value.int .i64 0) (sz:=1) (by':=8) (xs:=[]) rfl rfl rfl (.tail .head) .head Tryz.underlying23 Y62 Y68 m.id rfl rfl rfl (by simp) (by decide) rfl ?_;intro v56;refine KO.fact (fun _ hs=>SL_form hs) ?_;rintro⟨a56,k56,hv56,-⟩
     refine KO.ldAt (i:=43) rfl rfl Tryz.isAgg60 Y11 rfl hc43 rfl ?_
     refine KO.upm intKey ((k:Int)*100+m.pri) rfl rfl rfl rfl Tryz.underlying60 Tryz.underlying3 Y11 ?_;rw[zip_put_none _ _ _ _ hos hi]
     refine Z13 ?_
    rotate_left
    all_goals (
     refine Z76 ?_
     refine KQ.round (j+1,os1++[v56]) ⟨by dsimp only;omega,by dsimp only;rw[hstep];simp[hos]⟩ Y47 ⟨rfl,rfl,rfl,rfl,rfl,rfl,trivial⟩ (fun w' hs'=>?_)
     dsimp only
     rw[hstep]
     have hs2:=fam_app (f:=intS) (p:=v56) (x:=[m.id]) (by rw[hos,hOj.len]) (hs'.all (M:=intS v56 [m.id]::fam intS os1 sL::omapK (Value.int .i64) mT (thM (putK sT m.id m))::omapK (Value.int .i64) mO ((sk++[(k:Int)*100+m.pri]).zip (os1++[v56]))::tmS (.slice (some ⟨g1,0,none⟩) l.length c1) l::fam tmS (us.eraseIdx (ix k u)) (S.P.eraseIdx (ix k u))::blk bt (.cells (taC bw ⟨us,vs,os,mT,mO⟩ S.n).toArray 62 (0,0))::intS (.slice a2 g.length c2) g::fam intS (vs.eraseIdx (ix k u)) (S.G.eraseIdx (ix k u))::L) Y5)
     exact hs2.all Y7)
   |some i=>
    have hil:=ordI_lt hi
    obtain⟨ov,hov1⟩:∃e,os1[i]? =some e:=⟨_,List.getElem?_eq_getElem (show i<os1.length by omega)⟩
    obtain⟨Li,hLi⟩:∃e,sL[i]? =some e:=⟨_,List.getElem?_eq_getElem (show i<sL.length by have :=hOj.len;omega)⟩
    have hLs:=hOj.small Li (List.mem_of_getElem? hLi)
    have hk1:ordK sk ((k:Int)*100+m.pri)=sk:=by unfold ordK;rw[hi]
    have hL1:ordL sk sL ((k:Int)*100+m.pri) m.id=sL.set i (Li++[m.id]):=by unfold ordL;rw[hi];dsimp only;rw[List.getD_eq_getElem?_getD,hLi];rfl
    rw[hk1,hL1]at hstep
    refine K.conv (fun w' hw'=>fam_out hov1 hLi (hw'.pick (A:=fam intS os1 sL) Y11)) ?_
    refine K.fact (fun _ hs=>SL_form hs) ?_
    rintro⟨a3,c3,rfl,hg3⟩
    have hget:(getK (sk.zip os1) ((k:Int)*100+m.pri)).getD (.slice none 0 0)=.slice a3 Li.length c3:=by rw[zip_get _ _ _ hos,hi];simp[hov1]
    refine K.drawX [.pure,.pure,.pure,.read,.pure,.pure,.pure,.pure,.read,.pure,.read,.pure,.read,.keep,.write,.write] [(3,14)] [[0,1,2,3,4,5,6,7,8,9,10,11,12,13,14,15],[0,1,2,4,5,6,7,8,9,10,11,12,13,14,3,15]] Y62 Y62 Y62 ⟨?_,?_,trivial⟩
    focus
     show KO _ _ _ _ _ _ _ _ _ _
     refine Z26 ?_
     refine Z85 ?_
     refine Z217 ?_
     refine Z85 ?_
     refine Z1 ?_
     refine KO.lkm intKey ((k:Int)*100+m.pri) rfl rfl rfl Tryz.underlying60 Tryz.underlying3 Tryz.zeroValue23 Y11 rfl ?_;rw[hget]
     refine Z359 ?_
     refine KO.bs1 (z:=(Value.int .i64 0)) (sz:=1) (by':=8) rfl rfl Tryz.underlying23 Y62 Y68 Y68 (by decide) (by decide) rfl ?_;intro b55
     refine KO.app (cf:=iC) (z:=Value.int .i64 0) (sz:=1) (by':=8) (xs:=Li) rfl rfl rfl (.tail .head) .head Tryz.underlying23 Y62 Y68 m.id rfl rfl rfl (by omega) (by decide) rfl ?_;intro v56;refine KO.fact (fun _ hs=>SL_form hs) ?_;rintro⟨a56,k56,hv56,-⟩
     refine KO.upm intKey ((k:Int)*100+m.pri) rfl rfl rfl rfl Tryz.underlying60 Tryz.underlying3 Y11 ?_;rw[zip_put_some _ _ _ _ _ hos hi]
     refine Z13 ?_
    rotate_left
    focus
     show KO _ _ _ _ _ _ _ _ _ _
     refine Z26 ?_
     refine KO.fo0 (off:=43) rfl Tryz.runUnderlying62 rfl rfl Tryz.sizeOf60 rfl ?_
     refine Z217 ?_
     refine Z85 ?_
     refine Z1 ?_
     refine KO.lkm intKey ((k:Int)*100+m.pri) rfl rfl rfl Tryz.underlying60 Tryz.underlying3 Tryz.zeroValue23 Y11 rfl ?_;rw[hget]
     refine Z359 ?_
     refine KO.bs1 (z:=(Value.int .i64 0)) (sz:=1) (by':=8) rfl rfl Tryz.underlying23 Y62 Y68 Y68 (by decide) (by decide) rfl ?_;intro b55
     refine KO.app (cf:=iC) (z:=Value.int .i64 0) (sz:=1) (by':=8) (xs:=Li) rfl rfl rfl (.tail .head) .head Tryz.underlying23 Y62 Y68 m.id rfl rfl rfl (by omega) (by decide) rfl ?_;intro v56;refine KO.fact (fun _ hs=>SL_form hs) ?_;rintro⟨a56,k56,hv56,-⟩
     refine KO.ldAt (i:=43) rfl rfl Tryz.isAgg60 Y11 rfl hc43 rfl ?_
     refine KO.upm intKey ((k:Int)*100+m.pri) rfl rfl rfl rfl Tryz.underlying60 Tryz.underlying3 Y11 ?_;rw[zip_put_some _ _ _ _ _ hos hi]
     refine Z13 ?_
    rotate_left
    all_goals (
     refine Z76 ?_
     refine KQ.round (j+1,os1.set i v56) ⟨by dsimp only;omega,by dsimp only;rw[hstep];simp[hos]⟩ Y47 ⟨rfl,rfl,rfl,rfl,rfl,rfl,trivial⟩ (fun w' hs'=>?_)
     dsimp only
     rw[hstep]
     have hs2:=fam_in (f:=intS) (ps:=os1) (xs:=sL) (i:=i) (p:=v56) (x:=Li++[m.id]) (by omega) (by have :=hOj.len;omega) (hs'.all (M:=intS v56 (Li++[m.id])::fam intS (os1.eraseIdx i) (sL.eraseIdx i)::omapK (Value.int .i64) mT (thM (putK sT m.id m))::omapK (Value.int .i64) mO (sk.zip (os1.set i v56))::tmS (.slice (some ⟨g1,0,none⟩) l.length c1) l::fam tmS (us.eraseIdx (ix k u)) (S.P.eraseIdx (ix k u))::blk bt (.cells (taC bw ⟨us,vs,os,mT,mO⟩ S.n).toArray 62 (0,0))::intS (.slice a2 g.length c2) g::fam intS (vs.eraseIdx (ix k u)) (S.G.eraseIdx (ix k u))::L) Y5)
     exact hs2.all Y7)
  ·have hov:ovP k ⟨sT,sk,sL⟩ m=⟨putK sT m.id m,sk,sL⟩:=by unfold ovP;rw[if_neg (by simpa using h5)]
   rw[hov]at hstep
   refine Z191 ?_
   refine KQ.round (j+1,os1) ⟨by dsimp only;omega,by dsimp only;rw[hstep];exact hos⟩ Y47 ⟨rfl,rfl,rfl,rfl,rfl,rfl,trivial⟩ (fun w' hs'=>?_)
   dsimp only
   rw[hstep]
   exact hs'.all Y5
 obtain rfl:j=l.length:=by omega
 rw[List.take_length]at hos hOj ⊢
 have hT0:=ovP_T k l ⟨S.T,S.ks,S.Ls⟩ hnd
 dsimp only at hT0
 have hTk:((l.foldl (ovP k) ⟨S.T,S.ks,S.Ls⟩).T.map (·.1))=S.T.map (·.1)++l.map (·.id):=by
  rw[hT0,List.map_append,List.map_map];rfl
 have hov:taOver S k u={S with T:=(g.foldl ovG ((l.foldl (ovP k) ⟨S.T,S.ks,S.Ls⟩).T,S.ok)).1,ks:=(l.foldl (ovP k) ⟨S.T,S.ks,S.Ls⟩).ks,Ls:=(l.foldl (ovP k) ⟨S.T,S.ks,S.Ls⟩).Ls,ok:=(g.foldl ovG ((l.foldl (ovP k) ⟨S.T,S.ks,S.Ls⟩).T,S.ok)).2,P:=S.P.set (ix k u) [],G:=S.G.set (ix k u) []}:=by
  unfold taOver;rw[hPd,hGd]
 rw[hov]
 generalize l.foldl (ovP k) ⟨S.T,S.ks,S.Ls⟩=s at hos hOj hTk ⊢
 obtain⟨sT,sk,sL⟩:=s
 dsimp only at hos hOj hTk ⊢
 have hTn:(sT.map (·.1)).Nodup:=by rw[hTk];exact hnd
 have hTg:∀i∈g,i∈sT.map (·.1):=fun i hi=>by rw[hTk];exact List.mem_append_left _ (hgi i hi)
 refine Z9 ?_
 refine Z72 ?_
 refine Z26 ?_
 refine Z88 ?_
 refine Z161 ?_
 refine KO.ldAt (i:=23+ix k u) rfl rfl Tryz.isAgg23 Y11 Y17 hcv rfl ?_
 refine Z128 ?_
 refine Z119 ?_
 refine K.loop (fun j:Nat=>[(0,ptrV bt),(1,.int .i64 (k:Nat)),(2,.int .i64 (u:Nat)),(65,.slice a2 g.length c2),(66,.int .i64 (g.length:Nat)),(67,.int .i64 (j:Nat))])
  (fun j=>omapK (Value.int .i64) mT (thM ((g.take j).foldl ovG (sT,S.ok)).1)::omapK (Value.int .i64) mO (sk.zip os1)::fam intS os1 sL::tmS (.slice a1 l.length c1) l::fam tmS (us.eraseIdx (ix k u)) (S.P.eraseIdx (ix k u))::blk bt (.cells (taC bw ⟨us,vs,os,mT,mO⟩ S.n).toArray 62 (0,0))::intS (.slice a2 g.length c2) g::fam intS (vs.eraseIdx (ix k u)) (S.G.eraseIdx (ix k u))::L)
  (fun j=>j≤g.length) (fun j=>g.length-j) 0 (Nat.zero_le _) ⟨rfl,rfl,rfl,rfl,rfl,rfl,trivial⟩ (fun w' hs'=>by exact hs'.all Y30) ?_
 intro j hj
 refine Z111 ?_
 refine K.condD rfl (fun h5=>?_) (fun h5=>?_)
 ·obtain⟨y,hy⟩:∃e,g[j]? =some e:=⟨g[j],List.getElem?_eq_getElem (by omega)⟩
  obtain⟨g2,rfl⟩:=hg2 (by omega)
  have hstep:=foldl_take (f:=ovG) hy (sT,S.ok)
  have hgt:(g.take j).Nodup∧y∉g.take j:=by
   have h6:(g.take (j+1)).Nodup:=hgn.sublist (List.take_sublist _ _)
   rw[take_succ_some hy,List.nodup_append]at h6
   exact⟨h6.1,fun hm=>h6.2.2 y hm y (by simp) rfl⟩
  have hTj:=ovG_all (g.take j) sT S.ok hTn hgt.1 (fun i hi=>hTg i (List.mem_of_mem_take hi))
  obtain⟨m,hmT⟩:∃m,getK ((g.take j).foldl ovG (sT,S.ok)).1 y=some m:=by
   obtain⟨x,hx,e⟩:=List.mem_map.1 (hTg y (List.mem_of_getElem? hy))
   refine⟨x.2,?_⟩
   rw[hTj,←e]
   refine getK_mem (hTn.sublist (List.filter_sublist.map _)) (List.mem_filter.2 ⟨hx,?_⟩)
   rw[e,decide_eq_false hgt.2];rfl
  have hst1:((g.take (j+1)).foldl ovG (sT,S.ok)).1=delK ((g.take j).foldl ovG (sT,S.ok)).1 y:=by rw[hstep];rfl
  generalize ((g.take j).foldl ovG (sT,S.ok)).1=tj at hmT hst1 ⊢
  have hgm:getK (thM tj) y=some (.agg (msC m).toArray):=by rw[thM_get,hmT];rfl
  refine Z145 ?_
  refine KO.idx0 rfl rfl Tryz.runUnderlying23 Tryz.sizeOf3 Y68 (by omega) rfl ?_
  refine KO.ldE0 rfl rfl Tryz.isAgg3 Y11 (fun _=>rfl) Y63 Y68 Y68 rfl ?_
  refine Z232 ?_
  refine Z95 ?_
  refine Z1 ?_
  refine KO.lkmOk intKey y rfl rfl rfl Tryz.underlying56 Tryz.underlying3 Tryz.zeroValue44 Y21 rfl ?_;rw[hgm]
  refine Z47 ?_
  refine KO.alloc rfl Tryz.zeroValue44 Y68 rfl ?_;intro b11
  refine Z67 ?_
  refine Z28 ?_
  refine Z70 ?_
  refine Z63 ?_
  refine Z102 ?_
  refine Z120 ?_
  refine Z95 ?_
  refine Z1 ?_
  refine KO.delm intKey y rfl rfl rfl Tryz.underlying56 Tryz.underlying3 Y11 ?_;rw[thM_del]
  refine Z132 ?_
  refine KQ.round (j+1) (by omega) (by omega) ⟨rfl,rfl,rfl,rfl,rfl,rfl,trivial⟩ (fun w' hs'=>?_)
  rw[hst1]
  exact hs'.all Y5
 obtain rfl:j=g.length:=by omega
 rw[List.take_length]
 have hok:(g.foldl ovG (sT,S.ok)).2=S.ok:=by rw[ovG_all g sT S.ok hTn hgn hTg]
 have hcs1:=taC_setus (bw:=bw) (n:=S.n) (V:=⟨us,vs,os,mT,mO⟩) (i:=ix k u) Y47 nilV
 have hcs2:=taC_setvs (bw:=bw) (n:=S.n) (V:=⟨us.set (ix k u) nilV,vs,os,mT,mO⟩) (i:=ix k u) Y53 Y47 nilV
 have hlen2:=taC_len (bw:=bw) (n:=S.n) (V:=⟨us.set (ix k u) nilV,vs,os,mT,mO⟩) Y53 h2
 refine Z108 ?_
 refine Z219 ?_
 refine Z125 ?_
 refine Z26 ?_
 refine Z73 ?_
 refine Z160 ?_
 refine Z49 ?_
 refine Z88 ?_
 refine KO.stAt (v:=nilV) (b:=bt) (i:=3+ix k u) rfl rfl Y68 rfl Y42 rfl Y11 Y17 (by rw[hlen];omega) ?_;rw[hcs1]
 refine Z161 ?_
 refine KO.stAt (v:=nilV) (b:=bt) (i:=23+ix k u) rfl rfl Y68 rfl Y44 rfl Y21 Y17 (by rw[hlen2];omega) ?_;rw[hcs2]
 refine KO.nil ?_
 refine KQ.end0 rfl (fun w' hs'=>⟨_,_,rfl,⟨rfl,rfl⟩,?_⟩)
 have hs2:=fam_in (f:=tmS) (ps:=us) (xs:=S.P) (i:=ix k u) (p:=nilV) (x:=[]) (by omega) (by omega) (SL_nil (hs'.pick (A:=fam tmS (us.eraseIdx (ix k u)) (S.P.eraseIdx (ix k u))) Y11))
 have hs3:=fam_in (f:=intS) (ps:=vs) (xs:=S.G) (i:=ix k u) (p:=nilV) (x:=[]) (by omega) (by omega) (SL_nil (hs2.pick (A:=fam intS (vs.eraseIdx (ix k u)) (S.G.eraseIdx (ix k u))) Y11))
 refine talP_mk ⟨us.set (ix k u) nilV,vs.set (ix k u) nilV,os1,mT,mO⟩ ⟨by simpa using h1,by simpa using h2,hos⟩ (hs3.all Y5)
end Go.Proofs.YtjhogocabcdjbabGreatDoor
/- waybillkeep: the tale's steps -/
namespace Go.Proofs.YtjhogocabcdjbabGreatDoor
open Go Go.RowKit WB
def Qs3 (w:World):Prop:= ∀k,k<3→w.cell? ⟨0,k,none⟩=some (.string (q3S k))
theorem Qs3.ext {w w':World} (h:Qs3 w) (e:Ext w w'):Qs3 w':=fun k hk=>e.cell (h k hk)
theorem wmany_x (w0:World) (M:List HP) (bw:Nat) (V:WoV) (W:Wo):KE Tryz.prog 46 #[ptrV bw] w0 (woX bw V W M) (fun u N=>u=.int .i64 (W.way.length:Nat)∧N=woX bw V W M):=by
 refine KE.mk (n:=8) Tryz.func46 rfl Tryz.ntmps46 (by simp) ?_
 intro w hw
 obtain⟨a,cap,hv,-⟩:=SL_form (hw.pick (A:=gsS V.wv W.way) Y11)
 have hc2:w.cell? ⟨bw,2,none⟩=some (.slice a W.way.length cap):=by rw[World.cell?,hw.look.2,←hv];rfl
 refine Z150 ?_
 refine Z49 ?_
 refine Z84 ?_
 refine KO.ld0 rfl rfl Tryz.isAgg162 hc2 rfl ?_
 refine Z184 ?_
 refine Z33 ?_
 refine KQ.ret1 rfl rfl (fun w' hs=>⟨_,_,rfl,⟨rfl,rfl⟩,hw.below_step hs.below,hs.below⟩)
theorem tal_fin {bt bw:Nat} {hd:HdT} {V:WoV} {TV:TaV} {S':TaS} {w0 w:World} {L:List HP} (hV:V.ps.length=S'.W.hs.length) (e8:V.hv=hd.1) (e9:HdOk hd V.dv V.ps) (hT:TaVk TV S'.ks) (h:St w0 (woX bw V S'.W (taX bt bw TV S' L)) w):St w0 (talP bt bw S'::woP bw hd S'.W::L) w:=by
 have h1:St w0 (woP bw hd S'.W::taX bt bw TV S' L) w:=woP_mk V hV h e8 e9
 exact talP_mk TV hT (h1.all (M:=taX bt bw TV S' (woP bw hd S'.W::L)) Y7)
set_option maxRecDepth 100000 in
set_option maxHeartbeats 8000000 in
theorem tdoes_c (w0:World) (L:List HP) (bt bw c kb:Nat) (hd:HdT) (hN:hd.2.2=none) (S:TaS) (x:AcK) (hT:Tab w0) (hM:Lim w0) (hQ:Qs3 w0) (hS:TaI c kb S) (hO:OrdB (1000*c) S.ks S.Ls) (hc:c≤120) (hK:kb≤2000000):
 KC Tryz.prog 23 #[ptrV bt,.agg (ackC x).toArray] w0 (talP bt bw S::woP bw hd S.W::L) (fun v M=>v=.tuple #[]∧M=talP bt bw (taDoes S x)::woP bw hd (taDoes S x).W::L):=by
 have hn:=hS.hn
 have hn4:=hS.n2
 obtain⟨k,hk,hkn⟩:∃k:Nat,taK S x=k∧k<S.n:=⟨_,rfl,by unfold taK;have :=pk_lt x.k (n:=(S.n:Int)) (by omega);omega⟩
 obtain⟨u,hu,hu5⟩:∃u:Nat,taU x=u∧u<5:=⟨_,rfl,by unfold taU;have :=pk_lt x.unit (n:=5) (by omega);omega⟩
 have hpk:pk x.k (S.n:Nat)=(k:Nat):=by unfold taK at hk;have :=pk_lt x.k (n:=(S.n:Int)) (by omega);omega
 have hpu:pk x.unit 5=(u:Nat):=by unfold taU at hu;have :=pk_lt x.unit (n:=5) (by omega);omega
 obtain⟨y,hy,eH,eD,hyB,hynm,hy5⟩:=hS.at hkn
 have hyO:=hyB.B.le (k:=75420) (by have :=hyB.B.used;omega)
 have hym:∀z∈y.1.units,z.puts.length+z.gets.length≤120:=fun z hz=>by have :=hS.um k z (by rw[eH];exact hz);omega
 have hik:ix k u<20:=by unfold ix;omega
 obtain⟨hP20,hPt⟩:=hS.P
 obtain⟨hG20,hGt⟩:=hS.G
 have hPk:=hPt k u (by omega) hu5
 have hGk:=hGt k u (by omega) hu5
 have hux:y.1.units[u]? =some (y.1.uAt u):=uAt_of hyB.B hu5
 have hPlen:(((S.W.H k).uAt u).puts.map (·.1)).length≤120:=by
  have :=hym _ (List.mem_of_getElem? hux)
  rw[eH,List.length_map];omega
 have hGlen:(((S.W.H k).uAt u).gets.map (·.1)).length≤120:=by
  have :=hym _ (List.mem_of_getElem? hux)
  rw[eH,List.length_map];omega
 obtain⟨Pl,hPl,hPlL,hPe⟩:∃Pl,S.P[ix k u]? =some Pl∧Pl.length≤120∧Pl=((S.W.H k).uAt u).puts.map (·.1):=⟨_,hPk,hPlen,rfl⟩
 obtain⟨Gl,hGl,hGlL,hGe⟩:∃Gl,S.G[ix k u]? =some Gl∧Gl.length≤120∧Gl=((S.W.H k).uAt u).gets.map (·.1):=⟨_,hGk,hGlen,rfl⟩
 have hPd:S.P.getD (ix k u) []=Pl:=by rw[List.getD_eq_getElem?_getD,hPl];rfl
 have hGd:S.G.getD (ix k u) []=Gl:=by rw[List.getD_eq_getElem?_getD,hGl];rfl
 have hwl:=hS.B.wl
 obtain⟨i,hi,hi2⟩:∃i:Int,taI S x=i∧(0<S.W.way.length→0≤i∧i<(S.W.way.length:Nat)):=⟨_,rfl,fun h=>by unfold taI;rw[if_pos h];exact pk_lt x.n (by omega)⟩
 have hd0:taDoes S x=taDoes S x:=rfl
 conv at hd0=>rhs;unfold taDoes;rw[hk,hu,hi]
 rw[hd0]
 unfold taI at hi
 clear hd0 hk hu
 obtain⟨xw,xk,xn,xm,xu⟩:=x
 dsimp only at hpk hpu hi ⊢
 refine KC.mk (n:=267) Tryz.func23 rfl Tryz.ntmps23 (by simp) ?_
 refine Z53 ?_
 refine K.open' (fun _ h=>talP_open h) ?_
 rintro⟨⟨us,vs,os,mT,mO⟩,hV⟩
 dsimp only
 refine K.conv (fun w h=>h.pick (A:=woP bw hd S.W) Y11) ?_
 refine K.open' (fun _ h=>woP_open h) ?_
 rintro⟨⟨hv,dv,wv,ps⟩,hVl,e8,e9⟩
 dsimp only at hVl e8 e9 ⊢
 obtain⟨h1,h2,h3⟩:=hV
 dsimp only at h1 h2 h3
 obtain⟨p,hp⟩:∃e,ps[k]? =some e:=⟨_,List.getElem?_eq_getElem (by omega)⟩
 obtain⟨uv,huv⟩:∃e,us[ix k u]? =some e:=⟨us[ix k u],List.getElem?_eq_getElem (by omega)⟩
 obtain⟨vv,hvv⟩:∃e,vs[ix k u]? =some e:=⟨vs[ix k u],List.getElem?_eq_getElem (by omega)⟩
 have hlen:=taC_len (bw:=bw) (n:=S.n) (V:=⟨us,vs,os,mT,mO⟩) h1 h2
 have hkk:k<S.W.hs.length:=by omega
 refine Z231 ?_
 refine KO.box rfl rfl Y68 rfl ?_;intro b3
 refine Z0 ?_
 refine K.draw [.pure,.pure,.pure,.read,.pure,.read,.pure,.pure,.pure,.read,.keep,.pure,.read,.keep,.pure,.pure,.pure] [0,1,2,3,4,5,6,7,8,9,11,12,10,13,14,15,16] Y62 Y62 ?_
 refine Z26 ?_
 refine Z298 ?_
 refine KO.ld rfl rfl Tryz.isAgg55 Y11 Y68 rfl ?_
 refine KO.fo0 (off:=1) rfl Tryz.runUnderlying38 rfl rfl Tryz.sizeOf3 rfl ?_
 refine Z17 ?_
 refine Z342 ?_
 refine Z38 ?_
 refine KO.fo0 (off:=4) rfl Tryz.runUnderlying38 rfl rfl Tryz.sizeOf3 rfl ?_
 refine Z17 ?_
 refine KO.ce (cp:=[]) rfl rfl rfl Tryz.call13 rfl (pick_e w0 _ xk (S.n:Nat) (by omega) (by omega)) ?_;rintro v' L' ⟨rfl,rfl⟩;rw[hpk]
 refine KO.ce (cp:=[]) rfl rfl rfl Tryz.call13 rfl (pick_e w0 _ xu 5 (by decide) (by decide)) ?_;rintro v' L' ⟨rfl,rfl⟩;rw[hpu]
 refine Z166 ?_
 refine Z21 ?_
 refine K.conv (L':=woX bw ⟨hv,dv,wv,ps⟩ S.W (taX bt bw ⟨us,vs,os,mT,mO⟩ S (blk b3 (.cells (ackC ⟨xw,xk,xn,xm,xu⟩).toArray 38 (0,0))::L))) (fun w h=>h.all Y7) ?_
 refine Z72 ?_
 refine KO.ce (cp:=[]) rfl rfl rfl Tryz.call26 rfl (whouse_e w0 _ bw ⟨hv,dv,wv,ps⟩ S.W k p hVl hp) ?_;rintro v' L' ⟨rfl,rfl⟩
 refine Z106 ?_
 refine Z97 ?_
 refine Z162 ?_
 refine Z231 ?_
 refine Z28 ?_
 refine KO.ce (cp:=[]) rfl rfl rfl Tryz.call46 rfl (wmany_x w0 _ bw ⟨hv,dv,wv,ps⟩ S.W) ?_;rintro v' L' ⟨rfl,rfl⟩
 refine Z28 ?_
 refine Z170 ?_
 refine KO.nil ?_
 refine KQ.next ?_
 refine K.cut (fun _:Unit=>[(0,ptrV bt),(3,.pointer (some ⟨b3,0,none⟩)),(4,ptrV bw),(5,.int .i64 (k:Nat)),(6,.int .i64 (u:Nat)),(7,ptrV p.1),(9,.int .i64 i)]) (fun _=>woX bw ⟨hv,dv,wv,ps⟩ S.W (taX bt bw ⟨us,vs,os,mT,mO⟩ S (blk b3 (.cells (ackC ⟨xw,xk,xn,xm,xu⟩).toArray 38 (0,0))::L))) (fun _=>True) ?_ ?_
 ·refine K.condD rfl (fun hw1=>?_) (fun hw1=>?_)
  ·have hw2:0<S.W.way.length:=by omega
   rw[if_pos hw2]at hi
   refine Z231 ?_
   refine Z188 ?_
   refine Z1 ?_
   refine KO.ce (cp:=[]) rfl rfl rfl Tryz.call13 rfl (pick_e w0 _ xn (S.W.way.length:Nat) (by omega) (by omega)) ?_;rintro v' L' ⟨rfl,rfl⟩;rw[hi]
   refine Z144 ?_
   refine KQ.mid () trivial ⟨rfl,rfl,rfl,rfl,rfl,rfl,rfl,trivial⟩ (fun w' hs'=>hs')
  ·have hw2:¬0<S.W.way.length:=by omega
   rw[if_neg hw2]at hi
   subst hi
   refine Z189 ?_
   refine KQ.mid () trivial ⟨rfl,rfl,rfl,rfl,rfl,rfl,rfl,trivial⟩ (fun w' hs'=>hs')
 rintro _ _
 clear hi hi2
 refine Z3 ?_
 refine KO.fo0 (off:=0) rfl Tryz.runUnderlying38 rfl rfl Tryz.sizeOf3 rfl ?_
 refine Z38 ?_
 refine Z39 ?_
 refine Z231 ?_
 refine Z251 ?_
 refine K.condD rfl (fun hw0=>?_) (fun hw0=>?_)
 ·rw[if_pos hw0]
  obtain⟨j,hj,hj3⟩:∃j:Nat,pk xn 3=(j:Nat)∧j<3:=⟨(pk xn 3).toNat,by have :=pk_lt xn (n:=3) (by decide);omega,by have :=pk_lt xn (n:=3) (by decide);omega⟩
  have hpm:=pk_lt xm (n:=3) (by decide)
  have hq:w0.cell? ((⟨0,0,none⟩:Addr).add (j *1))=some (.string (q3S j)):=by rw[Addr.add_lit,Nat.zero_add,Nat.mul_one];exact hQ j hj3
  have hqs:=(wordB_size (q3S_word j)).2
  have hmx:(1000000:Nat)≤maxLen:=by decide
  rw[show(pk xn 3).toNat=j by omega]
  refine Z53 ?_
  refine K.draw [.pure,.read,.keep,.pure,.read,.pure,.read,.keep,.pure,.pure] [0,1,5,6,2,3,4,7,8,9] Y62 Y62 ?_
  refine Z188 ?_
  refine Z258 ?_
  refine KO.ce (cp:=[]) rfl rfl rfl Tryz.call13 rfl (pick_e w0 _ xn 3 (by decide) (by decide)) ?_;rintro v' L' ⟨rfl,rfl⟩;rw[hj]
  refine Z310 ?_
  refine KO.ce (cp:=[]) rfl rfl rfl Tryz.call13 rfl (pick_e w0 _ xm 3 (by decide) (by decide)) ?_;rintro v' L' ⟨rfl,rfl⟩
  refine Z7 ?_
  refine Z21 ?_
  generalize q3S j=q at hqs hq ⊢
  generalize pk xm 3=pm at hpm ⊢
  refine Z8 ?_
  refine Z125 ?_
  refine KO.cl (cp:=[]) rfl rfl rfl Tryz.call14 rfl (KC.famC (φ:=fun v=>v=.tuple #[.int .i64 (putI y.1 (u:Nat) q pm xS),errV 70 (putE y.1 (u:Nat) q pm xS)]) hp hy Y11 (fun L=>KC.hdH (fun L=>hput_c w0 L p.1 p.2 75420 y.1 (u:Nat) q pm xS hyO (by omega) (by omega) (by decide) (fun z hz=>by have :=hym z hz;omega)))) ?_;rintro v' L' ⟨rfl,rfl⟩
  refine Z178 ?_
  refine K.conv (L':=woX bw ⟨hv,dv,wv,ps⟩ (S.W.setH k (putH y.1 (u:Nat) q pm xS,y.2)) (taX bt bw ⟨us,vs,os,mT,mO⟩ S (blk b3 (.cells (ackC ⟨xw,xk,xn,xm,xu⟩).toArray 38 (0,0))::L))) (fun w h=>h.all Y7) ?_
  have hnl:ps.length=(S.W.setH k (putH y.1 (u:Nat) q pm xS,y.2)).hs.length:=by rw[setH_n];exact hVl
  unfold taPut
  dsimp only
  rw[eH,eD]
  generalize hH1:putH y.1 (u:Nat) q pm xS=H1 at hnl ⊢
  refine Z8 ?_
  refine Z244 ?_
  refine K.condD rfl (fun he=>?_) (fun he=>?_)
  ·rw[if_pos he,hPd]
   generalize putI y.1 (u:Nat) q pm xS=id
   refine Z214 ?_
   refine Z34 ?_
   refine Z46 ?_
   refine KO.alloc rfl Tryz.zeroValue44 Y68 rfl ?_;intro b15
   refine Z278 ?_
   refine Z8 ?_
   refine Z266 ?_
   refine KO.nil ?_
   refine KQ.next ?_
   refine K.cut (fun _:Unit=>[(0,ptrV bt),(5,.int .i64 (k:Nat)),(6,.int .i64 (u:Nat)),(15,.pointer (some ⟨b15,0,none⟩))]) (fun _=>blk b15 (.cells (msC (taPutM S.n k id pm q)).toArray 44 (0,0))::woX bw ⟨hv,dv,wv,ps⟩ (S.W.setH k (H1,y.2)) (taX bt bw ⟨us,vs,os,mT,mO⟩ S (blk b3 (.cells (ackC ⟨xw,xk,xn,xm,xu⟩).toArray 38 (0,0))::L))) (fun _=>True) ?_ ?_
   ·refine K.condD rfl (fun hf=>?_) (fun hf=>?_)
    ·have hm:taPutM S.n k id pm q=⟨id,pm,xS,inS,((k:Int)+1)%S.n⟩:=by unfold taPutM;rw[if_pos (show q=farS from hf)]
     rw[hm]
     refine K.drawX [.pure,.pure,.pure,.pure,.pure,.read,.pure,.pure,.write,.pure,.write] [(5,8)] [[0,1,2,3,4,5,6,7,8,9,10],[0,1,2,3,4,7,8,5,6,9,10]] Y62 Y62 Y62 ⟨?_,?_,trivial⟩
     focus
      show KO _ _ _ _ _ _ _ _ _ _
      refine Z1 ?_
      refine Z23 ?_
      refine Z342 ?_
      refine Z329 ?_
      refine Z74 ?_
      (refine KO.sto rfl rfl rfl Y68 Y46 Y68 Y21 Y68 Y0 ?_)
      refine Z82 ?_
      (refine KO.sto rfl rfl rfl Y68 Y45 Y68 Y21 Y68 Y0 ?_)
      refine KO.nil ?_
     rotate_left
     focus
      show KO _ _ _ _ _ _ _ _ _ _
      refine Z1 ?_
      refine Z23 ?_
      refine Z342 ?_
      refine Z74 ?_
      (refine KO.sto rfl rfl rfl Y68 Y46 Y68 Y21 Y68 Y0 ?_)
      refine Z329 ?_
      refine Z82 ?_
      (refine KO.sto rfl rfl rfl Y68 Y45 Y68 Y21 Y68 Y0 ?_)
      refine KO.nil ?_
     rotate_left
     all_goals (refine KQ.mid () trivial ⟨rfl,rfl,rfl,rfl,trivial⟩ (fun w' hs'=>hs'.all Y30))
    ·have hm:taPutM S.n k id pm q=⟨id,pm,xS,q,k⟩:=by unfold taPutM;rw[if_neg (show ¬q=farS from hf)]
     rw[hm]
     refine Z189 ?_
     refine KQ.mid () trivial ⟨rfl,rfl,rfl,rfl,trivial⟩ (fun w' hs'=>hs'.all Y30)
   rintro _ _
   generalize taPutM S.n k id pm q=mm
   refine Z276 ?_
   refine K.fact (fun _ hs=>SL_form hs) ?_
   rintro⟨a1,c1,rfl,hg1⟩
   have hcu:=taC_us (bw:=bw) (n:=S.n) (V:=⟨us,vs,os,mT,mO⟩) huv
   refine K.draw [.pure,.pure,.pure,.pure,.pure,.pure,.pure,.pure,.pure,.pure,.read,.read,.keep,.write,.pure,.pure,.pure,.pure,.write] [0,1,2,3,4,5,6,7,8,9,10,11,14,15,16,12,13,17,18] Y62 Y62 ?_
   refine Z34 ?_
   refine Z125 ?_
   refine Z26 ?_
   refine Z73 ?_
   refine Z160 ?_
   refine KO.ldAt (i:=3+ix k u) rfl rfl Tryz.isAgg49 Y11 Y17 hcu rfl ?_
   refine Z113 ?_
   refine Z49 ?_
   refine Z73 ?_
   refine KO.bs1 (z:=(Value.agg #[.int .i64 0,.int .i64 0,.string ⟨#[]⟩,.string ⟨#[]⟩,.int .i64 0])) (sz:=5) (by':=56) rfl rfl Tryz.underlying49 Y62 Y68 Y68 (by decide) (by decide) rfl ?_;intro b105
   refine KO.app (cf:=msC) (z:=Value.agg #[.int .i64 0,.int .i64 0,.string ⟨#[]⟩,.string ⟨#[]⟩,.int .i64 0]) (sz:=5) (by':=56) (xs:=Pl) rfl rfl rfl (.tail .head) .head Tryz.underlying49 Y62 Y68 mm rfl rfl rfl (by omega) (by decide) rfl ?_;intro v106;refine KO.fact (fun _ hs=>SL_form hs) ?_;rintro⟨a106,k106,hv106,-⟩
   refine Z160 ?_
   refine KO.stAt (b:=bt) (i:=3+ix k u) rfl rfl rfl (by rw[hv106];rfl) Y42 (by rw[hv106];rfl) Y11 Y17 (by rw[hlen];omega) ?_;rw[taC_setus Y47]
   refine Z44 ?_
   refine KQ.end0 rfl (fun w' hs'=>⟨_,_,rfl,⟨rfl,rfl⟩,?_⟩)
   have hs2:=fam_in (f:=tmS) (ps:=us) (xs:=S.P) (i:=ix k u) (p:=v106) (x:=Pl++[mm]) (by omega) (by omega) (hs'.pick2 (A:=tmS v106 (Pl++[mm])) (B:=fam tmS (us.eraseIdx (ix k u)) (S.P.eraseIdx (ix k u))) Y11 Y11)
   exact tal_fin (V:=⟨hv,dv,wv,ps⟩) (TV:=⟨us.set (ix k u) v106,vs,os,mT,mO⟩) hnl e8 e9 ⟨by simpa using h1,h2,h3⟩ (hs2.all Y5)
  ·rw[if_neg he]
   refine Z153 ?_
   refine KQ.end0 rfl (fun w' hs'=>⟨_,_,rfl,⟨rfl,rfl⟩,?_⟩)
   exact tal_fin (V:=⟨hv,dv,wv,ps⟩) (TV:=⟨us,vs,os,mT,mO⟩) hnl e8 e9 ⟨h1,h2,h3⟩ (hs'.all Y5)
 refine Z291 ?_
 refine K.condD rfl (fun hw1=>?_) (fun hw1=>?_)
 ·rw[if_neg hw0,if_pos hw1]
  obtain⟨j,hj,hj2⟩:∃j:Nat,pk xn 2=(j:Nat)∧j<2:=⟨(pk xn 2).toNat,by have :=pk_lt xn (n:=2) (by decide);omega,by have :=pk_lt xn (n:=2) (by decide);omega⟩
  have hq:w0.cell? ((⟨0,0,none⟩:Addr).add (j *1))=some (.string (q3S j)):=by rw[Addr.add_lit,Nat.zero_add,Nat.mul_one];exact hQ j (by omega)
  rw[show(pk xn 2).toNat=j by omega]
  refine Z3 ?_
  refine Z188 ?_
  refine KO.ce (cp:=[]) rfl rfl rfl Tryz.call13 rfl (pick_e w0 _ xn 2 (by decide) (by decide)) ?_;rintro v' L' ⟨rfl,rfl⟩;rw[hj]
  refine Z310 ?_
  refine Z21 ?_
  have hwd:=q3S_word j
  clear hq
  generalize q3S j=q0 at hwd ⊢
  refine Z231 ?_
  refine Z258 ?_
  refine KO.ce (cp:=[]) rfl rfl rfl Tryz.call13 rfl (pick_e w0 _ xm 5 (by decide) (by decide)) ?_;rintro v' L' ⟨rfl,rfl⟩
  refine Z68 ?_
  refine KO.nil ?_
  refine KQ.next ?_
  refine K.cut (fun _:Unit=>[(0,ptrV bt),(5,.int .i64 (k:Nat)),(6,.int .i64 (u:Nat)),(7,ptrV p.1),(16,.string (if pk xm 5=0 then deadS else q0))]) (fun _=>woX bw ⟨hv,dv,wv,ps⟩ S.W (taX bt bw ⟨us,vs,os,mT,mO⟩ S (blk b3 (.cells (ackC ⟨xw,xk,xn,xm,xu⟩).toArray 38 (0,0))::L))) (fun _=>True) ?_ ?_
  ·refine K.condD rfl (fun hf=>?_) (fun hf=>?_)
   ·rw[if_pos hf]
    refine Z231 ?_
    refine Z144 ?_
    refine KQ.mid () trivial ⟨rfl,rfl,rfl,rfl,rfl,trivial⟩ (fun w' hs'=>hs'.all Y30)
   ·rw[if_neg hf]
    refine Z189 ?_
    refine KQ.mid () trivial ⟨rfl,rfl,rfl,rfl,rfl,trivial⟩ (fun w' hs'=>hs'.all Y30)
  rintro _ _
  have hqw:wordB (if pk xm 5=0 then deadS else q0)=true:=by
   split
   ·exact deadS_word
   ·exact hwd
  generalize (if pk xm 5=0 then deadS else q0)=q at hqw ⊢
  unfold taGet
  dsimp only
  rw[eH,eD]
  have hget:getE y.1 (u:Nat) q=0→getM y.1 (u:Nat) q∈S.T.map (·.2):=fun he=>by
   obtain⟨C0,gg⟩:=hS.gi
   have :=(gg.get hS.B hkn hu5 (s:=q) (by rw[eH];exact he)).2
   rw[eH]at this;exact this
  refine Z3 ?_
  refine Z125 ?_
  refine KO.cl (cp:=[]) rfl rfl rfl Tryz.call15 rfl (KC.famC (φ:=fun v=>v=.tuple #[.agg (msC (getM y.1 (u:Nat) q)).toArray,errV 70 (getE y.1 (u:Nat) q)]) hp hy Y11 (fun L=>KC.hdH (fun L=>hget_c w0 L p.1 p.2 75420 y.1 (u:Nat) q hyO (by omega) (fun z hz=>by have :=hym z hz;omega)))) ?_;rintro v' L' ⟨rfl,rfl⟩
  refine Z47 ?_
  refine KO.alloc rfl Tryz.zeroValue44 Y68 rfl ?_;intro b17
  refine Z67 ?_
  refine Z21 ?_
  refine K.conv (L':=blk b17 (.cells (msC (getM y.1 (u:Nat) q)).toArray 44 (0,0))::woX bw ⟨hv,dv,wv,ps⟩ (S.W.setH k (getH y.1 (u:Nat) q,y.2)) (taX bt bw ⟨us,vs,os,mT,mO⟩ S (blk b3 (.cells (ackC ⟨xw,xk,xn,xm,xu⟩).toArray 38 (0,0))::L))) (fun w h=>h.all Y7) ?_
  have hnl:ps.length=(S.W.setH k (getH y.1 (u:Nat) q,y.2)).hs.length:=by rw[setH_n];exact hVl
  generalize hH1:getH y.1 (u:Nat) q=H1 at hnl ⊢
  refine Z8 ?_
  refine Z244 ?_
  refine K.condD rfl (fun he=>?_) (fun he=>?_)
  ·rw[if_pos he,hGd]
   have hfm:=hS.find (hget he)
   clear hget
   generalize getM y.1 (u:Nat) q=m at hfm ⊢
   have hgm:(getK (thM S.T) m.id).getD (.agg (msC zeroMs).toArray)=.agg (msC m).toArray:=by rw[thM_get,hfm];rfl
   have hokk:(S.ok&&decide ((getK S.T m.id).getD zeroMs=m))=S.ok:=by rw[hfm];simp
   rw[hokk]
   refine Z53 ?_
   refine K.draw [.pure,.pure,.pure,.read,.pure,.read,.read,.read,.pure] [0,1,2,3,4,5,6,7,8] Y62 Y62 ?_
   refine Z26 ?_
   refine Z95 ?_
   refine Z25 ?_
   refine KO.ld (v:=.int .i64 m.id) rfl rfl Tryz.isAgg3 Y21 Y68 rfl ?_
   refine KO.lkm intKey m.id rfl rfl rfl Tryz.underlying56 Tryz.underlying3 Tryz.zeroValue44 Y11 rfl ?_;rw[show(Value.agg #[.int .i64 0,.int .i64 0,.string ⟨#[]⟩,.string ⟨#[]⟩,.int .i64 0])=.agg (msC zeroMs).toArray from rfl,hgm]
   refine Z124 ?_
   refine KO.neA (b:=decide (m=m)) rfl rfl Y62 (ms_eq m m) rfl ?_
   refine Z224 ?_
   refine Z270 ?_
   refine K.fact (fun _ hs=>SL_form hs) ?_
   rintro⟨a1,c1,rfl,hg1⟩
   have hcv:=taC_vs (bw:=bw) (n:=S.n) (V:=⟨us,vs,os,mT,mO⟩) h1 hvv
   refine Z102 ?_
   refine K.draw [.pure,.pure,.pure,.pure,.pure,.pure,.pure,.pure,.pure,.pure,.read,.pure,.read,.keep,.write,.pure,.pure,.pure,.pure,.write] [0,1,2,3,4,5,6,7,8,9,10,11,12,15,16,17,13,14,18,19] Y62 Y62 ?_
   refine Z34 ?_
   refine Z125 ?_
   refine Z26 ?_
   refine Z88 ?_
   refine Z161 ?_
   refine KO.ldAt (i:=23+ix k u) rfl rfl Tryz.isAgg23 Y11 Y17 hcv rfl ?_
   refine Z25 ?_
   refine KO.ld (v:=.int .i64 m.id) rfl rfl Tryz.isAgg3 Y11 Y68 rfl ?_
   refine Z49 ?_
   refine Z88 ?_
   refine KO.bs1 (z:=(Value.int .i64 0)) (sz:=1) (by':=8) rfl rfl Tryz.underlying23 Y62 Y68 Y68 (by decide) (by decide) rfl ?_;intro b156
   refine KO.app (cf:=iC) (z:=Value.int .i64 0) (sz:=1) (by':=8) (xs:=Gl) rfl rfl rfl (.tail .head) .head Tryz.underlying23 Y62 Y68 m.id rfl rfl rfl (by omega) (by decide) rfl ?_;intro v157;refine KO.fact (fun _ hs=>SL_form hs) ?_;rintro⟨a157,k157,hv157,-⟩
   refine Z161 ?_
   refine KO.stAt (b:=bt) (i:=23+ix k u) rfl rfl rfl (by rw[hv157];rfl) Y44 (by rw[hv157];rfl) Y11 Y17 (by rw[hlen];omega) ?_;rw[taC_setvs h1 Y47]
   refine Z44 ?_
   refine KQ.end0 rfl (fun w' hs'=>⟨_,_,rfl,⟨rfl,rfl⟩,?_⟩)
   have hs2:=fam_in (f:=intS) (ps:=vs) (xs:=S.G) (i:=ix k u) (p:=v157) (x:=Gl++[m.id]) (by omega) (by omega) (hs'.pick2 (A:=intS v157 (Gl++[m.id])) (B:=fam intS (vs.eraseIdx (ix k u)) (S.G.eraseIdx (ix k u))) Y11 Y11)
   exact tal_fin (V:=⟨hv,dv,wv,ps⟩) (TV:=⟨us,vs.set (ix k u) v157,os,mT,mO⟩) hnl e8 e9 ⟨h1,by simpa using h2,h3⟩ (hs2.all Y5)
  ·rw[if_neg he]
   refine Z153 ?_
   refine KQ.end0 rfl (fun w' hs'=>⟨_,_,rfl,⟨rfl,rfl⟩,?_⟩)
   exact tal_fin (V:=⟨hv,dv,wv,ps⟩) (TV:=⟨us,vs,os,mT,mO⟩) hnl e8 e9 ⟨h1,h2,h3⟩ (hs'.all Y5)
 refine Z291 ?_
 refine K.condD rfl (fun hw2=>?_) (fun hw2=>?_)
 ·rw[if_neg hw0,if_neg hw1,if_pos hw2]
  unfold taCom
  dsimp only
  obtain⟨C0,gg⟩:=hS.gi
  obtain⟨hkn1,hke⟩:=hS.keys
  have huy:(S.W.H k).units[u]? =some (y.1.uAt u):=by rw[eH];exact hux
  have hgin:=gg.gets_in hkn huy
  have hui:=(gg.hi k y hy).unit u _ hux
  have hfr:=gg.fresh k y hy u _ hux
  have hrt:=(hyB.units _ (List.mem_of_getElem? hux)).1
  rw[eH]at hPe hGe
  have hnd:(S.T.map (·.1)++Pl.map (·.id)).Nodup:=by
   rw[hPe,List.nodup_append,List.map_map]
   refine⟨hkn1,hui.pn,fun a ha b hb=>?_⟩
   obtain⟨q,hq,rfl⟩:=List.mem_map.1 hb
   rw[hke]at ha
   exact fun e=>hfr q hq (by rw[show q.1.id=a from e.symm];exact ha)
  have hgn:Gl.Nodup:=by rw[hGe];exact hui.gn
  have hgi2:∀i∈Gl,i∈S.T.map (·.1):=fun i hi=>by rw[hke];exact hgin i (by rw[←hGe];exact hi)
  have hpri:∀m∈Pl,0≤m.pri∧m.pri≤9:=fun m hm=>by
   rw[hPe]at hm
   obtain⟨q,hq,rfl⟩:=List.mem_map.1 hm
   obtain⟨-,-,a,b,-⟩:=msRight_parts (hrt.puts q hq)
   exact⟨a,b⟩
  have hle:=hyB.left
  rw[eH,eD]
  refine Z214 ?_
  refine KO.cl (cp:=[]) rfl rfl rfl Tryz.call16 rfl (KC.famC (φ:=fun v=>v=errV 70 (cmE y.1 y.2 (u:Nat))) (y:=(cmH y.1 y.2 (u:Nat),cmD y.1 y.2 (u:Nat))) hp hy Y11 (fun L=>KC.hd (y:=(cmH y.1 y.2 (u:Nat),cmD y.1 y.2 (u:Nat))) (hcommit_c w0 L p.1 p.2 75420 y.1 y.2 (u:Nat) hT hM hyO (by omega) (fun z hz=>(hyB.units z hz).1) hyB.len ⟨by omega,by omega⟩))) ?_;rintro v' L' ⟨rfl,rfl⟩
  refine Z244 ?_
  refine K.conv (L':=woX bw ⟨hv,dv,wv,ps⟩ (S.W.setH k (cmH y.1 y.2 (u:Nat),cmD y.1 y.2 (u:Nat))) (taX bt bw ⟨us,vs,os,mT,mO⟩ S (blk b3 (.cells (ackC ⟨xw,xk,xn,xm,xu⟩).toArray 38 (0,0))::L))) (fun w h=>h.all Y7) ?_
  have hnl:ps.length=(S.W.setH k (cmH y.1 y.2 (u:Nat),cmD y.1 y.2 (u:Nat))).hs.length:=by rw[setH_n];exact hVl
  generalize hH1:(cmH y.1 y.2 (u:Nat),cmD y.1 y.2 (u:Nat))=H1 at hnl ⊢
  refine K.condD rfl (fun he=>?_) (fun he=>?_)
  ·rw[if_pos he]
   refine K.conv (fun w hw=>woP_mk (hd:=hd) ⟨hv,dv,wv,ps⟩ hnl hw e8 e9) ?_
   refine K.conv (fun w hw=>talP_mk (bt:=bt) (bw:=bw) (S:={S with W:=S.W.setH k H1}) (L:=woP bw hd (S.W.setH k H1)::blk b3 (.cells (ackC ⟨xw,xk,xn,xm,xu⟩).toArray 38 (0,0))::L) ⟨us,vs,os,mT,mO⟩ ⟨h1,h2,h3⟩ (hw.all Y7)) ?_
   refine Z8 ?_
   refine Z34 ?_
   refine KO.cl (cp:=[]) rfl rfl rfl Tryz.call68 rfl (tover_c w0 _ bt bw k u (1000*c) {S with W:=S.W.setH k H1} (by omega) hu5 hP20 hG20 hO (by omega) Pl Gl hPl hGl (by omega) (by omega) hpri hnd hgn hgi2) ?_;rintro v' L' ⟨rfl,rfl⟩
   refine Z44 ?_
   refine KQ.end0 rfl (fun w' hs'=>⟨_,_,rfl,⟨rfl,rfl⟩,?_⟩)
   exact hs'.all Y5
  ·rw[if_neg he]
   refine Z153 ?_
   refine KQ.end0 rfl (fun w' hs'=>⟨_,_,rfl,⟨rfl,rfl⟩,?_⟩)
   exact tal_fin (V:=⟨hv,dv,wv,ps⟩) (TV:=⟨us,vs,os,mT,mO⟩) hnl e8 e9 ⟨h1,h2,h3⟩ (hs'.all Y5)
 refine Z291 ?_
 refine K.condD rfl (fun hw3=>?_) (fun hw3=>?_)
 ·rw[if_neg hw0,if_neg hw1,if_neg hw2,if_pos hw3]
  unfold taBk
  dsimp only
  rw[eH,eD]
  refine Z214 ?_
  refine KO.cl (cp:=[]) rfl rfl rfl Tryz.call17 rfl (KC.famC (φ:=fun v=>v=errV 70 (bkE y.1 (u:Nat))) hp hy Y11 (fun L=>KC.hdH (fun L=>hback_c w0 L p.1 p.2 75420 y.1 (u:Nat) hyO (by omega) (fun z hz=>by have :=hym z hz;omega)))) ?_;rintro v' L' ⟨rfl,rfl⟩
  refine Z244 ?_
  refine K.conv (L':=woX bw ⟨hv,dv,wv,ps⟩ (S.W.setH k (bkH y.1 (u:Nat),y.2)) (taX bt bw ⟨us,vs,os,mT,mO⟩ S (blk b3 (.cells (ackC ⟨xw,xk,xn,xm,xu⟩).toArray 38 (0,0))::L))) (fun w h=>h.all Y7) ?_
  have hnl:ps.length=(S.W.setH k (bkH y.1 (u:Nat),y.2)).hs.length:=by rw[setH_n];exact hVl
  generalize hH1:bkH y.1 (u:Nat)=H1 at hnl ⊢
  refine K.condD rfl (fun he=>?_) (fun he=>?_)
  ·rw[if_pos he]
   have hlen2:=taC_len (bw:=bw) (n:=S.n) (V:=⟨us.set (ix k u) nilV,vs,os,mT,mO⟩) Y53 h2
   refine Z276 ?_
   refine Z270 ?_
   refine Z219 ?_
   refine Z125 ?_
   refine Z26 ?_
   refine Z73 ?_
   refine Z160 ?_
   refine Z49 ?_
   refine Z88 ?_
   refine KO.stAt (v:=nilV) (b:=bt) (i:=3+ix k u) rfl rfl Y68 rfl Y42 rfl Y11 Y17 (by rw[hlen];omega) ?_;rw[taC_setus Y47]
   refine Z161 ?_
   refine KO.stAt (v:=nilV) (b:=bt) (i:=23+ix k u) rfl rfl Y68 rfl Y44 rfl Y21 Y17 (by rw[hlen2];omega) ?_;rw[taC_setvs Y53 Y47]
   refine Z44 ?_
   refine KQ.end0 rfl (fun w' hs'=>⟨_,_,rfl,⟨rfl,rfl⟩,?_⟩)
   have hs2:=fam_in (f:=tmS) (ps:=us) (xs:=S.P) (i:=ix k u) (p:=nilV) (x:=[]) (by omega) (by omega) (SL_nil (hs'.pick (A:=fam tmS (us.eraseIdx (ix k u)) (S.P.eraseIdx (ix k u))) Y11))
   have hs3:=fam_in (f:=intS) (ps:=vs) (xs:=S.G) (i:=ix k u) (p:=nilV) (x:=[]) (by omega) (by omega) (SL_nil (hs2.pick (A:=fam intS (vs.eraseIdx (ix k u)) (S.G.eraseIdx (ix k u))) Y11))
   exact tal_fin (V:=⟨hv,dv,wv,ps⟩) (TV:=⟨us.set (ix k u) nilV,vs.set (ix k u) nilV,os,mT,mO⟩) hnl e8 e9 ⟨by simpa using h1,by simpa using h2,h3⟩ (hs3.all Y5)
  ·rw[if_neg he]
   refine Z153 ?_
   refine KQ.end0 rfl (fun w' hs'=>⟨_,_,rfl,⟨rfl,rfl⟩,?_⟩)
   exact tal_fin (V:=⟨hv,dv,wv,ps⟩) (TV:=⟨us,vs,os,mT,mO⟩) hnl e8 e9 ⟨h1,h2,h3⟩ (hs'.all Y5)
 refine Z291 ?_
 refine K.condD rfl (fun hw4=>?_) (fun hw4=>?_)
 ·rw[if_neg hw0,if_neg hw1,if_neg hw2,if_neg hw3,if_pos hw4]
  refine Z122 ?_
  refine Z8 ?_
  refine Z34 ?_
  refine Z23 ?_
  refine Z342 ?_
  refine Z329 ?_
  refine KO.cl (cp:=[]) rfl rfl rfl Tryz.call69 rfl (KC.pk1 Y21 (wse_c w0 _ bw c kb hd S.W (k:Nat) (((k:Nat)+1)%(S.n:Int)) hT hM hS.B (by omega) (by omega))) ?_;rintro v' L' ⟨rfl,rfl⟩
  refine Z44 ?_
  refine KQ.end0 rfl (fun w' hs'=>⟨_,_,rfl,⟨rfl,rfl⟩,?_⟩)
  exact talP_mk ⟨us,vs,os,mT,mO⟩ ⟨h1,h2,h3⟩ (hs'.all Y5)
 refine Z291 ?_
 refine K.condD rfl (fun hw5=>?_) (fun hw5=>?_)
 ·rw[if_neg hw0,if_neg hw1,if_neg hw2,if_neg hw3,if_neg hw4,if_pos hw5]
  refine Z122 ?_
  refine Z72 ?_
  refine KO.cl (cp:=[]) rfl rfl rfl Tryz.call70 rfl (KC.pk1 Y21 (wde_c w0 _ bw c kb hd S.W i hT hM hS.B (by omega) (by omega))) ?_;rintro v' L' ⟨rfl,rfl⟩
  refine Z44 ?_
  refine KQ.end0 rfl (fun w' hs'=>⟨_,_,rfl,⟨rfl,rfl⟩,?_⟩)
  exact talP_mk ⟨us,vs,os,mT,mO⟩ ⟨h1,h2,h3⟩ (hs'.all Y5)
 refine Z291 ?_
 refine K.condD rfl (fun hw6=>?_) (fun hw6=>?_)
 ·rw[if_neg hw0,if_neg hw1,if_neg hw2,if_neg hw3,if_neg hw4,if_neg hw5,if_pos hw6]
  refine Z122 ?_
  refine Z72 ?_
  refine KO.cl (cp:=[]) rfl rfl rfl Tryz.call71 rfl (KC.pk1 Y21 (wlo_c w0 _ bw c kb hd S.W i hS.B)) ?_;rintro v' L' ⟨rfl,rfl⟩
  refine Z44 ?_
  refine KQ.end0 rfl (fun w' hs'=>⟨_,_,rfl,⟨rfl,rfl⟩,?_⟩)
  exact talP_mk ⟨us,vs,os,mT,mO⟩ ⟨h1,h2,h3⟩ (hs'.all Y5)
 refine Z291 ?_
 refine K.condD rfl (fun hw7=>?_) (fun hw7=>?_)
 ·rw[if_neg hw0,if_neg hw1,if_neg hw2,if_neg hw3,if_neg hw4,if_neg hw5,if_neg hw6,if_pos hw7]
  refine Z122 ?_
  refine Z72 ?_
  refine KO.cl (cp:=[]) rfl rfl rfl Tryz.call72 rfl (KC.pk1 Y21 (wtw_c w0 _ bw c kb hd S.W i hS.B (by omega))) ?_;rintro v' L' ⟨rfl,rfl⟩
  refine Z44 ?_
  refine KQ.end0 rfl (fun w' hs'=>⟨_,_,rfl,⟨rfl,rfl⟩,?_⟩)
  exact talP_mk ⟨us,vs,os,mT,mO⟩ ⟨h1,h2,h3⟩ (hs'.all Y5)
 refine Z291 ?_
 refine K.condD rfl (fun hw8=>?_) (fun hw8=>?_)
 ·rw[if_neg hw0,if_neg hw1,if_neg hw2,if_neg hw3,if_neg hw4,if_neg hw5,if_neg hw6,if_neg hw7,if_pos hw8]
  refine Z122 ?_
  have hp150:=pk_lt xm (n:=150) (by decide)
  refine K.draw [.pure,.pure,.pure,.read,.keep,.pure,.read,.keep,.pure,.write] [0,1,2,3,5,6,4,7,8,9] Y62 Y62 ?_
  refine Z34 ?_
  refine Z188 ?_
  refine Z258 ?_
  refine KO.ce (cp:=[]) rfl rfl rfl Tryz.call13 rfl (pick_e w0 _ xn 4 (by decide) (by decide)) ?_;rintro v' L' ⟨rfl,rfl⟩
  refine KO.ce (cp:=[]) rfl rfl rfl Tryz.call13 rfl (pick_e w0 _ xm 150 (by decide) (by decide)) ?_;rintro v' L' ⟨rfl,rfl⟩
  refine Z201 ?_
  refine KO.cl (cp:=[]) rfl rfl rfl Tryz.call73 rfl (KC.pk1 Y21 (wcut_c w0 _ bw c kb hd S.W (k:Nat) (pk xn 4) (pk xm 150-1) hS.B)) ?_;rintro v' L' ⟨rfl,rfl⟩
  refine Z44 ?_
  refine KQ.end0 rfl (fun w' hs'=>⟨_,_,rfl,⟨rfl,rfl⟩,?_⟩)
  exact talP_mk ⟨us,vs,os,mT,mO⟩ ⟨h1,h2,h3⟩ (hs'.all Y5)
 refine Z291 ?_
 refine K.condD rfl (fun hw9=>?_) (fun hw9=>?_)
 ·rw[if_neg hw0,if_neg hw1,if_neg hw2,if_neg hw3,if_neg hw4,if_neg hw5,if_neg hw6,if_neg hw7,if_neg hw8,if_pos hw9]
  have his:S.W.is (k:Nat)=true:=by unfold Wo.is;rw[decide_eq_true_eq];omega
  refine Z122 ?_
  refine K.conv (fun w hw=>talP_mk (bt:=bt) (bw:=bw) (S:=S) (L:=woP bw hd S.W::blk b3 (.cells (ackC ⟨xw,xk,xn,xm,xu⟩).toArray 38 (0,0))::L) ⟨us,vs,os,mT,mO⟩ ⟨h1,h2,h3⟩ (hw.all Y7)) ?_
  refine Z214 ?_
  refine KO.cl (cp:=[]) rfl rfl rfl Tryz.call74 rfl (KC.pk1 Y11 (wre_c w0 _ bw c kb hd hN S.W (k:Nat) hT hM hS.B (by omega))) ?_;rintro v' L' ⟨rfl,rfl⟩;rw[show wCutE S.W (k:Nat)=0 by unfold wCutE;rw[if_pos his]]
  refine KO.eqN rfl Y62 rfl ?_
  refine Z55 ?_
  refine Z72 ?_
  refine KO.cl (cp:=[]) rfl rfl rfl Tryz.call75 rfl (KC.pk1 Y11 (tforget_c w0 _ bt bw k S (by omega) hP20 hG20)) ?_;rintro v' L' ⟨rfl,rfl⟩
  refine Z44 ?_
  have ht:talP bt bw {taForget S k with W:=wRe S.W (k:Nat)}=talP bt bw (taForget S k):=rfl
  rw[ht]
  refine KQ.end0 rfl (fun w' hs'=>⟨_,_,rfl,⟨rfl,rfl⟩,?_⟩)
  exact hs'.all Y5
 refine Z291 ?_
 refine K.condD rfl (fun hw10=>?_) (fun hw10=>?_)
 ·rw[if_neg hw0,if_neg hw1,if_neg hw2,if_neg hw3,if_neg hw4,if_neg hw5,if_neg hw6,if_neg hw7,if_neg hw8,if_neg hw9,if_pos hw10]
  have hlt4:∀j∈List.range S.n,j<4:=fun j hj=>by have :=List.mem_range.1 hj;omega
  refine K.conv (L':=woX bw ⟨hv,dv,wv,ps⟩ S.W (talP bt bw S::blk b3 (.cells (ackC ⟨xw,xk,xn,xm,xu⟩).toArray 38 (0,0))::L)) (fun w hw=>(talP_mk (bt:=bt) (bw:=bw) (S:=S) (L:=woX bw ⟨hv,dv,wv,ps⟩ S.W (blk b3 (.cells (ackC ⟨xw,xk,xn,xm,xu⟩).toArray 38 (0,0))::L)) ⟨us,vs,os,mT,mO⟩ ⟨h1,h2,h3⟩ (hw.all Y7)).all Y7) ?_
  refine Z230 ?_
  refine Z15 ?_
  refine K.loop (fun j:Nat=>[(0,ptrV bt),(4,ptrV bw),(19,.int .i64 (j:Nat))]) (fun j=>woX bw ⟨hv,dv,wv,ps⟩ S.W (talP bt bw ((List.range j).foldl taDown S)::blk b3 (.cells (ackC ⟨xw,xk,xn,xm,xu⟩).toArray 38 (0,0))::L)) (fun j=>j≤S.n) (fun j=>S.n-j) 0 (Nat.zero_le _) ⟨rfl,rfl,rfl,trivial⟩ (fun _ h=>h) ?_
  intro j hj
  obtain⟨Pj,Gj,ej,pj,gj,-⟩:=taDowns (List.range j) S hP20 hG20 (fun i hi=>by have :=List.mem_range.1 hi;omega)
  have hjn:((List.range j).foldl taDown S).n=S.n:=by rw[ej]
  have hjW:((List.range j).foldl taDown S).W=S.W:=by rw[ej]
  have hjP:((List.range j).foldl taDown S).P.length=20:=by rw[ej];exact pj
  have hjG:((List.range j).foldl taDown S).G.length=20:=by rw[ej];exact gj
  have hjs:(List.range (j+1)).foldl taDown S=taDown ((List.range j).foldl taDown S) j:=by rw[List.range_succ,List.foldl_append];rfl
  clear ej pj gj
  by_cases hjl:j<S.n
  ·obtain⟨z,hz,ezH,ezD,-⟩:=hS.at hjl
   obtain⟨q,hq⟩:∃e,ps[j]? =some e:=⟨_,List.getElem?_eq_getElem (show j<ps.length by omega)⟩
   generalize (List.range j).foldl taDown S=Sj at hjn hjW hjP hjG hjs ⊢
   refine K.conv (fun w hw=>hw.pick (A:=talP bt bw Sj) Y11) ?_
   refine K.open' (fun _ h=>talP_open h) ?_
   rintro⟨⟨us',vs',os',mT',mO'⟩,hV'⟩
   dsimp only
   refine Z117 ?_
   refine Z342 ?_
   refine Z17 ?_
   refine Z215 ?_
   refine K.condD rfl (fun h5=>?_) (fun h5=>?_)
   ·refine Z138 ?_
    refine Z10 ?_
    refine Z72 ?_
    refine KO.ce (cp:=[]) rfl rfl rfl Tryz.call26 rfl (whouse_e w0 _ bw ⟨hv,dv,wv,ps⟩ S.W j q hVl hq) ?_;rintro v' L' ⟨rfl,rfl⟩
    refine Z106 ?_
    refine Z97 ?_
    refine Z281 ?_
    refine KO.on rfl rfl rfl ?_;refine KO.ce (cp:=[]) rfl rfl rfl Tryz.call76 rfl (KE.famE0 (φ:=fun u=>u=.bool z.1.down) hq hz Y11 (fun L=>KE.perm (fun w hw=>hw.split) (KE.turn (hdown_e w0 _ _ q.1 q.2 z.1 .head) Y13))) ?_;rintro v' L' ⟨rfl,rfl⟩
    refine Z319 ?_
    refine K.cond rfl (fun h6=>?_) (fun h6=>?_)
    ·have hstep:taDown Sj j=taForget Sj j:=by unfold taDown;rw[hjW,ezH,if_pos h6]
     refine Z72 ?_
     refine KO.cl (cp:=[]) rfl rfl rfl Tryz.call75 rfl (KC.pk1 Y11 (tforget_c w0 _ bt bw j Sj (by omega) hjP hjG)) ?_;rintro v' L' ⟨rfl,rfl⟩
     refine Z13 ?_
     refine Z284 ?_
     refine KQ.round (j+1) (by omega) (by omega) ⟨rfl,rfl,rfl,trivial⟩ (fun w' hs'=>?_)
     rw[hjs,hstep]
     exact hs'.all Y7
    ·have hstep:taDown Sj j=Sj:=by unfold taDown;rw[hjW,ezH,if_neg (by simp[h6])]
     refine Z22 ?_
     refine Z284 ?_
     refine KQ.round (j+1) (by omega) (by omega) ⟨rfl,rfl,rfl,trivial⟩ (fun w' hs'=>?_)
     rw[hjs,hstep]
     exact hs'.all Y7
   ·exfalso
    rw[hjn]at h5
    omega
  ·obtain rfl:j=S.n:=by omega
   have hct:talP bt bw (taCalm S)=talP bt bw ((List.range S.n).foldl taDown S):=rfl
   rw[hct,show(taCalm S).W=calm 1 S.W from rfl]
   generalize (List.range S.n).foldl taDown S=Sj at hjn ⊢
   refine K.conv (fun w hw=>hw.pick (A:=talP bt bw Sj) Y11) ?_
   refine K.open' (fun _ h=>talP_open h) ?_
   rintro⟨⟨us',vs',os',mT',mO'⟩,hV'⟩
   dsimp only
   refine Z117 ?_
   refine Z342 ?_
   refine Z17 ?_
   refine Z215 ?_
   refine K.condD rfl (fun h5=>?_) (fun h5=>?_)
   ·exfalso
    rw[hjn]at h5
    omega
   refine Z138 ?_
   refine Z122 ?_
   refine Z108 ?_
   refine Z8 ?_
   refine KO.cl (cp:=[]) rfl rfl rfl Tryz.call25 rfl (KC.pk1 Y21 (wcalm_c w0 _ bw c kb 1 hd S.W (.inl hN) hT hM hS.B (by omega) (by decide) (by omega))) ?_;rintro v' L' ⟨rfl,rfl⟩
   refine Z44 ?_
   refine KQ.end0 rfl (fun w' hs'=>⟨_,_,rfl,⟨rfl,rfl⟩,?_⟩)
   exact hs'.all Y5
 ·rw[if_neg hw0,if_neg hw1,if_neg hw2,if_neg hw3,if_neg hw4,if_neg hw5,if_neg hw6,if_neg hw7,if_neg hw8,if_neg hw9,if_neg hw10]
  refine Z153 ?_
  refine KQ.end0 rfl (fun w' hs'=>⟨_,_,rfl,⟨rfl,rfl⟩,?_⟩)
  exact tal_fin (V:=⟨hv,dv,wv,ps⟩) (TV:=⟨us,vs,os,mT,mO⟩) hVl e8 e9 ⟨h1,h2,h3⟩ (hs'.all Y5)
end Go.Proofs.YtjhogocabcdjbabGreatDoor
/- world: Ledger, but for its order -/
namespace Go.Proofs.YtjhogocabcdjbabGreatDoor
open Go Go.RowKit WB
def MsSort (w0:World):Prop:= ∀(L:List HP) (v:Value) (xs:List Ms),xs.length<1000000000→(∀m∈xs,0≤m.id∧m.id≤1099511627776)→
 KC Tryz.prog 125 #[v,.func (.func 126) #[] #[]] w0 (SL 44 5 msC v xs::L) (fun u M=>u=.tuple #[]∧∃ys:List Ms,ys.Perm xs∧(ys.Pairwise fun a b=>a.id≤b.id)∧M=SL 44 5 msC v ys::L)
set_option maxRecDepth 100000 in
set_option maxHeartbeats 4000000 in
theorem wled_c (w0:World) (L:List HP) (bw c kb:Nat) (hd:HdT) (W:Wo) (hB:WoB c kb W) (hc:c≤4000) (hsort:MsSort w0):
 KC Tryz.prog 48 #[ptrV bw] w0 (woP bw hd W::L) (fun u M=> ∃out:List Ms,out.Perm (ledP W)∧(out.Pairwise fun a b=>a.id≤b.id)∧M=SL 44 5 msC u out::woP bw hd W::L):=by
 have hn4:=hB.n1
 refine KC.mk (n:=97) Tryz.func48 rfl Tryz.ntmps48 (by simp) ?_
 refine Z53 ?_
 refine K.open' (fun _ h=>woP_open h) ?_
 rintro⟨V,hV,e8,e9⟩
 dsimp only
 obtain⟨hv,dv,wv,ps⟩:=V
 dsimp only at hV e8 e9 ⊢
 refine K.fact (fun w hw=>SL_form (hw.pick (A:=hsS hv (ps.map (·.1))) Y11)) ?_
 rintro⟨a1,c1,rfl,hg1⟩
 obtain⟨g1,rfl⟩:=hg1 Y29
 have hnl:(ps.map (·.1)).length=W.hs.length:=by rw[List.length_map,hV]
 rw[hnl]at e8 ⊢
 clear hg1
 refine Z231 ?_
 refine Z135 ?_
 refine Z28 ?_
 refine Z19 ?_
 refine Z165 ?_
 refine Z119 ?_
 have hlk:∀k,k<W.hs.length→(hkeptL (W.H k)).length≤302*79600:=fun k hk=>by
  obtain⟨x,hx,e1,e2⟩:=wo_get hk
  have h1:=hkeptL_len (hdB79 (hB.hs k x hx) hc)
  have h2:=(hB.hs k x hx).ql
  have h3:=(hB.hs k x hx).B.used
  rw[e1]
  exact Nat.le_trans h1 (Nat.mul_le_mul_right _ (by omega))
 have hlw:∀k,k<W.hs.length→∀j,((List.range j).flatMap (ledWay W k)).length≤j *80000:=fun k hk j=>by
  induction j with
  |zero=>simp
  |succ j ih=>
   have :=ledWay_len hB hc hk j
   rw[List.range_succ,List.flatMap_append,List.length_append,Nat.succ_mul]
   simp only[List.flatMap_cons,List.flatMap_nil,List.append_nil]
   omega
 have hlK:∀k,k≤W.hs.length→((List.range k).flatMap (ledK W)).length≤k *30000000:=fun k=>by
  induction k with
  |zero=>simp
  |succ k ih=>
   intro hk
   have h1:=ih (by omega)
   have h2:=hlk k (by omega)
   have h3:=hlw k (by omega) 4
   rw[List.range_succ,List.flatMap_append,List.length_append,Nat.succ_mul]
   simp only[List.flatMap_cons,List.flatMap_nil,List.append_nil]
   have h4:(ledK W k).length=(hkeptL (W.H k)).length+((List.range 4).flatMap (ledWay W k)).length:=by unfold ledK;rw[List.length_append]
   omega
 refine K.loop (fun q:Nat×Value×List Ms=>[(0,ptrV bw),(3,q.2.1),(20,.slice (some ⟨g1,0,none⟩) W.hs.length c1),(21,.int .i64 (W.hs.length:Nat)),(22,.int .i64 (q.1:Nat))]) (fun q=>SL 44 5 msC q.2.1 q.2.2::woX bw ⟨.slice (some ⟨g1,0,none⟩) W.hs.length c1,dv,wv,ps⟩ W L) (fun q=>q.1≤W.hs.length∧q.2.2.Perm ((List.range q.1).flatMap (ledK W))) (fun q=>W.hs.length-q.1) (0,.slice none 0 0,[]) ⟨Nat.zero_le _,by simp⟩ ⟨rfl,rfl,rfl,rfl,rfl,trivial⟩ (fun _ h=>SL_nil (E:=44) (sz:=5) (cf:=msC) h) ?_
 rintro⟨k,v3,o3⟩ ⟨hk,ho⟩
 dsimp only at hk ho ⊢
 refine Z111 ?_
 refine K.condD rfl (fun h3=>?_) (fun h3=>?_)
 ·have hkn:k<W.hs.length:=by omega
  obtain⟨x,hx⟩:∃e,W.hs[k]? =some e:=⟨_,List.getElem?_eq_getElem hkn⟩
  obtain⟨p,hp⟩:∃e,ps[k]? =some e:=⟨_,List.getElem?_eq_getElem (by omega)⟩
  obtain⟨eH,eD⟩:=wo_at hx
  have hxB:=hB.hs k x hx
  have hB1:=hdB79 hxB hc
  have hu:=hxB.B.used
  have hql:x.1.queues.length≤1000:=by have :=hxB.ql;omega
  have hp1:(ps.map (·.1))[k]? =some p.1:=by rw[List.getElem?_map,hp];rfl
  have hst:W.hs.set k x=W.hs:=List.set_getElem_of hx
  have hlo:=hlK k hk
  have hlo2:=ho.length_eq
  have hkx:=hlk k hkn
  rw[eH]at hkx
  refine Z229 ?_
  refine Z212 ?_
  refine Z7 ?_
  refine Z28 ?_
  refine Z1 ?_
  refine KO.cl (cp:=[]) rfl rfl rfl Tryz.call20 rfl (KC.famR (γ:=Value×List ByteArray) (φ:=fun c u=>u=c.1∧c.2.Perm (x.1.queues.map (·.1))) (A:=fun c=>SL 44 5 msC c.1 ((sortB c.2).flatMap (keptAt x.1))) (y:=x) hp hx Y11 (fun L=>(KC.perm (fun w hw=>hw.split) (KC.turn (hkeptq_c w0 (dkP p.2 x.2::L) p.1 p.2 79600 x.1 hB1 (by omega) hql) (by rintro v M ⟨ns,h1,rfl⟩;exact⟨_,⟨(v,ns),⟨rfl,h1⟩,rfl⟩,fun w hw=>((hw.pick2 (A:=hoP p.1 p.2 x.1) (B:=dkP p.2 x.2) (.tail .head) (.tail .head)).join).swap2⟩))))) ?_;rintro v' L' ⟨⟨vk,ns⟩,⟨rfl,hns⟩,rfl⟩;rw[hst];dsimp only at hns ⊢;have hkp:=kept_perm hB1 hns;have hkl:=hkp.length_eq
  refine KO.appS (cf:=msC) (z:=Value.agg #[.int .i64 0,.int .i64 0,.string ⟨#[]⟩,.string ⟨#[]⟩,.int .i64 0]) (sz:=5) (by':=56) (xs:=o3) (ys:=(sortB ns).flatMap (keptAt x.1)) rfl rfl rfl Y11 (fun w hw=>Src.of (E:=44) (sz:=5) (cf:=msC) .head w hw) Tryz.underlying49 Y62 rfl (fun _=>rfl) (fun _=>rfl) (by omega) (by decide) rfl ?_;intro v30
  refine Z28 ?_
  refine Z15 ?_
  refine K.loop (fun q:Nat×Value×List Ms=>[(0,ptrV bw),(3,q.2.1),(4,.int .i64 (k:Nat)),(5,ptrV p.1),(20,.slice (some ⟨g1,0,none⟩) W.hs.length c1),(21,.int .i64 (W.hs.length:Nat)),(22,.int .i64 (k:Nat)),(31,.int .i64 (q.1:Nat))]) (fun q=>SL 44 5 msC q.2.1 q.2.2::woX bw ⟨.slice (some ⟨g1,0,none⟩) W.hs.length c1,dv,wv,ps⟩ W L) (fun q=>q.1≤4∧q.2.2.Perm ((List.range k).flatMap (ledK W)++hkeptL x.1++(List.range q.1).flatMap (ledWay W k))) (fun q=>4-q.1) (0,v30,o3++(sortB ns).flatMap (keptAt x.1)) ⟨Nat.zero_le _,by simpa using ho.append hkp⟩ ⟨rfl,rfl,rfl,rfl,rfl,rfl,rfl,rfl,trivial⟩ (fun _ h=>h.all Y5) ?_
  clear v30
  rintro⟨j,v6,o6⟩ ⟨hj,ho6⟩
  dsimp only at hj ho6 ⊢
  have hlj:=hlw k hkn j
  have hl6:=ho6.length_eq
  rw[List.length_append,List.length_append]at hl6
  have hstep:(List.range (j+1)).flatMap (ledWay W k)=(List.range j).flatMap (ledWay W k)++ledWay W k j:=by rw[List.range_succ,List.flatMap_append];simp
  refine Z111 ?_
  refine K.condD rfl (fun h7=>?_) (fun h7=>?_)
  ·have hj4:j<4:=by omega
   refine Z229 ?_
   refine Z28 ?_
   refine Z1 ?_
   refine KO.cl (cp:=[]) rfl rfl rfl Tryz.call27 rfl (KC.famR (γ:=Value) (φ:=fun c u=>u=.tuple #[c,errV 70 (waitE x.1 (j:Int))]) (A:=fun c=>SL 44 5 msC c (waitL x.1 (j:Int))) (y:=x) hp hx Y11 (fun L=>(KC.perm (fun w hw=>hw.split) (KC.turn (hwaits_c w0 (dkP p.2 x.2::L) p.1 p.2 79600 x.1 (j:Int) hB1 (by omega)) Y2)))) ?_;rintro v' L' ⟨vw,rfl,rfl⟩;rw[hst];refine KO.fact (fun _ hs=>SL_form hs) ?_;rintro⟨aw,cw,rfl,haw⟩
   refine Z106 ?_
   refine Z126 ?_
   cases hr:rightK x.1 (j:Int)with
   |false=>
    have hlz:ledWay W k j=[]:=by unfold ledWay;rw[eH,hr];rfl
    refine K.condT rfl (by unfold waitE;rw[hr];rfl) ?_
    refine Z108 ?_
    refine Z76 ?_
    refine KQ.round (j+1,v6,o6) ⟨by dsimp only;omega,?_⟩ Y47 ⟨rfl,rfl,rfl,rfl,rfl,rfl,rfl,rfl,trivial⟩ (fun _ h=>h.all Y5)
    dsimp only
    rw[hstep,hlz,List.append_nil]
    exact ho6
   |true=>
    refine K.condF rfl (by unfold waitE;rw[hr];rfl) ?_
    refine Z6 ?_
    refine Z72 ?_
    refine KO.cl (cp:=[]) rfl rfl rfl Tryz.call110 rfl (KC.famR (γ:=Value) (φ:=fun c u=>u=.tuple #[.int .i64 (dbN x.1 (j:Int)),c,errV 70 (dbE x.1 (j:Int))]) (A:=fun c=>SL 3 1 intC c (dbL x.1 (j:Int))) (y:=x) hp hx Y11 (fun L=>(KC.perm (fun w hw=>hw.split) (KC.turn (hdoubt_c w0 (dkP p.2 x.2::L) p.1 p.2 79600 x.1 (j:Int) hB1) Y2)))) ?_;rintro v' L' ⟨vd,rfl,rfl⟩;rw[hst];refine KO.fact (fun _ hs=>SL_form hs) ?_;rintro⟨ad,cd,rfl,had⟩
    refine Z47 ?_
    refine Z187 ?_
    refine Z166 ?_
    refine Z135 ?_
    refine Z21 ?_
    have hdl:dbL x.1 (j:Int)=bcAt x.1 j:=by unfold dbL;rw[if_pos hr,Int.toNat_natCast]
    have hwl:waitL x.1 (j:Int)=qkept (x.1.wAt j):=by unfold waitL;rw[if_pos hr,Int.toNat_natCast]
    have hwn:(waitL x.1 (j:Int)).length≤80000:=by rw[hwl];exact Nat.le_trans (qkept_len _) (Nat.le_trans (hB1.w (j:=j) hj4).len (by omega))
    have hdn:(dbL x.1 (j:Int)).length<1000000:=by
     rw[hdl]
     unfold bcAt
     rw[List.getD_eq_getElem?_getD]
     cases hq:x.1.batch[j]? with
     |none=>decide
     |some l=>exact Nat.lt_of_le_of_lt (hB1.ext.bat l (List.mem_of_getElem? hq)) (by decide)
    refine K.cut (fun _:Unit=>[(0,ptrV bw),(3,v6),(4,.int .i64 (k:Nat)),(6,.int .i64 (j:Nat)),(5,ptrV p.1),(7,.slice aw (waitL x.1 (j:Int)).length cw),(9,.int .i64 (dbN x.1 (j:Int))),(10,.slice ad (dbL x.1 (j:Int)).length cd),(20,.slice (some ⟨g1,0,none⟩) W.hs.length c1),(21,.int .i64 (W.hs.length:Nat)),(22,.int .i64 (k:Nat)),(31,.int .i64 (j:Nat)),(12,.bool false),(56,.bool (decide (bcAt x.1 j≠[]∧W.is (j:Int)=true)))]) (fun _=>SL 3 1 intC (.slice ad (dbL x.1 (j:Int)).length cd) (dbL x.1 (j:Int))::SL 44 5 msC (.slice aw (waitL x.1 (j:Int)).length cw) (waitL x.1 (j:Int))::SL 44 5 msC v6 o6::woX bw ⟨.slice (some ⟨g1,0,none⟩) W.hs.length c1,dv,wv,ps⟩ W L) (fun _=>True) ?_ ?_
    ·by_cases hb0:bcAt x.1 j=[]
     ·have hz:(dbL x.1 (j:Int)).length=0:=by rw[hdl,hb0];rfl
      rw[show decide (bcAt x.1 j≠[]∧W.is (j:Int)=true)=false by simp[hb0]]
      refine Z8 ?_
      refine Z128 ?_
      refine Z170 ?_
      refine Z339 ?_
      refine KO.nil ?_
      exact KQ.mid () trivial ⟨rfl,rfl,rfl,rfl,rfl,rfl,rfl,rfl,rfl,rfl,rfl,rfl,rfl,rfl,trivial⟩ (fun _ h=>h.all Y3)
     ·have hz:0<(dbL x.1 (j:Int)).length:=by rw[hdl];exact List.length_pos_iff.2 hb0
      rw[show decide (bcAt x.1 j≠[]∧W.is (j:Int)=true)=W.is (j:Int)by simp[hb0]]
      refine Z8 ?_
      refine Z128 ?_
      refine Z170 ?_
      refine Z127 ?_
      refine Z1 ?_
      refine KO.on rfl rfl Y61 ?_;refine KO.ce (cp:=[]) rfl rfl rfl Tryz.call78 rfl ((wright_e w0 _ L bw hd W (j:Int) .head).only (fun w h=>woP_mk (W:=W) ⟨.slice (some ⟨g1,0,none⟩) W.hs.length c1,dv,wv,ps⟩ hV (h.all (M:=woX bw ⟨.slice (some ⟨g1,0,none⟩) W.hs.length c1,dv,wv,ps⟩ W L) Y5))) ?_;rintro v' L' ⟨rfl,rfl⟩
      refine Z43 ?_
      refine KO.nil ?_
      exact KQ.mid () trivial ⟨rfl,rfl,rfl,rfl,rfl,rfl,rfl,rfl,rfl,rfl,rfl,rfl,rfl,rfl,trivial⟩ (fun _ h=>h.all Y3)
    rintro - -
    refine K.cut (fun _:Unit=>[(0,ptrV bw),(3,v6),(4,.int .i64 (k:Nat)),(6,.int .i64 (j:Nat)),(5,ptrV p.1),(7,.slice aw (waitL x.1 (j:Int)).length cw),(9,.int .i64 (dbN x.1 (j:Int))),(10,.slice ad (dbL x.1 (j:Int)).length cd),(20,.slice (some ⟨g1,0,none⟩) W.hs.length c1),(21,.int .i64 (W.hs.length:Nat)),(22,.int .i64 (k:Nat)),(31,.int .i64 (j:Nat)),(12,.bool (cameB W k j))]) (fun _=>SL 3 1 intC (.slice ad (dbL x.1 (j:Int)).length cd) (dbL x.1 (j:Int))::SL 44 5 msC (.slice aw (waitL x.1 (j:Int)).length cw) (waitL x.1 (j:Int))::SL 44 5 msC v6 o6::woX bw ⟨.slice (some ⟨g1,0,none⟩) W.hs.length c1,dv,wv,ps⟩ W L) (fun _=>True) ?_ ?_
    ·by_cases hb:bcAt x.1 j≠[]∧W.is (j:Int)=true
     ·refine K.condT rfl (by exact decide_eq_true hb) ?_
      obtain⟨hb0,hbw⟩:=hb
      have hjn:j<W.hs.length:=by have :=wo_is' hbw;omega
      obtain⟨y,hy⟩:∃e,W.hs[j]? =some e:=⟨_,List.getElem?_eq_getElem hjn⟩
      obtain⟨p2,hp2⟩:∃e,ps[j]? =some e:=⟨_,List.getElem?_eq_getElem (by omega)⟩
      obtain⟨eY,-⟩:=wo_at hy
      have hp3:(ps.map (·.1))[j]? =some p2.1:=by rw[List.getElem?_map,hp2];rfl
      have hcm:cameB W k j=decide (dbN x.1 (j:Int)≤arrN y.1 (k:Int)):=by
       have hz:¬(bcAt x.1 j).length=0:=by rw[List.length_eq_zero_iff];exact hb0
       unfold cameB dbN arrN
       rw[eH,eY,if_pos hr,Int.toNat_natCast,Int.toNat_natCast,if_neg hz]
       simp[hb0,hbw,hr]
      rw[hcm]
      refine Z117 ?_
      refine Z50 ?_
      refine Z1 ?_
      refine KO.idx0 (i:=j) rfl rfl Tryz.runUnderlying160 Tryz.sizeOf29 rfl (by omega) rfl ?_
      refine KO.ldE0 (i:=j) (sz:=1) (cf:=pwC) (e:=p2.1) rfl rfl Tryz.isAgg29 Y11 (fun _=>rfl) hp3 (by simp) Y68 rfl ?_
      refine Z1 ?_
      refine KO.ce (cp:=[]) rfl rfl rfl Tryz.call111 rfl (KE.famE0 (φ:=fun u=>u=.tuple #[.int .i64 (arrN y.1 (k:Int)),errV 70 (arrE y.1 (k:Int))]) hp2 hy Y11 (fun L=>KE.perm (fun w hw=>hw.split) (KE.turn (harrived_e w0 _ _ p2.1 p2.2 y.1 (k:Int) .head) Y13))) ?_;rintro v' L' ⟨rfl,rfl⟩
      refine Z64 ?_
      refine Z83 ?_
      refine Z72 ?_
      refine Z77 ?_
      refine Z144 ?_
      exact KQ.mid () trivial ⟨rfl,rfl,rfl,rfl,rfl,rfl,rfl,rfl,rfl,rfl,rfl,rfl,rfl,trivial⟩ (fun _ h=>h.all Y3)
     ·have hcm:cameB W k j=false:=by unfold cameB;rw[eH];simp only[decide_eq_false_iff_not];exact fun h=>hb ⟨h.1,h.2.1⟩
      rw[hcm]
      refine K.condF rfl (by exact decide_eq_false hb) ?_
      refine Z189 ?_
      exact KQ.mid () trivial ⟨rfl,rfl,rfl,rfl,rfl,rfl,rfl,rfl,rfl,rfl,rfl,rfl,rfl,trivial⟩ (fun _ h=>h)
    rintro - -
    refine Z53 ?_
    have hlW:ledWay W k j=(waitL x.1 (j:Int)).filter (fun m=> !cameB W k j|| !decide (m.id∈dbL x.1 (j:Int))):=by unfold ledWay;rw[eH,if_pos hr,hwl,hdl]
    generalize cameB W k j=cm at hlW ⊢
    have hkx2:=hlw k hkn j
    refine Z8 ?_
    refine Z285 ?_
    refine K.loop (fun q:Nat×Value×List Ms=>[(0,ptrV bw),(3,q.2.1),(4,.int .i64 (k:Nat)),(5,ptrV p.1),(10,.slice ad (dbL x.1 (j:Int)).length cd),(12,.bool cm),(20,.slice (some ⟨g1,0,none⟩) W.hs.length c1),(21,.int .i64 (W.hs.length:Nat)),(22,.int .i64 (k:Nat)),(31,.int .i64 (j:Nat)),(72,.slice aw (waitL x.1 (j:Int)).length cw),(73,.int .i64 ((waitL x.1 (j:Int)).length:Nat)),(74,.int .i64 (q.1:Nat))]) (fun q=>SL 3 1 intC (.slice ad (dbL x.1 (j:Int)).length cd) (dbL x.1 (j:Int))::SL 44 5 msC (.slice aw (waitL x.1 (j:Int)).length cw) (waitL x.1 (j:Int))::SL 44 5 msC q.2.1 q.2.2::woX bw ⟨.slice (some ⟨g1,0,none⟩) W.hs.length c1,dv,wv,ps⟩ W L) (fun q=>q.1≤(waitL x.1 (j:Int)).length∧q.2.2.Perm (((List.range k).flatMap (ledK W)++hkeptL x.1++(List.range j).flatMap (ledWay W k))++((waitL x.1 (j:Int)).take q.1).filter (fun m=> !cm|| !decide (m.id∈dbL x.1 (j:Int))))) (fun q=>(waitL x.1 (j:Int)).length-q.1) (0,v6,o6) ⟨Nat.zero_le _,by simpa using ho6⟩ ⟨rfl,rfl,rfl,rfl,rfl,rfl,rfl,rfl,rfl,rfl,rfl,rfl,rfl,trivial⟩ (fun _ h=>h.all Y30) ?_
    clear ho6 hl6
    rintro⟨i,v9,o9⟩ ⟨hi,ho9⟩
    dsimp only at hi ho9 ⊢
    have hl9:=ho9.length_eq
    rw[List.length_append,List.length_append,List.length_append]at hl9
    have hlf:=List.length_filter_le (fun m:Ms=> !cm|| !decide (m.id∈dbL x.1 (j:Int))) ((waitL x.1 (j:Int)).take i)
    rw[List.length_take]at hlf
    refine Z111 ?_
    refine K.condD rfl (fun h17=>?_) (fun h17=>?_)
    ·have hin:i<(waitL x.1 (j:Int)).length:=by omega
     obtain⟨m,hm⟩:∃e,(waitL x.1 (j:Int))[i]? =some e:=⟨_,List.getElem?_eq_getElem hin⟩
     obtain⟨gw,rfl⟩:=haw (by omega)
     have hts:=take_succ_some hm
     obtain⟨mi,mp,mb,mq,mh⟩:=m
     refine Z349 ?_
     refine KO.ldEN (i:=i) (sz:=5) (cf:=msC) (e:=⟨mi,mp,mb,mq,mh⟩) rfl rfl Tryz.isAgg44 Tryz.sizeOf44 Y11 (fun _=>rfl) hm rfl ?_
     refine KO.alloc rfl Tryz.zeroValue44 Y68 rfl ?_;intro b16
     refine Z278 ?_
     cases cm with
     |false=>
      refine Z185 ?_
      refine Z96 ?_
      refine Z42 ?_
      refine Z168 ?_
      refine Z8 ?_
      refine Z124 ?_
      refine KO.bs1 (z:=(Value.agg #[.int .i64 0,.int .i64 0,.string ⟨#[]⟩,.string ⟨#[]⟩,.int .i64 0])) (sz:=5) (by':=56) rfl rfl Tryz.underlying49 Y62 Y68 Y68 (by decide) (by decide) rfl ?_;intro b89
      refine KO.app (cf:=msC) (z:=Value.agg #[.int .i64 0,.int .i64 0,.string ⟨#[]⟩,.string ⟨#[]⟩,.int .i64 0]) (sz:=5) (by':=56) (xs:=o9) rfl rfl rfl Y11 .head Tryz.underlying49 Y62 Y68 ⟨mi,mp,mb,mq,mh⟩ rfl rfl rfl (by omega) (by decide) rfl ?_;intro v96
      refine Z234 ?_
      refine KQ.round (i+1,v96,o9++[⟨mi,mp,mb,mq,mh⟩]) ⟨by dsimp only;omega,?_⟩ Y47 ⟨rfl,rfl,rfl,rfl,rfl,rfl,rfl,rfl,rfl,rfl,rfl,rfl,rfl,trivial⟩ (fun _ h=>h.all Y5)
      dsimp only
      rw[hts,List.filter_append,List.filter_cons,if_pos (by rfl),List.filter_nil,←List.append_assoc]
      exact ho9.append_right _
     |true=>
      refine Z205 ?_
      refine Z25 ?_
      refine Z355 ?_
      refine KO.on rfl rfl rfl ?_;refine KO.ce (cp:=[]) rfl rfl rfl Tryz.call92 rfl (coni_e w0 _ (.slice ad (dbL x.1 (j:Int)).length cd) (dbL x.1 (j:Int)) mi (fun w hw=>RdA.ofSL (fun _=>rfl) Y11 hw) hdn) ?_;rintro v' L' ⟨rfl,rfl⟩
      refine Z236 ?_
      refine Z2 ?_
      by_cases hmi:mi∈dbL x.1 (j:Int)
      ·refine K.condF rfl (by simp[hmi]) ?_
       refine Z191 ?_
       refine KQ.round (i+1,v9,o9) ⟨by dsimp only;omega,?_⟩ Y47 ⟨rfl,rfl,rfl,rfl,rfl,rfl,rfl,rfl,rfl,rfl,rfl,rfl,rfl,trivial⟩ (fun _ h=>h.all Y5)
       dsimp only
       rw[hts,List.filter_append,List.filter_cons,if_neg (by simp[hmi]),List.filter_nil,List.append_nil]
       exact ho9
      ·refine K.condT rfl (by simp[hmi]) ?_
       refine Z8 ?_
       refine Z124 ?_
       refine KO.bs1 (z:=(Value.agg #[.int .i64 0,.int .i64 0,.string ⟨#[]⟩,.string ⟨#[]⟩,.int .i64 0])) (sz:=5) (by':=56) rfl rfl Tryz.underlying49 Y62 Y68 Y68 (by decide) (by decide) rfl ?_;intro b89
       refine KO.app (cf:=msC) (z:=Value.agg #[.int .i64 0,.int .i64 0,.string ⟨#[]⟩,.string ⟨#[]⟩,.int .i64 0]) (sz:=5) (by':=56) (xs:=o9) rfl rfl rfl Y11 .head Tryz.underlying49 Y62 Y68 ⟨mi,mp,mb,mq,mh⟩ rfl rfl rfl (by omega) (by decide) rfl ?_;intro v96
       refine Z234 ?_
       refine KQ.round (i+1,v96,o9++[⟨mi,mp,mb,mq,mh⟩]) ⟨by dsimp only;omega,?_⟩ Y47 ⟨rfl,rfl,rfl,rfl,rfl,rfl,rfl,rfl,rfl,rfl,rfl,rfl,rfl,trivial⟩ (fun _ h=>h.all Y5)
       dsimp only
       rw[hts,List.filter_append,List.filter_cons,if_pos (by simp[hmi]),List.filter_nil,←List.append_assoc]
       exact ho9.append_right _
    ·have hin:i=(waitL x.1 (j:Int)).length:=by omega
     subst hin
     rw[List.take_length,←hlW]at ho9
     refine Z92 ?_
     refine Z76 ?_
     refine KQ.round (j+1,v9,o9) ⟨by dsimp only;omega,?_⟩ Y47 ⟨rfl,rfl,rfl,rfl,rfl,rfl,rfl,rfl,trivial⟩ (fun _ h=>h.all Y5)
     dsimp only
     rw[hstep,←List.append_assoc]
     exact ho9
  ·have hj4:j=4:=by omega
   subst hj4
   refine Z92 ?_
   refine Z76 ?_
   refine KQ.round (k+1,v6,o6) ⟨by dsimp only;omega,?_⟩ Y47 ⟨rfl,rfl,rfl,rfl,rfl,trivial⟩ (fun _ h=>h.all Y30)
   dsimp only
   rw[List.range_succ,List.flatMap_append]
   simp only[List.flatMap_cons,List.flatMap_nil,List.append_nil]
   rw[show ledK W k=hkeptL x.1++(List.range 4).flatMap (ledWay W k)by unfold ledK;rw[eH],←List.append_assoc]
   exact ho6
 ·have hkn:k=W.hs.length:=by omega
  subst hkn
  have hlo:=hlK _ (Nat.le_refl W.hs.length)
  have hlo2:=ho.length_eq
  refine Z274 ?_
  refine KO.cl (cp:=[]) rfl rfl rfl Tryz.call125 rfl (KC.pk1 Y21 (hsort _ v3 o3 (by omega) (fun m hm=>ledP_ids hB hc m (ho.mem_iff.1 hm)))) ?_;rintro v' L' ⟨rfl,ys,hys,hso,rfl⟩
  refine Z348 ?_
  refine Z33 ?_
  refine KQ.ret1 rfl rfl (fun w' hs'=>⟨_,_,rfl,⟨ys,hys.trans ho,hso,rfl⟩,?_⟩)
  exact(woP_mk (W:=W) ⟨.slice (some ⟨g1,0,none⟩) W.hs.length c1,dv,wv,ps⟩ hV (hs'.all (M:=woX bw ⟨.slice (some ⟨g1,0,none⟩) W.hs.length c1,dv,wv,ps⟩ W (SL 44 5 msC v3 ys::L)) Y3)).swap2
end Go.Proofs.YtjhogocabcdjbabGreatDoor
/- waybillkeep: what the tale says is there; a tale begun -/
namespace Go.Proofs.YtjhogocabcdjbabGreatDoor
open Go Go.RowKit WB
theorem sorted_lt {l:List Ms} (h:l.Pairwise fun a b=>a.id≤b.id) (hn:(l.map (·.id)).Nodup):l.Pairwise fun a b=>a.id<b.id:=by
 rw[List.nodup_iff_pairwise_ne,List.pairwise_map]at hn
 exact(h.and hn).imp fun⟨a,b⟩=>by omega
set_option maxRecDepth 100000 in
set_option maxHeartbeats 2000000 in
theorem tonce_c (w0:World) (L:List HP) (bt bw c kb:Nat) (hd:HdT) (S:TaS) (hS:TaI c kb S) (hc:c≤120) (hsort:MsSort w0):
 KC Tryz.prog 24 #[ptrV bt] w0 (talP bt bw S::woP bw hd S.W::L) (fun v M=>v=.bool true∧M=talP bt bw S::woP bw hd S.W::L):=by
 have hled:=hS.led
 obtain⟨hkn,hke⟩:=hS.keys
 refine KC.mk (n:=67) Tryz.func24 rfl Tryz.ntmps24 (by simp) ?_
 refine Z53 ?_
 refine K.open' (fun _ h=>talP_open h) ?_
 rintro⟨⟨us,vs,os,mT,mO⟩,hV⟩
 dsimp only
 refine Z231 ?_
 refine Z232 ?_
 refine Z298 ?_
 refine KO.ld rfl rfl Tryz.isAgg55 Y21 Y68 rfl ?_
 refine KO.cl (cp:=[]) rfl rfl rfl Tryz.call48 rfl (KC.pk1 Y11 (wled_c w0 _ bw c kb hd S.W hS.B (by omega) hsort)) ?_;rintro v' L' ⟨out,hp,hsrt,rfl⟩
 refine Z21 ?_
 have hT:out.Perm (S.T.map (·.2)):=hp.trans hled
 have hnd:(out.map (·.id)).Nodup:=by rw[(hT.map _).nodup_iff,←hke];exact hkn
 have hlt:=sorted_lt hsrt hnd
 have hlen:out.length=S.T.length:=by rw[hT.length_eq,List.length_map]
 have hmx2:maxLen≤9223372036854775807:=by decide
 refine K.fact (fun _ hs=>SL_form (hs.pick (A:=SL 44 5 msC v' out) Y21)) ?_
 rintro⟨a1,c1,rfl,hg1⟩
 refine K.fact (p:=out.length≤9223372036854775807) (fun _ hs=>?_) ?_
 ·rcases Nat.eq_zero_or_pos out.length with h0|h0
  ·omega
  ·obtain⟨g,rfl⟩:=hg1 h0
   obtain⟨-,h2,h3,-⟩:=SL_open (hs.pick (A:=SL 44 5 msC (.slice (some ⟨g,0,none⟩) out.length c1) out) Y21)
   omega
 intro hal
 refine Z8 ?_
 refine Z101 ?_
 refine Z26 ?_
 refine Z95 ?_
 refine KO.lenM rfl rfl Tryz.underlying56 Y11 rfl ?_;rw[show(thM S.T).length=out.length by rw[thM_len,hlen]]
 refine Z265 ?_
 refine Z224 ?_
 refine Z250 ?_
 refine Z7 ?_
 refine Z15 ?_
 refine K.loop (fun k:Nat=>[(0,ptrV bt),(3,.slice a1 out.length c1),(4,.int .i64 (k:Nat))]) (fun k=>SL 44 5 msC (.slice a1 out.length c1) out::taX bt bw ⟨us,vs,os,mT,mO⟩ S (woP bw hd S.W::L)) (fun k=>k≤out.length) (fun k=>out.length-k) 0 (Nat.zero_le _) ⟨rfl,rfl,rfl,trivial⟩ (fun w' hs'=>hs'.all Y7) ?_
 intro k hk
 refine Z214 ?_
 refine Z101 ?_
 refine Z215 ?_
 refine K.condD rfl (fun h5=>?_) (fun h5=>?_)
 ·obtain⟨m,hm⟩:∃e,out[k]? =some e:=⟨out[k],List.getElem?_eq_getElem (by omega)⟩
  obtain⟨g1,rfl⟩:=hg1 (by omega)
  have hf:=hS.find (m:=m) (hT.mem_iff.1 (List.mem_of_getElem? hm))
  have hgm:getK (thM S.T) m.id=some (.agg (msC m).toArray):=by rw[thM_get,hf];rfl
  have hmm:out[k]? =some ⟨m.id,m.pri,m.body,m.queue,m.house⟩:=hm
  refine Z10 ?_
  refine K.draw [.pure,.pure,.pure,.read,.pure,.pure,.pure,.pure,.read,.read,.pure,.pure,.pure,.keep,.write,.pure] [0,1,2,3,4,5,6,7,8,9,10,11,12,13,14,15] Y62 Y62 ?_
  refine Z26 ?_
  refine Z95 ?_
  refine Z34 ?_
  refine KO.idx0 (i:=k) rfl rfl Tryz.runUnderlying49 Tryz.sizeOf44 rfl (by omega) rfl ?_
  refine Z304 ?_
  refine KO.ldE0 (i:=k) (sz:=5) (cf:=msC) (e:=m) rfl rfl Tryz.isAgg3 Y21 (fun _=>rfl) hm (by simp) Y68 rfl ?_
  refine KO.lkmOk intKey m.id rfl rfl rfl Tryz.underlying56 Tryz.underlying3 Tryz.zeroValue44 Y11 rfl ?_;rw[hgm]
  refine Z47 ?_
  refine KO.alloc rfl Tryz.zeroValue44 Y68 rfl ?_;intro b5
  refine Z67 ?_
  refine Z21 ?_
  have hbk:∀j:Nat,j<k→∃m':Ms,out[j]? =some m'∧m'.id<m.id:=fun j hj=>by
   refine⟨_,List.getElem?_eq_getElem (show j<out.length by omega),?_⟩
   have :=List.pairwise_iff_getElem.1 hlt j k (by omega) (by omega) hj
   rw[(List.getElem?_eq_some_iff.1 hm).2]at this
   exact this
  rcases Nat.eq_zero_or_pos k with h0|h0
  ·subst h0
   refine Z149 ?_
   refine Z70 ?_
   refine Z1 ?_
   refine KO.on rfl rfl rfl ?_;refine KO.ldB0 (cs:=msC m) rfl rfl Tryz.isAgg44 Tryz.sizeOf44 Y21 Y68 rfl ?_
   refine Z57 ?_
   refine Z281 ?_
   refine KO.on rfl rfl rfl ?_;refine KO.idx0 (i:=0) rfl rfl Tryz.runUnderlying49 Tryz.sizeOf44 rfl (by omega) rfl ?_
   refine KO.on rfl rfl rfl ?_;refine KO.ldEN (i:=0) (sz:=5) (cf:=msC) rfl rfl Tryz.isAgg44 Tryz.sizeOf44 Y11 (fun _=>rfl) hmm rfl ?_
   refine KO.on rfl rfl rfl ?_;refine KO.neA (b:=decide (m=m)) rfl rfl Y62 (ms_eq m m) rfl ?_
   refine Z27 ?_
   refine Z1 ?_
   refine Z338 ?_
   refine Z1 ?_
   refine Z338 ?_
   refine Z170 ?_
   refine Z338 ?_
   refine Z179 ?_
   refine Z12 ?_
   refine Z12 ?_
   refine Z12 ?_
   refine Z12 ?_
   refine Z338 ?_
   refine KO.pickF rfl ?_ rfl rfl ?_
   (focus rfl)
   refine KO.pickF rfl Y66 rfl rfl ?_
   refine Z224 ?_
   refine Z22 ?_
   refine Z284 ?_
   refine KQ.round 1 (by omega) (by omega) ⟨rfl,rfl,rfl,trivial⟩ (fun w' hs'=>hs'.all Y5)
  ·obtain⟨m',hm',hlt'⟩:=hbk (k-1) (by omega)
   have hk1:((k:Nat):Int)-1=((k-1:Nat):Int):=by omega
   refine Z149 ?_
   refine Z70 ?_
   refine Z1 ?_
   refine KO.on rfl rfl rfl ?_;refine KO.ldB0 (cs:=msC m) rfl rfl Tryz.isAgg44 Tryz.sizeOf44 Y21 Y68 rfl ?_
   refine Z57 ?_
   refine Z281 ?_
   refine KO.on rfl rfl rfl ?_;refine KO.idx0 (i:=k) rfl rfl Tryz.runUnderlying49 Tryz.sizeOf44 rfl (by omega) rfl ?_
   refine KO.on rfl rfl rfl ?_;refine KO.ldEN (i:=k) (sz:=5) (cf:=msC) rfl rfl Tryz.isAgg44 Tryz.sizeOf44 Y11 (fun _=>rfl) hmm rfl ?_
   refine KO.on rfl rfl rfl ?_;refine KO.neA (b:=decide (m=m)) rfl rfl Y62 (ms_eq m m) rfl ?_
   refine Z27 ?_
   refine Z1 ?_
   refine Z338 ?_
   refine Z1 ?_
   refine Z338 ?_
   refine Z170 ?_
   refine Z338 ?_
   refine Z127 ?_
   refine Z32 ?_
   refine Z201 ?_
   refine KO.on rfl rfl Y61 ?_;refine KO.idx0 (i:=k-1) rfl rfl Tryz.runUnderlying49 Tryz.sizeOf44 hk1 (by omega) rfl ?_
   refine Z20 ?_
   refine Z304 ?_
   refine KO.on rfl rfl Y61 ?_;refine KO.ldE0 (i:=k-1) (sz:=5) (cf:=msC) (e:=m') rfl rfl Tryz.isAgg3 Y11 (fun _=>rfl) hm' (by simp) Y68 rfl ?_
   refine Z20 ?_
   refine Z32 ?_
   refine Z1 ?_
   refine KO.on rfl rfl Y61 ?_;refine KO.idx0 (i:=k) rfl rfl Tryz.runUnderlying49 Tryz.sizeOf44 rfl (by omega) rfl ?_
   refine Z20 ?_
   refine Z304 ?_
   refine KO.on rfl rfl Y61 ?_;refine KO.ldE0 (i:=k) (sz:=5) (cf:=msC) (e:=m) rfl rfl Tryz.isAgg3 Y11 (fun _=>rfl) hm (by simp) Y68 rfl ?_
   refine Z20 ?_
   refine Z77 ?_
   refine Z338 ?_
   refine KO.pickT rfl ?_ rfl rfl ?_
   (focus(simp only[decide_eq_true_eq,decide_eq_false_iff_not,Bool.not_eq_true,Bool.not_true,Bool.not_false,ne_eq];omega))
   refine KO.pickF rfl Y66 rfl rfl ?_
   refine Z2 ?_
   refine K.condF rfl Y61 ?_
   refine Z22 ?_
   refine Z284 ?_
   refine KQ.round (k+1) (by omega) (by omega) ⟨rfl,rfl,rfl,trivial⟩ (fun w' hs'=>hs'.all Y5)
 ·refine Z351 ?_
  refine KQ.ret1 rfl rfl (fun w' hs'=>⟨_,_,rfl,⟨rfl,rfl⟩,talP_mk ⟨us,vs,os,mT,mO⟩ hV (hs'.all Y5)⟩)
end Go.Proofs.YtjhogocabcdjbabGreatDoor
/- world: slices.SortFunc at messages, by their numbers -/
namespace Go.Proofs
open Go.Shelf Go.RowKit Go.Lib Go.Sort
shelf_lay_g SlLaysF0.n6 Slsf 6 at Tryz 125 as Tryz.sortMs
end Go.Proofs
namespace Go.Proofs.YtjhogocabcdjbabGreatDoor
open Go Go.RowKit WB Go.Shelf Go.Lib Go.Sort
abbrev MsI:={m:Ms//0≤m.id∧m.id≤1099511627776}
instance:Inhabited MsI:=⟨⟨⟨0,0,⟨#[]⟩,⟨#[]⟩,0⟩,by decide⟩⟩
def miC (m:MsI):List Value:=msC m.1
def miCf (x y:MsI):Int:=x.1.id-y.1.id
theorem mi_lt (x y:MsI):ltOf miCf x y=decide (x.1.id<y.1.id):=by
 unfold ltOf miCf
 exact decide_eq_decide.2 (by omega)
theorem mi_swo:SWO (ltOf miCf) where
 irrefl x:=by rw[mi_lt];simp
 trans x y z h1 h2:=by rw[mi_lt]at *;simp at *;omega
 ntrans x y z h1 h2:=by rw[mi_lt]at *;simp at *;omega
set_option maxHeartbeats 1000000 in
theorem lclo (x y:MsI) (W:World):Calls Tryz.prog 126 #[.agg (miC x).toArray,.agg (miC y).toArray] W fun e w'=>e=.returned (.int .i64 (miCf x y))∧∃q os',w'=grow (W.drewN q) os':=by
 obtain⟨⟨xi,xp,xb,xq,xh⟩,hx⟩:=x
 obtain⟨⟨yi,yp,yb,yq,yh⟩,hy⟩:=y
 dsimp only at hx hy
 have hwr:IntKind.i64.wrap (xi-yi)=xi-yi:=by simp[IntKind.wrap,IntKind.bits,IntKind.signed];omega
 unfold miC miCf msC
 dsimp only
 go_enter Tryz.func126,Tryz.ntmps126
 go_wp2
 go_ret
 exact⟨rfl,0,_,by rw[alloc_eq_grow,alloc_eq_grow,grow_grow];rfl⟩
theorem msSort (w0:World):MsSort w0:=fun L v xs hl hid w hw=>by
 obtain⟨zs,rfl⟩:∃zs:List MsI,zs.map Subtype.val=xs:=⟨xs.attach.map fun m=>⟨m.1,hid m.1 m.2⟩,by simp⟩
 have key:∀(u:Value) (ys:List MsI),SL 44 5 msC u (ys.map Subtype.val)=SL 44 5 miC u ys:=fun u ys=>by
  unfold SL;rw[List.length_map,List.flatMap_map];rfl
 rw[List.length_map]at hl
 rw[key]at hw
 have h1:∀x,∀v∈miC x,v.oneCell'=true:=fun x v hv=>by
  unfold miC msC at hv
  simp at hv
  rcases hv with rfl|rfl|rfl|rfl|rfl<;>rfl
 rcases SL_shape hw with⟨rfl,rfl⟩|⟨g,cap,rfl⟩
 ·refine(AnyF.slices_SortFunc_none Tryz.sortMs none 0 _ w).mono ?_
  rintro e w' ⟨rfl,rfl⟩
  exact⟨_,_,rfl,⟨rfl,[],.refl _,.nil,rfl⟩,hw⟩
 ·have hH:=holdsK_of (cf:=miC) (k:=5) (fun _=>rfl) hw
  obtain⟨-,-,-,cur,-,-,h6⟩:=SL_open hw
  have hc:=AnyQ.slices_SortFunc Tryz.sortMs 5 Tryz.isAgg44 Tryz.sizeOf44 miC (fun _=>rfl) h1 miCf mi_swo 126 #[] g 0 cap zs.toArray w Tryz.call126 (fun _ _ _ _ x y=>lclo x y _) hH h6.lt Y61
  have hc2:Calls Tryz.prog 125 #[.slice (some ⟨g,0,none⟩) zs.length cap,.func (.func 126) #[] #[]] w fun e w'=>e=.returned (.tuple #[])∧∃d' n os,PermIn 0 zs.toArray.size zs.toArray d'∧SortedIn (ltOf miCf) 0 zs.toArray.size d'∧w'=sortWorldK miC 5 w g 0 n d' os:=by
   exact hc
  refine hc2.mono ?_
  rintro e w' ⟨rfl,d',q,os,⟨hds,-,hp⟩,hso,rfl⟩
  have hdl:d'.toList.length=zs.length:=by simpa using hds
  refine⟨_,_,rfl,⟨rfl,d'.toList.map Subtype.val,?_,?_,rfl⟩,?_⟩
  ·have e1:(d'.extract 0 zs.toArray.size).toList=d'.toList:=by rw[←hds];simp
   have e2:(zs.toArray.extract 0 zs.toArray.size).toList=zs:=by simp
   rw[e1,e2]at hp;exact hp.map _
  ·rw[List.pairwise_map,List.pairwise_iff_getElem]
   intro p q hp hq hpq
   have :=hso p q (Nat.zero_le _) hpq (by rw[hdl]at hq;simpa using hq)
   simp only[Array.length_toList]at hp hq
   rw[getElem!_pos d' q hq,getElem!_pos d' p hp,mi_lt]at this
   simp at this
   simpa using this
  ·rw[key]
   have e:sortWorldK miC 5 w g 0 q d' os=Sort.grow (putRowK miC 5 (Sort.ahead w q) g 0 d') os:=by
    rfl
   rw[e]
   have :=St.sorted (cf:=miC) (k:=5) (ys:=d'.toList) (fun _=>rfl) hw hdl q os
   simpa using this
end Go.Proofs.YtjhogocabcdjbabGreatDoor
/- a message that goes to another house: what the law's fact says -/
namespace WB
open Go
def hiS:ByteArray:=⟨#[104,105]⟩
def caM:Ms:=⟨0,5,hiS,inS,1⟩
def q0:Qu:=⟨[],0⟩
def cnA:List Nm:=[⟨farS,inS,1⟩,⟨inS,⟨#[]⟩,-1⟩,⟨outS,⟨#[]⟩,-1⟩]
def cnB:List Nm:=[⟨farS,inS,0⟩,⟨inS,⟨#[]⟩,-1⟩,⟨outS,⟨#[]⟩,-1⟩]
def uE:Unt:=⟨[],[]⟩
def cA (used:Nat) (next:Int) (way:Qu) (u0:Unt) (bt:List Int) (sn:Int):Ho:=⟨0,used,false,-1,next,cnA,[(deadS,q0),(inS,q0),(outS,q0)],[q0,way,q0,q0],[u0,uE,uE,uE,uE],[[],bt,[],[]],[0,sn,0,0],[0,0,0,0]⟩
def cB (used:Nat) (q:Qu) (av:Int):Ho:=⟨1,used,false,-1,0,cnB,[(deadS,q0),(inS,q),(outS,q0)],[q0,q0,q0,q0],[uE,uE,uE,uE,uE],[[],[],[],[]],[0,0,0,0],[av,0,0,0]⟩
def cA0:Ho:=cA 3 0 q0 uE [] 0
def cA1:Ho:=cA 3 1 ⟨[⟨caM,0,0,-1⟩],1⟩ ⟨[(caM,1)],[]⟩ [] 0
def cA2:Ho:=cA 4 1 ⟨[⟨caM,1,-1,-1⟩],2⟩ uE [] 0
def cA3:Ho:=cA 5 1 ⟨[⟨caM,1,-1,-1⟩],2⟩ uE [0] 1
def cA4:Ho:=cA 6 1 ⟨[],2⟩ uE [] 1
def cB0:Ho:=cB 3 q0 0
def cB1:Ho:=cB 4 ⟨[⟨caM,0,-1,-1⟩],1⟩ 1
theorem cA0_eq:namedH 0 1=cA0:=rfl
theorem cB0_eq:namedH 1 0=cB0:=rfl
theorem car_put:putE cA0 0 farS 5 hiS=0∧putH cA0 0 farS 5 hiS=cA1:=⟨by decide+kernel,by kernel_rfl⟩
theorem off_of {D:Dk} (h:D.cut=false):dkErr D=0:=by
 unfold dkErr dkOff;rw[h];rfl
theorem log_of {H:Ho} {D:Dk} (h:D.cut=false) (hr:roomE H=0):logE H D=0:=by
 unfold logE
 rw[if_neg (by simp[hr])]
 exact off_of h
theorem logH_of {H:Ho} {D:Dk} (h:D.cut=false) (hr:roomE H=0):logH H D={H with used:=H.used+1}:=by
 unfold logH
 rw[if_neg (by simp[hr]),if_neg (by simp[off_of h])]
theorem logD_cut (H:Ho) (D:Dk) (s:ByteArray):(logD H D s).cut=D.cut:=by
 unfold logD;split
 ·rfl
 ·exact dkWrite_cut
theorem wrH_of {H:Ho} {D:Dk} (h:D.cut=false) (hr:roomE H=0) (s:ByteArray):wrH H D s=(hplays {H with used:=H.used+1} s).1:=by
 unfold wrH
 rw[if_pos (log_of h hr),logH_of h hr]
theorem car_com {D:Dk} (h:D.cut=false):cmE cA1 D 0=0∧cmH cA1 D 0=cA2:=by
 have h0:cmPE cA1 0=0:=by decide
 have hr:roomE cA1=0:=by decide
 refine⟨?_,?_⟩
 ·unfold cmE;rw[if_neg (by simp[h0])];exact log_of h hr
 ·unfold cmH
  rw[if_neg (by simp[h0]),if_neg (by simp[log_of h hr]),logH_of h hr]
  kernel_rfl
theorem car_bt {D:Dk} (h:D.cut=false):btE cA2 D 1=0∧btH cA2 D 1=cA3∧(btD cA2 D 1).cut=false∧btN cA2 D 1=1∧btL cA2 D 1=[caM]:=by
 have hr:roomE cA2=0:=by decide
 have hp:btPE cA2 1=0:=by decide+kernel
 have hn:btNew cA2 1=true:=by decide+kernel
 have e1:btE cA2 D 1=0:=by unfold btE;rw[if_neg (by simp[hp]),if_pos hn];exact log_of h hr
 have e2:btH cA2 D 1=cA3:=by unfold btH;rw[if_pos hn,wrH_of h hr];kernel_rfl
 refine⟨e1,e2,by unfold btD;rw[if_pos hn,logD_cut];exact h,?_,?_⟩
 ·unfold btN;rw[if_pos e1,e2];decide+kernel
 ·unfold btL;rw[if_pos e1,e2];kernel_rfl
theorem car_ar {D:Dk} (h:D.cut=false):arE cB0 D 0 1 [caM]=0∧arH cB0 D 0 1 [caM]=cB1∧(arD cB0 D 0 1 [caM]).cut=false∧arNo cB0 D 0 1 [caM]=1:=by
 have hr:roomE cB0=0:=by decide
 have hp:arPE cB0 0 1 [caM]=0:=by decide+kernel
 have hn:arW cB0 0 1 [caM]=true:=by decide+kernel
 have e1:arE cB0 D 0 1 [caM]=0:=by unfold arE;rw[if_neg (by simp[hp]),if_pos hn];exact log_of h hr
 have e2:arH cB0 D 0 1 [caM]=cB1:=by unfold arH;rw[if_pos hn,wrH_of h hr];kernel_rfl
 refine⟨e1,e2,by unfold arD;rw[if_pos hn,logD_cut];exact h,?_⟩
 unfold arNo;rw[if_pos e1,e2];decide+kernel
theorem car_ca {D:Dk} (h:D.cut=false):caH cA3 D 1 1=cA4∧(caD cA3 D 1 1).cut=false:=by
 have hr:roomE cA3=0:=by decide
 have hp:caPE cA3 1 1=0:=by decide+kernel
 refine⟨by unfold caH;rw[if_neg (by simp[hp]),wrH_of h hr];kernel_rfl,by unfold caD;rw[if_neg (by simp[hp]),logD_cut];exact h⟩
theorem clP_none {W:Wo} {k d:Nat} (hk:k<W.hs.length) (hd:d<W.hs.length) (h:btPE (W.H k) (d:Int)≠0):clP W k d=W:=by
 have h1:W.is (k:Int)=true:=by unfold Wo.is;rw[decide_eq_true_eq];omega
 have h2:W.is (d:Int)=true:=by unfold Wo.is;rw[decide_eq_true_eq];omega
 have hs:seE W k d≠0:=by unfold seE;rw[if_pos ⟨h1,h2⟩,Int.toNat_natCast];unfold btE;rw[if_pos h];exact h
 have hn:btNew (W.H k) (d:Int)=false:=by unfold btNew;rw[decide_eq_false_iff_not];exact fun x=>h x.1
 unfold clP
 rw[if_neg hs]
 unfold seW
 rw[if_pos ⟨h1,h2⟩,if_neg hs]
 unfold seW1 btH btD
 rw[Int.toNat_natCast,if_neg (by simp[hn]),if_neg (by simp[hn])]
 exact setH_self hk
def cW (x:Ho×Dk) (y:Ho×Dk) (way:List Gm):Wo:=⟨[x,y],way,0⟩
theorem car_send {D E:Dk} (h:D.cut=false):∃D1,D1.cut=false∧seE (cW (cA2,D) (cB0,E) []) 0 1=0∧seW (cW (cA2,D) (cB0,E) []) 0 1=cW (cA3,D1) (cB0,E) [⟨1,⟨0,1,false⟩,[caM]⟩]:=by
 obtain⟨a1,a2,a3,a4,a5⟩:=car_bt h
 have hs:seE (cW (cA2,D) (cB0,E) []) 0 1=0:=a1
 have ho:okF ⟨0,1,false⟩ [caM]:=by decide+kernel
 refine⟨btD cA2 D 1,a3,hs,?_⟩
 unfold seW
 rw[if_pos ⟨rfl,rfl⟩,if_pos hs]
 show wSend (cW (btH cA2 D 1,btD cA2 D 1) (cB0,E) []) 1 ⟨0,btN cA2 D 1,false⟩ (btL cA2 D 1)=_
 rw[a2,a4,a5]
 unfold wSend
 rw[if_pos ho]
 rfl
theorem car_go {D E:Dk} (h:D.cut=false) (hE:E.cut=false):∃D1 E1,floW (cW (cA3,D) (cB0,E) [⟨1,⟨0,1,false⟩,[caM]⟩])=cW (cA4,D1) (cB1,E1) []:=by
 obtain⟨b1,b2,b3,b4⟩:=car_ar hE
 obtain⟨c1,c2⟩:=car_ca h
 have ho:okF ⟨1,1,true⟩ ([]:List Ms):=by decide+kernel
 refine⟨caD cA3 D 1 1,arD cB0 E 0 1 [caM],?_⟩
 rw[floW_step (by simp[cW])]
 have e1:deW (cW (cA3,D) (cB0,E) [⟨1,⟨0,1,false⟩,[caM]⟩]) 0=cW (cA3,D) (cB1,arD cB0 E 0 1 [caM]) [⟨0,⟨1,1,true⟩,[]⟩]:=by
  unfold deW
  rw[if_pos (by unfold waE;exact if_pos ⟨by omega,by simp[cW]⟩)]
  show cmW (cW (cA3,D) (cB0,E) []) ⟨1,⟨0,1,false⟩,[caM]⟩=_
  unfold cmW
  rw[if_neg (by decide)]
  rw[if_pos (show arE ((cW (cA3,D) (cB0,E) []).H (1:Int).toNat) ((cW (cA3,D) (cB0,E) []).D (1:Int).toNat) 0 1 [caM]=0 from b1)]
  show wSend (cW (cA3,D) (arH cB0 E 0 1 [caM],arD cB0 E 0 1 [caM]) []) 0 ⟨1,arNo cB0 E 0 1 [caM],true⟩ []=_
  rw[b2,b4]
  unfold wSend
  rw[if_pos ho]
  rfl
 rw[e1,floW_step (by simp[cW])]
 have e2:deW (cW (cA3,D) (cB1,arD cB0 E 0 1 [caM]) [⟨0,⟨1,1,true⟩,[]⟩]) 0=cW (cA4,caD cA3 D 1 1) (cB1,arD cB0 E 0 1 [caM]) []:=by
  unfold deW
  rw[if_pos (by unfold waE;exact if_pos ⟨by omega,by simp[cW]⟩)]
  show cmW (cW (cA3,D) (cB1,arD cB0 E 0 1 [caM]) []) ⟨0,⟨1,1,true⟩,[]⟩=_
  unfold cmW
  rw[if_pos rfl]
  show cW (caH cA3 D 1 1,caD cA3 D 1 1) (cB1,arD cB0 E 0 1 [caM]) []=_
  rw[c1]
 rw[e2]
 exact floW_nil rfl
theorem two_range {α:Type} (f:α→Nat→α) (a:α):(List.range 2).foldl f a=f (f a 0) 1:=rfl
theorem clR_two {W:Wo} (h:W.hs.length=2):clR W=clP (clP (clP (clP (clU W) 0 0) 0 1) 1 0) 1 1:=by
 unfold clR
 rw[h,two_range]
 unfold clQ
 rw[two_range,two_range]
theorem clU_two {W:Wo} (h:W.hs.length=2):clU W=floW (clA (clA W 0) 1):=by
 unfold clU
 rw[h,two_range]
theorem car_calm (D E:Dk):∃D1 E1,calm 1 (cW (cA2,D) (cB0,E) [])=cW (cA4,D1) (cB1,E1) []:=by
 have hd:∀D:Dk,(dkCut D (-1)).cut=false:=fun D=>rfl
 obtain⟨D1,g1,g2,g3⟩:=car_send (D:=dkCut D (-1)) (E:=dkCut E (-1)) (hd D)
 obtain⟨D2,E2,g4⟩:=car_go g1 (hd E)
 refine⟨D2,E2,?_⟩
 rw[calm_one]
 have e0:clU (cW (cA2,D) (cB0,E) [])=cW (cA2,dkCut D (-1)) (cB0,dkCut E (-1)) []:=by
  rw[clU_two rfl]
  have a1:clA (cW (cA2,D) (cB0,E) []) 0=cW (cA2,dkCut D (-1)) (cB0,E) []:=by
   unfold clA;rw[if_neg (show ¬((cW (cA2,D) (cB0,E) []).H 0).down=true from Bool.false_ne_true)];rfl
  have a2:clA (cW (cA2,dkCut D (-1)) (cB0,E) []) 1=cW (cA2,dkCut D (-1)) (cB0,dkCut E (-1)) []:=by
   unfold clA;rw[if_neg (show ¬((cW (cA2,dkCut D (-1)) (cB0,E) []).H 1).down=true from Bool.false_ne_true)];rfl
  rw[a1,a2]
  exact floW_nil rfl
 rw[clR_two rfl,e0]
 rw[clP_none (W:=cW (cA2,dkCut D (-1)) (cB0,dkCut E (-1)) []) (k:=0) (d:=0) (show 0<2 by decide) (show 0<2 by decide) (by show btPE cA2 0≠0;decide)]
 have e1:clP (cW (cA2,dkCut D (-1)) (cB0,dkCut E (-1)) []) 0 1=cW (cA4,D2) (cB1,E2) []:=by
  unfold clP
  rw[if_pos (show seE (cW (cA2,dkCut D (-1)) (cB0,dkCut E (-1)) []) ((0:Nat):Int) ((1:Nat):Int)=0 from g2)]
  rw[show seW (cW (cA2,dkCut D (-1)) (cB0,dkCut E (-1)) []) ((0:Nat):Int) ((1:Nat):Int)=_ from g3]
  exact g4
 rw[e1]
 rw[clP_none (W:=cW (cA4,D2) (cB1,E2) []) (k:=1) (d:=0) (show 1<2 by decide) (show 0<2 by decide) (by show btPE cB1 0≠0;decide+kernel)]
 rw[clP_none (W:=cW (cA4,D2) (cB1,E2) []) (k:=1) (d:=1) (show 1<2 by decide) (show 1<2 by decide) (by show btPE cB1 1≠0;decide+kernel)]
theorem car_there:thereE cB1 inS=0∧thereL cB1 inS=[caM]:=⟨by decide+kernel,by kernel_rfl⟩
end WB
/- a tale begun -/
namespace WB
open Go
def wNm (n i:Nat):Wo:=⟨(List.range n).map fun k:Nat=>if k<i then nmH (((k:Int)+1)%n) (hNew (k:Int),dkNew) 3 else(hNew (k:Int),dkNew),[],0⟩
theorem wNm_zero (n:Nat):wNm n 0=wNew n:=by
 unfold wNm wNew
 congr 1
theorem wNm_len (n i:Nat):(wNm n i).hs.length=n:=by unfold wNm;simp
theorem wNm_at {n i k:Nat} (hk:k<n):(wNm n i).hs[k]? =some (if k<i then nmH (((k:Int)+1)%n) (hNew (k:Int),dkNew) 3 else(hNew (k:Int),dkNew)):=by
 unfold wNm
 rw[List.getElem?_map,List.getElem?_range hk];rfl
theorem wNm_step {n i:Nat} (hi:i<n):(wNm n i).setH i (nmH (((i:Int)+1)%n) (hNew (i:Int),dkNew) 3)=wNm n (i+1):=by
 have :(wNm n i).hs.set i (nmH (((i:Int)+1)%n) (hNew (i:Int),dkNew) 3)=(wNm n (i+1)).hs:=by
  apply List.ext_getElem?
  intro k
  rw[List.getElem?_set,wNm_len]
  by_cases hk:k<n
  ·rw[wNm_at hk,wNm_at hk]
   by_cases e:i=k
   ·subst e
    rw[if_pos rfl,if_pos hi,if_pos (Nat.lt_succ_self i)]
   ·rw[if_neg e]
    by_cases h1:k<i
    ·rw[if_pos h1,if_pos (by omega)]
    ·rw[if_neg h1,if_neg (by omega)]
  ·rw[if_neg (by omega),List.getElem?_eq_none (by rw[wNm_len];omega),List.getElem?_eq_none (by rw[wNm_len];omega)]
 unfold Wo.setH
 rw[this];rfl
def taS0 (n:Nat):TaS:=⟨n,wNm n n,[],List.replicate 20 [],List.replicate 20 [],[],[],true⟩
theorem hv_named (id j:Int):hv (namedH id j)=[]:=by kernel_rfl
theorem bc_named (id j:Int) (d:Nat):bcAt (namedH id j) d=[]:=by
 unfold bcAt namedH namedAt
 dsimp only
 rw[List.getD_eq_getElem?_getD,List.getElem?_replicate]
 split<;>rfl
theorem HI.start {k:Nat} {j:Int} (hk:k<4) (hj:0≤j∧j<4):HI k (namedH k j) (nmH j (hNew k,dkNew) 3).2 (namedH k j):=by
 obtain⟨-,hH,hD,hl,-⟩:=named_all (k:Int) j hj
 have hv0:=hv_named (k:Int) j
 have hk0:WB.hk (namedH k j)=[]:=by unfold WB.hk;rw[hv0];rfl
 refine⟨rfl,⟨namedR j,hD,namedH_plays k j hj,rfl⟩,rfl,rfl,rfl,rfl,rfl,⟨0,rfl⟩,fun e he=>?_,by rw[hk0,hv0];exact .refl _,by rw[hv0];exact .nil,fun e he=>?_,fun e he=>?_,fun e he=>?_,Int.le_refl _,fun u x hx=>?_,fun d i hi=>?_⟩
 ·rw[hv0]at he;cases he
 ·rw[hv0]at he;cases he
 ·rw[hv0]at he;cases he
 ·rw[hv0]at he;cases he
 ·have :x=⟨[],[]⟩:=List.eq_of_mem_replicate (List.mem_of_getElem? hx)
  subst this
  exact UJ.nil _ _
 ·rw[bc_named]at hi;cases hi
theorem TaI.start {n:Nat} (hn:2≤n∧n≤4):TaI 0 3 (taS0 n):=by
 have hj:∀k:Nat,0≤((k:Int)+1)%n∧((k:Int)+1)%n<4:=fun k=>⟨Int.emod_nonneg _ (by omega),by have :=Int.emod_lt_of_pos ((k:Int)+1) (show(0:Int)<n by omega);omega⟩
 have hat:∀(k:Nat) x,(wNm n n).hs[k]? =some x→k<n∧x=(namedH k (((k:Int)+1)%n),(nmH (((k:Int)+1)%n) (hNew (k:Int),dkNew) 3).2):=fun k x hx=>by
  have hk:k<n:=by have :=(List.getElem?_eq_some_iff.1 hx).1;rw[wNm_len]at this;exact this
  rw[wNm_at hk,if_pos hk]at hx
  simp only[Option.some.injEq]at hx
  obtain⟨-,hH,-,-,-⟩:=named_all (k:Int) _ (hj k)
  refine⟨hk,?_⟩
  rw[←hx,←hH]
 have hun:∀k,((wNm n n).H k).units=List.replicate 5 ⟨[],[]⟩:=fun k=>by
  by_cases hk:k<n
  ·obtain⟨x,hx,e1,-⟩:=wo_get (W:=wNm n n) (j:=k) (by rw[wNm_len];exact hk)
   rw[e1,(hat k x hx).2];rfl
  ·have :(wNm n n).H k=hNew 0:=by unfold Wo.H Wo.at';rw[List.getD_eq_getElem?_getD,List.getElem?_eq_none (by rw[wNm_len];omega)];rfl
   rw[this];rfl
 refine⟨hn,⟨by show 1≤(wNm n n).hs.length∧(wNm n n).hs.length≤4;rw[wNm_len];omega,fun k x hx=>?_,(fun g hg=>by cases hg),Nat.zero_le _,by show(0:Int)≤0∧(0:Int)≤3;omega⟩,⟨fun k=>namedH k (((k:Int)+1)%n),⟨wNm_len n n,fun k x hx=>?_,?_,fun k x hx u y hy p hp=>?_,fun k x hx=>?_⟩⟩,(fun x hx=>by cases hx),fun k y hy=>?_,⟨rfl,fun k u hk hu=>?_⟩,⟨rfl,fun k u hk hu=>?_⟩,rfl⟩
 ·obtain⟨hk,rfl⟩:=hat k x hx
  obtain⟨-,hH,hD,hl,-⟩:=named_all (k:Int) _ (hj k)
  have hB:HoB 13 (namedH k (((k:Int)+1)%n)):=by rw[←hH];exact named_B (id:=(k:Int)) ⟨by omega,by omega⟩ _ 3
  have hok:=hD.ok (by rw[hl];decide)
  refine⟨rfl,hB.le (by omega),hok.len,by dsimp only;rw[hl];omega,hok.size,hok.recs,fun u hu=>?_,fun q hq=>?_,by show 3≤2+3;omega⟩
  ·have :u=⟨[],[]⟩:=List.eq_of_mem_replicate hu
   subst this
   exact⟨⟨(fun p hp=>by cases hp),(fun p hp=>by cases hp),by decide⟩,Nat.zero_le _⟩
  ·have :q=⟨[],0⟩:=List.eq_of_mem_replicate hq
   rw[this]
   exact fun e he=>by cases he
 ·obtain⟨hk,rfl⟩:=hat k x hx
  exact HI.start (by omega) (hj k)
 ·have hbg:∀k:Nat,(CC (fun k:Nat=>namedH k (((k:Int)+1)%n)) k).bg=[]:=fun k=>by
   show(hv (namedH k (((k:Int)+1)%n))).map jmE=[]
   rw[hv_named];rfl
  have hbt:∀k d:Nat,(CC (fun k:Nat=>namedH k (((k:Int)+1)%n)) k).bt d=[]:=fun k d=>bc_named _ _ d
  have hsn:∀k d:Nat,(CC (fun k:Nat=>namedH k (((k:Int)+1)%n)) k).sn d=0:=fun k d=>by
   show snAt (namedH k (((k:Int)+1)%n)) d=0
   unfold snAt namedH namedAt
   dsimp only
   rw[List.getD_eq_getElem?_getD,List.getElem?_replicate];split<;>rfl
  have hav:∀k d:Nat,(CC (fun k:Nat=>namedH k (((k:Int)+1)%n)) k).av d=0:=fun k d=>by
   show avAt (namedH k (((k:Int)+1)%n)) d=0
   unfold avAt namedH namedAt
   dsimp only
   rw[List.getD_eq_getElem?_getD,List.getElem?_replicate];split<;>rfl
  refine⟨?_,.nil,(fun m hm=>by cases hm),fun k _=>by rw[hbg];exact .nil,(fun k _ d i hi=>by rw[hbt]at hi;cases hi),fun k d _ _ _=>by rw[hav,hsn];exact⟨Int.le_refl _,by omega,fun _=>rfl⟩,(fun g hg=>by cases hg)⟩
  have :ledC n (CC fun k:Nat=>namedH k (((k:Int)+1)%n))=[]:=by
   unfold ledC view
   rw[List.flatMap_eq_nil_iff]
   intro k _
   rw[hbg];rfl
  show(ledC n (CC fun k:Nat=>namedH k (((k:Int)+1)%n))).Perm []
  rw[this]
 ·have h1:=hun k
  have hk:=(hat k x hx).1
  obtain⟨x',hx',e1,-⟩:=wo_get (W:=wNm n n) (j:=k) (by rw[wNm_len];exact hk)
  have :x=x':=by
   have hx:(wNm n n).hs[k]? =some x:=hx
   rw[hx']at hx;exact(Option.some.inj hx).symm
  rw[this,←e1,h1]at hy
  have :=List.eq_of_mem_replicate (List.mem_of_getElem? hy)
  subst this;cases hp
 ·obtain⟨hk,rfl⟩:=hat k x hx
  rfl
 ·have hy:y∈((wNm n n).H k).units:=hy
  rw[hun k]at hy
  have :=List.eq_of_mem_replicate hy
  subst this;exact Nat.zero_le _
 ·show(List.replicate 20 [])[ix k u]? =_
  rw[List.getElem?_replicate,if_pos (by unfold ix;omega)]
  show _=some ((((wNm n n).H k).uAt u).puts.map (·.1))
  rw[uAt_rep (hun k)];rfl
 ·show(List.replicate 20 [])[ix k u]? =_
  rw[List.getElem?_replicate,if_pos (by unfold ix;omega)]
  show _=some ((((wNm n n).H k).uAt u).gets.map (·.1))
  rw[uAt_rep (hun k)];rfl
end WB
namespace WB
open Go
theorem wNm_two:wNm 2 2=cW (cA0,(nmH 1 (hNew 0,dkNew) 3).2) (cB0,(nmH 0 (hNew 1,dkNew) 3).2) []:=by
 obtain⟨-,hA,-⟩:=named_all 0 1 (by decide)
 obtain⟨-,hB,-⟩:=named_all 1 0 (by decide)
 have e1:nmH 1 (hNew 0,dkNew) 3=(cA0,(nmH 1 (hNew 0,dkNew) 3).2):=by rw[←cA0_eq,←hA]
 have e2:nmH 0 (hNew 1,dkNew) 3=(cB0,(nmH 0 (hNew 1,dkNew) 3).2):=by rw[←cB0_eq,←hB]
 rw[←e1,←e2]
 rfl
theorem named_cut (id j:Int) (hj:0≤j∧j<4):(nmH j (hNew id,dkNew) 3).2.cut=false:=(named_all id j hj).2.2.2.2
theorem car_B0:WoB 0 3 (wNm 2 2):=(TaI.start (n:=2) (by decide)).B
theorem car_B2:WoB 1 4 (cW (cA2,cmD cA1 (nmH 1 (hNew 0,dkNew) 3).2 0) (cB0,(nmH 0 (hNew 1,dkNew) 3).2) []):=by
 have h0:=car_B0
 rw[wNm_two]at h0
 have hx:=h0.hs 0 (cA0,(nmH 1 (hNew 0,dkNew) 3).2) rfl
 have hun:∀y∈cA0.units,y.puts.length+y.gets.length≤600:=fun y hy=>by
  have :y=uE:=List.eq_of_mem_replicate (n:=5) hy
  subst this;decide
 have h1:=hx.put 0 farS 5 hiS hun
 rw[car_put.2]at h1
 have h2:=h1.cm (by decide) (u:=0) (by decide)
 dsimp only at h2
 rw[show((0:Nat):Int)=0 from rfl,(car_com (named_cut 0 1 (by decide))).2]at h2
 exact(h0.mono (Nat.zero_le 1) (by decide:3≤4)).set (k:=0) h2
end WB
/- waybillkeep: a tale begun -/
namespace Go.Proofs.YtjhogocabcdjbabGreatDoor
open Go Go.RowKit WB
set_option maxRecDepth 100000 in
set_option maxHeartbeats 2000000 in
theorem tells_c (w0:World) (L:List HP) (a:Int) (hT:Tab w0) (hM:Lim w0):
 KC Tryz.prog 22 #[.int .i64 a] w0 L (fun u M=> ∃c:Nat×Nat×HdT,c.2.2.2.2=none∧u=ptrV c.1∧M=talP c.1 c.2.1 (taS0 (2+(pk a 3).toNat))::woP c.2.1 c.2.2 (taS0 (2+(pk a 3).toNat)).W::L):=by
 have hp3:=pk_lt a (n:=3) (by decide)
 obtain⟨m,hm,hm3⟩:∃m:Nat,pk a 3=(m:Nat)∧m<3:=⟨(pk a 3).toNat,by omega,by omega⟩
 rw[show(pk a 3).toNat=m by omega]
 obtain⟨n,hnm,hn⟩:∃n:Nat,n=2+m∧2≤n∧n≤4:=⟨2+m,rfl,by omega,by omega⟩
 rw[←hnm]
 refine KC.mk (n:=65) Tryz.func22 rfl Tryz.ntmps22 (by simp) ?_
 refine Z150 ?_
 refine KO.ce (cp:=[]) rfl rfl rfl Tryz.call13 rfl (pick_e w0 _ a 3 (by decide) (by decide)) ?_;rintro v' L' ⟨rfl,hLL⟩;rw[hm,hLL];clear hLL
 refine KO.add rfl rfl rfl (by omega) rfl ?_;rw[show(2:Int)+(m:Nat)=(n:Nat)by rw[hnm];push_cast;rfl]
 refine KO.mkm (Value.int .i64) rfl rfl (fun b12=>?_)
 refine KO.mkm (Value.int .i64) rfl rfl (fun b13=>?_)
 refine KO.bldN (pl:=[(0,1),(1,1),(2,1),(3,20),(23,20),(43,1),(44,1)]) rfl Tryz.zeroValue62 Tryz.runUnderlying62 (by intro w;simp[Tryz.sizeOf3,Tryz.sizeOf4,Tryz.sizeOf55,Tryz.sizeOf56,Tryz.sizeOf58,Tryz.sizeOf59,Tryz.sizeOf60]) Y68 rfl ?_
 refine KO.box rfl rfl Y68 rfl ?_;intro b15
 refine Z21 ?_
 refine K.conv (L':=blk b15 (.cells (Value.pointer none::(taC 0 ⟨List.replicate 20 nilV,List.replicate 20 nilV,[],b12,b13⟩ n).tail).toArray 62 (0,0))::omapK (Value.int .i64) b12 []::omapK (Value.int .i64) b13 []::L) (fun w h=>h.all Y7) ?_
 refine Z120 ?_
 refine Z104 ?_
 refine Z17 ?_
 refine KO.cl (cp:=[]) rfl rfl rfl Tryz.call42 rfl (wnew_c w0 _ n hT hM (by omega)) ?_;rintro v' L' ⟨⟨bw,hd⟩,hN,rfl,rfl⟩;dsimp only at hN ⊢
 refine Z308 ?_
 refine KO.eqPn rfl Tryz.underlying55 rfl ?_
 refine Z27 ?_
 refine Z162 ?_
 refine Z171 ?_
 refine Z298 ?_
 refine KO.stAt (b:=b15) (i:=0) rfl rfl rfl Y68 (by exact Tryz.sizeOf55) rfl Y11 rfl (by simp) ?_
 refine Z0 ?_
 refine K.conv (L':=woP bw hd (wNm n 0)::blk b15 (.cells (taC bw ⟨List.replicate 20 nilV,List.replicate 20 nilV,[],b12,b13⟩ n).toArray 62 (0,0))::omapK (Value.int .i64) b12 []::omapK (Value.int .i64) b13 []::L) (fun w h=>by rw[wNm_zero];exact h.all Y7) ?_
 refine Z231 ?_
 refine Z7 ?_
 refine Z15 ?_
 refine K.loop (fun k:Nat=>[(3,ptrV b15),(4,ptrV bw),(6,.int .i64 (k:Nat))]) (fun k=>woP bw hd (wNm n k)::blk b15 (.cells (taC bw ⟨List.replicate 20 nilV,List.replicate 20 nilV,[],b12,b13⟩ n).toArray 62 (0,0))::omapK (Value.int .i64) b12 []::omapK (Value.int .i64) b13 []::L) (fun k=>k≤n) (fun k=>n-k) 0 (Nat.zero_le _) ⟨rfl,rfl,rfl,trivial⟩ (fun _ h=>h) ?_
 intro k hk
 refine Z117 ?_
 refine Z342 ?_
 refine Z38 ?_
 refine Z215 ?_
 refine K.condD rfl (fun h7=>?_) (fun h7=>?_)
 ·have hkn:k<n:=by omega
  have hln:=wNm_len n k
  refine K.open' (fun _ h=>woP_open h) ?_
  rintro⟨⟨hv,dv,wv,ps⟩,hV,e8,e9⟩
  dsimp only at hV e8 e9 ⊢
  obtain⟨p,hp⟩:∃e,ps[k]? =some e:=⟨_,List.getElem?_eq_getElem (show k<ps.length by omega)⟩
  have hx:(wNm n k).hs[k]? =some (hNew (k:Int),dkNew):=by rw[wNm_at hkn,if_neg (Nat.lt_irrefl k)]
  refine Z10 ?_
  refine Z72 ?_
  refine KO.ce (cp:=[]) rfl rfl rfl Tryz.call26 rfl (whouse_e w0 _ bw ⟨hv,dv,wv,ps⟩ (wNm n k) k p hV hp) ?_;rintro v' L' ⟨rfl,rfl⟩
  refine Z308 ?_
  refine KO.eqPn rfl Tryz.underlying29 rfl ?_
  refine Z180 ?_
  refine Z65 ?_
  refine Z49 ?_
  refine Z57 ?_
  refine Z104 ?_
  refine Z57 ?_
  refine Z38 ?_
  refine KO.on rfl rfl (by rfl) ?_;refine KO.cl (cp:=[]) rfl rfl rfl Tryz.call12 rfl (KC.famC (φ:=fun u=>u=.bool true) (y:=(nmH (((k:Int)+1)%(n:Nat)) (hNew (k:Int),dkNew) 3)) hp hx Y11 (fun L=>KC.hd (y:=(nmH (((k:Int)+1)%(n:Nat)) (hNew (k:Int),dkNew) 3)) (named_c w0 L p.1 p.2 (k:Int) (k:Int) (n:Nat) hT hM (by omega) (by omega) (by omega)))) ?_;rintro v' L' ⟨rfl,rfl⟩
  refine Z236 ?_
  refine Z63 ?_
  refine Z22 ?_
  refine K.conv (fun w hw=>woP_mk (hd:=hd) (W:=(wNm n k).setH k (nmH (((k:Int)+1)%(n:Nat)) (hNew (k:Int),dkNew) 3)) ⟨hv,dv,wv,ps⟩ (by rw[setH_n];exact hV) (hw.all (M:=woX bw ⟨hv,dv,wv,ps⟩ ((wNm n k).setH k (nmH (((k:Int)+1)%(n:Nat)) (hNew (k:Int),dkNew) 3)) (blk b15 (.cells (taC bw ⟨List.replicate 20 nilV,List.replicate 20 nilV,[],b12,b13⟩ n).toArray 62 (0,0))::omapK (Value.int .i64) b12 []::omapK (Value.int .i64) b13 []::L)) Y7) e8 e9) ?_
  rw[wNm_step hkn]
  refine Z284 ?_
  refine KQ.round (k+1) (by omega) (by omega) ⟨rfl,rfl,rfl,trivial⟩ (fun w' hs'=>hs')
 ·obtain rfl:k=n:=by omega
  refine Z274 ?_
  refine Z33 ?_
  refine KQ.ret1 rfl rfl (fun w' hs'=>⟨_,_,rfl,⟨(b15,bw,hd),hN,rfl,rfl⟩,?_⟩)
  dsimp only
  have h1:=fam_nils (f:=tmS) (p:=nilV) (x:=[]) (fun L h=>SL_nil h) 20 (fam_nils (f:=intS) (p:=nilV) (x:=[]) (fun L h=>SL_nil h) 20 hs')
  have h2:St w0 (fam intS ([]:List Value) []::_) w':=fam_of (f:=intS) (ps:=[]) (xs:=[]) h1
  exact talP_mk ⟨List.replicate 20 nilV,List.replicate 20 nilV,[],b12,b13⟩ ⟨rfl,rfl,rfl⟩ (h2.all Y7)
end Go.Proofs.YtjhogocabcdjbabGreatDoor
/- waybillkeep: a message that goes to another house -/
namespace Go.Proofs.YtjhogocabcdjbabGreatDoor
open Go Go.RowKit WB
set_option maxRecDepth 100000 in
set_option maxHeartbeats 2000000 in
theorem carried_c (w0:World) (L:List HP) (hT:Tab w0) (hM:Lim w0):KC Tryz.prog 21 #[] w0 L (fun u M=>u=.bool true∧M=L):=by
 refine KC.mk (n:=104) Tryz.func21 rfl Tryz.ntmps21 (by simp) ?_
 refine Z3 ?_
 refine Z135 ?_
 refine KO.cl (cp:=[]) rfl rfl rfl Tryz.call42 rfl (wnew_c w0 L 2 hT hM (by decide)) ?_;rintro v' L' ⟨⟨bw,hd⟩,hN,rfl,rfl⟩;dsimp only at hN ⊢;rw[←wNm_zero]
 refine Z308 ?_
 refine KO.eqPn rfl Tryz.underlying55 rfl ?_
 refine Z27 ?_
 refine Z162 ?_
 refine Z231 ?_
 refine Z7 ?_
 refine Z15 ?_
 refine K.loop (fun k:Nat=>[(1,ptrV bw),(3,.int .i64 (k:Nat))]) (fun k=>woP bw hd (wNm 2 k)::L) (fun k=>k≤2) (fun k=>2-k) 0 (Nat.zero_le _) ⟨rfl,rfl,trivial⟩ (fun _ h=>h) ?_
 intro k hk
 refine Z117 ?_
 refine Z215 ?_
 refine K.condD rfl (fun h7=>?_) (fun h7=>?_)
 ·have hkn:k<2:=by omega
  have hln:=wNm_len 2 k
  refine K.open' (fun _ h=>woP_open h) ?_
  rintro⟨⟨hv,dv,wv,ps⟩,hV,e8,e9⟩
  dsimp only at hV e8 e9 ⊢
  obtain⟨p,hp⟩:∃e,ps[k]? =some e:=⟨_,List.getElem?_eq_getElem (show k<ps.length by omega)⟩
  have hx:(wNm 2 k).hs[k]? =some (hNew (k:Int),dkNew):=by rw[wNm_at hkn,if_neg (Nat.lt_irrefl k)]
  refine Z10 ?_
  refine Z72 ?_
  refine KO.ce (cp:=[]) rfl rfl rfl Tryz.call26 rfl (whouse_e w0 _ bw ⟨hv,dv,wv,ps⟩ (wNm 2 k) k p hV hp) ?_;rintro v' L' ⟨rfl,rfl⟩
  refine Z308 ?_
  refine KO.eqPn rfl Tryz.underlying29 rfl ?_
  refine Z180 ?_
  refine Z1 ?_
  refine KO.on rfl rfl (by rfl) ?_;refine KO.cl (cp:=[]) rfl rfl rfl Tryz.call12 rfl (KC.famC (φ:=fun u=>u=.bool true) (y:=(nmH (((k:Int)+1)%(2:Nat)) (hNew (k:Int),dkNew) 3)) hp hx Y11 (fun L=>KC.hd (y:=(nmH (((k:Int)+1)%(2:Nat)) (hNew (k:Int),dkNew) 3)) (named_c w0 L p.1 p.2 (k:Int) (k:Int) (2:Nat) hT hM (by omega) (by omega) (by decide)))) ?_;rintro v' L' ⟨rfl,rfl⟩
  refine Z236 ?_
  refine Z63 ?_
  refine Z22 ?_
  refine K.conv (fun w hw=>woP_mk (hd:=hd) (W:=(wNm 2 k).setH k (nmH (((k:Int)+1)%(2:Nat)) (hNew (k:Int),dkNew) 3)) ⟨hv,dv,wv,ps⟩ (by rw[setH_n];exact hV) (hw.all (M:=woX bw ⟨hv,dv,wv,ps⟩ ((wNm 2 k).setH k (nmH (((k:Int)+1)%(2:Nat)) (hNew (k:Int),dkNew) 3)) L) Y7) e8 e9) ?_
  rw[wNm_step hkn]
  refine Z284 ?_
  refine KQ.round (k+1) (by omega) (by omega) ⟨rfl,rfl,trivial⟩ (fun w' hs'=>hs')
 obtain rfl:k=2:=by omega
 rw[wNm_two]
 refine K.open' (fun _ h=>woP_open h) ?_
 rintro⟨⟨hv,dv,wv,ps⟩,hV,e8,e9⟩
 dsimp only at hV e8 e9 ⊢
 match ps,hV,e9 with
 |[p0,p1],hV,e9=>
 have hcut:=named_cut 0 1 (by decide)
 have hcom:=car_com hcut
 have hB2:=car_B2
 obtain⟨D2,E2,hcalm⟩:=car_calm (cmD cA1 (nmH 1 (hNew 0,dkNew) 3).2 0) (nmH 0 (hNew 1,dkNew) 3).2
 have hB3:WoB 1 10004 (calm 1 (cW (cA2,cmD cA1 (nmH 1 (hNew 0,dkNew) 3).2 0) (cB0,(nmH 0 (hNew 1,dkNew) 3).2) [])):=by rw[calm_one];exact hB2.clR (by decide)
 rw[hcalm]at hB3
 have hBA:=(hB3.hs 0 (cA4,D2) rfl).B
 have hBB:=(hB3.hs 1 (cB1,E2) rfl).B
 have hB0:=car_B0
 rw[wNm_two]at hB0
 have hx0:=hB0.hs 0 (cA0,(nmH 1 (hNew 0,dkNew) 3).2) rfl
 have hun:∀y∈cA0.units,y.puts.length≤600:=fun y hy=>by
  have :y=uE:=List.eq_of_mem_replicate (n:=5) hy
  subst this;decide
 have hx1:=hx0.put 0 farS 5 hiS (fun y hy=>by
  have :y=uE:=List.eq_of_mem_replicate (n:=5) hy
  subst this;decide)
 rw[car_put.2]at hx1
 have hle: -((3:Nat):Int)≤(nmH 1 (hNew 0,dkNew) 3).2.left∧(nmH 1 (hNew 0,dkNew) 3).2.left≤1000000000:=hx1.left
 refine Z274 ?_
 refine KO.ce (cp:=[]) rfl rfl rfl Tryz.call26 rfl (whouse_e w0 _ bw ⟨hv,dv,wv,[p0,p1]⟩ _ 0 p0 hV rfl) ?_;rintro v' L' ⟨rfl,rfl⟩
 refine Z106 ?_
 refine KO.ce (cp:=[]) rfl rfl rfl Tryz.call26 rfl (whouse_e w0 _ bw ⟨hv,dv,wv,[p0,p1]⟩ _ 1 p1 hV rfl) ?_;rintro v' L' ⟨rfl,rfl⟩
 refine Z106 ?_
 refine KO.cl (cp:=[]) rfl rfl rfl Tryz.call14 rfl (KC.famC (f:=hdP) (ps:=[p0,p1]) (p:=p0) (x:=(cA0,(nmH 1 (hNew 0,dkNew) 3).2)) (i:=0) (y:=(putH cA0 0 farS 5 hiS,(nmH 1 (hNew 0,dkNew) 3).2)) (φ:=fun v=>v=.tuple #[.int .i64 (putI cA0 0 farS 5 hiS),errV 70 (putE cA0 0 farS 5 hiS)]) rfl rfl Y11 (fun L=>KC.hdH (fun L=>hput_c w0 L p0.1 p0.2 75420 cA0 0 farS 5 hiS (hx0.B.le (by decide)) (by omega) (by decide) (by decide) (fun z hz=>by have :=hun z hz;omega)))) ?_;rintro v' L' ⟨rfl,rfl⟩;rw[car_put.1,car_put.2]
 refine Z106 ?_
 refine Z309 ?_
 refine Z281 ?_
 refine KO.on rfl rfl (by rfl) ?_;refine KO.cl (cp:=[]) rfl rfl rfl Tryz.call16 rfl (KC.famC (f:=hdP) (ps:=[p0,p1]) (p:=p0) (x:=(cA1,(nmH 1 (hNew 0,dkNew) 3).2)) (i:=0) (y:=(cmH cA1 (nmH 1 (hNew 0,dkNew) 3).2 0,cmD cA1 (nmH 1 (hNew 0,dkNew) 3).2 0)) (φ:=fun v=>v=errV 70 (cmE cA1 (nmH 1 (hNew 0,dkNew) 3).2 0)) rfl rfl Y21 (fun L=>KC.hd (y:=(cmH cA1 (nmH 1 (hNew 0,dkNew) 3).2 0,cmD cA1 (nmH 1 (hNew 0,dkNew) 3).2 0)) (hcommit_c w0 L p0.1 p0.2 75420 cA1 (nmH 1 (hNew 0,dkNew) 3).2 0 hT hM (hx1.B.le (by decide)) (by omega) (fun z hz=>(hx1.units z hz).1) hx1.len ⟨by omega,by omega⟩))) ?_;rintro v' L' ⟨rfl,rfl⟩;rw[hcom.1,hcom.2]
 refine Z57 ?_
 refine Z309 ?_
 refine Z27 ?_
 refine Z63 ?_
 refine K.conv (fun w hw=>woP_mk (hd:=(hv,dv,some [p0,p1])) (W:=cW (cA2,cmD cA1 (nmH 1 (hNew 0,dkNew) 3).2 0) (cB0,(nmH 0 (hNew 1,dkNew) 3).2) []) ⟨hv,dv,wv,[p0,p1]⟩ rfl (hw.all (M:=woX bw ⟨hv,dv,wv,[p0,p1]⟩ (cW (cA2,cmD cA1 (nmH 1 (hNew 0,dkNew) 3).2 0) (cB0,(nmH 0 (hNew 1,dkNew) 3).2) []) L) Y7) rfl ⟨rfl,fun l hl=>by cases hl;rfl⟩) ?_
 have hnd:∀k,((cW (cA2,cmD cA1 (nmH 1 (hNew 0,dkNew) 3).2 0) (cB0,(nmH 0 (hNew 1,dkNew) 3).2) []).H k).down=false:=fun k=>by
  match k with
  |0=>rfl
  |1=>rfl
  |k+2=>rfl
 refine Z273 ?_
 refine KO.cl (cp:=[]) rfl rfl rfl Tryz.call25 rfl (KC.pk1 Y21 (wcalm_c w0 _ bw 1 4 1 _ _ (.inr ⟨rfl,hnd⟩) hT hM hB2 (by decide) (by decide) (by decide))) ?_;rintro v' L' ⟨rfl,rfl⟩;rw[hcalm]
 refine Z0 ?_
 refine K.open' (fun _ h=>woP_open h) ?_
 rintro⟨⟨hv',dv',wv',ps'⟩,hV',e8',e9'⟩
 dsimp only at hV' e8' e9' ⊢
 obtain rfl:ps'=[p0,p1]:=e9'.2 _ rfl
 refine K.conv (fun w hw=>fam_out (f:=hdP) (ps:=[p0,p1]) (xs:=(cW (cA4,D2) (cB1,E2) []).hs) (i:=1) (p:=p1) (x:=(cB1,E2)) rfl rfl (hw.pick (A:=fam hdP [p0,p1] (cW (cA4,D2) (cB1,E2) []).hs) Y11)) ?_
 refine K.conv (fun w hw=>hw.split) ?_
 refine Z8 ?_
 refine KO.cl (cp:=[]) rfl rfl rfl Tryz.call28 rfl (KC.pk1 (A:=hoP p1.1 p1.2 cB1) Y21 (hthere_c w0 _ p1.1 p1.2 79000 cB1 inS (hBB.le (show 300+1+250*4≤79000 by decide)) (by omega))) ?_;rintro v' L' ⟨vl,rfl,rfl⟩;rw[car_there.1,car_there.2]
 refine Z178 ?_
 refine K.conv (fun w hw=>fam_out (f:=hdP) (ps:=[p0,p1].eraseIdx 1) (xs:=(cW (cA4,D2) (cB1,E2) []).hs.eraseIdx 1) (i:=0) (p:=p0) (x:=(cA4,D2)) rfl rfl (hw.pick (A:=fam hdP ([p0,p1].eraseIdx 1) ((cW (cA4,D2) (cB1,E2) []).hs.eraseIdx 1)) Y11)) ?_
 refine K.conv (fun w hw=>hw.split) ?_
 have hw0:waitE cA4 1=0:=by decide+kernel
 have hw1:waitL cA4 1=[]:=by kernel_rfl
 refine Z8 ?_
 refine KO.cl (cp:=[]) rfl rfl rfl Tryz.call27 rfl (KC.pk1 (A:=hoP p0.1 p0.2 cA4) Y21 (hwaits_c w0 _ p0.1 p0.2 79000 cA4 1 (hBA.le (show 300+1+250*6≤79000 by decide)) (by omega))) ?_;rintro v' L' ⟨vw,rfl,rfl⟩;rw[hw0,hw1]
 refine Z178 ?_
 refine K.fact (fun _ hs=>SL_form (hs.pick (A:=SL 44 5 msC vl [caM]) Y11)) ?_
 rintro⟨a1,c1,rfl,hg1⟩
 obtain⟨g1,rfl⟩:=hg1 (by decide)
 refine K.fact (fun _ hs=>SL_form (hs.pick (A:=SL 44 5 msC vw []) Y21)) ?_
 rintro⟨a2,c2,rfl,-⟩
 refine Z8 ?_
 refine KO.eqN rfl Y62 rfl ?_
 refine Z65 ?_
 refine KO.eqN rfl Y62 rfl ?_
 refine Z45 ?_
 refine Z281 ?_
 refine KO.on rfl rfl (by rfl) ?_;refine KO.len rfl Tryz.underlying49 rfl ?_
 refine Z287 ?_
 refine Z45 ?_
 refine Z281 ?_
 refine KO.on rfl rfl (by rfl) ?_;refine KO.idx0 (i:=0) rfl rfl Tryz.runUnderlying49 Tryz.sizeOf44 rfl (by decide) rfl ?_
 refine Z57 ?_
 refine Z152 ?_
 refine KO.on rfl rfl (by rfl) ?_;refine KO.ldE (i:=0) (j:=2) (sz:=5) (cf:=msC) (xs:=[caM]) (e:=caM) rfl rfl Tryz.isAgg9 Y11 (fun _=>rfl) rfl Y68 Y68 rfl ?_
 refine Z57 ?_
 refine Z266 ?_
 refine Z45 ?_
 refine Z281 ?_
 refine KO.on rfl rfl (by rfl) ?_;refine KO.len rfl Tryz.underlying49 rfl ?_
 refine Z287 ?_
 refine Z45 ?_
 refine Z33 ?_
 refine KQ.ret1 rfl rfl (fun w' hs'=>⟨_,_,rfl,⟨rfl,rfl⟩,?_⟩)
 exact hs'.all (by repeat(first|exact PAll.refl|apply PAll.drop))
end Go.Proofs.YtjhogocabcdjbabGreatDoor
/- the tale, act by act -/
namespace WB
open Go
theorem taGet_ord (S:TaS) (k u:Nat) (q:ByteArray):(taGet S k u q).ks=S.ks∧(taGet S k u q).Ls=S.Ls:=by
 unfold taGet;dsimp only;split<;>exact⟨rfl,rfl⟩
theorem ordB_does {c kb:Nat} {S:TaS} (h:TaI c kb S) (hc:c≤200) (hO:OrdB (1000*c) S.ks S.Ls) (x:AcK):OrdB (1000*(c+1)) (taDoes S x).ks (taDoes S x).Ls:=by
 have hm:∀{ks Ls},OrdB (1000*c) ks Ls→OrdB (1000*(c+1)) ks Ls:=fun h=>h.mono (by omega)
 have hk:taK S x<S.n:=by
  unfold taK
  have :=pk_lt x.k (n:=(S.n:Int)) (by have :=h.n2;omega);omega
 have hu:taU x<5:=by
  unfold taU
  have :=pk_lt x.unit (n:=5) (by omega);omega
 unfold taDoes
 split
 ·unfold taPut;dsimp only;split<;>exact hm hO
 split
 ·rw[(taGet_ord S _ _ _).1,(taGet_ord S _ _ _).2];exact hm hO
 split
 ·unfold taCom
  dsimp only
  split
  ·unfold taOver
   dsimp only
   have hl:(S.P.getD (ix (taK S x) (taU x)) []).length≤200:=by
    have h1:=h.P.2 (taK S x) (taU x) (by have :=h.n2;omega) hu
    rw[List.getD_eq_getElem?_getD,h1,Option.getD_some,List.length_map]
    obtain⟨y,hy,e1,-,hb,-,-⟩:=h.at hk
    have h2:=h.um (taK S x) ((S.W.H (taK S x)).uAt (taU x)) (by rw[e1];exact List.mem_of_getElem? (uAt_of hb.B hu))
    omega
   exact(OrdB.ovs (k:=taK S x) _ (s:=⟨S.T,S.ks,S.Ls⟩) hO).mono (by omega)
  ·exact hm hO
 split
 ·unfold taBk;dsimp only;split<;>exact hm hO
 split
 ·exact hm hO
 split
 ·exact hm hO
 split
 ·exact hm hO
 split
 ·exact hm hO
 split
 ·exact hm hO
 split
 ·exact hm hO
 split
 ·unfold taCalm
  obtain⟨P,G,e,-⟩:=taDowns (List.range S.n) S h.P.1 h.G.1 fun k hk=>by have :=List.mem_range.1 hk;have :=h.n2;omega
  rw[e]
  exact hm hO
 ·exact hm hO
def tS (n:Nat) (xs:List AcK) (k:Nat):TaS:=(xs.take k).foldl taDoes (taS0 n)
theorem tS_step {n:Nat} {xs:List AcK} {k:Nat} {x:AcK} (hx:xs[k]? =some x):tS n xs (k+1)=taDoes (tS n xs k) x:=by
 unfold tS
 rw[take_succ_some hx,List.foldl_append];rfl
theorem tS_ok {n:Nat} (hn:2≤n∧n≤4) (xs:List AcK):∀k,k≤xs.length→k≤110→TaI k (3+10000*k) (tS n xs k)∧OrdB (1000*k) (tS n xs k).ks (tS n xs k).Ls
 |0,_,_=>⟨TaI.start hn,⟨rfl,fun l hl=>by cases hl⟩⟩
 |k+1,h1,h2=>by
  obtain⟨a,b⟩:=tS_ok hn xs k (by omega) (by omega)
  have hx:xs[k]? =some xs[k]:=List.getElem?_eq_getElem (by omega)
  rw[tS_step hx]
  exact⟨(a.does (by omega) (by omega) _).mono (Nat.le_refl _) (by omega),ordB_does a (by omega) b _⟩
end WB
/- waybillkeep.WorldOnce: the walk -/
namespace Go.Proofs.YtjhogocabcdjbabGreatDoor
open Go Go.RowKit WB
set_option maxRecDepth 100000 in
set_option maxHeartbeats 2000000 in
theorem wonce_e (w0:World) (L:List HP) (vl:Value) (a:Int) (xs:List AcK) (hin:∀w,St w0 L w→RdA w 5 ackC vl xs) (hT:Tab w0) (hM:Lim w0) (hQ:Qs3 w0):
 KE Tryz.prog 4 #[.int .i64 a,vl] w0 L (fun u M=>u=.bool true∧M=L):=by
 refine KE.mk (n:=38) Tryz.func4 rfl Tryz.ntmps4 (by simp) ?_
 intro w hw
 have hTw:Tab w:=hT.ext (Ext.of_below hw.below)
 have hMw:Lim w:=hM.ext (Ext.of_below hw.below)
 have hQw:Qs3 w:=hQ.ext (Ext.of_below hw.below)
 obtain⟨sa,cap,rfl,hc⟩:=hin w hw
 have fin:∀(w':World) (M:List HP),St w M w'→∃v L',Ending.returned (.bool true)=Ending.returned v∧(v=.bool true∧L'=L)∧St w0 L' w'∧Below w.heap.size w w':=fun w' M hs=>⟨_,_,rfl,⟨rfl,rfl⟩,hw.below_step hs.below,hs.below⟩
 have hp3:=pk_lt a (n:=3) (by decide)
 refine Z280 ?_
 by_cases hx1:(xs.length:Int)>110
 ·refine Z8 ?_
  refine KO.len rfl Tryz.underlying22 rfl ?_
  refine Z170 ?_
  refine Z2 ?_
  refine K.condT rfl (by simpa using hx1) ?_
  refine Z193 ?_
  refine KQ.ret1 rfl rfl (fun w' hs=>fin w' _ hs)
 refine Z8 ?_
 refine KO.len rfl Tryz.underlying22 rfl ?_
 refine Z170 ?_
 refine Z2 ?_
 refine K.condF rfl (by simpa using hx1) ?_
 refine Z250 ?_
 refine KO.cl (cp:=[]) rfl rfl rfl Tryz.call21 rfl (carried_c w _ hTw hMw) ?_;rintro v' L' ⟨rfl,rfl⟩
 refine Z322 ?_
 refine Z8 ?_
 refine KO.cl (cp:=[]) rfl rfl rfl Tryz.call22 rfl (tells_c w _ a hTw hMw) ?_;rintro v' L' ⟨⟨bt,bw,hd⟩,hN,rfl,rfl⟩;dsimp only at hN ⊢
 refine Z21 ?_
 obtain⟨n,hn,hn4⟩:∃n:Nat,2+(pk a 3).toNat=n∧2≤n∧n≤4:=⟨_,rfl,by omega,by omega⟩
 rw[hn]
 refine Z8 ?_
 refine KO.eqPn rfl Tryz.underlying52 rfl ?_
 refine Z162 ?_
 refine Z231 ?_
 refine Z7 ?_
 refine Z15 ?_
 refine K.loop (fun k:Nat=>[(0,.int .i64 a),(1,.slice sa xs.length cap),(5,ptrV bt),(6,.int .i64 (k:Nat))]) (fun k=>[talP bt bw (tS n xs k),woP bw hd (tS n xs k).W]) (fun k=>k≤xs.length) (fun k=>xs.length-k) 0 (Nat.zero_le _) ⟨rfl,rfl,rfl,rfl,trivial⟩ (fun w' hs'=>hs'.all Y30) ?_
 intro k hk
 obtain⟨hTa,hO⟩:=tS_ok hn4 xs k hk (by omega)
 refine Z214 ?_
 refine KO.len rfl Tryz.underlying22 rfl ?_
 refine Z215 ?_
 refine K.condD rfl (fun h1=>?_) (fun h1=>?_)
 ·have hil:k<xs.length:=by omega
  obtain⟨x,hx⟩:∃e,xs[k]? =some e:=⟨xs[k],List.getElem?_eq_getElem hil⟩
  obtain⟨ad,rfl,hcell⟩:=hc k x hx
  obtain⟨hTa1,-⟩:=tS_ok hn4 xs (k+1) (by omega) (by omega)
  rw[tS_step hx]at hTa1
  refine Z229 ?_
  refine Z34 ?_
  refine KO.idxH rfl rfl Tryz.runUnderlying22 Tryz.sizeOf38 Y68 (by omega) rfl ?_
  refine KO.ldN0 (cs:=(ackC x).toArray) rfl rfl Tryz.isAgg38 Tryz.sizeOf38 rfl hcell rfl ?_
  refine KO.cl (cp:=[]) rfl rfl rfl Tryz.call23 rfl (tdoes_c w _ bt bw k (3+10000*k) hd hN (tS n xs k) x hTw hMw hQw hTa hO (by omega) (by omega)) ?_;rintro v' L' ⟨rfl,rfl⟩;rw[←tS_step hx]
  refine Z0 ?_
  rw[←tS_step hx]at hTa1
  refine K.open' (fun _ h=>talP_open h) ?_
  rintro⟨⟨us,vs,os,mT,mO⟩,hV⟩
  dsimp only
  have hc44:=taC_44 (bw:=bw) (n:=(tS n xs (k+1)).n) (V:=⟨us,vs,os,mT,mO⟩) hV.us hV.vs
  refine Z120 ?_
  refine KO.fo0 (off:=44) rfl Tryz.runUnderlying62 rfl rfl Tryz.sizeOf4 rfl ?_
  refine KO.ldAt (i:=44) rfl rfl Tryz.isAgg4 Y21 rfl hc44 rfl ?_
  refine Z70 ?_
  refine Z281 ?_
  refine KO.on rfl rfl (by rfl) ?_;refine KO.conv (fun w hw=>talP_mk ⟨us,vs,os,mT,mO⟩ hV hw) ?_;refine KO.cl (cp:=[]) rfl rfl rfl Tryz.call24 rfl (tonce_c w _ bt bw (k+1) (3+10000*(k+1)) hd (tS n xs (k+1)) hTa1 (by omega) (msSort w)) ?_;rintro v' L' ⟨rfl,rfl⟩
  refine Z236 ?_
  refine Z63 ?_
  refine Z22 ?_
  refine Z284 ?_
  refine KQ.round (k+1) (by omega) (by omega) ⟨rfl,rfl,rfl,rfl,trivial⟩ (fun _ hs'=>hs'.all Y30)
 ·refine Z351 ?_
  refine KQ.ret1 rfl rfl (fun w' hs=>fin w' _ hs)
end Go.Proofs.YtjhogocabcdjbabGreatDoor
/- a listed variable that is an array of texts -/
namespace WB
open Go Go.RowKit Go.Lib Go.ChangeShapes
theorem cells_of_strs {H:Type} {enc:TypeId×Value→H} {P:Program} {w:World} {base:Nat} {sp:Nat→Bool} {held:Bool} {fuel:Nat} {t e:TypeId} {n:Nat} {cs:List Value} {zs:List ByteArray} {p:List MemPlace}
 (ht:P.underlying t=some (.array n e)) (he:P.underlying e=some .string) (hce:P.cellsOf e=1) (hct:P.cellsOf t=n)
 (h:DataW.trod enc P w base sp held fuel t cs=some (.agg (zs.map fun z=>.lit (.string z.data.toList)),p)):cs=zs.map Value.string:=by
 cases fuel with
 |zero=>simp[DataW.trod]at h
 |succ fuel=>
  simp only[DataW.trod,ht,hce,hct,Nat.mul_one]at h
  split at h
  ·rename_i hl
   obtain⟨xs,hm,hx⟩:=Option.map_eq_some_iff.1 h
   have hxs:xs.map (·.1)=zs.map fun z=>(DataW.lit (.string z.data.toList):DataW H):=by
    have :=congrArg Prod.fst hx
    simpa using this
   have hxl:xs.length=n:=by simpa using mapM_length hm
   have hzl:zs.length=n:=by
    have :=congrArg List.length hxs
    simp at this
    omega
   apply List.ext_getElem?
   intro i
   by_cases hi:i<n
   ·obtain⟨b,hb,hf⟩:=mapM_at hm i i (by simp[hi])
    obtain⟨z,hc,rfl,_⟩:=DataW.trod_string he hf
    have h1:cs[i]? =some (.string z):=by
     have :=congrArg (·[0]?) hc
     simpa[List.getElem?_take,List.getElem?_drop]using this
    have h2:(xs.map (·.1))[i]? =some (DataW.lit (.string z.data.toList):DataW H):=by simp[hb]
    rw[hxs]at h2
    simp only[List.getElem?_map,Option.map_eq_some_iff,DataW.lit.injEq,Lit.string.injEq]at h2
    obtain⟨z',hz',h3⟩:=h2
    have h4:z'=z:=by
     obtain⟨⟨a⟩⟩:=z'
     obtain⟨⟨b⟩⟩:=z
     dsimp only at h3
     rw[h3]
    rw[h1,List.getElem?_map,hz',h4];rfl
   ·rw[List.getElem?_eq_none (by omega),List.getElem?_eq_none Y61]
  ·cases h
theorem strs_of_laid {P:Program} {W:World} {name:String} {zs:List ByteArray} {l:List (String×DataW Unit)} {g:Nat} {t e:TypeId} {n:Nat}
 (h:laidMet P l W) (hm:(name,(.agg (zs.map fun z=>.lit (.string z.data.toList)):DataW Unit))∈l) (hg:P.globalNamed name=some g) (hty:(P.globals[g]?).map (·.type)=some t) (ht:P.underlying t=some (.array n e)) (he:P.underlying e=some .string) (hce:P.cellsOf e=1) (hct:P.cellsOf t=n):
 ∀k z,zs[k]? =some z→W.cell? ⟨g,k,none⟩=some (.string z):=by
 obtain⟨ps,hv,_⟩:=h
 obtain⟨g',t',cs,fuel,p,h1,h2,h3,h4⟩:=laidVars_mem hv _ hm
 obtain rfl:=Option.some.inj (hg.symm.trans h1)
 obtain rfl:=Option.some.inj (hty.symm.trans h2)
 have h5:=cells_of_strs ht he hce hct h4
 intro k z hz
 have h6:=World.var?_cell hg h3 k
 rw[h6]
 have :cs.toList[k]? =some (.string z):=by rw[h5,List.getElem?_map,hz];rfl
 simpa using this
end WB
/- rows that say 'leaving', of calls in which one goroutine runs from the first step to the last -/
namespace WB
open Go
theorem leaving_of_handed {a:Assume} {C:Checked} {os:Os} {f:FuncId} {r:Reach} {Pre:World→Array Value→Prop} {Post:World→Array Value→Value→World→Prop}
 (h:ReturnsInHanded a C os f r Pre Post):ReturnsInLeavingWide a C os f r Pre Post:=fun enter=>by
 obtain⟨h1,h2,h3,h4,h5⟩:=h enter
 refine⟨h1,h2,h3,h4,fun w tape i hf=>?_⟩
 obtain⟨n,v,w',k1,k2,k3,k4,⟨j,last,k5,k6,k7⟩,k8⟩:=h5 w tape i hf
 exact⟨n,v,w',k1,k2,k3,k4,⟨j,last,k5,k6,k7.2.1,onlyLeaving_of_quiet k7.1,k7.2.2⟩,k8⟩
theorem holds_tied_goes (Lk:Looks) {p:Pinned} {s:OpenSpec} {c:OpenClaim} (kinds:List LaidKind) (tests:Bool) (har:Bool×String) (lk:Bool)
 (hc:c.holds p s) (hw:c.wfByText s=true) (htie:c.laidByTextAt Lk p kinds tests)
 (hst:c.start=.entering) (hnb:c.noBlocks=false∧c.again=false) (hm:p.checked.prog.mainIs=some (har.1,har.2.toList)) (hn:(!har.1&&har.2.isEmpty&& !lk)=false)
 (hl:∀f fn,p.checked.prog.funcNamed c.func=some f→p.checked.prog.funcs[f]? =some fn→lk=p.checked.prog.looks []∧∀(j:Nat) t,fn.params[j]? =some t→p.checked.prog.wantsStandIn t=false)
 (hg:true=c.goesBy p.checked.prog):
 Claim7.holds p (.plain s) {stood:={row:=c,standIns:=[],harness:=har,looks:=lk},kinds:=[],alts:=[],goes:=true,laidByText:=true,laidKinds:=kinds,laidTests:=tests,laidLooks:=Lk}:=by
 have h6:Claim7.isSixth {stood:={row:=c,standIns:=[],harness:=har,looks:=lk},kinds:=[]}=false:=by simpa[Claim7.isSixth]using hn
 exact⟨Claim7.tied_new_at Lk kinds tests (Claim7.new_of_sixth hc har lk hst hnb hm h6 hl) hw,(fun D hD=>by cases hD),htie,(fun h=>by cases h),hg⟩
theorem joined_of {P:Program} {f:FuncId} {fn:Func} {s:ChangeSpec} {c:OpenClaim}
 (a1:(c.wf (OpenSpec.ofChange s)&&laidOutB P&&mapsRowed P)=true)
 (a2:(fn.params.all (P.readableRec ·)&&namedTie P c.named s.vars&&(c.stops==[])&&(P.stops==[])&&(c.knobs==[])&&(P.stopKnobs==[]))=true)
 (a3:(c.inPlace==P.inPlace f)=true) (a4:(c.unfollowed==P.unfollowed f)=true) (a5:(c.recurses==P.recurses f)=true) (a6:(c.named==P.varsNamed f)=true)
 (a7:((c.maps==(fn.params.toList++s.plain.varTypes P).any (P.mapsRec ·))&&(c.ifaces==(fn.params.toList++s.plain.varTypes P).any (P.ifacesRec ·))&&(c.mapsOut==P.mapsAmong fn.resultTypes.toList)&&
  (c.loops==(fn.params.toList++s.plain.varTypes P).any (P.loopsFrom ·))&&(c.wideKeys==(fn.params.toList++s.plain.varTypes P++fn.resultTypes.toList).any (P.wideKeysFrom ·))&&
  s.vars.all (P.varReadable ·)&&fn.resultTypes.all (fun t=>P.readableRec t&&decide (t<P.types.size))&&(c.ifacesOut==fn.resultTypes.toList.any (P.ifacesRec ·))&&(c.loopsOut==fn.resultTypes.toList.any (P.loopsFrom ·))&&(c.plainKeys==P.plainKeys)&&c.shortTexts.isNone)=true)
 (a8:(P.stopsHeard&&P.mayEnter&&(c.lifted==P.liftsFinal)&&(P.make==some c.make))=true)
 (a9:((c.kinds==(if c.domain.isEmpty then[]else fn.params.toList.map fun t=>match P.underlying t with|some (.int k)=>some k|_=>none))&&(c.pinned==c.pinnedBy)&&
  (c.veiled==(fn.params.toList++s.plain.varTypes P++fn.resultTypes.toList).any (P.veiledRec ·))&&c.veiledFits P fn.params.toList (fn.params.toList++s.plain.varTypes P++fn.resultTypes.toList))=true):
 joinedFacts P f fn s c=true:=by
 unfold joinedFacts
 simp only[Bool.and_eq_true]at a1 a2 a7 a8 a9 ⊢
 grind
end WB
