import Derived.Shelf.SlSortFuncK.WholeK
import Derived.Shelf.GgSortFunc.Tiny
import Derived.Lib.AppendIntMem
import Derived.Sort.EncStr
import Derived.Test.YtjhogocabcdjbabGreatDoorB2
set_option linter.unusedSimpArgs false
set_option linter.unusedVariables false
/- house: place, Put, Get -/
namespace Go.Proofs.YtjhogocabcdjbabGreatDoor
open Go Go.RowKit WB
theorem hoP_parts {w0 w:World} {bh bd:Nat} {H:Ho} {L:List HP} {V:HoV} (hV:HoVL V H) {cs:List Value} {nv:Value} {l:List Nm} {m:List (ByteArray×Value)} {mb:Nat} {ps:List Nat} {a:List Qu} {p1 p2 bs:List Value} {u1:List (List (Ms×Int))} {u2:List (List (Int×ByteArray))} {ba:List (List Int)}
 (h:St w0 (blk bh (.cells cs.toArray 133 (0,0))::nmS nv l::omapK Value.string mb m::fam quP ps a::fam putsS p1 u1::fam getsS p2 u2::fam batS bs ba::L) w)
 (e1:cs=hoC bd V H) (e2:nv=V.nv) (e3:l=H.names) (e4:m=mapE V H) (e5:mb=V.mb) (e6:ps=V.ps) (e7:a=H.all) (e8:p1=V.us.map (·.1)) (e9:u1=H.units.map (·.puts)) (e10:p2=V.us.map (·.2)) (e11:u2=H.units.map (·.gets)) (e12:bs=V.bs) (e13:ba=H.batch):
 St w0 (hoP bh bd H::L) w:=by
 subst e1 e2 e3 e4 e5 e6 e7 e8 e9 e10 e11 e12 e13
 exact hoP_mk V hV h
theorem flat_get:∀(us:List (Value×Value)) (u:Nat) (p:Value×Value),us[u]? =some p→(us.flatMap (fun p=>[p.1,p.2]))[2*u]? =some p.1∧(us.flatMap (fun p=>[p.1,p.2]))[2*u+1]? =some p.2
 |[],_,_,h=>by simp at h
 |a::us,0,p,h=>by simp at h;subst h;exact⟨rfl,rfl⟩
 |a::us,u+1,p,h=>by
  have ih:=flat_get us u p Y56
  rw[List.flatMap_cons,show 2*(u+1)=2*u+2 by omega]
  exact⟨ih.1,ih.2⟩
theorem flat_set:∀(us:List (Value×Value)) (u:Nat) (p:Value×Value) (v:Value),us[u]? =some p→(us.flatMap (fun p=>[p.1,p.2])).set (2*u) v=(us.set u (v,p.2)).flatMap (fun p=>[p.1,p.2])∧(us.flatMap (fun p=>[p.1,p.2])).set (2*u+1) v=(us.set u (p.1,v)).flatMap (fun p=>[p.1,p.2])
 |[],_,_,_,h=>by simp at h
 |a::us,0,p,v,h=>by simp at h;subst h;exact⟨rfl,rfl⟩
 |a::us,u+1,p,v,h=>by
  have ih:=flat_set us u p v Y56
  rw[List.flatMap_cons,show 2*(u+1)=2*u+2 by omega,List.set_cons_succ,List.set_cons_succ,List.flatMap_cons,List.flatMap_cons,←ih.1,←ih.2]
  exact⟨rfl,rfl⟩
theorem hoC_unit {bd:Nat} {V:HoV} {H:Ho} (hV:HoVL V H) {u:Nat} {p:Value×Value} (hp:V.us[u]? =some p):
 (hoC bd V H)[12+2*u]? =some p.1∧(hoC bd V H)[13+2*u]? =some p.2∧(∀v,(hoC bd V H).set (12+2*u) v=hoC bd {V with us:=V.us.set u (v,p.2)} H)∧(∀v,(hoC bd V H).set (13+2*u) v=hoC bd {V with us:=V.us.set u (p.1,v)} H):=by
 have hps:=hV.ps
 have hu:=(List.getElem?_eq_some_iff.1 hp).1
 have h12:(([.int .i64 H.id,ptrV bd,.int .i64 (H.used:Nat),.bool H.down,.int .i64 H.torn,.int .i64 H.next,V.nv,.map (some V.mb)]:List Value)++(V.ps.take 4).map ptrV).length=12:=by simp[hps]
 have hfl:=flat_len V.us
 obtain⟨g1,g2⟩:=flat_get V.us u p hp
 have s1:=fun v=>(flat_set V.us u p v hp).1
 have s2:=fun v=>(flat_set V.us u p v hp).2
 simp only[hoC_split]
 generalize ([.int .i64 H.id,ptrV bd,.int .i64 (H.used:Nat),.bool H.down,.int .i64 H.torn,.int .i64 H.next,V.nv,.map (some V.mb)]:List Value)++(V.ps.take 4).map ptrV=A at h12
 refine⟨?_,?_,fun v=>?_,fun v=>?_⟩
 ·rw[List.getElem?_append_right (by omega),h12,show 12+2*u-12=2*u by omega,List.getElem?_append_left (by omega),g1]
 ·rw[List.getElem?_append_right (by omega),h12,show 13+2*u-12=2*u+1 by omega,List.getElem?_append_left (by omega),g2]
 ·rw[List.set_append_right _ _ (by omega),h12,show 12+2*u-12=2*u by omega,List.set_append_left _ _ (by omega),s1]
 ·rw[List.set_append_right _ _ (by omega),h12,show 13+2*u-12=2*u+1 by omega,List.set_append_left _ _ (by omega),s2]
def plV (V:HoV) (H:Ho) (s:ByteArray):Value:=if(plR H s).2.2≠0 then .pointer none else match V.ps[plJ H s]? with
 |some p=>ptrV p
 |none=>.pointer none
set_option maxRecDepth 100000 in
theorem place_c (w0:World) (L:List HP) (bh bd n:Nat) (V:HoV) (H:Ho) (s:ByteArray) (hV:HoVL V H) (hB:HoB n H):
 KC Tryz.prog 55 #[ptrV bh,.string s] w0 (hoX bh bd V H L) (fun u M=>u=.tuple #[plV V H s,.string (plR H s).1,.int .i64 (plR H s).2.1,errV 70 (plR H s).2.2]∧M=hoX bh bd V H L):=by
 have hnl:=hB.nlen
 have hso:=hB.sorted
 have hps:=hV.ps
 have hlt:=plJ_lt hB (s:=s)
 have fin:∀(a:Value) (b:ByteArray) (c d:Int),plV V H s=a→plR H s=(b,c,d)→(Value.tuple #[a,.string b,.int .i64 c,errV 70 d])=.tuple #[plV V H s,.string (plR H s).1,.int .i64 (plR H s).2.1,errV 70 (plR H s).2.2]:=fun a b c d h1 h2=>by rw[h1,h2]
 refine KC.mk (n:=54) Tryz.func55 rfl Tryz.ntmps55 (by simp) ?_
 refine Z3 ?_
 refine Z166 ?_
 refine Z7 ?_
 refine Z232 ?_
 refine Z98 ?_
 refine Z1 ?_
 refine KO.ce (cp:=[]) rfl rfl rfl Tryz.call144 rfl (resolve_e w0 _ _ _ bh 6 (hoC bd V H) 133 V.nv H.names s Y21 Y21 rfl (by omega) hso) ?_;rintro v' L' ⟨rfl,rfl⟩
 refine Z47 ?_
 refine Z187 ?_
 refine Z166 ?_
 refine Z7 ?_
 refine Z39 ?_
 obtain⟨⟨t,k,e⟩,hr⟩:∃r,resN H.names (H.names.length+1) s=r:=⟨_,rfl⟩
 have hpR:plR H s=(if e≠0 then(⟨#[]⟩,0,e)else if k<0∨k=H.id then if localB H.names t=false then(⟨#[]⟩,0,7)else(t,-1,0)else(t,k,0)):=by unfold plR;rw[hr]
 rw[hr]
 refine Z8 ?_
 refine Z309 ?_
 refine Z83 ?_
 refine K.condD rfl (fun h=>?_) (fun h=>?_)
 ·rw[if_pos h]at hpR
  refine Z117 ?_
  refine Z166 ?_
  refine Z7 ?_
  refine Z146 ?_
  refine KQ.ret4 rfl rfl rfl rfl rfl (fun w' hs'=>⟨_,_,rfl,⟨fin _ _ _ _ ?_ hpR,rfl⟩,hs'⟩)
  unfold plV;rw[hpR,if_pos h]
 rw[if_neg h]at hpR
 have he0:e=0:=by simpa using h
 subst he0
 refine Z53 ?_
 refine K.cut (fun _:Unit=>[(0,ptrV bh),(5,.string t),(6,.int .i64 k),(21,.bool (decide (k<0∨k=H.id)))]) (fun _=>hoX bh bd V H L) (fun _=>True) ?_ ?_
 ·by_cases hk0:k<0
  ·refine Z140 ?_
   refine Z313 ?_
   refine Z43 ?_
   refine Z144 ?_
   exact KQ.mid () trivial ⟨rfl,rfl,rfl,by simp[hk0,envAt],trivial⟩ (fun w' hs'=>hs')
  ·refine Z186 ?_
   refine Z32 ?_
   refine Z358 ?_
   refine Z115 ?_
   refine KO.on rfl rfl Y57 ?_;refine KO.ldAt (i:=0) rfl rfl Tryz.isAgg3 Y21 rfl rfl rfl ?_
   refine Z20 ?_
   refine Z68 ?_
   refine Z48 ?_
   refine Z144 ?_
   exact KQ.mid () trivial ⟨rfl,rfl,rfl,by simp[hk0,envAt],trivial⟩ (fun w' hs'=>hs')
 rintro⟨⟩-
 refine K.condD rfl (fun hk=>?_) (fun hk=>?_)
 ·rw[if_pos hk]at hpR
  refine Z3 ?_
  refine Z26 ?_
  refine Z98 ?_
  refine Z1 ?_
  refine KO.ce (cp:=[]) rfl rfl rfl Tryz.call57 rfl (local_e w0 _ _ _ bh 6 (hoC bd V H) 133 V.nv H.names t Y21 Y21 rfl (by omega) hso) ?_;rintro v' L' ⟨rfl,rfl⟩
  refine Z70 ?_
  refine Z2 ?_
  cases hloc:localB H.names t with
  |false=>
   rw[hloc]at hpR
   rw[if_pos rfl]at hpR
   refine Z275 ?_
   refine Z75 ?_
   refine Z166 ?_
   refine Z146 ?_
   refine KQ.ret4 rfl rfl rfl rfl rfl (fun w' hs'=>⟨_,_,rfl,⟨fin _ _ _ 7 ?_ hpR,rfl⟩,hs'⟩)
   unfold plV;rw[hpR];rfl
  |true=>
   rw[hloc]at hpR
   rw[if_neg (by simp)]at hpR
   obtain⟨h1,h2,-⟩:=hlt (by rw[hpR])
   obtain⟨-,i,hi,hj⟩:=h2 (by rw[hpR];exact(by decide:(-1:Int)<0))
   rw[hpR]at hi
   have hg:=mapE_get hV t
   have hil:=(qI_lt hi).1
   obtain⟨p,hp⟩:∃p,V.ps[4+i]? =some p:=⟨_,List.getElem?_eq_getElem (by omega)⟩
   rw[show H.qI t=some i from hi]at hg
   simp only[Option.bind_some,hp,Option.map_some]at hg
   refine Z295 ?_
   refine Z6 ?_
   refine Z326 ?_
   refine KO.lkm strKey t rfl rfl rfl Tryz.underlying123 Tryz.underlying9 Tryz.zeroValue119 Y11 rfl ?_;rw[hg]
   refine Z1 ?_
   refine Z166 ?_
   refine Z7 ?_
   refine Z146 ?_
   refine KQ.ret4 rfl rfl rfl rfl rfl (fun w' hs'=>⟨_,_,rfl,⟨fin _ _ _ 0 ?_ hpR,rfl⟩,hs'⟩)
   unfold plV;rw[hj,hp,if_neg (by rw[hpR];simp)];rfl
 ·rw[if_neg hk]at hpR
  obtain⟨h1,-,h2⟩:=hlt (by rw[hpR])
  obtain⟨h3,h4⟩:=h2 (by rw[hpR];exact fun h=>hk (.inl h))
  rw[hpR]at h4
  dsimp only at h4
  obtain⟨p,hp⟩:∃p,V.ps[plJ H s]? =some p:=⟨_,List.getElem?_eq_getElem (by omega)⟩
  have hw:=hoC_way hV (bd:=bd) h3 hp
  refine Z62 ?_
  refine Z171 ?_
  refine Z211 ?_
  refine KO.idxA (i:=plJ H s) rfl rfl Tryz.runUnderlying126 Tryz.sizeOf119 h4 (by omega) rfl ?_
  refine KO.ldAt (i:=8+plJ H s) rfl rfl Tryz.isAgg119 Y21 Y31 hw rfl ?_
  refine Z34 ?_
  refine Z166 ?_
  refine Z192 ?_
  refine KQ.ret4 rfl rfl rfl rfl rfl (fun w' hs'=>⟨_,_,rfl,⟨fin _ _ _ 0 ?_ hpR,rfl⟩,hs'⟩)
  unfold plV;rw[hp,if_neg (by rw[hpR];simp)]
theorem hoP_unit {w0 w:World} {bh bd:Nat} {H:Ho} {L:List HP} {V:HoV} (hV:HoVL V H) (j:Nat) (q:Qu) (u:Nat) (k:Int) (x:Unt) (p:Value×Value) {p1 p2:List Value} {u1:List (List (Ms×Int))} {u2:List (List (Int×ByteArray))}
 (h:St w0 (blk bh (.cells (hoC bd {V with us:=V.us.set u p} {H with next:=k}).toArray 133 (0,0))::nmS V.nv H.names::omapK Value.string V.mb (mapE V H)::fam quP V.ps (H.all.set j q)::fam putsS p1 u1::fam getsS p2 u2::fam batS V.bs H.batch::L) w)
 (e1:p1=(V.us.map (·.1)).set u p.1) (e2:p2=(V.us.map (·.2)).set u p.2) (e3:u1=(H.units.map (·.puts)).set u x.puts) (e4:u2=(H.units.map (·.gets)).set u x.gets):
 St w0 (hoP bh bd (putU {H.setA j q with next:=k} u x)::L) w:=by
 refine hoP_parts (V:={V with us:=V.us.set u p}) ⟨?_,by simp[hV.us],hV.bs,?_,?_,?_,?_,?_⟩ h ?_ rfl ?_ ?_ rfl rfl ?_ ?_ ?_ ?_ ?_ rfl ?_
 ·unfold putU;dsimp only;rw[setA_qlen];exact hV.ps
 ·unfold putU;dsimp only;rw[setA_wlen];exact hV.ways
 ·unfold putU;dsimp only;rw[setA_units];simp[hV.units]
 ·unfold putU;dsimp only;rw[setA_batch];exact hV.batch
 ·unfold putU;dsimp only;rw[setA_sent];exact hV.sent
 ·unfold putU;dsimp only;rw[setA_arrived];exact hV.arrived
 ·unfold putU hoC;dsimp only;rw[setA_id,setA_used,setA_down,setA_torn,setA_sent,setA_arrived]
 ·unfold putU;dsimp only;rw[setA_names]
 ·unfold putU mapE;dsimp only;exact mEnt_fst _ _ _ (setA_fst j q).symm
 ·exact(all_setA hV.ways j q).symm
 ·rw[e1,List.map_set]
 ·rw[e3];unfold putU;dsimp only;rw[setA_units,List.map_set]
 ·rw[e2,List.map_set]
 ·rw[e4];unfold putU;dsimp only;rw[setA_units,List.map_set]
 ·unfold putU;dsimp only;rw[setA_batch]
theorem fam_same {α β:Type} {l:List α} {f:α→β} {i:Nat} {x:α} {y:β} (h:l[i]? =some x) (e:f x=y):l.map f=(l.map f).set i y:=by
 rw[←e,←List.map_set,List.set_getElem_of h]
set_option maxRecDepth 100000 in
set_option maxHeartbeats 2000000 in
theorem hput_c (w0:World) (L:List HP) (bh bd n:Nat) (H:Ho) (u:Int) (s:ByteArray) (pri:Int) (body:ByteArray) (hB:HoB n H) (hn:n<90000) (hs:s.size≤maxLen) (hb:body.size≤maxLen) (hl:∀x∈H.units,x.puts.length≤90000):
 KC Tryz.prog 14 #[ptrV bh,.int .i64 u,.string s,.int .i64 pri,.string body] w0 (hoP bh bd H::L) (fun v M=>v=.tuple #[.int .i64 (putI H u s pri body),errV 70 (putE H u s pri body)]∧M=hoP bh bd (putH H u s pri body)::L):=by
 have hx:=hB.next
 have hid:=hB.id
 have ends:∀k:Int,k≠0→putE H u s pri body=k→∀w',St w0 (hoP bh bd H::L) w'→(Value.tuple #[.int .i64 0,errV 70 k]=.tuple #[.int .i64 (putI H u s pri body),errV 70 (putE H u s pri body)]∧hoP bh bd H::L=hoP bh bd (putH H u s pri body)::L):=fun k hk he w' _=>by
  have h0:¬putE H u s pri body=0:=by rw[he];exact hk
  unfold putI putH
  rw[if_neg h0,if_neg h0,he]
  exact⟨rfl,rfl⟩
 refine KC.mk (n:=109) Tryz.func14 rfl Tryz.ntmps14 (by simp) ?_
 refine Z230 ?_
 refine Z21 ?_
 by_cases hu:u<0∨5≤u
 ·have he:putE H u s pri body=2:=by unfold putE;rw[if_pos hu]
  by_cases hu0:u<0
  ·refine Z140 ?_
   refine Z151 ?_
   refine Z321 ?_
   refine Z169 ?_
   refine KQ.ret2 rfl rfl rfl (fun w' hs'=>⟨_,_,rfl,ends 2 (by decide) he w' hs',hs'⟩)
  ·refine Z286 ?_
   refine Z2 ?_
   refine K.condT rfl Y57 ?_
   refine Z169 ?_
   refine KQ.ret2 rfl rfl rfl (fun w' hs'=>⟨_,_,rfl,ends 2 (by decide) he w' hs',hs'⟩)
 refine Z286 ?_
 refine Z2 ?_
 refine K.condF rfl Y57 ?_
 refine Z6 ?_
 by_cases hp:pri<0∨9<pri
 ·have he:putE H u s pri body=1:=by unfold putE;rw[if_neg hu,if_pos (.inl hp)]
  by_cases hp0:pri<0
  ·refine Z140 ?_
   refine Z151 ?_
   refine Z43 ?_
   refine Z131 ?_
   refine Z45 ?_
   refine Z2 ?_
   refine K.condT rfl Y60 ?_
   refine Z169 ?_
   refine KQ.ret2 rfl rfl rfl (fun w' hs'=>⟨_,_,rfl,ends 1 (by decide) he w' hs',hs'⟩)
  ·refine Z186 ?_
   refine Z340 ?_
   refine Z261 ?_
   refine Z321 ?_
   refine Z169 ?_
   refine KQ.ret2 rfl rfl rfl (fun w' hs'=>⟨_,_,rfl,ends 1 (by decide) he w' hs',hs'⟩)
 refine Z186 ?_
 refine Z340 ?_
 refine Z32 ?_
 refine Z1 ?_
 refine KO.on rfl rfl Y57 ?_;refine KO.ce (cp:=[]) rfl rfl rfl Tryz.call54 rfl (body_e w0 _ body hb) ?_;rintro v' L' ⟨rfl,rfl⟩
 refine Z20 ?_
 refine Z70 ?_
 refine Z48 ?_
 refine Z2 ?_
 cases hbd:bodyB body with
 |false=>
  have he:putE H u s pri body=1:=by unfold putE;rw[if_neg hu,if_pos (.inr hbd)]
  refine K.condT rfl (by simp) ?_
  refine Z169 ?_
  refine KQ.ret2 rfl rfl rfl (fun w' hs'=>⟨_,_,rfl,ends 1 (by decide) he w' hs',hs'⟩)
 |true=>
 refine K.condF rfl Y60 ?_
 have hu0:¬((pri<0∨9<pri)∨bodyB body=false):=by rw[hbd];simpa using hp
 refine Z6 ?_
 refine K.open' (fun _ h=>hoP_open h) ?_
 rintro⟨V,hV⟩
 dsimp only
 have hps:=hV.ps
 refine Z72 ?_
 refine KO.cl (cp:=[]) rfl rfl rfl Tryz.call55 rfl (place_c w0 L bh bd n V H s hV hB) ?_;rintro v' L' ⟨rfl,rfl⟩
 refine Z47 ?_
 refine Z16 ?_
 refine Z166 ?_
 refine Z7 ?_
 refine Z239 ?_
 refine K.condD rfl (fun h=>?_) (fun h=>?_)
 ·have he:putE H u s pri body=(plR H s).2.2:=by unfold putE;rw[if_neg hu,if_neg hu0,if_pos h]
  refine Z117 ?_
  refine Z7 ?_
  refine Z59 ?_
  refine KQ.ret2 rfl rfl rfl (fun w' hs'=>⟨_,_,rfl,ends _ h he w' (hoP_mk V hV hs'),hoP_mk V hV hs'⟩)
 have h0:(plR H s).2.2=0:=by simpa using h
 refine Z6 ?_
 cases hdn:H.down with
 |true=>
  have he:putE H u s pri body=6:=by unfold putE;rw[if_neg hu,if_neg hu0,if_neg h,if_pos hdn]
  refine Z337 ?_
  refine Z2 ?_
  refine K.condT rfl hdn ?_
  refine Z169 ?_
  refine KQ.ret2 rfl rfl rfl (fun w' hs'=>⟨_,_,rfl,ends 6 (by decide) he w' (hoP_mk V hV hs'),hoP_mk V hV hs'⟩)
 |false=>
 refine Z337 ?_
 refine Z2 ?_
 refine K.condF rfl hdn ?_
 refine Z6 ?_
 have he:putE H u s pri body=qputE (H.aAt (plJ H s)) (putM H s pri body):=by unfold putE;rw[if_neg hu,if_neg hu0,if_neg h,if_neg Y64]
 obtain⟨hj,h2,h3⟩:=plJ_lt hB h0
 have hjl:=all_len hV.ways
 obtain⟨p,hp2⟩:∃p,V.ps[plJ H s]? =some p:=⟨_,List.getElem?_eq_getElem (by omega)⟩
 have hpV:plV V H s=ptrV p:=by unfold plV;rw[hp2,if_neg h]
 rw[hpV]
 refine K.draw [.pure,.pure,.pure,.read,.pure,.pure,.pure,.pure,.read,.pure,.pure,.pure,.pure,.pure,.pure,.keep,.write] [0,1,2,3,4,5,6,7,8,9,10,11,12,13,14,15,16] Y62 Y62 ?_
 refine Z26 ?_
 refine Z174 ?_
 refine KO.ldAt (i:=5) rfl rfl Tryz.isAgg3 Y21 rfl rfl rfl ?_
 refine KO.mul rfl rfl rfl (by omega) rfl ?_
 refine Z26 ?_
 refine Z115 ?_
 refine KO.ldAt (i:=0) rfl rfl Tryz.isAgg3 Y21 rfl rfl rfl ?_
 refine Z23 ?_
 refine Z34 ?_
 refine Z34 ?_
 refine Z46 ?_
 refine KO.alloc rfl Tryz.zeroValue44 Y68 rfl ?_;intro b16
 refine Z278 ?_
 refine Z140 ?_
 refine Z2 ?_
 refine K.cut (fun _:Unit=>[(0,ptrV bh),(1,.int .i64 u),(12,ptrV p),(14,.int .i64 (plR H s).2.1),(16,.pointer (some ⟨b16,0,none⟩))]) (fun _=>blk b16 (.cells (msC (putM H s pri body)).toArray 44 (0,0))::hoX bh bd V H L) (fun _=>True) ?_ ?_
 ·refine K.condD rfl (fun h11=>?_) (fun h11=>?_)
  ·(skip)
   refine Z120 ?_
   refine Z115 ?_
   refine KO.ldAt (i:=0) rfl rfl Tryz.isAgg3 Y11 rfl rfl rfl ?_
   refine Z82 ?_
   (refine KO.sto rfl rfl rfl Y68 Y45 Y68 Y21 Y68 Y0 ?_)
   refine KO.nil ?_
   exact KQ.mid () trivial ⟨rfl,rfl,rfl,rfl,rfl,trivial⟩ (fun w' hs'=>by unfold putM;rw[if_pos h11];exact hs'.all Y30)
  ·refine Z189 ?_
   exact KQ.mid () trivial ⟨rfl,rfl,rfl,rfl,rfl,trivial⟩ (fun w' hs'=>by unfold putM;rw[if_neg h11];exact hs'.all Y30)
 ·rintro⟨⟩-
  try dsimp only
  have hqb:=(hB.a hj).ok (by omega)
  have hms:(putM H s pri body).queue.size≤maxLen:=Nat.le_trans (wordB_size (plR_word hB h0)).2 (by decide)
  have hmb:(putM H s pri body).body.size≤maxLen:=hb
  rcases hmm:putM H s pri body with⟨mi,mp,mb,mq,mh⟩
  rw[hmm]at hms hmb
  dsimp only at hms hmb
  refine Z117 ?_
  refine Z124 ?_
  refine Z1 ?_
  refine KO.cl (cp:=[]) rfl rfl rfl Tryz.call56 rfl (KC.famC (φ:=fun v=>v=errV 70 (qputE (H.aAt (plJ H s)) ⟨mi,mp,mb,mq,mh⟩)) hp2 (all_a hj) Y11 (fun L=>put_c w0 L p (H.aAt (plJ H s)) ⟨mi,mp,mb,mq,mh⟩ u hqb hmb hms)) ?_;rintro v' L' ⟨rfl,rfl⟩
  refine Z21 ?_
  rw[hmm]at he
  refine Z8 ?_
  refine Z126 ?_
  refine K.condD rfl (fun h14=>?_) (fun h14=>?_)
  ·have hsame:qput (H.aAt (plJ H s)) ⟨mi,mp,mb,mq,mh⟩ u=H.aAt (plJ H s):=by unfold qput;rw[if_neg h14]
   refine Z117 ?_
   refine Z7 ?_
   refine Z59 ?_
   refine KQ.ret2 rfl rfl rfl (fun w' hs'=>?_)
   rw[hsame,setQu_same (all_a hj)]at hs'
   exact⟨_,_,rfl,ends _ h14 he w' (hoP_mk V hV (hs'.all Y5)),hoP_mk V hV (hs'.all Y5)⟩
  ·have h140:qputE (H.aAt (plJ H s)) ⟨mi,mp,mb,mq,mh⟩=0:=by simpa using h14
   rw[h140]at he
   have hul:u.toNat<5:=by omega
   have hui:u=((u.toNat:Nat):Int):=by omega
   have hus:=hV.us
   have hun:=hV.units
   obtain⟨pv,hpv⟩:∃e,V.us[u.toNat]? =some e:=⟨_,List.getElem?_eq_getElem (by omega)⟩
   obtain⟨x,hxu⟩:∃e,H.units[u.toNat]? =some e:=⟨_,List.getElem?_eq_getElem (by omega)⟩
   have hxl:=hl x (List.mem_of_getElem? hxu)
   have hxA:H.uAt u.toNat=x:=by unfold Ho.uAt;rw[List.getD_eq_getElem?_getD,hxu];rfl
   have hV1:HoVL V {H with next:=H.next+1}:=⟨hV.ps,hV.us,hV.bs,hV.ways,hV.units,hV.batch,hV.sent,hV.arrived⟩
   obtain⟨c1,-,c3,-⟩:=hoC_unit (bd:=bd) hV1 hpv
   have hg1:(V.us.map (·.1))[u.toNat]? =some pv.1:=by rw[List.getElem?_map,hpv];rfl
   have hg2:(H.units.map (·.puts))[u.toNat]? =some x.puts:=by rw[List.getElem?_map,hxu];rfl
   have hid2:putI H u s pri body=mi:=by unfold putI;rw[if_pos he,hmm]
   refine Z6 ?_
   refine Z120 ?_
   refine Z174 ?_
   refine KO.ldAt (i:=5) rfl rfl Tryz.isAgg3 Y11 rfl rfl rfl ?_
   refine Z353 ?_
   refine Z174 ?_
   refine KO.stAt (i:=5) rfl rfl rfl Y68 Y45 rfl Y11 rfl Y34 ?_;rw[show(hoC bd V H).set 5 (.int .i64 (H.next+1))=hoC bd V {H with next:=H.next+1}from rfl]
   refine Z0 ?_
   refine K.conv (fun w hw=>fam_out hg1 hg2 (hw.pick (A:=fam putsS (V.us.map (·.1)) (H.units.map (·.puts))) Y11)) ?_
   refine K.draw [.pure,.pure,.pure,.pure,.pure,.pure,.pure,.pure,.read,.read,.pure,.pure,.keep,.write,.pure,.pure,.pure,.pure,.write] [0,1,2,3,4,5,6,7,8,9,10,11,14,15,12,13,16,17,18] Y62 Y62 ?_
   refine Z125 ?_
   refine Z26 ?_
   refine Z54 ?_
   refine Z288 ?_
   refine KO.ldAt (i:=12+2*u.toNat) rfl rfl Tryz.isAgg127 Y11 Y24 c1 rfl ?_
   refine Z113 ?_
   refine Z1 ?_
   refine KO.bldN (pl:=[(0,5),(5,1)]) rfl Tryz.zeroValue142 Tryz.runUnderlying142 (by intro w;simp[Tryz.sizeOf3,Tryz.sizeOf44]) Y68 rfl ?_
   refine Z49 ?_
   refine KO.fo0 (off:=12) rfl Tryz.runUnderlying133 rfl rfl Tryz.sizeOf131 rfl ?_
   refine KO.bs1 (z:=(Value.agg #[.int .i64 0,.int .i64 0,.string ⟨#[]⟩,.string ⟨#[]⟩,.int .i64 0,.int .i64 0])) (sz:=6) (by':=64) rfl rfl Tryz.underlying127 Y62 Y68 Y68 (by decide) (by decide) rfl ?_;intro b101
   refine KO.app (z:=Value.agg #[.int .i64 0,.int .i64 0,.string ⟨#[]⟩,.string ⟨#[]⟩,.int .i64 0,.int .i64 0]) (sz:=6) (by':=64) (xs:=x.puts) (cf:=putC) rfl rfl rfl (.tail .head) .head Tryz.underlying127 Y62 Y68 (⟨mi,mp,mb,mq,mh⟩,(plR H s).2.1) rfl rfl rfl (by omega) (by decide) rfl ?_;intro v13;refine KO.fact (fun _ hs=>SL_form hs) ?_;rintro⟨a13,k13,hv13,-⟩
   refine KO.idxA (i:=u.toNat) rfl rfl Tryz.runUnderlying131 Tryz.sizeOf130 hui (by omega) rfl ?_
   refine Z288 ?_
   refine KO.stAt (i:=12+2*u.toNat) rfl rfl rfl (by rw[hv13];rfl) (by exact Tryz.sizeOf127) (by rw[hv13];rfl) Y11 Y24 (by rw[hoC_len hV1];omega) ?_;rw[c3]
   refine Z248 ?_
   refine Z359 ?_
   refine Z192 ?_
   refine KQ.ret2 rfl rfl rfl (fun w' hs'=>⟨_,_,rfl,⟨by rw[he,hid2];rfl,rfl⟩,?_⟩)
   have e1:putH H u s pri body=putU {H.setA (plJ H s) (qput (H.aAt (plJ H s)) (putM H s pri body) u)with next:=H.next+1} u.toNat ⟨x.puts++[(putM H s pri body,(plR H s).2.1)],x.gets⟩:=by unfold putH;rw[if_pos he,hxA]
   rw[e1,hmm]
   have hs2:=fam_in (f:=putsS) (ps:=V.us.map (·.1)) (xs:=H.units.map (·.puts)) (i:=u.toNat) (p:=v13) (x:=x.puts++[(⟨mi,mp,mb,mq,mh⟩,(plR H s).2.1)]) (by simp[hus];omega) (by simp[hun];omega) (hs'.all (M:=putsS v13 (x.puts++[(⟨mi,mp,mb,mq,mh⟩,(plR H s).2.1)])::fam putsS ((V.us.map (·.1)).eraseIdx u.toNat) ((H.units.map (·.puts)).eraseIdx u.toNat)::blk bh (.cells (hoC bd {V with us:=V.us.set u.toNat (v13,pv.2)} {H with next:=H.next+1}).toArray 133 (0,0))::nmS V.nv H.names::omapK Value.string V.mb (mapE V H)::fam quP V.ps (H.all.set (plJ H s) (qput (H.aAt (plJ H s)) ⟨mi,mp,mb,mq,mh⟩ u))::fam getsS (V.us.map (·.2)) (H.units.map (·.gets))::fam batS V.bs H.batch::L) Y5)
   exact hoP_unit hV (plJ H s) _ u.toNat (H.next+1) _ (v13,pv.2) (hs2.all Y7) rfl (fam_same hpv rfl) rfl (fam_same hxu rfl)
end Go.Proofs.YtjhogocabcdjbabGreatDoor
/- house: Get -/
namespace Go.Proofs.YtjhogocabcdjbabGreatDoor
open Go Go.RowKit WB
set_option maxRecDepth 100000 in
set_option maxHeartbeats 2000000 in
theorem hget_c (w0:World) (L:List HP) (bh bd n:Nat) (H:Ho) (u:Int) (s:ByteArray) (hB:HoB n H) (hn:n<90000) (hl:∀x∈H.units,x.gets.length≤90000):
 KC Tryz.prog 15 #[ptrV bh,.int .i64 u,.string s] w0 (hoP bh bd H::L) (fun v M=>v=.tuple #[.agg (msC (getM H u s)).toArray,errV 70 (getE H u s)]∧M=hoP bh bd (getH H u s)::L):=by
 have hnl:=hB.nlen
 have hso:=hB.sorted
 have ends:∀k:Int,k≠0→getE H u s=k→(Value.tuple #[.agg (msC zeroMs).toArray,errV 70 k]=.tuple #[.agg (msC (getM H u s)).toArray,errV 70 (getE H u s)]∧hoP bh bd H::L=hoP bh bd (getH H u s)::L):=fun k hk he=>by
  have h0:¬getE H u s=0:=by rw[he];exact hk
  unfold getM getH
  rw[if_neg h0,if_neg h0,he]
  exact⟨rfl,rfl⟩
 refine KC.mk (n:=81) Tryz.func15 rfl Tryz.ntmps15 (by simp) ?_
 refine Z3 ?_
 refine KO.alloc rfl Tryz.zeroValue44 Y68 rfl ?_;intro b6
 refine Z21 ?_
 by_cases hu:u<0∨5≤u
 ·have he:getE H u s=2:=by unfold getE;rw[if_pos hu]
  by_cases hu0:u<0
  ·refine Z140 ?_
   refine Z151 ?_
   refine Z321 ?_
   refine Z354 ?_
   refine Z67 ?_
   refine Z59 ?_
   refine KQ.retCT rfl rfl Tryz.isAgg44 Y21 Y41 rfl (fun w' hs'=>⟨_,hoP bh bd H::L,rfl,?_,?_⟩)
   ·exact ends 2 (by decide) he
   ·exact hs'.all Y1
  ·refine Z286 ?_
   refine Z2 ?_
   refine K.condT rfl Y57 ?_
   refine Z354 ?_
   refine Z67 ?_
   refine Z59 ?_
   refine KQ.retCT rfl rfl Tryz.isAgg44 Y21 Y41 rfl (fun w' hs'=>⟨_,hoP bh bd H::L,rfl,?_,?_⟩)
   ·exact ends 2 (by decide) he
   ·exact hs'.all Y1
 refine Z286 ?_
 refine Z2 ?_
 refine K.condF rfl Y57 ?_
 refine Z6 ?_
 refine K.open' (fun _ h=>hoP_open (h.pick Y11)) ?_
 rintro⟨V,hV⟩
 dsimp only
 have hps:=hV.ps
 have hg:=mapE_get hV s
 cases hq:H.qI s with
 |none=>
  have he:getE H u s=7:=by unfold getE;rw[if_neg hu,hq]
  rw[hq]at hg
  refine Z326 ?_
  refine KO.lkmOk strKey s rfl rfl rfl Tryz.underlying123 Tryz.underlying9 Tryz.zeroValue119 Y11 rfl ?_;rw[hg]
  refine Z106 ?_
  refine Z70 ?_
  refine Z131 ?_
  refine Z155 ?_
  refine Z155 ?_
  refine Z330 ?_
  refine Z45 ?_
  refine Z2 ?_
  refine K.condT rfl (by simp) ?_
  refine Z354 ?_
  refine Z237 ?_
  refine Z59 ?_
  refine KQ.retCT rfl rfl Tryz.isAgg44 Y21 Y41 rfl (fun w' hs'=>⟨_,hoP bh bd H::L,rfl,?_,?_⟩)
  ·exact ends 7 (by decide) he
  ·exact hoP_mk V hV (hs'.all Y1)
 |some i=>
 have hil:=(qI_lt hq).1
 obtain⟨p,hp⟩:∃p,V.ps[4+i]? =some p:=⟨_,List.getElem?_eq_getElem (by omega)⟩
 rw[hq]at hg
 simp only[Option.bind_some,hp,Option.map_some]at hg
 have heq:getE H u s=if s≠deadS∧localB H.names s=false then 7 else if H.down=true then 6 else qgetE (H.qAt i):=by unfold getE;rw[if_neg hu,hq]
 refine Z326 ?_
 refine KO.lkmOk strKey s rfl rfl rfl Tryz.underlying123 Tryz.underlying9 Tryz.zeroValue119 Y11 rfl ?_;rw[hg]
 refine Z178 ?_
 refine K.cut (fun _:Unit=>[(0,ptrV bh),(1,.int .i64 u),(2,.string s),(6,.pointer (some ⟨b6,0,none⟩)),(8,ptrV p),(42,.bool (decide (s≠deadS∧localB H.names s=false)))]) (fun _=>blk b6 (.cells [Value.int .i64 0,.int .i64 0,.string ⟨#[]⟩,.string ⟨#[]⟩,.int .i64 0].toArray 44 (0,0))::hoX bh bd V H L) (fun _=>True) ?_ ?_
 ·by_cases hsd:s=deadS
  ·have hsd2:s=⟨#[100,101,97,100]⟩:=hsd
   have hsd3:(!decide (s=⟨#[100,101,97,100]⟩))=false:=by rw[hsd2];rfl
   clear hsd
   refine Z344 ?_
   refine Z316 ?_
   refine Z136 ?_
   refine Z136 ?_
   refine KO.no rfl rfl hsd3 rfl ?_
   refine KO.no rfl rfl Y63 rfl ?_
   refine Z57 ?_
   refine KO.pickF rfl ?_ rfl rfl ?_
   (focus assumption)
   refine Z27 ?_
   refine KO.nil ?_
   exact KQ.mid () trivial ⟨rfl,rfl,rfl,rfl,rfl,by simp[hsd2,deadS,envAt],trivial⟩ (fun w' hs'=>hs'.all Y3)
  ·have hsd2:¬s=⟨#[100,101,97,100]⟩:=hsd
   refine Z344 ?_
   refine Z316 ?_
   refine Z303 ?_
   refine Z1 ?_
   refine Z303 ?_
   refine Z49 ?_
   refine Z303 ?_
   refine Z98 ?_
   refine Z303 ?_
   refine Z1 ?_
   refine KO.on rfl rfl (by simp[hsd2]) ?_;refine KO.ce (cp:=[]) rfl rfl rfl Tryz.call57 rfl (local_e w0 _ _ _ bh 6 (hoC bd V H) 133 V.nv H.names s Y21 Y21 rfl (by omega) hso) ?_;rintro v' L' ⟨rfl,rfl⟩
   refine Z303 ?_
   refine Z70 ?_
   refine Z57 ?_
   refine KO.pickT rfl ?_ rfl rfl ?_
   (focus(simp_all;done))
   refine Z27 ?_
   refine KO.nil ?_
   exact KQ.mid () trivial ⟨rfl,rfl,rfl,rfl,rfl,by simp[hsd,envAt],trivial⟩ (fun w' hs'=>hs'.all Y3)
 rintro⟨⟩-
 try dsimp only
 refine K.condD rfl (fun h4=>?_) (fun h4=>?_)
 ·have he:getE H u s=7:=by rw[heq,if_pos h4]
  refine Z354 ?_
  refine Z67 ?_
  refine Z59 ?_
  refine KQ.retCT rfl rfl Tryz.isAgg44 Y21 Y41 rfl (fun w' hs'=>⟨_,hoP bh bd H::L,rfl,?_,?_⟩)
  ·exact ends 7 (by decide) he
  ·exact hoP_mk V hV (hs'.all Y1)
 rw[if_neg h4]at heq
 refine Z6 ?_
 cases hdn:H.down with
 |true=>
  have he:getE H u s=6:=by rw[heq,if_pos hdn]
  refine Z8 ?_
  refine Z40 ?_
  refine KO.ldAt (i:=3) rfl rfl Tryz.isAgg4 Y11 rfl rfl rfl ?_
  refine Z2 ?_
  refine K.condT rfl hdn ?_
  refine Z354 ?_
  refine Z67 ?_
  refine Z59 ?_
  refine KQ.retCT rfl rfl Tryz.isAgg44 Y21 Y41 rfl (fun w' hs'=>⟨_,hoP bh bd H::L,rfl,?_,?_⟩)
  ·exact ends 6 (by decide) he
  ·exact hoP_mk V hV (hs'.all Y1)
 |false=>
 have he:getE H u s=qgetE (H.qAt i):=by rw[heq,if_neg Y64]
 have hql:=(hB.qa hil).len
 refine Z8 ?_
 refine Z40 ?_
 refine KO.ldAt (i:=3) rfl rfl Tryz.isAgg4 Y11 rfl rfl rfl ?_
 refine Z2 ?_
 refine K.condF rfl hdn ?_
 refine Z6 ?_
 rcases hmm:qgetM (H.qAt i)with⟨mi,mp,mb,mq,mh⟩
 refine Z72 ?_
 refine KO.cl (cp:=[]) rfl rfl rfl Tryz.call58 rfl (KC.famC (φ:=fun v=>v=.tuple #[.agg (msC (qgetM (H.qAt i))).toArray,errV 70 (qgetE (H.qAt i))]) hp (all_q hV.ways hil) Y11 (fun L=>get_c w0 L p (H.qAt i) u (by omega))) ?_;rintro v' L' ⟨rfl,rfl⟩;rw[hmm]
 refine Z47 ?_
 refine KO.alloc rfl Tryz.zeroValue44 Y68 rfl ?_;intro b10
 refine Z67 ?_
 refine Z239 ?_
 refine K.condD rfl (fun h9=>?_) (fun h9=>?_)
 ·have hsame:qget (H.qAt i) u=H.qAt i:=by
   unfold qgetE at h9
   unfold qget
   split
   ·rfl
   ·rename_i k hk;rw[hk]at h9;exact absurd rfl h9
  refine Z3 ?_
  refine Z46 ?_
  refine Z1 ?_
  refine Z237 ?_
  refine Z59 ?_
  refine KQ.retCT rfl rfl Tryz.isAgg44 Y21 Y41 rfl (fun w' hs'=>?_)
  rw[hsame,setQu_same (all_q hV.ways hil)]at hs'
  exact⟨_,hoP bh bd H::L,rfl,ends _ h9 he,hoP_mk V hV (hs'.all Y5)⟩
 have h90:qgetE (H.qAt i)=0:=by simpa using h9
 rw[h90]at he
 have hul:u.toNat<5:=by omega
 have hui:u=((u.toNat:Nat):Int):=by omega
 have hus:=hV.us
 have hun:=hV.units
 obtain⟨pv,hpv⟩:∃e,V.us[u.toNat]? =some e:=⟨_,List.getElem?_eq_getElem (by omega)⟩
 obtain⟨x,hxu⟩:∃e,H.units[u.toNat]? =some e:=⟨_,List.getElem?_eq_getElem (by omega)⟩
 have hxl:=hl x (List.mem_of_getElem? hxu)
 have hxA:H.uAt u.toNat=x:=by unfold Ho.uAt;rw[List.getD_eq_getElem?_getD,hxu];rfl
 obtain⟨-,c2,-,c4⟩:=hoC_unit (bd:=bd) hV hpv
 have hg1:(V.us.map (·.2))[u.toNat]? =some pv.2:=by rw[List.getElem?_map,hpv];rfl
 have hg2:(H.units.map (·.gets))[u.toNat]? =some x.gets:=by rw[List.getElem?_map,hxu];rfl
 have hm2:getM H u s=⟨mi,mp,mb,mq,mh⟩:=by unfold getM;rw[if_pos he,hq];exact hmm
 refine Z6 ?_
 refine K.conv (fun w hw=>fam_out hg1 hg2 (hw.pick (A:=fam getsS (V.us.map (·.2)) (H.units.map (·.gets))) Y11)) ?_
 refine K.draw [.pure,.pure,.pure,.pure,.pure,.pure,.pure,.pure,.read,.pure,.read,.pure,.pure,.keep,.write,.pure,.pure,.pure,.pure,.write] [0,1,2,3,4,5,6,7,8,9,10,11,12,15,16,13,14,17,18,19] Y62 Y62 ?_
 refine Z125 ?_
 refine Z26 ?_
 refine Z54 ?_
 refine Z289 ?_
 refine KO.ldAt (i:=13+2*u.toNat) rfl rfl Tryz.isAgg128 Y11 Y24 c2 rfl ?_
 refine Z359 ?_
 refine Z1 ?_
 refine KO.bldN (pl:=[(0,1),(1,1)]) rfl Tryz.zeroValue146 Tryz.runUnderlying146 Y20 Y68 rfl ?_
 refine Z49 ?_
 refine KO.fo0 (off:=12) rfl Tryz.runUnderlying133 rfl rfl Tryz.sizeOf131 rfl ?_
 refine KO.bs1 (z:=(Value.agg #[.int .i64 0,.string ⟨#[]⟩])) (sz:=2) (by':=24) rfl rfl Tryz.underlying128 Y62 Y68 Y68 (by decide) (by decide) rfl ?_;intro b74
 refine KO.app (z:=Value.agg #[.int .i64 0,.string ⟨#[]⟩]) (sz:=2) (by':=24) (xs:=x.gets) (cf:=gotC) rfl rfl rfl (.tail .head) .head Tryz.underlying128 Y62 Y68 (mi,s) rfl rfl rfl (by omega) (by decide) rfl ?_;intro v14;refine KO.fact (fun _ hs=>SL_form hs) ?_;rintro⟨a13,k13,hv13,-⟩
 refine KO.idxA (i:=u.toNat) rfl rfl Tryz.runUnderlying131 Tryz.sizeOf130 hui (by omega) rfl ?_
 refine Z289 ?_
 refine KO.stAt (b:=bh) (i:=13+2*u.toNat) rfl rfl rfl (by rw[hv13];rfl) (by exact Tryz.sizeOf128) (by rw[hv13];rfl) Y11 Y24 Y34 ?_;rw[c4]
 refine Z248 ?_
 refine Z113 ?_
 refine Z237 ?_
 refine Z33 ?_
 refine KQ.retCT rfl rfl Tryz.isAgg44 Y21 Y41 rfl (fun w' hs'=>⟨_,_,rfl,⟨by rw[he,hm2];rfl,rfl⟩,?_⟩)
 have e1:getH H u s=putU {H.setA (4+i) (qget (H.qAt i) u)with next:=H.next} u.toNat ⟨x.puts,x.gets++[(mi,s)]⟩:=by
  unfold getH
  rw[if_pos he,hxA,hq]
  simp only[Option.getD_some]
  rw[hmm]
  unfold Ho.setA
  rw[if_neg (by omega),show 4+i-4=i by omega]
  rfl
 rw[e1]
 have hs2:=fam_in (f:=getsS) (ps:=V.us.map (·.2)) (xs:=H.units.map (·.gets)) (i:=u.toNat) (p:=v14) (x:=x.gets++[(mi,s)]) (by simp[hus];omega) (by simp[hun];omega) (hs'.all (M:=getsS v14 (x.gets++[(mi,s)])::fam getsS ((V.us.map (·.2)).eraseIdx u.toNat) ((H.units.map (·.gets)).eraseIdx u.toNat)::blk bh (.cells (hoC bd {V with us:=V.us.set u.toNat (pv.1,v14)} H).toArray 133 (0,0))::nmS V.nv H.names::omapK Value.string V.mb (mapE V H)::fam quP V.ps (H.all.set (4+i) (qget (H.qAt i) u))::fam putsS (V.us.map (·.1)) (H.units.map (·.puts))::fam batS V.bs H.batch::L) Y5)
 exact hoP_unit hV (4+i) _ u.toNat H.next _ (pv.1,v14) (hs2.all Y7) (fam_same hpv rfl) rfl (fam_same hxu rfl) rfl
end Go.Proofs.YtjhogocabcdjbabGreatDoor
/- the house: units that are over, or taken back -/
namespace WB
open Go Go.RowKit
theorem KO.cutArr {P:Program} {ops:Array Oper} {d:Bool} {Q:Exit→Act→World→Prop} {n:Nat} {D:List Deferred} {w0:World} {G:Env} {L:List HP} {l:List (Kd×Oper)} {k:Kd}
 {t:Nat} {ty T:TypeId} {pos:String} {af:Array Edge} {x:Operand} {ad:Addr} {len sz:Nat}
  (hx:ev G x=some (.pointer (some ad))) (hT:P.underlying T=some (.array (P.arrayLen T) (P.elem T))) (hl:P.arrayLen T=len+1) (hs:∀w,(Go.sizeOf (P.elem T)).run P w=.ok sz w) (ht:Nat.blt t n=true)
  (h:KO P ops d Q n D w0 ((t,.slice (some (ad.add 0)) (len+1) (len+1))::G) L l):KO P ops d Q n D w0 G L ((k,⟨some t,.slice T x none none none,ty,pos,af,none⟩)::l):=
 KO.val (fun a w ha=>by
  have :=run_sliceAt_array_all (P:=P) w T ad hT
  rw[hs w]at this
  simp[execOp,ha.eval hx,this,slicedAt,hl]) ht h
theorem KO.stoAt {P:Program} {ops:Array Oper} {d:Bool} {Q:Exit→Act→World→Prop} {n:Nat} {D:List Deferred} {w0:World} {G:Env} {L R:List HP} {l:List (Kd×Oper)} {k:Kd}
 {ty T E:TypeId} {pos:String} {af:Array Edge} {x y:Operand} {v:Value} {off b:Nat} {ad:Addr} {cs cs' us:List Value} (hk:(!d||k== .write)=true) (hx:ev G x=some (.pointer (some ad))) (ha:ad=⟨b,off,none⟩) (hy:ev G y=some v) (hv:v.cells=us.toArray) (hn:∀w,(Go.sizeOf T).run P w=.ok us.length w) (h1:us.all Value.oneCell'=true)
  (hp:Pick L (blk b (.cells cs.toArray E (0,0))) R) (hfit:off+us.length≤cs.length) (hc:putL off us cs=cs') (h:KO P ops d Q n D w0 G (blk b (.cells cs'.toArray E (0,0))::R) l):
  KO P ops d Q n D w0 G L ((k,⟨none,.store T x y,ty,pos,af,none⟩)::l):=by
 subst ha
 exact KO.sto hk hx hy hv hn h1 hp (by simpa[Nat.ble_eq]using hfit) hc h
def hEnds (H:Ho) (u:Int):Ho:={H with ways:=H.ways.map (fun q=>qends q u true),queues:=H.queues.map (fun x=>(x.1,qends x.2 u true))}
theorem hEnds_all (H:Ho) (u:Int):(hEnds H u).all=H.all.map fun q=>qends q u true:=by
 unfold hEnds Ho.all;simp
def endsL (u:Int) (l:List Qu) (js:List Nat):List Qu:=js.foldl (fun l j=>l.set j (qends (l.getD j default) u true)) l
theorem endsL_len (u:Int):∀(js:List Nat) (l:List Qu),(endsL u l js).length=l.length
 |[],_=>rfl
 |j::js,l=>by
  have :=endsL_len u js (l.set j (qends (l.getD j default) u true))
  rw[List.length_set]at this
  exact this
theorem endsL_get (u:Int):∀(js:List Nat) (l:List Qu) (i:Nat),js.Nodup→(endsL u l js)[i]? =if i∈js then(l[i]?).map (fun q=>qends q u true)else l[i]?
 |[],l,i,_=>by simp[endsL]
 |j::js,l,i,h=>by
  rw[List.nodup_cons]at h
  have ih:=endsL_get u js (l.set j (qends (l.getD j default) u true)) i h.2
  rw[show endsL u l (j::js)=endsL u (l.set j (qends (l.getD j default) u true)) js from rfl,ih]
  by_cases e:j=i
  ·subst e
   rw[if_neg h.1,if_pos (by simp),List.getElem?_set,if_pos rfl]
   split
   ·rename_i hj
    rw[List.getD_eq_getElem?_getD,List.getElem?_eq_getElem hj];rfl
   ·rename_i hj
    rw[List.getElem?_eq_none (by omega)];rfl
  ·rw[List.getElem?_set,if_neg e]
   simp only[List.mem_cons,Ne.symm e,false_or]
theorem endsL_map (u:Int) {js:List Nat} {l:List Qu} (h:js.Perm (List.range l.length)):endsL u l js=l.map fun q=>qends q u true:=by
 apply List.ext_getElem?
 intro i
 rw[endsL_get u js l i (h.nodup_iff.2 List.nodup_range),List.getElem?_map]
 split
 ·rfl
 ·rename_i hi
  rw[h.mem_iff,List.mem_range]at hi
  rw[List.getElem?_eq_none (by omega)];rfl
theorem endsL_QB {n:Nat} (u:Int):∀(js:List Nat) (l:List Qu),(∀q∈l,QB n q)→∀q∈endsL u l js,QB n q
 |[],_,h,q,hq=>h q hq
 |j::js,l,h,q,hq=>endsL_QB u js (l.set j (qends (l.getD j default) u true)) (fun q hq=>by
  rcases List.mem_or_eq_of_mem_set hq with h1|rfl
  ·exact h q h1
  ·rcases Nat.lt_or_ge j l.length with hj|hj
   ·rw[List.getD_eq_getElem?_getD,List.getElem?_eq_getElem hj]
    exact(h _ (List.getElem_mem hj)).ends u true
   ·rw[List.set_eq_of_length_le hj]at hq
    exact h _ hq) q hq
theorem endsL_succ {u:Int} {l:List Qu} {js:List Nat} {k j:Nat} (hj:js[k]? =some j):endsL u l (js.take (k+1))=(endsL u l (js.take k)).set j (qends ((endsL u l (js.take k)).getD j default) u true):=by
 rw[take_succ_some hj]
 unfold endsL
 rw[List.foldl_append];rfl
theorem HoB.hEnds {n:Nat} {H:Ho} (h:HoB n H) (u:Int):HoB n (hEnds H u):=by
 have hf:(WB.hEnds H u).queues.map (·.1)=H.queues.map (·.1):=by unfold WB.hEnds;simp
 have hq:∀s,(WB.hEnds H u).qI s=H.qI s:=fun s=>by rw[qI_fst,qI_fst,hf]
 refine⟨h.id,h.used,h.next,h.sorted,h.nlen,by unfold WB.hEnds;simpa using h.qlen,fun q hq=>?_,by rw[hf];exact h.nodup,by unfold WB.hEnds;simpa using h.ways,h.units,h.batch,h.sent,h.arrived,h.right,fun x hx ht=>by(rw[hq];exact h.loc x hx ht),h.ext⟩
 rw[hEnds_all]at hq
 obtain⟨q0,h0,rfl⟩:=List.mem_map.1 hq
 exact(h.qs q0 h0).ends u true
def noUnit:Unt:=⟨[],[]⟩
def bkE (H:Ho) (u:Int):Int:=if u<0∨5≤u then 2 else if(H.uAt u.toNat).puts.length+(H.uAt u.toNat).gets.length=0 then 8 else if H.down=true then 6 else 0
def bkH (H:Ho) (u:Int):Ho:=if bkE H u=0 then putU (hEnds H u) u.toNat noUnit else H
theorem HoB.bk {n:Nat} {H:Ho} (h:HoB n H) (u:Int):HoB n (bkH H u):=by
 unfold bkH;split
 ·exact(h.hEnds u).putU _ _
 ·exact h
def gotT (g:Int×ByteArray):ByteArray:=itoaS g.1++sp++g.2
def recB (x:Unt):ByteArray:=writeS (x.puts.map (·.1))++chr1 47++joinS (x.gets.map gotT) plus
def recU (x:Unt):ByteArray:=⟨#[117,58]⟩++writeS (x.puts.map (·.1))++chr1 47++joinS (x.gets.map gotT) plus
def cmPE (H:Ho) (u:Int):Int:=if u<0∨5≤u then 2 else if(H.uAt u.toNat).puts.length+(H.uAt u.toNat).gets.length=0 then 8 else 0
def cmE (H:Ho) (D:Dk) (u:Int):Int:=if cmPE H u≠0 then cmPE H u else logE H D
def cmH (H:Ho) (D:Dk) (u:Int):Ho:=if cmPE H u≠0 then H else if logE H D≠0 then logH H D else(hends (putU (hEnds (logH H D) u) u.toNat noUnit) (recB (H.uAt u.toNat))).1
def cmD (H:Ho) (D:Dk) (u:Int):Dk:=if cmPE H u≠0 then D else logD H D (recU (H.uAt u.toNat))
structure UntOk (x:Unt):Prop where
 puts:∀p∈x.puts,msRight p.1=true
 gets:∀g∈x.gets,0≤g.1∧g.1≤1099511627776∧wordB g.2=true
 many:x.puts.length+x.gets.length≤700
section
variable {x:Unt}
theorem UntOk.bad (h:UntOk x):badI (x.puts.map (·.1))=none:=badI_none fun j m hm=>by
 obtain⟨p,hp,rfl⟩:=List.mem_map.1 (List.mem_of_getElem? hm)
 exact h.puts p hp
theorem gotT_size {g:Int×ByteArray} (h:0≤g.1∧g.1≤1099511627776∧wordB g.2=true):(gotT g).size≤30:=by
 have h1:=itoaS_size (n:=g.1) ⟨by omega,by omega⟩
 have h2:=(wordB_size h.2.2).2
 have h3:sp.size=1:=rfl
 unfold gotT;simp only[ByteArray.size_append];omega
theorem UntOk.gsize (h:UntOk x):(joinS (x.gets.map gotT) plus).size≤700*31:=by
 have :=joinS_size plus 30 (x.gets.map gotT) (fun y hy=>by
  obtain⟨g,hg,rfl⟩:=List.mem_map.1 hy
  exact gotT_size (h.gets g hg))
 have h2:=h.many
 have h3:plus.size=1:=rfl
 rw[h3,List.length_map]at this
 omega
theorem UntOk.psize (h:UntOk x):(writeS (x.puts.map (·.1))).size≤700*101:=by
 have :=writeS_size (l:=x.puts.map (·.1)) (fun m hm=>by
  obtain⟨p,hp,rfl⟩:=List.mem_map.1 hm
  exact h.puts p hp)
 have h2:=h.many
 rw[List.length_map]at this
 omega
theorem UntOk.size (h:UntOk x):(recB x).size≤72000:=by
 have h2:=h.many
 have h1:(chr1 47).size=1:=rfl
 have h3:plus.size=1:=rfl
 have a:=joinS_size plus 30 (x.gets.map gotT) (fun y hy=>by
  obtain⟨g,hg,rfl⟩:=List.mem_map.1 hy
  exact gotT_size (h.gets g hg))
 have b:=writeS_size (l:=x.puts.map (·.1)) (fun m hm=>by
  obtain⟨p,hp,rfl⟩:=List.mem_map.1 hm
  exact h.puts p hp)
 rw[h3,List.length_map]at a
 rw[List.length_map]at b
 unfold recB;simp only[ByteArray.size_append];omega
theorem noB_write {c:UInt8} (h1:c.toNat≠45∧(c.toNat<48∨57<c.toNat)) (h2:isLet c=false) (h3:c≠32∧c≠43) {l:List Ms} (h:∀m∈l,msRight m=true):noB c (writeS l):=fun b hb=>by
 unfold writeS at hb
 rcases mem_joinS hb with hb|⟨y,hy,hb⟩
 ·simp[plus]at hb;subst hb;exact fun e=>h3.2 e.symm
 ·obtain⟨m,hm,rfl⟩:=List.mem_map.1 hy
  obtain⟨-,-,-,-,m5,m6,-,-⟩:=msRight_parts (h m hm)
  rw[msgS_join]at hb
  have hlet:∀s:ByteArray,allLet s=true→b∈s.data.toList→b≠c:=fun s hs hb e=>by
   subst e
   unfold allLet at hs
   rw[List.all_eq_true]at hs
   rw[hs b hb]at h2;cases h2
  rcases mem_joinS hb with hb|⟨z,hz,hb⟩
  ·simp[sp]at hb;subst hb;exact fun e=>h3.1 e.symm
  ·simp only[List.mem_cons,List.not_mem_nil,or_false]at hz
   rcases hz with rfl|rfl|rfl|rfl|rfl
   ·exact itoa_noB _ h1 b hb
   ·exact itoa_noB _ h1 b hb
   ·exact hlet _ (body_let m5) hb
   ·exact hlet _ (word_let m6) hb
   ·exact itoa_noB _ h1 b hb
theorem UntOk.cut (h:UntOk x):cutB 47 (recB x)=(writeS (x.puts.map (·.1)),joinS (x.gets.map gotT) plus,true):=by
 unfold recB
 exact cutB_hit (noB_write (by decide) (by decide) (by decide) fun m hm=>by
  obtain⟨p,hp,rfl⟩:=List.mem_map.1 hm
  exact h.puts p hp) _
theorem UntOk.read (h:UntOk x):mrd (cutB 47 (recB x)).1=some (x.puts.map (·.1)):=by
 rw[h.cut];exact mrd_write h.bad
theorem recU_eq (x:Unt):recU x=chr1 117++chr1 58++recB x:=by
 unfold recU recB
 rw[show(⟨#[117,58]⟩:ByteArray)=chr1 117++chr1 58 by decide]
 simp only[ByteArray.append_assoc]
theorem cutB_recU (x:Unt):cutB 58 (recU x)=(chr1 117,recB x,true):=by rw[recU_eq];exact cutB_hit (noB_chr (by decide)) _
theorem UntOk.recO (h:UntOk x):RecOk 700 (recU x):=by
 have h1:=h.size
 refine⟨?_,fun _ l hl=>?_,fun hk=>?_⟩
 ·have e1:(chr1 117).size=1:=rfl
  have e2:(chr1 58).size=1:=rfl
  rw[recU_eq];simp only[ByteArray.size_append];omega
 ·rw[cutB_recU,h.read]at hl
  simp only[Option.some.injEq]at hl
  subst hl
  have :=h.many
  simp;omega
 ·rw[cutB_recU]at hk
  exact absurd (show chr1 117=chr1 114 from hk) (by decide)
end
theorem logH_units (H:Ho) (D:Dk):(logH H D).units=H.units:=by
 unfold logH
 split
 ·rfl
 ·split<;>rfl
theorem HoB.cm {n:Nat} {H:Ho} {D:Dk} (h:HoB n H) (u:Int) (hu:∀x∈H.units,UntOk x):HoB (n+(H.uAt u.toNat).puts.length) (cmH H D u):=by
 unfold cmH
 split
 ·exact h.le (by omega)
 ·rename_i h1
  split
  ·exact(h.log (D:=D)).le (by omega)
  ·have hul:u.toNat<5:=by
    unfold cmPE at h1
    rcases Decidable.em (u<0∨5≤u)with h2|h2
    ·rw[if_pos h2]at h1;exact absurd (by decide) h1
    ·omega
   have hx:UntOk (H.uAt u.toNat):=by
    apply hu
    unfold Ho.uAt
    rw[List.getD_eq_getElem?_getD,List.getElem?_eq_getElem (by rw[h.units];exact hul)]
    exact List.getElem_mem _
   refine(((h.log (D:=D)).hEnds u).putU _ _).ends (fun l hl=>?_) (fun l hl=>?_) (by omega)
   ·rw[hx.read]at hl
    simp only[Option.some.injEq]at hl
    subst hl
    exact badI_all hx.bad
   ·rw[hx.read]at hl
    simp only[Option.some.injEq]at hl
    subst hl
    simp
end WB
/- house: all, Backout -/
namespace Go.Proofs.YtjhogocabcdjbabGreatDoor
open Go Go.RowKit WB
def ptrC (p:Nat):List Value:=[ptrV p]
def ptrsS (v:Value) (l:List Nat):HP:=SL 119 1 ptrC v l
theorem four_take {l:List Nat} (h:4≤l.length):l.take 4=[0,1,2,3].map fun j=>l.getD j 0:=by
 match l,h with
 |a::b::c::d::l,_=>rfl
theorem hoC_src {w0 w:World} {L R:List HP} {bh bd:Nat} {V:HoV} {H:Ho} (hV:HoVL V H) (hp:Pick L (blk bh (.cells (hoC bd V H).toArray 133 (0,0))) R) (hw:St w0 L w):Src w ptrC (.slice (some ((⟨bh,8,none⟩:Addr).add 0)) 4 4) (V.ps.take 4):=by
 have hps:=hV.ps
 have h4:(V.ps.take 4).length=4:=by simp[hps]
 refine⟨_,4,by rw[h4],(fun h=>by cases h),fun ad had=>?_⟩
 cases had
 intro j c hj
 have hfl:(V.ps.take 4).flatMap ptrC=(V.ps.take 4).map ptrV:=by
  generalize V.ps.take 4=l
  induction l with
  |nil=>rfl
  |cons a l ih=>rw[List.flatMap_cons,ih];rfl
 rw[hfl,List.getElem?_map]at hj
 cases hp2:(V.ps.take 4)[j]? with
 |none=>rw[hp2]at hj;cases hj
 |some p=>
  rw[hp2]at hj
  simp only[Option.map_some,Option.some.injEq]at hj
  subst hj
  have hj4:j<4:=by have :=(List.getElem?_eq_some_iff.1 hp2).1;omega
  rw[List.getElem?_take,if_pos hj4]at hp2
  have :=hoC_way (bd:=bd) hV hj4 hp2
  rw[Addr.add_lit,Addr.add_lit,World.cell?,(hw.lookP hp).2]
  simpa using this
theorem mapE_at {V:HoV} {H:Ho} (hV:HoVL V H) {r:Nat} (hr:r<H.queues.length):∃s,(mapE V H).getD r default=(s,ptrV (V.ps.getD (4+r) 0)):=by
 have hps:=hV.ps
 obtain⟨x,hx⟩:∃e,H.queues[r]? =some e:=⟨_,List.getElem?_eq_getElem hr⟩
 obtain⟨p,hp⟩:∃e,V.ps[4+r]? =some e:=⟨_,List.getElem?_eq_getElem (by omega)⟩
 refine⟨x.1,?_⟩
 unfold mapE mEnt
 rw[List.getD_eq_getElem?_getD,List.getElem?_zipWith,hx,List.getElem?_drop,hp,List.getD_eq_getElem?_getD,hp]
 rfl
theorem map_erase {α β:Type} (f:α→β):∀(l:List α) (i:Nat),(l.map f).eraseIdx i=(l.eraseIdx i).map f
 |[],_=>rfl
 |a::l,0=>rfl
 |a::l,i+1=>by simp[map_erase f l i]
theorem perm_erase {α:Type}:∀{l:List α} {i:Nat} (h:i<l.length),(l[i]::l.eraseIdx i).Perm l
 |a::l,0,_=>.refl _
 |a::l,i+1,h=>(List.Perm.swap _ _ _).trans ((perm_erase (l:=l) (i:=i) Y56).cons a)
set_option maxRecDepth 100000 in
theorem all_c (w0:World) (L:List HP) (bh bd:Nat) (V:HoV) (H:Ho) (hV:HoVL V H) (hn:H.queues.length≤100000):
 KC Tryz.prog 63 #[ptrV bh] w0 (hoX bh bd V H L) (fun u M=> ∃js:List Nat,js.Perm (List.range V.ps.length)∧M=ptrsS u (js.map fun j=>V.ps.getD j 0)::hoX bh bd V H L):=by
 have hps:=hV.ps
 have hsE:∀w,(Go.sizeOf (Tryz.prog.elem 126)).run Tryz.prog w=.ok 1 w:=by
  have e:Tryz.prog.elem 126=119:=by kernel_rfl
  rw[e];exact Tryz.sizeOf119
 refine KC.mk (n:=25) Tryz.func63 rfl Tryz.ntmps63 (by simp) ?_
 refine Z3 ?_
 refine Z135 ?_
 refine Z232 ?_
 refine Z29 ?_
 refine KO.rng rfl rfl Tryz.underlying123 Y11 rfl ?_;intro r10
 refine Z15 ?_
 refine K.loop (fun p:List Nat×List Nat×Value×Option (ByteArray×Value)=>[(0,ptrV bh),(3,p.2.2.1),(10,.pointer (some ⟨r10,0,none⟩))])
  (fun p=>ptrsS p.2.2.1 (p.2.1.map fun r=>V.ps.getD (4+r) 0)::itK Value.string V.mb r10 (mapE V H) (p.1.map fun r=>(mapE V H).getD r default) p.2.2.2::blk bh (.cells (hoC bd V H).toArray 133 (0,0))::nmS V.nv H.names::fam quP V.ps H.all::fam putsS (V.us.map (·.1)) (H.units.map (·.puts))::fam getsS (V.us.map (·.2)) (H.units.map (·.gets))::fam batS V.bs H.batch::L)
  (fun p=>(p.2.1++p.1).Perm (List.range H.queues.length)) (fun p=>p.1.length) (List.range H.queues.length,[],.slice none 0 0,none)
  (by simp) ⟨rfl,rfl,rfl,trivial⟩ (fun _ h=>?_) ?_
 ·have h1:=SL_nil (E:=119) (sz:=1) (cf:=ptrC) h
  have e1:(List.range H.queues.length).map (fun r=>(mapE V H).getD r default)=mapE V H:=by
   have hl:(mapE V H).length=H.queues.length:=by unfold mapE mEnt;rw[List.length_zipWith,List.length_drop];omega
   rw[←hl]
   apply List.ext_getElem
   ·simp
   ·intro i h1 h2;simp[List.getD_eq_getElem?_getD,List.getElem?_eq_getElem h2]
  dsimp only
  rw[e1]
  exact h1.all Y30
 rintro⟨rest,done,v,cur⟩ hperm
 dsimp only at hperm ⊢
 refine Z3 ?_
 refine KO.nxt rfl rfl Y11 rfl (fun h0=>?_) (fun i e he=>?_)
 refine Z187 ?_
 refine Z0 ?_
 have hrest:rest=[]:=by simpa using h0
 subst hrest
 rw[List.append_nil]at hperm
 have hdl:done.length≤100000:=by have :=hperm.length_eq;simp at this;omega
 refine Z295 ?_
 refine Z9 ?_
 refine Z171 ?_
 refine Z211 ?_
 refine KO.cutArr (len:=3) (sz:=1) rfl Y62 Y62 hsE rfl ?_
 refine KO.appS (cf:=ptrC) (z:=Value.pointer none) (sz:=1) (by':=8) (xs:=done.map fun r=>V.ps.getD (4+r) 0) (ys:=V.ps.take 4) rfl rfl rfl (.tail .head) (fun w hw=>hoC_src hV Y11 hw) Tryz.underlying152 Y62 rfl (fun _=>rfl) (fun _=>rfl) Y61 (by decide) rfl ?_;intro v24
 refine Z33 ?_
 refine KQ.ret1 rfl rfl (fun w' hs'=>⟨_,_,rfl,⟨done.map (4+ ·)++[0,1,2,3],?_,rfl⟩,?_⟩)
 ·rw[hps,List.range_add]
  exact List.perm_append_comm.trans ((List.Perm.refl _).append (hperm.map _))
 ·rw[List.map_append,←four_take (by omega),List.map_map]
  exact hs'.all Y7
 obtain⟨r,hr,rfl⟩:∃r,rest[i]? =some r∧(mapE V H).getD r default=e:=by
  rw[List.getElem?_map]at he
  cases hr:rest[i]? with
  |none=>rw[hr]at he;cases he
  |some r=>rw[hr]at he;exact⟨r,rfl,by simpa using he⟩
 have hrl:r<H.queues.length:=by
  have :r∈List.range H.queues.length:=hperm.mem_iff.1 (List.mem_append_right _ (List.mem_of_getElem? hr))
  simpa using this
 obtain⟨s,hs0⟩:=mapE_at hV hrl
 rw[hs0]
 have hdl:done.length≤100000:=by have :=hperm.length_eq;simp at this;omega
 refine Z187 ?_
 refine Z0 ?_
 refine Z275 ?_
 refine Z145 ?_
 refine KO.ent rfl rfl Y21 rfl ?_
 refine Z187 ?_
 refine Z83 ?_
 refine Z72 ?_
 refine KO.bs1 (z:=(Value.pointer none)) (sz:=1) (by':=8) rfl rfl Tryz.underlying152 Y62 Y68 Y68 (by decide) (by decide) rfl ?_;intro b17
 refine KO.app (cf:=ptrC) (z:=Value.pointer none) (sz:=1) (by':=8) (xs:=done.map fun r=>V.ps.getD (4+r) 0) rfl rfl rfl (.tail (.tail .head)) .head Tryz.underlying152 Y62 Y68 (V.ps.getD (4+r) 0) rfl rfl rfl Y61 (by decide) rfl ?_;intro v18
 refine Z7 ?_
 refine Z44 ?_
 refine KQ.round (rest.eraseIdx i,done++[r],v18,some (s,ptrV (V.ps.getD (4+r) 0))) ?_ ?_ ⟨rfl,rfl,rfl,trivial⟩ (fun _ h=>?_)
 ·dsimp only
  refine List.Perm.trans ?_ hperm
  rw[List.append_assoc]
  refine(List.Perm.refl done).append ?_
  obtain⟨hi,rfl⟩:=List.getElem?_eq_some_iff.1 hr
  exact perm_erase hi
 ·dsimp only
  have hi:=(List.getElem?_eq_some_iff.1 hr).1
  rw[List.length_eraseIdx,if_pos hi];omega
 ·dsimp only
  rw[List.map_append,←map_erase]
  exact h.all Y30
theorem putL_two:∀(i:Nat) (a c:Value) (cs:List Value),i+2≤cs.length→putL i [a,c] cs=(cs.set i a).set (i+1) c
 |0,a,c,x::y::cs,_=>rfl
 |0,a,c,[x],h=>by simp at h
 |0,a,c,[],h=>by simp at h
 |i+1,a,c,x::cs,h=>by
  simp only[List.length_cons]at h
  rw[putL,putL_two i a c cs (by omega)];rfl
 |i+1,a,c,[],h=>by simp at h
theorem hoC_wipe {bd:Nat} {V:HoV} {H:Ho} (hV:HoVL V H) {u:Nat} (hu:u<5):putL (12+2*u) [.slice none 0 0,.slice none 0 0] (hoC bd V H)=hoC bd {V with us:=V.us.set u (.slice none 0 0,.slice none 0 0)} H:=by
 have hus:=hV.us
 obtain⟨p,hp⟩:∃e,V.us[u]? =some e:=⟨_,List.getElem?_eq_getElem (by omega)⟩
 rw[putL_two _ _ _ _ Y34,(hoC_unit (bd:=bd) hV hp).2.2.1]
 have hV2:HoVL {V with us:=V.us.set u (.slice none 0 0,p.2)} H:=⟨hV.ps,by simp[hV.us],hV.bs,hV.ways,hV.units,hV.batch,hV.sent,hV.arrived⟩
 have hp2:(V.us.set u (.slice none 0 0,p.2))[u]? =some (.slice none 0 0,p.2):=by rw[List.getElem?_set_self (by omega)]
 rw[show 12+2*u+1=13+2*u by omega]
 have :=(hoC_unit (bd:=bd) hV2 hp2).2.2.2 (.slice none 0 0)
 rw[this]
 simp only[List.set_set]
theorem unit_wipe {w0 w:World} {L:List HP} {V:HoV} {H:Ho} (hV:HoVL V H) {u:Nat} (hu:u<5) (h:St w0 (fam putsS (V.us.map (·.1)) (H.units.map (·.puts))::fam getsS (V.us.map (·.2)) (H.units.map (·.gets))::L) w):
 St w0 (fam putsS ((V.us.set u (.slice none 0 0,.slice none 0 0)).map (·.1)) ((H.units.set u noUnit).map (·.puts))::fam getsS ((V.us.set u (.slice none 0 0,.slice none 0 0)).map (·.2)) ((H.units.set u noUnit).map (·.gets))::L) w:=by
 have hus:=hV.us
 have hun:=hV.units
 obtain⟨p,hp⟩:∃e,V.us[u]? =some e:=⟨_,List.getElem?_eq_getElem (by omega)⟩
 obtain⟨x,hx⟩:∃e,H.units[u]? =some e:=⟨_,List.getElem?_eq_getElem (by omega)⟩
 rw[List.map_set,List.map_set,List.map_set,List.map_set]
 have h1:=fam_out (i:=u) (p:=p.1) (x:=x.puts) (by rw[List.getElem?_map,hp];rfl) (by rw[List.getElem?_map,hx];rfl) h
 have h2:=fam_in (f:=putsS) (i:=u) (p:=.slice none 0 0) (x:=[]) Y61 Y61 (SL_nil (E:=142) (sz:=6) (cf:=putC) h1.drop)
 have h3:=fam_out (i:=u) (p:=p.2) (x:=x.gets) (by rw[List.getElem?_map,hp];rfl) (by rw[List.getElem?_map,hx];rfl) (h2.all (M:=fam getsS (V.us.map (·.2)) (H.units.map (·.gets))::fam putsS ((V.us.map (·.1)).set u (.slice none 0 0)) ((H.units.map (·.puts)).set u [])::L) Y3)
 have h4:=fam_in (f:=getsS) (i:=u) (p:=.slice none 0 0) (x:=[]) Y61 Y61 (SL_nil (E:=146) (sz:=2) (cf:=gotC) h3.drop)
 exact h4.all Y7
theorem hoP_wiped {w0 w:World} {bh bd:Nat} {H:Ho} {L:List HP} {V:HoV} (hV:HoVL V H) (a:Int) {u:Nat} (hu:u<5)
 (h:St w0 (blk bh (.cells (hoC bd {V with us:=V.us.set u (.slice none 0 0,.slice none 0 0)} H).toArray 133 (0,0))::nmS V.nv H.names::omapK Value.string V.mb (mapE V H)::fam quP V.ps (H.all.map fun q=>qends q a true)::fam putsS (V.us.map (·.1)) (H.units.map (·.puts))::fam getsS (V.us.map (·.2)) (H.units.map (·.gets))::fam batS V.bs H.batch::L) w):
 St w0 (hoP bh bd (putU (hEnds H a) u noUnit)::L) w:=by
 have h1:=unit_wipe (L:=blk bh (.cells (hoC bd {V with us:=V.us.set u (.slice none 0 0,.slice none 0 0)} H).toArray 133 (0,0))::nmS V.nv H.names::omapK Value.string V.mb (mapE V H)::fam quP V.ps (H.all.map fun q=>qends q a true)::fam batS V.bs H.batch::L) hV hu (h.all Y3)
 refine hoP_parts (V:={V with us:=V.us.set u (.slice none 0 0,.slice none 0 0)}) (H:=putU (hEnds H a) u noUnit) ⟨?_,by simp[hV.us],hV.bs,?_,by simp[putU,hEnds,hV.units],hV.batch,hV.sent,hV.arrived⟩ (h1.all (M:=blk bh (.cells (hoC bd {V with us:=V.us.set u (.slice none 0 0,.slice none 0 0)} H).toArray 133 (0,0))::nmS V.nv H.names::omapK Value.string V.mb (mapE V H)::fam quP V.ps (H.all.map fun q=>qends q a true)::fam putsS ((V.us.set u (.slice none 0 0,.slice none 0 0)).map (·.1)) ((H.units.set u noUnit).map (·.puts))::fam getsS ((V.us.set u (.slice none 0 0,.slice none 0 0)).map (·.2)) ((H.units.set u noUnit).map (·.gets))::fam batS V.bs H.batch::L) Y3) rfl rfl rfl ?_ rfl rfl ?_ rfl rfl rfl rfl rfl rfl
 ·simp[putU,hEnds,hV.ps]
 ·simp[putU,hEnds,hV.ways]
 ·unfold mapE;exact mEnt_fst _ _ _ (by simp[putU,hEnds])
 ·exact(hEnds_all H a).symm
set_option maxRecDepth 100000 in
set_option maxHeartbeats 2000000 in
theorem hback_c (w0:World) (L:List HP) (bh bd n:Nat) (H:Ho) (u:Int) (hB:HoB n H) (hn:n<90000) (hl:∀x∈H.units,x.puts.length+x.gets.length≤90000):
 KC Tryz.prog 17 #[ptrV bh,.int .i64 u] w0 (hoP bh bd H::L) (fun v M=>v=errV 70 (bkE H u)∧M=hoP bh bd (bkH H u)::L):=by
 have hql:=hB.qlen
 have ends:∀k:Int,k≠0→bkE H u=k→(errV 70 k=errV 70 (bkE H u)∧hoP bh bd H::L=hoP bh bd (bkH H u)::L):=fun k hk he=>by
  have h0:¬bkE H u=0:=by rw[he];exact hk
  unfold bkH
  rw[if_neg h0,he]
  exact⟨rfl,rfl⟩
 refine KC.mk (n:=58) Tryz.func17 rfl Tryz.ntmps17 (by simp) ?_
 refine Z230 ?_
 refine Z39 ?_
 by_cases hu:u<0∨5≤u
 ·have he:bkE H u=2:=by unfold bkE;rw[if_pos hu]
  by_cases hu0:u<0
  ·refine Z140 ?_
   refine Z151 ?_
   refine Z43 ?_
   refine Z83 ?_
   refine K.condT rfl Y60 ?_
   refine Z249 ?_
   refine KQ.ret1 rfl rfl (fun w' hs'=>⟨_,_,rfl,ends 2 (by decide) he,hs'⟩)
  ·refine Z286 ?_
   refine Z83 ?_
   refine K.condT rfl Y57 ?_
   refine Z249 ?_
   refine KQ.ret1 rfl rfl (fun w' hs'=>⟨_,_,rfl,ends 2 (by decide) he,hs'⟩)
 refine Z286 ?_
 refine Z83 ?_
 refine K.condF rfl Y57 ?_
 refine Z53 ?_
 refine K.open' (fun _ h=>hoP_open h) ?_
 rintro⟨V,hV⟩
 dsimp only
 have hul:u.toNat<5:=by omega
 have hui:u=((u.toNat:Nat):Int):=by omega
 have hus:=hV.us
 have hun:=hV.units
 have hps:=hV.ps
 obtain⟨pv,hpv⟩:∃e,V.us[u.toNat]? =some e:=⟨_,List.getElem?_eq_getElem (by omega)⟩
 obtain⟨x,hxu⟩:∃e,H.units[u.toNat]? =some e:=⟨_,List.getElem?_eq_getElem (by omega)⟩
 have hxl:=hl x (List.mem_of_getElem? hxu)
 have hxA:H.uAt u.toNat=x:=by unfold Ho.uAt;rw[List.getD_eq_getElem?_getD,hxu];rfl
 obtain⟨c1,c2,-,-⟩:=hoC_unit (bd:=bd) hV hpv
 refine K.fact (fun w hw=>SL_form (E:=142) (sz:=6) (cf:=putC) (v:=pv.1) (xs:=x.puts) (fam_out (f:=putsS) (i:=u.toNat) (by rw[List.getElem?_map,hpv];rfl) (by rw[List.getElem?_map,hxu];rfl) (hw.pick (A:=fam putsS (V.us.map (·.1)) (H.units.map (·.puts))) Y11))) ?_
 rintro⟨a1,k1,hv1,-⟩
 refine K.fact (fun w hw=>SL_form (E:=146) (sz:=2) (cf:=gotC) (v:=pv.2) (xs:=x.gets) (fam_out (f:=getsS) (i:=u.toNat) (by rw[List.getElem?_map,hpv];rfl) (by rw[List.getElem?_map,hxu];rfl) (hw.pick (A:=fam getsS (V.us.map (·.2)) (H.units.map (·.gets))) Y11))) ?_
 rintro⟨a2,k2,hv2,-⟩
 rw[hv1]at c1
 rw[hv2]at c2
 refine K.draw [.pure,.pure,.pure,.pure,.pure,.pure,.read,.pure,.pure,.pure,.pure,.pure,.pure,.pure,.read,.pure,.pure,.pure,.pure] [0,1,2,3,4,5,6,7,8,9,10,11,12,13,14,15,16,17,18] Y62 Y62 ?_
 refine Z217 ?_
 refine Z54 ?_
 refine Z288 ?_
 refine KO.ldAt (i:=12+2*u.toNat) rfl rfl Tryz.isAgg127 Y21 Y24 c1 rfl ?_
 refine KO.len rfl Tryz.underlying127 rfl ?_
 refine Z217 ?_
 refine Z54 ?_
 refine Z289 ?_
 refine KO.ldAt (i:=13+2*u.toNat) rfl rfl Tryz.isAgg128 Y21 Y24 c2 rfl ?_
 refine KO.len rfl Tryz.underlying128 rfl ?_
 refine Z23 ?_
 refine Z251 ?_
 refine K.condD rfl (fun h3=>?_) (fun h3=>?_)
 ·have he:bkE H u=8:=by unfold bkE;rw[if_neg hu,hxA,if_pos (by omega)]
  refine Z249 ?_
  refine KQ.ret1 rfl rfl (fun w' hs'=>⟨_,_,rfl,ends 8 (by decide) he,hoP_mk V hV (hs'.all Y23)⟩)
 refine Z53 ?_
 cases hdn:H.down with
 |true=>
  have he:bkE H u=6:=by unfold bkE;rw[if_neg hu,hxA,if_neg (by omega),if_pos hdn]
  refine Z337 ?_
  refine Z83 ?_
  refine K.condT rfl hdn ?_
  refine Z249 ?_
  refine KQ.ret1 rfl rfl (fun w' hs'=>⟨_,_,rfl,ends 6 (by decide) he,hoP_mk V hV (hs'.all Y23)⟩)
 |false=>
 have he:bkE H u=0:=by unfold bkE;rw[if_neg hu,hxA,if_neg (by omega),if_neg Y64]
 refine Z337 ?_
 refine Z83 ?_
 refine K.condF rfl hdn ?_
 refine Z62 ?_
 refine Z8 ?_
 refine KO.cl (cp:=[]) rfl rfl rfl Tryz.call63 rfl (all_c w0 L bh bd V H hV (by omega)) ?_;rintro va L' ⟨js,hjs,rfl⟩;refine KO.fact (fun w hw=>SL_form (E:=119) (sz:=1) (cf:=ptrC) (hw.pick .head)) ?_;rintro⟨ad,cap,rfl,had⟩
 refine KO.len rfl Tryz.underlying152 rfl ?_
 refine Z119 ?_
 have hjl:js.length=V.ps.length:=by have :=hjs.length_eq;simpa using this
 refine K.loop (fun k:Nat=>[(0,ptrV bh),(1,.int .i64 u),(42,.slice ad (js.map fun j=>V.ps.getD j 0).length cap),(43,.int .i64 ((js.map fun j=>V.ps.getD j 0).length:Nat)),(44,.int .i64 (k:Nat))])
  (fun k=>ptrsS (.slice ad (js.map fun j=>V.ps.getD j 0).length cap) (js.map fun j=>V.ps.getD j 0)::fam quP V.ps (endsL u H.all (js.take k))::blk bh (.cells (hoC bd V H).toArray 133 (0,0))::nmS V.nv H.names::omapK Value.string V.mb (mapE V H)::fam putsS (V.us.map (·.1)) (H.units.map (·.puts))::fam getsS (V.us.map (·.2)) (H.units.map (·.gets))::fam batS V.bs H.batch::L)
  (fun k=>k≤js.length) (fun k=>js.length-k) 0 (Nat.zero_le _) ⟨rfl,rfl,rfl,rfl,rfl,trivial⟩ (fun _ h=>h.all Y7) ?_
 rintro k hk
 refine Z111 ?_
 refine K.condD rfl (fun h8=>?_) (fun h8=>?_)
 ·rw[List.length_map]at h8
  obtain⟨j,hj⟩:∃e,js[k]? =some e:=⟨js[k],List.getElem?_eq_getElem (by omega)⟩
  have hjr:j<V.ps.length:=by have :=hjs.mem_iff.1 (List.mem_of_getElem? hj);simpa using this
  obtain⟨p,hp⟩:∃e,V.ps[j]? =some e:=⟨_,List.getElem?_eq_getElem hjr⟩
  have hpj:(js.map fun j=>V.ps.getD j 0)[k]? =some p:=by rw[List.getElem?_map,hj,Option.map_some,List.getD_eq_getElem?_getD,hp];rfl
  obtain⟨g,rfl⟩:=had Y29
  have hal:=all_len hV.ways
  have hle:=endsL_len u (js.take k) H.all
  have hq:(endsL u H.all (js.take k))[j]? =some ((endsL u H.all (js.take k)).getD j default):=by rw[List.getD_eq_getElem?_getD,List.getElem?_eq_getElem (by omega)];rfl
  have hqb:=endsL_QB u (js.take k) H.all hB.qs _ (List.mem_of_getElem? hq)
  have hqn:=hqb.len
  have hsucc:=endsL_succ (u:=u) (l:=H.all) hj
  generalize endsL u H.all (js.take k)=lk at hq hqn hsucc
  generalize lk.getD j default=q at hq hqn hsucc
  refine Z145 ?_
  refine Z228 ?_
  refine Z83 ?_
  refine Z72 ?_
  refine KO.cl (cp:=[]) rfl rfl rfl Tryz.call64 rfl (KC.famC (φ:=fun v=>v=.tuple #[]) hp hq Y11 (fun L=>ends_c w0 L p q u true (by omega))) ?_;rintro v' L' ⟨rfl,rfl⟩
  refine Z132 ?_
  refine KQ.round (k+1) (by omega) (by omega) ⟨rfl,rfl,rfl,rfl,rfl,trivial⟩ (fun _ h=>?_)
  rw[hsucc]
  exact h.all Y3
 ·have hkl:k=js.length:=by rw[List.length_map]at h8;omega
  subst hkl
  rw[List.take_length,endsL_map u (by rw[all_len hV.ways,←hps];exact hjs)]
  refine Z9 ?_
  refine Z268 ?_
  refine Z49 ?_
  refine Z54 ?_
  refine KO.stoAt (b:=bh) (off:=12+2*u.toNat) (us:=[.slice none 0 0,.slice none 0 0]) rfl rfl Y24 rfl Y68 (by exact Tryz.sizeOf130) Y68 Y11 (by rw[hoC_len hV];simp;omega) (hoC_wipe hV hul) ?_
  refine Z183 ?_
  refine KQ.ret1 rfl rfl (fun w' hs'=>⟨_,_,rfl,⟨by rw[he];rfl,rfl⟩,?_⟩)
  have e1:bkH H u=putU (hEnds H u) u.toNat noUnit:=by unfold bkH;rw[if_pos he]
  rw[e1]
  exact hoP_wiped hV u hul (hs'.all Y1)
end Go.Proofs.YtjhogocabcdjbabGreatDoor
/- house: Commit -/
namespace Go.Proofs.YtjhogocabcdjbabGreatDoor
open Go Go.RowKit WB
theorem hoC_two {w0 w:World} {L R:List HP} {bh bd:Nat} {V:HoV} {H:Ho} (hV:HoVL V H) {u:Nat} {p:Value×Value} (hp:V.us[u]? =some p) (hk:Pick L (blk bh (.cells (hoC bd V H).toArray 133 (0,0))) R) (hw:St w0 L w) {ad:Addr} (ha:ad=⟨bh,12+2*u,none⟩):HasCells w ad [p.1,p.2]:=by
 obtain⟨c1,c2,-,-⟩:=hoC_unit (bd:=bd) hV hp
 subst ha
 intro j c hj
 rw[Addr.add_lit,World.cell?,(hw.lookP hk).2]
 match j with
 |0=>simp at hj;subst hj;simpa using c1
 |1=>simp at hj;subst hj;rw[show 12+2*u+1=13+2*u by omega];simpa using c2
 |j+2=>simp at hj
set_option maxRecDepth 100000 in
set_option maxHeartbeats 4000000 in
theorem hcommit_c (w0:World) (L:List HP) (bh bd n:Nat) (H:Ho) (D:Dk) (u:Int) (hT:Tab w0) (hM:Lim w0) (hB:HoB n H) (hn:n+700≤90000) (hl:∀x∈H.units,UntOk x) (h3:D.places.length=300) (hd: -4000000000000000000≤D.left∧D.left≤9223372036854775807):
 KC Tryz.prog 16 #[ptrV bh,.int .i64 u] w0 (hoP bh bd H::dkP bd D::L) (fun v M=>v=errV 70 (cmE H D u)∧M=hoP bh bd (cmH H D u)::dkP bd (cmD H D u)::L):=by
 have hql:=hB.qlen
 have husd:=hB.used
 have ends:∀k:Int,k≠0→cmPE H u=k→(errV 70 k=errV 70 (cmE H D u)∧hoP bh bd H::dkP bd D::L=hoP bh bd (cmH H D u)::dkP bd (cmD H D u)::L):=fun k hk he=>by
  have h0:cmPE H u≠0:=by rw[he];exact hk
  unfold cmE cmH cmD
  rw[if_pos h0,if_pos h0,if_pos h0,he]
  exact⟨rfl,rfl⟩
 refine KC.mk (n:=113) Tryz.func16 rfl Tryz.ntmps16 (by simp) ?_
 refine Z280 ?_
 by_cases hu:u<0∨5≤u
 ·have he:cmPE H u=2:=by unfold cmPE;rw[if_pos hu]
  by_cases hu0:u<0
  ·refine Z140 ?_
   refine Z151 ?_
   refine Z321 ?_
   refine Z218 ?_
   refine KQ.ret1 rfl rfl (fun w' hs'=>⟨_,_,rfl,ends 2 (by decide) he,hs'⟩)
  ·refine Z286 ?_
   refine Z2 ?_
   refine K.condT rfl Y57 ?_
   refine Z218 ?_
   refine KQ.ret1 rfl rfl (fun w' hs'=>⟨_,_,rfl,ends 2 (by decide) he,hs'⟩)
 refine Z286 ?_
 refine Z2 ?_
 refine K.condF rfl Y57 ?_
 refine Z6 ?_
 refine K.open' (fun _ h=>hoP_open h) ?_
 rintro⟨V,hV⟩
 dsimp only
 have hul:u.toNat<5:=by omega
 have hui:u=((u.toNat:Nat):Int):=by omega
 have hus:=hV.us
 have hun:=hV.units
 have hps:=hV.ps
 obtain⟨⟨v1,v2⟩,hpv⟩:∃e,V.us[u.toNat]? =some e:=⟨_,List.getElem?_eq_getElem (by omega)⟩
 obtain⟨x,hxu⟩:∃e,H.units[u.toNat]? =some e:=⟨_,List.getElem?_eq_getElem (by omega)⟩
 have hxo:=hl x (List.mem_of_getElem? hxu)
 have hmany:=hxo.many
 have hxA:H.uAt u.toNat=x:=by unfold Ho.uAt;rw[List.getD_eq_getElem?_getD,hxu];rfl
 have g1:(V.us.map (·.1))[u.toNat]? =some v1:=by rw[List.getElem?_map,hpv];rfl
 have g2:(V.us.map (·.2))[u.toNat]? =some v2:=by rw[List.getElem?_map,hpv];rfl
 have g3:(H.units.map (·.puts))[u.toNat]? =some x.puts:=by rw[List.getElem?_map,hxu];rfl
 have g4:(H.units.map (·.gets))[u.toNat]? =some x.gets:=by rw[List.getElem?_map,hxu];rfl
 refine K.fact (fun w hw=>SL_form (E:=142) (sz:=6) (cf:=putC) (v:=v1) (xs:=x.puts) (fam_out (f:=putsS) g1 g3 (hw.pick (A:=fam putsS (V.us.map (·.1)) (H.units.map (·.puts))) Y11))) ?_
 rintro⟨a1,k1,rfl,had1⟩
 refine K.fact (fun w hw=>SL_form (E:=146) (sz:=2) (cf:=gotC) (v:=v2) (xs:=x.gets) (fam_out (f:=getsS) g2 g4 (hw.pick (A:=fam getsS (V.us.map (·.2)) (H.units.map (·.gets))) Y11))) ?_
 rintro⟨a2,k2,rfl,had2⟩
 refine Z171 ?_
 refine Z54 ?_
 refine KO.ldN (cs:=#[.slice a1 x.puts.length k1,.slice a2 x.gets.length k2]) rfl rfl Tryz.isAgg130 Tryz.sizeOf130 rfl (fun w hw=>hoC_two hV hpv (L:=hoX bh bd V H (dkP bd D::L)) .head hw Y24) rfl ?_
 refine KO.alloc rfl Tryz.zeroValue130 Y68 rfl ?_;intro b5
 refine KO.sto0 rfl rfl rfl Y68 (by exact Tryz.sizeOf130) Y68 Y21 Y68 ?_
 refine Z248 ?_
 refine KO.fo0 (off:=0) rfl Tryz.runUnderlying130 rfl rfl Tryz.sizeOf127 rfl ?_
 refine KO.ld rfl rfl Tryz.isAgg127 Y21 Y68 rfl ?_
 refine KO.len rfl Tryz.underlying127 rfl ?_
 refine KO.fo0 (off:=1) rfl Tryz.runUnderlying130 rfl rfl Tryz.sizeOf128 rfl ?_
 refine KO.ld rfl rfl Tryz.isAgg128 Y21 Y68 rfl ?_
 refine KO.len rfl Tryz.underlying128 rfl ?_
 refine Z23 ?_
 refine Z246 ?_
 refine K.condD rfl (fun h4=>?_) (fun h4=>?_)
 ·have he:cmPE H u=8:=by unfold cmPE;rw[if_neg hu,hxA,if_pos (by omega)]
  refine Z218 ?_
  refine KQ.ret1 rfl rfl (fun w' hs'=>⟨_,hoP bh bd H::dkP bd D::L,rfl,?_,?_⟩)
  ·exact ends 8 (by decide) he
  ·exact hoP_mk V hV (hs'.all Y1)
 have he:cmPE H u=0:=by unfold cmPE;rw[if_neg hu,hxA,if_neg (by omega)]
 have hcmE:cmE H D u=logE H D:=by unfold cmE;rw[if_neg (by rw[he];decide)]
 have hcmD:cmD H D u=logD H D (recU x):=by unfold cmD;rw[if_neg (by rw[he];decide),hxA]
 have hcmH:cmH H D u=if logE H D≠0 then logH H D else(hends (putU (hEnds (logH H D) u) u.toNat noUnit) (recB x)).1:=by unfold cmH;rw[if_neg (by rw[he];decide),hxA]
 refine Z250 ?_
 refine Z21 ?_
 refine K.conv (L':=SL 142 6 putC (.slice a1 x.puts.length k1) x.puts::SL 146 2 gotC (.slice a2 x.gets.length k2) x.gets::blk b5 (.cells [Value.slice a1 x.puts.length k1,.slice a2 x.gets.length k2].toArray 130 (0,0))::blk bh (.cells (hoC bd V H).toArray 133 (0,0))::nmS V.nv H.names::omapK Value.string V.mb (mapE V H)::fam quP V.ps H.all::fam putsS ((V.us.map (·.1)).eraseIdx u.toNat) ((H.units.map (·.puts)).eraseIdx u.toNat)::fam getsS ((V.us.map (·.2)).eraseIdx u.toNat) ((H.units.map (·.gets)).eraseIdx u.toNat)::fam batS V.bs H.batch::dkP bd D::L) (fun w hw=>?_) ?_
 ·have h1:=fam_out (f:=putsS) g1 g3 (hw.pick (A:=fam putsS (V.us.map (·.1)) (H.units.map (·.puts))) Y11)
  have h2:=fam_out (f:=getsS) g2 g4 (h1.pick (A:=fam getsS (V.us.map (·.2)) (H.units.map (·.gets))) Y11)
  exact h2.all Y7
 refine Z231 ?_
 refine KO.fo0 (off:=1) rfl Tryz.runUnderlying130 rfl rfl Tryz.sizeOf128 rfl ?_
 refine KO.ld rfl rfl Tryz.isAgg128 Y11 Y68 rfl ?_
 refine KO.len rfl Tryz.underlying128 rfl ?_
 refine Z119 ?_
 refine K.loop (fun p:Nat×Value=>[(0,ptrV bh),(1,.int .i64 u),(5,.pointer (some ⟨b5,0,none⟩)),(6,p.2),(40,.slice a2 x.gets.length k2),(41,.int .i64 (x.gets.length:Nat)),(42,.int .i64 (p.1:Nat))])
  (fun p=>strS p.2 ((x.gets.take p.1).map gotT)::SL 142 6 putC (.slice a1 x.puts.length k1) x.puts::SL 146 2 gotC (.slice a2 x.gets.length k2) x.gets::blk b5 (.cells [Value.slice a1 x.puts.length k1,.slice a2 x.gets.length k2].toArray 130 (0,0))::blk bh (.cells (hoC bd V H).toArray 133 (0,0))::nmS V.nv H.names::omapK Value.string V.mb (mapE V H)::fam quP V.ps H.all::fam putsS ((V.us.map (·.1)).eraseIdx u.toNat) ((H.units.map (·.puts)).eraseIdx u.toNat)::fam getsS ((V.us.map (·.2)).eraseIdx u.toNat) ((H.units.map (·.gets)).eraseIdx u.toNat)::fam batS V.bs H.batch::dkP bd D::L) (fun p=>p.1≤x.gets.length) (fun p=>x.gets.length-p.1) (0,.slice none 0 0)
  (Nat.zero_le _) ⟨rfl,rfl,rfl,rfl,rfl,rfl,rfl,trivial⟩ (fun _ h=>?_) ?_
 ·have h1:=SL_nil (E:=9) (sz:=1) (cf:=strC) h
  exact h1
 rintro⟨k,v6⟩ hk
 dsimp only at hk ⊢
 refine Z111 ?_
 refine K.condD rfl (fun h8=>?_) (fun h8=>?_)
 ·obtain⟨g,hg⟩:∃e,x.gets[k]? =some e:=⟨x.gets[k],List.getElem?_eq_getElem (by omega)⟩
  obtain⟨ag,rfl⟩:=had2 (by omega)
  have hgo:=hxo.gets g (List.mem_of_getElem? hg)
  obtain⟨gi,gq⟩:=g
  dsimp only at hgo
  have hq8:=(wordB_size hgo.2.2).2
  have hi:=itoaS_size (n:=gi) ⟨by omega,by omega⟩
  have z2:(⟨#[32]⟩:ByteArray).size=1:=rfl
  have z3:(itoaS gi++⟨#[32]⟩:ByteArray).size≤22:=by simp only[ByteArray.size_append];omega
  refine Z145 ?_
  refine KO.idx0 rfl rfl Tryz.runUnderlying128 Tryz.sizeOf146 Y68 (by omega) rfl ?_
  refine KO.ldEN rfl rfl Tryz.isAgg146 Tryz.sizeOf146 Y11 (fun _=>rfl) Y63 rfl ?_
  refine KO.alloc rfl Tryz.zeroValue146 Y68 rfl ?_;intro b8
  refine KO.sto0 rfl rfl rfl Y68 (by exact Tryz.sizeOf146) Y68 Y21 Y68 ?_
  refine Z2 ?_
  refine K.draw [.pure,.pure,.read,.keep,.pure,.pure,.read,.pure,.keep,.write,.pure] [0,1,2,5,6,3,4,7,8,9,10] Y62 Y62 ?_
  refine Z1 ?_
  refine KO.fo0 (off:=0) rfl Tryz.runUnderlying146 rfl rfl Tryz.sizeOf3 rfl ?_
  refine KO.ld (v:=.int .i64 gi) rfl rfl Tryz.isAgg3 Y21 Y68 rfl ?_
  refine KO.fo0 (off:=1) rfl Tryz.runUnderlying146 rfl rfl Tryz.sizeOf9 rfl ?_
  refine KO.ld (v:=.string gq) rfl rfl Tryz.isAgg9 Y21 Y68 rfl ?_
  refine KO.ce (cp:=[]) rfl rfl rfl Tryz.call59 rfl (itoa_e w0 _ gi hT ⟨by omega,by omega⟩) ?_;rintro v' L' ⟨rfl,rfl⟩
  refine Z121 ?_
  refine Z121 ?_
  refine KO.bs1 (z:=(Value.string ⟨#[]⟩)) (sz:=1) (by':=16) rfl rfl Tryz.underlying115 Y62 Y68 Y68 (by decide) (by decide) rfl ?_;intro b54
  refine KO.app (cf:=strC) (z:=Value.string ⟨#[]⟩) (sz:=1) (by':=16) (xs:=(x.gets.take k).map gotT) rfl rfl rfl (.tail (.tail .head)) .head Tryz.underlying115 str_info rfl (gotT (gi,gq)) rfl rfl rfl Y61 (by decide) rfl ?_;intro v9
  refine Z234 ?_
  refine KQ.round (k+1,v9) Y47 Y47 ⟨rfl,rfl,rfl,rfl,rfl,rfl,rfl,trivial⟩ (fun _ h=>?_)
  dsimp only
  rw[take_succ_some hg,List.map_append]
  exact h.all Y5
 have hkl:k=x.gets.length:=by omega
 subst hkl
 rw[List.take_length]
 refine Z9 ?_
 refine Z231 ?_
 refine Z135 ?_
 refine KO.fo0 (off:=0) rfl Tryz.runUnderlying130 rfl rfl Tryz.sizeOf127 rfl ?_
 refine KO.ld rfl rfl Tryz.isAgg127 Y11 Y68 rfl ?_
 refine KO.len rfl Tryz.underlying127 rfl ?_
 refine Z119 ?_
 refine K.loop (fun p:Nat×Value=>[(0,ptrV bh),(1,.int .i64 u),(6,v6),(9,p.2),(58,.slice a1 x.puts.length k1),(59,.int .i64 (x.puts.length:Nat)),(60,.int .i64 (p.1:Nat))])
  (fun p=>SL 44 5 msC p.2 ((x.puts.take p.1).map (·.1))::strS v6 (x.gets.map gotT)::SL 142 6 putC (.slice a1 x.puts.length k1) x.puts::SL 146 2 gotC (.slice a2 x.gets.length k2) x.gets::blk bh (.cells (hoC bd V H).toArray 133 (0,0))::nmS V.nv H.names::omapK Value.string V.mb (mapE V H)::fam quP V.ps H.all::fam putsS ((V.us.map (·.1)).eraseIdx u.toNat) ((H.units.map (·.puts)).eraseIdx u.toNat)::fam getsS ((V.us.map (·.2)).eraseIdx u.toNat) ((H.units.map (·.gets)).eraseIdx u.toNat)::fam batS V.bs H.batch::dkP bd D::L) (fun p=>p.1≤x.puts.length) (fun p=>x.puts.length-p.1) (0,.slice none 0 0)
  (Nat.zero_le _) ⟨rfl,rfl,rfl,rfl,rfl,rfl,rfl,trivial⟩ (fun _ h=>?_) ?_
 ·have h1:=SL_nil (E:=44) (sz:=5) (cf:=msC) h
  exact h1.all Y5
 rintro⟨k,v9⟩ hk
 dsimp only at hk ⊢
 refine Z111 ?_
 refine K.condD rfl (fun h14=>?_) (fun h14=>?_)
 ·obtain⟨g,hg⟩:∃e,x.puts[k]? =some e:=⟨x.puts[k],List.getElem?_eq_getElem (by omega)⟩
  obtain⟨ag,rfl⟩:=had1 (by omega)
  obtain⟨⟨mi,mp,mb,mq,mh⟩,pt⟩:=g
  refine Z145 ?_
  refine KO.idx0 rfl rfl Tryz.runUnderlying127 Tryz.sizeOf142 Y68 (by omega) rfl ?_
  refine KO.ldEN rfl rfl Tryz.isAgg142 Tryz.sizeOf142 Y11 (fun _=>rfl) Y63 rfl ?_
  refine KO.alloc rfl Tryz.zeroValue142 Y68 rfl ?_;intro b11
  refine KO.sto0 rfl rfl rfl Y68 (by exact Tryz.sizeOf142) Y68 Y21 Y68 ?_
  refine Z2 ?_
  refine Z8 ?_
  refine KO.fo0 (off:=0) rfl Tryz.runUnderlying142 rfl rfl Tryz.sizeOf44 rfl ?_
  (refine KO.ldB rfl rfl Tryz.isAgg44 Tryz.sizeOf44 Y21 Y8 Y68 rfl ?_)
  refine KO.bs1 (z:=(Value.agg #[.int .i64 0,.int .i64 0,.string ⟨#[]⟩,.string ⟨#[]⟩,.int .i64 0])) (sz:=5) (by':=56) rfl rfl Tryz.underlying49 Y62 Y68 Y68 (by decide) (by decide) rfl ?_;intro b67
  refine KO.app (cf:=msC) (z:=Value.agg #[.int .i64 0,.int .i64 0,.string ⟨#[]⟩,.string ⟨#[]⟩,.int .i64 0]) (sz:=5) (by':=56) (xs:=(x.puts.take k).map (·.1)) rfl rfl rfl (.tail (.tail .head)) .head Tryz.underlying49 Y62 Y68 (⟨mi,mp,mb,mq,mh⟩:Ms) rfl rfl rfl Y61 (by decide) rfl ?_;intro v9'
  refine Z234 ?_
  refine KQ.round (k+1,v9') Y47 Y47 ⟨rfl,rfl,rfl,rfl,rfl,rfl,rfl,trivial⟩ (fun _ h=>?_)
  dsimp only
  rw[take_succ_some hg,List.map_append]
  exact h.all Y5
 have hkl:k=x.puts.length:=by omega
 subst hkl
 rw[List.take_length]
 refine K.conv (L':=SL 44 5 msC v9 (x.puts.map (·.1))::strS v6 (x.gets.map gotT)::hoP bh bd H::dkP bd D::L) (fun w hw=>?_) ?_
 ·have h1:=fam_back (f:=putsS) g1 g3 (hw.all (M:=putsS (.slice a1 x.puts.length k1) x.puts::fam putsS ((V.us.map (·.1)).eraseIdx u.toNat) ((H.units.map (·.puts)).eraseIdx u.toNat)::getsS (.slice a2 x.gets.length k2) x.gets::fam getsS ((V.us.map (·.2)).eraseIdx u.toNat) ((H.units.map (·.gets)).eraseIdx u.toNat)::SL 44 5 msC v9 (x.puts.map (·.1))::strS v6 (x.gets.map gotT)::blk bh (.cells (hoC bd V H).toArray 133 (0,0))::nmS V.nv H.names::omapK Value.string V.mb (mapE V H)::fam quP V.ps H.all::fam batS V.bs H.batch::dkP bd D::L) Y7)
  have h2:=fam_back (f:=getsS) g2 g4 (h1.all (M:=getsS (.slice a2 x.gets.length k2) x.gets::fam getsS ((V.us.map (·.2)).eraseIdx u.toNat) ((H.units.map (·.gets)).eraseIdx u.toNat)::SL 44 5 msC v9 (x.puts.map (·.1))::strS v6 (x.gets.map gotT)::blk bh (.cells (hoC bd V H).toArray 133 (0,0))::nmS V.nv H.names::omapK Value.string V.mb (mapE V H)::fam quP V.ps H.all::fam putsS (V.us.map (·.1)) (H.units.map (·.puts))::fam batS V.bs H.batch::dkP bd D::L) Y7)
  exact(hoP_mk V hV (h2.all (M:=hoX bh bd V H (SL 44 5 msC v9 (x.puts.map (·.1))::strS v6 (x.gets.map gotT)::dkP bd D::L)) Y7)).all Y3
 refine Z9 ?_
 have hbad:=hxo.bad
 have hrs:∀m∈x.puts.map (·.1),m.body.size≤maxLen∧m.queue.size≤maxLen:=fun m hm=>right_size (badI_all hbad m hm)
 have hgs:=hxo.gsize
 have hpz:=hxo.psize
 have hrb:=hxo.size
 refine Z8 ?_
 refine KO.ce (cp:=[]) rfl rfl rfl Tryz.call60 rfl (mwrite_e w0 _ v9 (x.puts.map (·.1)) (fun w hw=>RdA.ofSL (E:=44) (fun _=>rfl) .head hw) hT hrs Y61) ?_;rintro v' L' hR;unfold MwR at hR;rw[hbad]at hR;obtain⟨rfl,rfl⟩:=hR
 refine Z106 ?_
 refine Z97 ?_
 refine Z162 ?_
 have z1:(⟨#[117,58]⟩:ByteArray).size=2:=rfl
 have z2:(⟨#[47]⟩:ByteArray).size=1:=rfl
 have z3:(⟨#[117,58]⟩++writeS (x.puts.map (·.1)):ByteArray).size≤70702:=by simp only[ByteArray.size_append];omega
 have z4:(⟨#[117,58]⟩++writeS (x.puts.map (·.1))++⟨#[47]⟩:ByteArray).size≤70703:=by simp only[ByteArray.size_append];omega
 have z5:(writeS (x.puts.map (·.1))++⟨#[47]⟩:ByteArray).size≤70701:=by simp only[ByteArray.size_append];omega
 have hrU:(recU x).size≤80000:=hxo.recO.size
 refine Z72 ?_
 refine Z121 ?_
 refine Z121 ?_
 refine Z1 ?_
 refine KO.ce (cp:=[]) rfl rfl rfl Tryz.call62 rfl (join_e w0 _ _ v6 (x.gets.map gotT) plus Y11 Y61 (by omega)) ?_;rintro v' L' ⟨rfl,rfl⟩
 refine Z121 ?_
 refine KO.cl (cp:=[]) rfl rfl rfl Tryz.call61 rfl (KC.pk2 Y11 Y11 (logs_c w0 _ bh bd H D (recU x) hT h3 hd (by omega) husd)) ?_;rintro v' L' ⟨rfl,rfl⟩
 refine Z239 ?_
 refine K.condD rfl (fun h22=>?_) (fun h22=>?_)
 ·rw[if_pos h22]at hcmH
  refine Z312 ?_
  refine KQ.ret1 rfl rfl (fun w' hs'=>⟨_,_,rfl,⟨by rw[hcmE],rfl⟩,?_⟩)
  rw[hcmH,hcmD]
  exact hs'.all Y5
 rw[if_neg h22]at hcmH
 have h220:logE H D=0:=by simpa using h22
 have hB1:HoB n (logH H D):=hB.log
 have hq1:=hB1.qlen
 generalize hH1:logH H D=H1 at *
 refine Z6 ?_
 refine K.open' (fun _ h=>hoP_open (h.pick Y21)) ?_
 rintro⟨V1,hV1⟩
 dsimp only
 have hps1:=hV1.ps
 refine Z8 ?_
 refine KO.cl (cp:=[]) rfl rfl rfl Tryz.call63 rfl (all_c w0 _ bh bd V1 H1 hV1 (by omega)) ?_;rintro va L' ⟨js,hjs,rfl⟩;refine KO.fact (fun w hw=>SL_form (E:=119) (sz:=1) (cf:=ptrC) (hw.pick .head)) ?_;rintro⟨ad,cap,rfl,had⟩
 refine KO.len rfl Tryz.underlying152 rfl ?_
 refine Z119 ?_
 have hjl:js.length=V1.ps.length:=by have :=hjs.length_eq;simpa using this
 refine K.loop (fun k:Nat=>[(0,ptrV bh),(1,.int .i64 u),(6,v6),(12,.string (writeS (x.puts.map (·.1)))),(90,.slice ad (js.map fun j=>V1.ps.getD j 0).length cap),(91,.int .i64 ((js.map fun j=>V1.ps.getD j 0).length:Nat)),(92,.int .i64 (k:Nat))])
  (fun k=>ptrsS (.slice ad (js.map fun j=>V1.ps.getD j 0).length cap) (js.map fun j=>V1.ps.getD j 0)::fam quP V1.ps (endsL u H1.all (js.take k))::blk bh (.cells (hoC bd V1 H1).toArray 133 (0,0))::nmS V1.nv H1.names::omapK Value.string V1.mb (mapE V1 H1)::fam putsS (V1.us.map (·.1)) (H1.units.map (·.puts))::fam getsS (V1.us.map (·.2)) (H1.units.map (·.gets))::fam batS V1.bs H1.batch::strS v6 (x.gets.map gotT)::dkP bd (logD H D (recU x))::L)
  (fun k=>k≤js.length) (fun k=>js.length-k) 0 (Nat.zero_le _) ⟨rfl,rfl,rfl,rfl,rfl,rfl,rfl,trivial⟩ (fun _ h=>h.all Y5) ?_
 rintro k hk
 refine Z111 ?_
 refine K.condD rfl (fun h8=>?_) (fun h8=>?_)
 ·rw[List.length_map]at h8
  obtain⟨j,hj⟩:∃e,js[k]? =some e:=⟨js[k],List.getElem?_eq_getElem (by omega)⟩
  have hjr:j<V1.ps.length:=by have :=hjs.mem_iff.1 (List.mem_of_getElem? hj);simpa using this
  obtain⟨p,hp⟩:∃e,V1.ps[j]? =some e:=⟨_,List.getElem?_eq_getElem hjr⟩
  have hpj:(js.map fun j=>V1.ps.getD j 0)[k]? =some p:=by rw[List.getElem?_map,hj,Option.map_some,List.getD_eq_getElem?_getD,hp];rfl
  obtain⟨g,rfl⟩:=had Y29
  have hal:=all_len hV1.ways
  have hle:=endsL_len u (js.take k) H1.all
  have hq:(endsL u H1.all (js.take k))[j]? =some ((endsL u H1.all (js.take k)).getD j default):=by rw[List.getD_eq_getElem?_getD,List.getElem?_eq_getElem (by omega)];rfl
  have hqb:=endsL_QB u (js.take k) H1.all hB1.qs _ (List.mem_of_getElem? hq)
  have hqn:=hqb.len
  have hsucc:=endsL_succ (u:=u) (l:=H1.all) hj
  generalize endsL u H1.all (js.take k)=lk at hq hqn hsucc
  generalize lk.getD j default=q at hq hqn hsucc
  refine Z145 ?_
  refine Z228 ?_
  refine Z83 ?_
  refine Z72 ?_
  refine KO.cl (cp:=[]) rfl rfl rfl Tryz.call64 rfl (KC.famC (φ:=fun v=>v=.tuple #[]) hp hq Y11 (fun L=>ends_c w0 L p q u true (by omega))) ?_;rintro v' L' ⟨rfl,rfl⟩
  refine Z132 ?_
  refine KQ.round (k+1) (by omega) (by omega) ⟨rfl,rfl,rfl,rfl,rfl,rfl,rfl,trivial⟩ (fun _ h=>?_)
  rw[hsucc]
  exact h.all Y3
 have hkl:k=js.length:=by rw[List.length_map]at h8;omega
 subst hkl
 rw[List.take_length,endsL_map u (by rw[all_len hV1.ways,←hps1];exact hjs)]
 refine Z9 ?_
 refine Z268 ?_
 refine Z49 ?_
 refine Z54 ?_
 refine KO.stoAt (b:=bh) (off:=12+2*u.toNat) (us:=[.slice none 0 0,.slice none 0 0]) rfl rfl Y24 rfl Y68 (by exact Tryz.sizeOf130) Y68 Y11 (by rw[hoC_len hV1];simp;omega) (hoC_wipe hV1 hul) ?_
 refine Z0 ?_
 refine K.conv (L':=hoP bh bd (putU (hEnds H1 u) u.toNat noUnit)::strS v6 (x.gets.map gotT)::dkP bd (logD H D (recU x))::L) (fun w hw=>hoP_wiped hV1 u hul (hw.all Y1)) ?_
 have hB2:HoB n (putU (hEnds H1 u) u.toNat noUnit):=(hB1.hEnds u).putU _ _
 have hrd:∀l,mrd (cutB 47 (recB x)).1=some l→n+l.length≤90000:=fun l hl2=>by
  rw[hxo.read]at hl2
  simp only[Option.some.injEq]at hl2
  subst hl2
  simp;omega
 refine Z72 ?_
 refine Z121 ?_
 refine Z1 ?_
 refine KO.ce (cp:=[]) rfl rfl rfl Tryz.call62 rfl (join_e w0 _ _ v6 (x.gets.map gotT) plus Y11 Y61 (by omega)) ?_;rintro v' L' ⟨rfl,rfl⟩
 refine Z121 ?_
 refine KO.cl (cp:=[]) rfl rfl rfl Tryz.call65 rfl (KC.pk1 Y21 (hends_c w0 _ bh bd n (putU (hEnds H1 u) u.toNat noUnit) (recB x) hT hM (by omega) hB2 hrd (by omega))) ?_;rintro v' L' ⟨rfl,rfl⟩
 refine Z183 ?_
 refine KQ.ret1 rfl rfl (fun w' hs'=>⟨_,_,rfl,⟨by rw[hcmE,h220];rfl,rfl⟩,?_⟩)
 rw[hcmH,hcmD]
 exact hs'.all Y5
end Go.Proofs.YtjhogocabcdjbabGreatDoor
/- sort.Slice at structs, told by parts -/
namespace WB
open Go Go.RowKit Go.Sort Go.Shelf Go.Proofs
section
variable {w0 w:World} {L R:List HP} {E:TypeId} {α:Type} [Inhabited α] {cf:α→List Value} {k:Nat} {xs ys:List α} {v:Value} {g n cap:Nat}
theorem flatK_get (hk:∀x,(cf x).length=k) (xs:List α) (j:Nat) (hj:j<xs.length *k):(xs.flatMap cf)[j]? =some (flatK cf k xs.toArray)[j]! :=by
 have hk0:0<k:=by rcases Nat.eq_zero_or_pos k with h|h;· subst h;simp at hj
                  ·exact h
 have hd:j/k<xs.length:=(Nat.div_lt_iff_lt_mul hk0).2 hj
 have hm:j%k<k:=Nat.mod_lt _ hk0
 rw[get_flatK _ _ _ _ (by simpa using hj)]
 have :=flat_get cf k hk default xs (j/k) (j%k) hd hm
 rw[Nat.div_add_mod']at this
 rw[this]
 have e1:xs.toArray[j/k]! =xs.getD (j/k) default:=by simp[List.getD_eq_getElem?_getD,hd]
 rw[e1,List.getElem?_eq_getElem (by rw[hk];exact hm),List.getElem!_eq_getElem?_getD,List.getElem?_eq_getElem (by rw[hk];exact hm)]
 rfl
theorem holdsK_of (hk:∀x,(cf x).length=k) (h:St w0 (SL E k cf (.slice (some ⟨g,0,none⟩) n cap) xs::R) w):HoldsK cf k w g 0 xs.toArray:=by
 obtain⟨rfl,h2,_,cur,h4,h5,h6⟩:=SL_open h
 intro j hj
 have hj':j<xs.length *k:=by simpa using hj
 have hl:=h6.look.2
 refine⟨?_,?_⟩
 ·rw[Nat.zero_add,World.cell?,hl]
  have :=flatK_get (cf:=cf) hk xs j hj'
  rw[←h5,List.getElem?_take,if_pos hj']at this
  simpa using this
 ·rw[World.frozen?,hl];simp
theorem St.grow (h:St w0 L w) (q:Nat) (os:Array Obj):St w0 L (Sort.grow (Sort.ahead w q) os):=h.below_step (Lib.below_grow w.heap.size w (Nat.le_refl _) q os)
theorem St.sorted (hk:∀x,(cf x).length=k) (h:St w0 (SL E k cf (.slice (some ⟨g,0,none⟩) n cap) xs::R) w) (hl:ys.length=xs.length) (q:Nat) (os:Array Obj):
 St w0 (SL E k cf (.slice (some ⟨g,0,none⟩) n cap) ys::R) (Sort.grow (putRowK cf k (Sort.ahead w q) g 0 ys.toArray) os):=by
 obtain⟨rfl,h2,h3,cur,h4,h5,h6⟩:=SL_open h
 have hlk:=h6.look.2
 have hle:xs.length *k≤cap *k:=Nat.mul_le_mul_right _ h2
 have hup:St w0 (blk g (.cells (putCells id 0 (flatK cf k ys.toArray) cur) E (0,0))::R) (putRowK cf k (Sort.ahead w q) g 0 ys.toArray):=by
  refine h6.upd rfl rfl rfl (by simp[putRowK]) ?_ ?_
  ·simp[putRowK,putRow,mapBlock,Array.getElem?_modify,hlk,onCells]
  ·intro b hb
   simp[putRowK,putRow,mapBlock,Array.getElem?_modify,Ne.symm hb]
 have hs:(putCells id 0 (flatK cf k ys.toArray) cur).size=cap *k:=by simp[putCells,h4]
 have hr:=SL_mk (cf:=cf) (sz:=k) (xs:=ys) hup (by omega) h3 hs ?_
 ·rw[hl]at hr
  exact hr.grow 0 os
 ·apply List.ext_getElem?
  intro j
  rw[List.getElem?_take]
  by_cases hj:j<ys.length *k
  ·rw[if_pos hj,flatK_get hk ys j hj]
   have hjc:j<cur.size:=by rw[h4];rw[hl]at hj;omega
   simp[putCells,hjc,hj]
  ·rw[if_neg hj,List.getElem?_eq_none (by rw[flatC_len hk];omega)]
end
section
variable {P:Program} {ρ:Ren} {α:Type} [Inhabited α]
def LessAt (P:Program) (f:Nat) (cf:α→List Value) (k:Nat) (lt:α→α→Bool) (Bs:Nat):Prop:=
 ∀(W:World) (g n c:Nat) (dk:Array α),dk.size=n→W.cell? ⟨Bs,0,none⟩=some (.slice (some ⟨g,0,none⟩) n c)→HoldsK cf k W g 0 dk→∀i j:Nat,i<n→j<n→
  Calls P f #[.int .i64 i,.int .i64 j,.pointer (some ⟨Bs,0,none⟩)] W fun e w'=>e=.returned (.bool (lt dk[i]! dk[j]!))∧∃q,w'=W.drewN q
end
end WB
/- the house: opened; its names sorted -/
namespace WB
open Go Go.RowKit
section
variable {κ:Type} [DecidableEq κ] {kv:κ→Value} {kd:TypeDesc}
variable {P:Program} {ops:Array Oper} {d:Bool} {Q:Exit→Act→World→Prop} {n:Nat} {D:List Deferred} {w0:World} {G:Env} {L R:List HP} {l:List (Kd×Oper)} {k:Kd}
 {ty T KT E:TypeId} {pos:String} {af:Array Edge} {x y u:Operand} {v:Value} {b:Nat} {m:List (κ×Value)}
theorem KO.ins (K:KeyLaw kd kv) (s:κ) (hk:(!d||k== .write)=true) (hx:ev G x=some (.map (some b))) (hy:ev G y=some (kv s)) (hu:ev G u=some v) (hT:P.underlying T=some (.map KT E)) (hK:P.underlying KT=some kd) (hp:Pick L (omapK kv b m) R)
 (h:KO P ops d Q n D w0 G (omapK kv b (putK m s v)::R) l):KO P ops d Q n D w0 G L ((k,⟨none,.insert T x y u,ty,pos,af,none⟩)::l):=
 KO.wrRun hk (fun a w ha hw=>by
  obtain⟨w',hr,hs⟩:=omapK_put (P:=P) K (hw.pick hp) hT hK s v
  exact⟨w',by simp[execOp,ha.eval hx,ha.eval hy,ha.eval hu,hr],hs⟩) h
end
theorem fam_nils {α β:Type} {f:α→β→HP} {w0 w:World} {L:List HP} {p:α} {x:β} (hf:∀L,St w0 L w→St w0 (f p x::L) w) (n:Nat) (h:St w0 L w):St w0 (fam f (List.replicate n p) (List.replicate n x)::L) w:=by
 refine fam_of ?_
 induction n with
 |zero=>exact h
 |succ n ih=>exact hf _ ih
def hNew (id:Int):Ho:=⟨id,0,false,-1,0,[],[(deadS,⟨[],0⟩)],List.replicate 4 ⟨[],0⟩,List.replicate 5 ⟨[],[]⟩,List.replicate 4 [],List.replicate 4 0,List.replicate 4 0⟩
theorem hNew_B {id:Int} (h:0≤id∧id<4):HoB 10 (hNew id):=by
 refine⟨h,by simp[hNew],by simp[hNew],sorted_nil,by simp[hNew],by simp[hNew],fun q hq=>?_,by simp[hNew],rfl,rfl,rfl,rfl,rfl,(fun x hx=>by simp[hNew]at hx),(fun x hx=>by simp[hNew]at hx),⟨fun l hl=>by simp[hNew]at hl;subst hl;simp,fun x hx=>by simp[hNew]at hx;subst hx;omega,fun x hx=>by simp[hNew]at hx;subst hx;omega⟩⟩
 have :q=⟨[],0⟩:=by simp[hNew,Ho.all]at hq;exact hq
 subst this
 exact QB.nil
structure Same (H H':Ho):Prop where
 id:H'.id=H.id
 used:H'.used=H.used
 down:H'.down=H.down
 torn:H'.torn=H.torn
 units:H'.units=H.units
 batch:H'.batch=H.batch
 sent:H'.sent=H.sent
 arrived:H'.arrived=H.arrived
theorem Same.refl (H:Ho):Same H H:=⟨rfl,rfl,rfl,rfl,rfl,rfl,rfl,rfl⟩
theorem Same.trans {A B C:Ho} (h:Same A B) (g:Same B C):Same A C:=⟨g.id.trans h.id,g.used.trans h.used,g.down.trans h.down,g.torn.trans h.torn,g.units.trans h.units,g.batch.trans h.batch,g.sent.trans h.sent,g.arrived.trans h.arrived⟩
theorem hset_same (H:Ho) (x:Nm):Same H (hset H x):=by unfold hset;split<;>exact⟨rfl,rfl,rfl,rfl,rfl,rfl,rfl,rfl⟩
theorem hput1_same {H H1:Ho} {m:Ms} (h:hput1 H m=some H1):Same H H1:=by
 unfold hput1 at h
 dsimp only at h
 split at h
 ·simp only[Option.some.injEq]at h;subst h;exact⟨rfl,rfl,rfl,rfl,rfl,rfl,rfl,rfl⟩
 ·split at h
  ·cases h
  ·simp only[Option.some.injEq]at h;subst h;exact⟨rfl,rfl,rfl,rfl,rfl,rfl,rfl,rfl⟩
theorem hputs_same:∀(l:List Ms) (H:Ho),Same H (hputs H l).1
 |[],H=>.refl H
 |m::l,H=>by
  unfold hputs
  cases hp:hput1 H m with
  |none=>exact⟨rfl,rfl,rfl,rfl,rfl,rfl,rfl,rfl⟩
  |some H1=>exact(hput1_same hp).trans (hputs_same l H1)
theorem hget1_same {H H1:Ho} {s:ByteArray} (h:hget1 H s=some H1):Same H H1:=by
 unfold hget1 at h
 split at h
 ·cases h
 ·split at h
  ·cases h
  ·split at h
   ·simp only[Option.some.injEq]at h;subst h;exact⟨rfl,rfl,rfl,rfl,rfl,rfl,rfl,rfl⟩
   ·cases h
theorem hgets_same:∀(l:List ByteArray) (H:Ho),Same H (hgets H l).1
 |[],H=>.refl H
 |s::l,H=>by
  unfold hgets
  cases hp:hget1 H s with
  |none=>exact .refl H
  |some H1=>exact(hget1_same hp).trans (hgets_same l H1)
theorem hends_same (H:Ho) (s:ByteArray):Same H (hends H s).1:=by
 unfold hends
 split
 ·exact .refl H
 ·split
  ·exact .refl H
  ·rename_i l hl
   split
   ·exact hputs_same l H
   ·split
    ·exact hputs_same l H
    ·exact(hputs_same l H).trans (hgets_same _ _)
structure SameP (H H':Ho):Prop where
 id:H'.id=H.id
 used:H'.used=H.used
 down:H'.down=H.down
 torn:H'.torn=H.torn
 units:H'.units=H.units
theorem SameP.refl (H:Ho):SameP H H:=⟨rfl,rfl,rfl,rfl,rfl⟩
theorem SameP.trans {A B C:Ho} (h:SameP A B) (g:SameP B C):SameP A C:=⟨g.id.trans h.id,g.used.trans h.used,g.down.trans h.down,g.torn.trans h.torn,g.units.trans h.units⟩
theorem Same.p {H H':Ho} (h:Same H H'):SameP H H':=⟨h.id,h.used,h.down,h.torn,h.units⟩
theorem hmade_same (H:Ho) (s:ByteArray):SameP H (hmade H s).1:=by
 unfold hmade
 split
 ·split
  ·exact⟨rfl,rfl,rfl,rfl,rfl⟩
  ·exact .refl H
 ·exact .refl H
theorem hknown_same (H:Ho) (s:ByteArray):SameP H (hknown H s).1:=by
 unfold hknown
 split
 ·split
  ·exact⟨rfl,rfl,rfl,rfl,rfl⟩
  ·exact .refl H
 ·exact .refl H
theorem hcomes_same:∀(l:List (Ms×ByteArray)) (H:Ho),SameP H (hcomes H l).1
 |[],H=>.refl H
 |(m,t)::l,H=>by
  unfold hcomes
  split
  ·exact .refl H
  ·rename_i i _
   exact SameP.trans (B:=H.setQ i (qpush (H.qAt i) m (-1))) ⟨rfl,rfl,rfl,rfl,rfl⟩ (hcomes_same l _)
theorem hcame_same (H:Ho) (s:ByteArray):SameP H (hcame H s).1:=by
 unfold hcame
 split
 ·rename_i a b c _
  split
  ·rename_i k l _ _
   split
   ·split
    ·have h1:=hcomes_same (l.zip (pcs 43 c)) H
     exact⟨h1.id,h1.used,h1.down,h1.torn,h1.units⟩
    ·exact hcomes_same _ H
   ·exact .refl H
  ·exact .refl H
 ·exact .refl H
theorem hplays_same (H:Ho) (s:ByteArray):SameP H (hplays H s).1:=by
 unfold hplays
 split
 ·split
  ·exact .refl H
  ·exact(hset_same H _).p
 ·split
  ·exact⟨rfl,rfl,rfl,rfl,rfl⟩
  ·split
   ·exact(hends_same H _).p
   ·split
    ·exact hmade_same H _
    ·split
     ·exact hknown_same H _
     ·split
      ·exact hcame_same H _
      ·exact .refl H
def openN (D:Dk):Nat→Ho→Ho
 |0,H=>H
 |f+1,H=>match openS (H.used:Nat) (D.places.getD H.used ⟨#[]⟩)with
  |none=>H
  |some s=>if(hplays H s).2=false then(hplays H s).1 else openN D f {(hplays H s).1 with used:=H.used+1}
def openH (id:Int) (D:Dk):Ho:=openN D 300 (hNew id)
structure DkOk (D:Dk):Prop where
 len:D.places.length=300
 left: -4000000000000000000≤D.left∧D.left≤9223372036854775807
 size:∀t∈D.places,t.size≤800000
 recs:∀(k:Nat) t s,D.places[k]? =some t→openS (k:Nat) t=some s→RecOk 250 s
theorem HoB.used' {n:Nat} {H:Ho} (h:HoB n H) {k:Nat} (hk:k≤300):HoB n {H with used:=k}:=⟨h.id,hk,h.next,h.sorted,h.nlen,h.qlen,h.qs,h.nodup,h.ways,h.units,h.batch,h.sent,h.arrived,h.right,h.loc,h.ext⟩
theorem HoB.torn' {n:Nat} {H:Ho} (h:HoB n H) (k:Int):HoB n {H with torn:=k}:=⟨h.id,h.used,h.next,h.sorted,h.nlen,h.qlen,h.qs,h.nodup,h.ways,h.units,h.batch,h.sent,h.arrived,h.right,h.loc,h.ext⟩
theorem openN_B2 {D:Dk} (hD:DkOk D):∀(f:Nat) (H:Ho),H.used+f≤300→HoB (10+250*H.used) H→HoB (260+250*(openN D f H).used) (openN D f H)
 |0,H,hu,h=>h.le (by simp only[openN];omega)
 |f+1,H,hu,h=>by
  unfold openN
  obtain⟨t,ht⟩:∃t,D.places[H.used]? =some t:=⟨_,List.getElem?_eq_getElem (by rw[hD.len];omega)⟩
  have e:D.places.getD H.used ⟨#[]⟩=t:=by rw[List.getD_eq_getElem?_getD,ht];rfl
  rw[e]
  split
  ·exact h.le (by omega)
  ·rename_i s hs
   have hr:=hD.recs _ t s ht hs
   have h1:=h.plays hr (by omega)
   split
   ·exact h1.le (by rw[(hplays_same H s).used];omega)
   ·have h2:=(h1.used' (k:=H.used+1) (by omega)).le (k:=10+250*(H.used+1)) (by omega)
    exact openN_B2 hD f _ Y47 h2
theorem openH_B2 {id:Int} (h:0≤id∧id<4) {D:Dk} (hD:DkOk D):HoB (260+250*(openH id D).used) (openH id D):=openN_B2 hD 300 _ (by simp[hNew]) ((hNew_B h).le (by omega))
def keptAt (H:Ho) (s:ByteArray):List Ms:=match H.qI s with
 |some i=>qkept (H.qAt i)
 |none=>[]
def thereE (H:Ho) (s:ByteArray):Int:=match H.qI s with
 |none=>7
 |some _=>if s≠deadS∧localB H.names s=false then 7 else 0
def thereL (H:Ho) (s:ByteArray):List Ms:=if thereE H s=0 then qthere (H.qAt ((H.qI s).getD 0))else[]
theorem openN_same (D:Dk):∀(f:Nat) (H:Ho),(openN D f H).id=H.id∧(openN D f H).down=H.down∧(openN D f H).torn=H.torn∧(openN D f H).units=H.units
 |0,H=>⟨rfl,rfl,rfl,rfl⟩
 |f+1,H=>by
  unfold openN
  split
  ·exact⟨rfl,rfl,rfl,rfl⟩
  ·rename_i s hs
   have h:=hplays_same H s
   split
   ·exact⟨h.id,h.down,h.torn,h.units⟩
   ·obtain⟨a,b,c,d⟩:=openN_same D f {(hplays H s).1 with used:=H.used+1}
    exact⟨a.trans h.id,b.trans h.down,c.trans h.torn,d.trans h.units⟩
def sortB (xs:List ByteArray):List ByteArray:=((xs.map (·.data.toList)).mergeSort fun x y=>decide (x≤y)).map toB
theorem sortB_perm (xs:List ByteArray):(sortB xs).Perm xs:=by
 unfold sortB
 refine((List.mergeSort_perm _ _).map toB).trans ?_
 rw[List.map_map]
 have :toB∘(fun x:ByteArray=>x.data.toList)=id:=by funext x;simp[toB]
 rw[this,List.map_id]
section
open Go.Sort Go.Shelf Go.Proofs
variable {w0 w:World} {L R:List HP} {E:TypeId} {xs ys:List ByteArray} {v:Value} {g n cap:Nat}
def cfL (l:List UInt8):List Value:=[encStr l]
def cfS (s:ByteArray):List Value:=[.string s]
theorem SL_str (E:TypeId) (v:Value) (xs:List ByteArray):SL E 1 cfS v xs=SL E 1 cfL v (xs.map (·.data.toList)):=by
 unfold SL
 rw[List.length_map,List.flatMap_map]
 rfl
theorem flatK_one (d:Array (List UInt8)) (j:Nat) (hj:j<d.size):(flatK cfL 1 d)[j]! =encStr d[j]! :=by
 rw[get_flatK _ _ _ _ (by omega),Nat.div_one,Nat.mod_one];rfl
theorem putRow_one (w:World) (g:Nat) (d:Array (List UInt8)):putRow encStr w g 0 d=putRowK cfL 1 w g 0 d:=by
 unfold putRowK putRow
 congr 1
 funext c
 unfold putCells
 congr 1
 funext k x
 have :(flatK cfL 1 d).size=d.size:=by simp
 rw[this]
 by_cases h:0≤k∧k<0+d.size
 ·rw[if_pos h,if_pos h,Nat.sub_zero,flatK_one d k (by omega)];rfl
 ·rw[if_neg h,if_neg h]
theorem holds_one {d:Array (List UInt8)} (h:HoldsK cfL 1 w g 0 d):Holds encStr w g 0 d:=fun j hj=>by
 have :=h j (by simpa using hj)
 rw[flatK_one d j hj]at this
 exact this
theorem sortStr_c {P:Program} {f:FuncId} (h0:∀(p:Option Addr) (cap:Nat) (w:World),Calls P f #[.slice p 0 cap] w fun e w'=>e=.returned (.tuple #[])∧w'=w)
 (h1:∀(blk off cap:Nat) (ss:List (List UInt8)) (w:World),Holds encStr w blk off ss.toArray→blk<w.heap.size→ss.length<4611686018427387904→
  Calls P f #[.slice (some ⟨blk,off,none⟩) ss.length cap] w fun e w'=>e=.returned (.tuple #[])∧∃n os,w'=Go.Sort.grow (putRow encStr (Go.Sort.ahead w n) blk off (ss.mergeSort fun x y=>decide (x≤y)).toArray) os)
 (w0:World) (L:List HP) (v:Value) (xs:List ByteArray) (hl:xs.length<1000000):
 KC P f #[v] w0 (SL E 1 cfS v xs::L) (fun u M=>u=.tuple #[]∧M=SL E 1 cfS v (sortB xs)::L):=fun w hw=>by
 obtain⟨a,cap,rfl,ha⟩:=SL_form hw
 by_cases hz:xs=[]
 ·subst hz
  refine(h0 a cap w).mono ?_
  rintro e w' ⟨rfl,rfl⟩
  exact⟨_,_,rfl,⟨rfl,rfl⟩,by rw[show sortB []=[]by simp[sortB]];exact hw⟩
 ·have hlen:0<xs.length:=List.length_pos_iff.2 hz
  obtain⟨g,rfl⟩:=ha hlen
  rw[SL_str]at hw
  have hH:=holds_one (holdsK_of (cf:=cfL) (fun _=>rfl) hw)
  obtain⟨-,-,-,cur,-,-,h6⟩:=SL_open hw
  have hlt:=h6.lt
  have hc:=h1 g 0 cap (xs.map (·.data.toList)) w hH hlt Y29
  rw[List.length_map]at hc
  refine hc.mono ?_
  rintro e w' ⟨rfl,q,os,rfl⟩
  refine⟨_,_,rfl,⟨rfl,rfl⟩,?_⟩
  rw[putRow_one]
  have hs:=St.sorted (cf:=cfL) (fun _=>rfl) hw (ys:=(xs.map (·.data.toList)).mergeSort fun x y=>decide (x≤y)) (by simp) q os
  rw[SL_str]
  have e:(sortB xs).map (·.data.toList)=(xs.map (·.data.toList)).mergeSort fun x y=>decide (x≤y):=by
   unfold sortB
   rw[List.map_map]
   have :(fun x:ByteArray=>x.data.toList)∘toB=id:=by funext l;simp[toB]
   rw[this,List.map_id]
  rw[e]
  exact hs
end
end WB
/- house: Open, Torn, Used -/
namespace Go.Proofs.YtjhogocabcdjbabGreatDoor
open Go Go.RowKit WB
def nR:List Value:=List.replicate 14 (.slice none 0 0)++List.replicate 8 (.int .i64 0)
def nC (id:Int) (bd mb:Nat) (ps:List Nat):List Value:=
 [.int .i64 id,ptrV bd,.int .i64 0,.bool false,.int .i64 (-1),.int .i64 0,.slice none 0 0,.map (some mb)]++(ps.map ptrV++(List.replicate (4-ps.length) (.pointer none)++nR))
theorem nC_set {id:Int} {bd mb:Nat} {ps:List Nat} (p:Nat) (h:ps.length<4):(nC id bd mb ps).set (8+ps.length) (ptrV p)=nC id bd mb (ps++[p])∧(nC id bd mb ps).length=34:=by
 match ps,h with
 |[],_=>exact⟨rfl,rfl⟩
 |[a],_=>exact⟨rfl,rfl⟩
 |[a,b],_=>exact⟨rfl,rfl⟩
 |[a,b,c],_=>exact⟨rfl,rfl⟩
theorem hoP_new {w0 w:World} {L:List HP} {id:Int} {bh bd mb p0:Nat} {ps:List Nat} (h4:ps.length=4)
 (h:St w0 (blk bh (.cells (nC id bd mb ps).toArray 133 (0,0))::fam quP ps (List.replicate 4 ⟨[],0⟩)::quP p0 ⟨[],0⟩::omapK Value.string mb [(deadS,ptrV p0)]::L) w):St w0 (hoP bh bd (hNew id)::L) w:=by
 have h1:=fam_snoc (f:=quP) (ps:=ps) (xs:=List.replicate 4 ⟨[],0⟩) (p:=p0) (x:=⟨[],0⟩) (by simpa using h4) (h.all (M:=quP p0 ⟨[],0⟩::fam quP ps (List.replicate 4 ⟨[],0⟩)::blk bh (.cells (nC id bd mb ps).toArray 133 (0,0))::omapK Value.string mb [(deadS,ptrV p0)]::L) Y3)
 have h2:=fam_nils (f:=putsS) (p:=.slice none 0 0) (x:=[]) (fun L h=>SL_nil (E:=142) (sz:=6) (cf:=putC) h) 5 h1
 have h3:=fam_nils (f:=getsS) (p:=.slice none 0 0) (x:=[]) (fun L h=>SL_nil (E:=146) (sz:=2) (cf:=gotC) h) 5 h2
 have h5:=fam_nils (f:=batS) (p:=.slice none 0 0) (x:=[]) (fun L h=>roS_nil h) 4 h3
 have h6:=SL_nil (E:=75) (sz:=3) (cf:=Nm.cells) h5
 refine hoP_mk ⟨.slice none 0 0,mb,ps++[p0],List.replicate 5 (.slice none 0 0,.slice none 0 0),List.replicate 4 (.slice none 0 0)⟩ ⟨by simp[hNew,h4],rfl,rfl,rfl,rfl,rfl,rfl,rfl⟩ ?_
 match ps,h4 with
 |[a,b,c,d],_=>exact h6.all Y7
set_option maxRecDepth 100000 in
set_option maxHeartbeats 4000000 in
theorem hopen_c (w0:World) (L:List HP) (bd:Nat) (id:Int) (D:Dk) (hT:Tab w0) (hM:Lim w0) (hid:0≤id∧id<4) (hD:DkOk D):
 KC Tryz.prog 11 #[.int .i64 id,ptrV bd] w0 (dkP bd D::L) (fun u M=> ∃bh,u=.tuple #[ptrV bh,.nilIface]∧M=hoP bh bd (openH id D)::dkP bd D::L):=by
 have hlen:=hD.len
 refine KC.mk (n:=79) Tryz.func11 rfl Tryz.ntmps11 (by simp) ?_
 refine Z3 ?_
 refine Z166 ?_
 refine Z39 ?_
 refine Z286 ?_
 refine Z83 ?_
 refine K.condF rfl Y57 ?_
 refine Z117 ?_
 refine KO.eqPn rfl Tryz.underlying25 rfl ?_
 refine Z7 ?_
 refine Z63 ?_
 refine Z62 ?_
 refine Z72 ?_
 refine KO.mkm (Value.string) rfl rfl ?_;intro b24
 refine Z245 ?_
 refine KO.box rfl rfl Y68 rfl ?_;intro b26
 refine KO.ins strKey deadS rfl rfl rfl rfl Tryz.underlying123 Tryz.underlying9 Y11 ?_
 refine Z1 ?_
 refine KO.bldN (pl:=[(0,1),(1,1),(2,1),(3,1),(4,1),(5,1),(6,1),(7,1),(8,4),(12,10),(22,4),(26,4),(30,4)]) rfl Tryz.zeroValue133 Tryz.runUnderlying133 (by intro w;simp[Tryz.sizeOf3,Tryz.sizeOf4,Tryz.sizeOf25,Tryz.sizeOf94,Tryz.sizeOf95,Tryz.sizeOf123,Tryz.sizeOf125,Tryz.sizeOf126,Tryz.sizeOf131]) Y68 rfl ?_
 refine KO.box rfl rfl Y68 rfl ?_;intro b29
 refine Z28 ?_
 refine Z15 ?_
 refine K.loop (fun k:List Nat=>[(1,ptrV bd),(6,ptrV b29),(30,.int .i64 (k.length:Nat))])
  (fun k=>blk b29 (.cells (nC id bd b24 k).toArray 133 (0,0))::fam quP k (List.replicate k.length ⟨[],0⟩)::quP b26 ⟨[],0⟩::omapK Value.string b24 [(deadS,ptrV b26)]::dkP bd D::L) (fun k=>k.length≤4) (fun k=>4-k.length) []
  (by simp) ⟨rfl,rfl,rfl,trivial⟩ (fun w h=>?_) ?_
 ·have h1:=SL_nil (E:=243) (sz:=8) (cf:=itC) h
  have h2:St w0 (quP b26 ⟨[],0⟩::blk b29 (.cells (nC id bd b24 []).toArray 133 (0,0))::omapK Value.string b24 [(deadS,ptrV b26)]::dkP bd D::L) w:=quP_mk (h1.all Y7)
  exact(fam_nil (f:=quP) h2).all Y7
 rintro ps hk
 refine Z111 ?_
 refine K.condD rfl (fun h7=>?_) (fun h7=>?_)
 ·have hk4:ps.length<4:=by omega
  refine Z229 ?_
  refine Z83 ?_
  refine Z72 ?_
  refine Z245 ?_
  refine KO.box rfl rfl Y68 rfl ?_;intro b36
  refine Z49 ?_
  refine Z211 ?_
  refine KO.idxA (i:=ps.length) rfl rfl Tryz.runUnderlying126 Tryz.sizeOf119 rfl (by omega) rfl ?_
  refine KO.stAt (b:=b29) (i:=8+ps.length) rfl rfl rfl Y68 (by exact Tryz.sizeOf119) rfl Y11 Y31 (by rw[(nC_set 0 hk4).2];omega) ?_;rw[show Value.pointer (some ⟨b36,0,none⟩)=ptrV b36 from rfl,(nC_set b36 hk4).1]
  refine Z132 ?_
  refine KQ.round (ps++[b36]) Y61 Y61 ⟨rfl,rfl,by simp[envAt],trivial⟩ (fun w h=>?_)
  have h1:=SL_nil (E:=243) (sz:=8) (cf:=itC) h
  have h2:St w0 (quP b36 ⟨[],0⟩::fam quP ps (List.replicate ps.length ⟨[],0⟩)::blk b29 (.cells (nC id bd b24 (ps++[b36])).toArray 133 (0,0))::quP b26 ⟨[],0⟩::omapK Value.string b24 [(deadS,ptrV b26)]::dkP bd D::L) w:=quP_mk (h1.all Y7)
  have h3:=fam_snoc (by simp) h2
  rw[List.length_append,List.length_singleton,List.replicate_succ']
  exact h3.all Y3
 have hk4:ps.length=4:=by omega
 repeat(first|(with_reducible refine K.seq ?_)|(with_reducible refine KQ.next ?_)|(with_reducible refine KQ.then_exit ?_)|(with_reducible refine KQ.blk_exit ?_)|(with_reducible refine K.exit ?_)|(with_reducible refine K.block ?_))
 refine K.conv (L':=hoP b29 bd (hNew id)::dkP bd D::L) (fun w h=>hoP_new hk4 (by rw[hk4]at h;exact h)) ?_
 refine K.loop (fun p:Nat×Ho=>[(1,ptrV bd),(6,ptrV b29)]) (fun p=>hoP b29 bd p.2::dkP bd D::L) (fun p=>p.1≤300∧p.2.used=p.1∧HoB (10+250*p.1) p.2∧openN D (300-p.1) p.2=openH id D) (fun p=>300-p.1) (0,hNew id)
  ⟨Nat.zero_le _,rfl,hNew_B hid,rfl⟩ ⟨rfl,rfl,trivial⟩ (fun _ h=>h) ?_
 rintro⟨j,H⟩ ⟨hj,hju,hB,hop⟩
 dsimp only at hj hju hB hop ⊢
 have fin:∀w',St w0 (hoP b29 bd (openH id D)::dkP bd D::L) w'→∃v L',Ending.returned (.tuple #[ptrV b29,.nilIface])=Ending.returned v∧(∃bh,v=.tuple #[ptrV bh,.nilIface]∧L'=hoP bh bd (openH id D)::dkP bd D::L)∧St w0 L' w':=fun w' hs'=>⟨_,_,rfl,⟨b29,rfl,rfl⟩,hs'⟩
 refine K.open' (fun _ h=>hoP_open (h.pick Y21)) ?_
 rintro⟨V,hV⟩
 dsimp only
 refine Z3 ?_
 refine Z26 ?_
 refine Z87 ?_
 refine Z215 ?_
 refine K.condD rfl (fun h11=>?_) (fun h11=>?_)
 ·have hj3:j<300:=by omega
  obtain⟨t,ht⟩:∃t,D.places[H.used]? =some t:=⟨_,List.getElem?_eq_getElem (by omega)⟩
  have htz:=hD.size t (List.mem_of_getElem? ht)
  have hcell:=dkC_place ht
  have hg:D.places.getD H.used ⟨#[]⟩=t:=by rw[List.getD_eq_getElem?_getD,ht];rfl
  obtain⟨f,hf⟩:∃f,300-j=f+1:=⟨299-j,by omega⟩
  rw[hf,openN,hg]at hop
  refine Z10 ?_
  refine K.draw [.pure,.pure,.pure,.read,.pure,.pure,.pure,.pure,.read,.pure,.pure,.pure,.read,.keep,.pure,.pure,.pure,.pure,.pure] [0,1,2,3,4,5,6,7,8,9,10,11,12,13,14,15,16,17,18] Y62 Y62 ?_
  refine Z26 ?_
  refine Z87 ?_
  refine Z217 ?_
  refine Z87 ?_
  refine Z49 ?_
  refine KO.fo0 (off:=0) rfl Tryz.runUnderlying28 rfl rfl Tryz.sizeOf26 rfl ?_
  refine KO.idxA (i:=H.used) rfl rfl Tryz.runUnderlying26 Tryz.sizeOf9 rfl (by omega) rfl ?_
  refine KO.ldAt (b:=bd) (cs:=dkC D) (i:=H.used) rfl rfl Tryz.isAgg9 (.tail (.tail (.tail (.tail (.tail (.tail (.tail .head))))))) Y31 hcell rfl ?_
  refine KO.ce (cp:=[]) rfl rfl rfl Tryz.call52 rfl (opened_e w0 _ (H.used:Nat) t ⟨by omega,by omega⟩ htz hT hM) ?_;rintro v' L' ⟨rfl,rfl⟩
  refine Z178 ?_
  refine K.conv (L':=hoP b29 bd H::dkP bd D::L) (fun w h=>hoP_mk V hV (h.all Y23)) ?_
  cases hso:openS (H.used:Nat) t with
  |none=>
   rw[hso]at hop
   replace hop:H=openH id D:=hop
   refine Z185 ?_
   refine Z179 ?_
   refine Z168 ?_
   refine Z195 ?_
   rw[hop]
   refine Z8 ?_
   refine Z192 ?_
   refine KQ.ret2 rfl rfl rfl (fun w' hs'=>fin w' hs')
  |some s=>
   rw[hso]at hop
   have hr:=hD.recs _ t s ht hso
   have hB2:=(hB.plays hr (by omega)).le (show 10+250*j+250≤10+250*(j+1)by omega)
   have hsm:=hplays_same H s
   refine Z205 ?_
   refine Z1 ?_
   refine KO.on rfl rfl rfl ?_;refine KO.cl (cp:=[]) rfl rfl rfl Tryz.call53 rfl (KC.pk1 Y21 (hplays_c w0 _ b29 bd (10+250*j) 250 H s hT hM hB hr (by omega))) ?_;rintro v' L' ⟨rfl,rfl⟩
   refine Z236 ?_
   refine Z2 ?_
   cases hpl:(hplays H s).2 with
   |false=>
    simp only[hpl,if_true]at hop
    refine Z275 ?_
    refine Z195 ?_
    rw[hop]
    refine Z8 ?_
    refine Z192 ?_
    refine KQ.ret2 rfl rfl rfl (fun w' hs'=>fin w' (hs'.all Y23))
   |true=>
    simp only[hpl,Bool.true_eq_false,if_false]at hop
    refine Z295 ?_
    generalize hH2:(hplays H s).1=H2 at hop hB2 hsm
    refine Z102 ?_
    refine K.open' (fun _ h=>hoP_open (h.pick Y21)) ?_
    rintro⟨V2,hV2⟩
    dsimp only
    have hu2:H2.used=H.used:=hsm.used
    refine Z120 ?_
    refine Z87 ?_
    refine Z353 ?_
    refine Z221 ?_
    refine KO.stAt (i:=2) rfl rfl rfl Y68 Y45 rfl Y21 rfl (by rw[hoC_len hV2];omega) ?_;rw[show(hoC bd V2 H2).set 2 (.int .i64 ((H2.used:Nat)+1:Int))=hoC bd V2 {H2 with used:=H2.used+1}from rfl]
    refine Z44 ?_
    refine KQ.round (j+1,{H2 with used:=H2.used+1}) ⟨by dsimp only;omega,by dsimp only;omega,(hB2.used' (by omega)),?_⟩ Y47 ⟨rfl,rfl,trivial⟩ (fun w h=>?_)
    ·dsimp only
     rw[show 300-(j+1)=f by omega,hu2];exact hop
    ·exact hoP_mk V2 ⟨hV2.ps,hV2.us,hV2.bs,hV2.ways,hV2.units,hV2.batch,hV2.sent,hV2.arrived⟩ (h.all Y30)
 ·have hj3:j=300:=by omega
  subst hj3
  rw[Nat.sub_self,openN]at hop
  refine Z9 ?_
  refine K.conv (L':=hoP b29 bd H::dkP bd D::L) (fun w h=>hoP_mk V hV (h.all Y23)) ?_
  rw[hop]
  refine Z8 ?_
  refine Z192 ?_
  refine KQ.ret2 rfl rfl rfl (fun w' hs'=>fin w' hs')
theorem htorn_c (w0:World) (L:List HP) (bh bd:Nat) (H:Ho) (n:Int):KC Tryz.prog 19 #[ptrV bh,.int .i64 n] w0 (hoP bh bd H::L) (fun u M=>u=.tuple #[]∧M=hoP bh bd {H with torn:=n}::L):=by
 refine KC.mk (n:=8) Tryz.func19 rfl Tryz.ntmps19 (by simp) ?_
 refine K.open' (fun _ h=>hoP_open h) ?_
 rintro⟨V,hV⟩
 dsimp only
 refine Z171 ?_
 refine KO.fo0 (off:=4) rfl Tryz.runUnderlying133 rfl rfl Tryz.sizeOf3 rfl ?_
 refine KO.stAt (i:=4) rfl rfl rfl Y68 Y45 rfl Y21 rfl Y34 ?_;rw[show(hoC bd V H).set 4 (.int .i64 n)=hoC bd V {H with torn:=n}from rfl]
 refine KO.nil ?_
 refine KQ.end0 rfl (fun w' hs'=>⟨_,_,rfl,⟨rfl,rfl⟩,hoP_mk V ⟨hV.ps,hV.us,hV.bs,hV.ways,hV.units,hV.batch,hV.sent,hV.arrived⟩ (hs'.all Y30)⟩)
end Go.Proofs.YtjhogocabcdjbabGreatDoor
/- house: Kept, There -/
namespace Go.Proofs.YtjhogocabcdjbabGreatDoor
open Go Go.RowKit WB
theorem mapE_key {V:HoV} {H:Ho} (hV:HoVL V H) {r:Nat} {x:ByteArray×Qu} (hx:H.queues[r]? =some x):∃v,(mapE V H).getD r default=(x.1,v):=by
 have hps:=hV.ps
 have hr:=(List.getElem?_eq_some_iff.1 hx).1
 obtain⟨p,hp⟩:∃e,V.ps[4+r]? =some e:=⟨_,List.getElem?_eq_getElem (by omega)⟩
 refine⟨ptrV p,?_⟩
 unfold mapE mEnt
 rw[List.getD_eq_getElem?_getD,List.getElem?_zipWith,hx,List.getElem?_drop,hp]
 rfl
set_option maxRecDepth 100000 in
set_option maxHeartbeats 2000000 in
theorem hkept0 (N M:Nat) (hNM:M *N≤900000000) (hM1:M≤800000) (hN1:N≤800000) (w0:World) (L:List HP) (bh bd n:Nat) (H:Ho) (hB:HoB n H) (hn:n≤N) (hq0:H.queues.length≤M):
 KC Tryz.prog 20 #[ptrV bh] w0 (hoP bh bd H::L) (fun u M=> ∃ns:List ByteArray,ns.Perm (H.queues.map (·.1))∧M=SL 44 5 msC u ((sortB ns).flatMap (keptAt H))::hoP bh bd H::L):=by
 have hql:=hB.qlen
 refine KC.mk (n:=40) Tryz.func20 rfl Tryz.ntmps20 (by simp) ?_
 refine Z53 ?_
 refine K.open' (fun _ h=>hoP_open h) ?_
 rintro⟨V,hV⟩
 dsimp only
 have hps:=hV.ps
 refine Z231 ?_
 refine Z135 ?_
 refine Z232 ?_
 refine Z29 ?_
 refine KO.rng rfl rfl Tryz.underlying123 Y11 rfl ?_;intro r12
 refine Z15 ?_
 refine K.loop (fun p:List Nat×List Nat×Value×Option (ByteArray×Value)=>[(0,ptrV bh),(3,p.2.2.1),(12,.pointer (some ⟨r12,0,none⟩))])
  (fun p=>SL 9 1 cfS p.2.2.1 (p.2.1.map fun r=>(H.queues.getD r (⟨#[]⟩,default)).1)::itK Value.string V.mb r12 (mapE V H) (p.1.map fun r=>(mapE V H).getD r default) p.2.2.2::blk bh (.cells (hoC bd V H).toArray 133 (0,0))::nmS V.nv H.names::fam quP V.ps H.all::fam putsS (V.us.map (·.1)) (H.units.map (·.puts))::fam getsS (V.us.map (·.2)) (H.units.map (·.gets))::fam batS V.bs H.batch::L)
  (fun p=>(p.2.1++p.1).Perm (List.range H.queues.length)) (fun p=>p.1.length) (List.range H.queues.length,[],.slice none 0 0,none)
  (by simp) ⟨rfl,rfl,rfl,trivial⟩ (fun _ h=>?_) ?_
 ·have h1:=SL_nil (E:=9) (sz:=1) (cf:=cfS) h
  have e1:(List.range H.queues.length).map (fun r=>(mapE V H).getD r default)=mapE V H:=by
   have hl:(mapE V H).length=H.queues.length:=by unfold mapE mEnt;rw[List.length_zipWith,List.length_drop];omega
   rw[←hl]
   apply List.ext_getElem
   ·simp
   ·intro i h1 h2;simp[List.getD_eq_getElem?_getD,List.getElem?_eq_getElem h2]
  dsimp only
  rw[e1]
  exact h1.all Y30
 rintro⟨rest,done,v,cur⟩ hperm
 dsimp only at hperm ⊢
 have hdl:done.length≤M:=by have :=hperm.length_eq;simp at this;omega
 refine Z3 ?_
 refine KO.nxt rfl rfl Y11 rfl (fun h0=>?_) (fun i e he=>?_)
 refine Z187 ?_
 refine Z0 ?_
 have hrest:rest=[]:=by simpa using h0
 subst hrest
 rw[List.append_nil]at hperm
 have hns:(done.map fun r=>(H.queues.getD r (⟨#[]⟩,default)).1).Perm (H.queues.map (·.1)):=by
  refine(hperm.map _).trans ?_
  have :(List.range H.queues.length).map (fun r=>(H.queues.getD r (⟨#[]⟩,default)).1)=H.queues.map (·.1):=by
   apply List.ext_getElem
   ·simp
   ·intro i h1 h2
    simp only[List.length_map]at h2
    simp[List.getD_eq_getElem?_getD,List.getElem?_eq_getElem h2]
  rw[this]
 generalize hgn:(done.map fun r=>(H.queues.getD r (⟨#[]⟩,default)).1)=ns at hns
 have hnsl:ns.length≤M:=by rw[←hgn,List.length_map];exact hdl
 have hsl:(sortB ns).length=ns.length:=(sortB_perm ns).length_eq
 have hsm:∀s∈sortB ns,∃i,H.qI s=some i:=fun s hs=>by
  have h1:s∈H.queues.map (·.1):=hns.mem_iff.1 ((sortB_perm ns).mem_iff.1 hs)
  cases hq:H.qI s with
  |some i=>exact⟨i,rfl⟩
  |none=>
   rw[qI_fst,List.findIdx?_eq_none_iff]at hq
   have :=hq s h1
   simp at this
 refine Z295 ?_
 refine Z274 ?_
 refine KO.cl (cp:=[]) rfl rfl rfl Tryz.call66 rfl (KC.pk1 (.tail .head) (sortStr_c (E:=9) Tryz.slices_Sort_string_none Tryz.slices_Sort_string w0 _ v ns (by omega))) ?_;rintro v' L' ⟨rfl,rfl⟩
 refine Z0 ?_
 refine K.fact (fun w hw=>SL_form (E:=9) (sz:=1) (cf:=cfS) (hw.pick .head)) ?_
 rintro⟨ad,cap,rfl,had⟩
 refine Z231 ?_
 refine Z28 ?_
 refine Z347 ?_
 refine K.loop (fun p:Nat×Value=>[(0,ptrV bh),(5,p.2),(23,.slice ad (sortB ns).length cap),(24,.int .i64 ((sortB ns).length:Nat)),(25,.int .i64 (p.1:Nat))])
  (fun p=>SL 44 5 msC p.2 (((sortB ns).take p.1).flatMap (keptAt H))::SL 9 1 cfS (.slice ad (sortB ns).length cap) (sortB ns)::omapK Value.string V.mb (mapE V H)::blk bh (.cells (hoC bd V H).toArray 133 (0,0))::nmS V.nv H.names::fam quP V.ps H.all::fam putsS (V.us.map (·.1)) (H.units.map (·.puts))::fam getsS (V.us.map (·.2)) (H.units.map (·.gets))::fam batS V.bs H.batch::L) (fun p=>p.1≤(sortB ns).length∧(((sortB ns).take p.1).flatMap (keptAt H)).length≤p.1 *N) (fun p=>(sortB ns).length-p.1) (0,.slice none 0 0)
  ⟨Nat.zero_le _,by simp⟩ ⟨rfl,rfl,rfl,rfl,rfl,trivial⟩ (fun _ h=>?_) ?_
 ·have h1:=SL_nil (E:=44) (sz:=5) (cf:=msC) h
  exact h1.all Y30
 rintro⟨k,v5⟩ ⟨hk,hkl⟩
 dsimp only at hk hkl ⊢
 refine Z111 ?_
 refine K.condD rfl (fun h9=>?_) (fun h9=>?_)
 ·obtain⟨s,hs⟩:∃e,(sortB ns)[k]? =some e:=⟨(sortB ns)[k],List.getElem?_eq_getElem (by omega)⟩
  obtain⟨ag,rfl⟩:=had (by omega)
  obtain⟨i,hi⟩:=hsm s (List.mem_of_getElem? hs)
  have hil:=(qI_lt hi).1
  have hg:=mapE_get hV s
  obtain⟨p,hp⟩:∃p,V.ps[4+i]? =some p:=⟨_,List.getElem?_eq_getElem (by omega)⟩
  rw[hi]at hg
  simp only[Option.bind_some,hp,Option.map_some]at hg
  have hka:keptAt H s=qkept (H.qAt i):=by unfold keptAt;rw[hi]
  have hqn:=(hB.qa hil).len
  have hkn:(qkept (H.qAt i)).length≤N:=by
   unfold qkept
   have :=List.length_filter_le (fun e:It=>decide (e.put<0)) (H.qAt i).l
   rw[List.length_map];omega
  have hk3:k *N+N≤900000000:=by have :=Nat.mul_le_mul_right N (show k+1≤M by omega);rw[Nat.succ_mul]at this;omega
  refine Z254 ?_
  refine KO.ldE0 rfl rfl Tryz.isAgg9 Y11 (fun _=>rfl) Y63 Y68 Y68 rfl ?_
  refine Z83 ?_
  refine Z171 ?_
  refine Z210 ?_
  refine KO.ldAt (i:=7) rfl rfl Tryz.isAgg123 Y11 rfl rfl rfl ?_
  refine Z1 ?_
  refine KO.lkm strKey s rfl rfl rfl Tryz.underlying123 Tryz.underlying9 Tryz.zeroValue119 Y11 rfl ?_;rw[hg]
  refine KO.ce (cp:=[]) rfl rfl rfl Tryz.call67 rfl (KE.famE1 (A:=fun v=>SL 44 5 msC v (qkept (H.qAt i))) (φ:=fun _=>True) hp (all_q hV.ways hil) Y11 (fun L=>(kept_e w0 _ L p (H.qAt i) .head (by omega)).turn (by rintro v M rfl;exact⟨_,⟨trivial,rfl⟩,fun _ h=>h⟩))) ?_;rintro vk L' ⟨-,rfl⟩
  refine KO.appS (cf:=msC) (z:=Value.agg #[.int .i64 0,.int .i64 0,.string ⟨#[]⟩,.string ⟨#[]⟩,.int .i64 0]) (sz:=5) (by':=56) (xs:=((sortB ns).take k).flatMap (keptAt H)) (ys:=qkept (H.qAt i)) rfl rfl rfl (.tail (.tail .head)) (fun w hw=>Src.of (E:=44) (sz:=5) (cf:=msC) .head w hw) Tryz.underlying49 Y62 rfl (fun _=>rfl) (fun _=>rfl) (by omega) (by decide) rfl ?_;intro v37
  refine Z234 ?_
  refine KQ.round (k+1,v37) ⟨by dsimp only;omega,?_⟩ Y47 ⟨rfl,rfl,rfl,rfl,rfl,trivial⟩ (fun _ h=>?_)
  ·dsimp only
   rw[take_succ_some hs,List.flatMap_append,List.length_append]
   simp only[List.flatMap_cons,List.flatMap_nil,List.append_nil,hka,Nat.succ_mul]
   omega
  ·dsimp only
   rw[take_succ_some hs,List.flatMap_append]
   simp only[List.flatMap_cons,List.flatMap_nil,List.append_nil,hka]
   exact h.all Y5
 have hkk:k=(sortB ns).length:=by omega
 subst hkk
 rw[List.take_length]
 refine Z274 ?_
 refine Z33 ?_
 refine KQ.ret1 rfl rfl (fun w' hs'=>⟨_,_,rfl,⟨ns,hns,rfl⟩,?_⟩)
 exact(hoP_mk V hV (hs'.all (M:=hoX bh bd V H (SL 44 5 msC v5 ((sortB ns).flatMap (keptAt H))::L)) Y1)).all Y3
 obtain⟨r,hr,rfl⟩:∃r,rest[i]? =some r∧(mapE V H).getD r default=e:=by
  rw[List.getElem?_map]at he
  cases hr:rest[i]? with
  |none=>rw[hr]at he;cases he
  |some r=>rw[hr]at he;exact⟨r,rfl,by simpa using he⟩
 have hrl:r<H.queues.length:=by
  have :r∈List.range H.queues.length:=hperm.mem_iff.1 (List.mem_append_right _ (List.mem_of_getElem? hr))
  simpa using this
 obtain⟨x,hx⟩:∃e,H.queues[r]? =some e:=⟨_,List.getElem?_eq_getElem hrl⟩
 have hxe:(H.queues.getD r (⟨#[]⟩,default)).1=x.1:=by rw[List.getD_eq_getElem?_getD,hx];rfl
 obtain⟨pv,hs0⟩:=mapE_key hV hx
 rw[hs0]
 refine Z187 ?_
 refine Z0 ?_
 refine Z275 ?_
 refine Z145 ?_
 refine KO.ent rfl rfl Y21 rfl ?_
 refine Z187 ?_
 refine Z83 ?_
 refine Z72 ?_
 refine KO.bs1 (z:=(Value.string ⟨#[]⟩)) (sz:=1) (by':=16) rfl rfl Tryz.underlying115 Y62 Y68 Y68 (by decide) (by decide) rfl ?_;intro b19
 refine KO.app (cf:=cfS) (z:=Value.string ⟨#[]⟩) (sz:=1) (by':=16) (xs:=done.map fun r=>(H.queues.getD r (⟨#[]⟩,default)).1) rfl rfl rfl (.tail (.tail .head)) .head Tryz.underlying115 str_info rfl x.1 rfl rfl rfl Y61 (by decide) rfl ?_;intro v20
 refine Z7 ?_
 refine Z44 ?_
 refine KQ.round (rest.eraseIdx i,done++[r],v20,some (x.1,pv)) ?_ ?_ ⟨rfl,rfl,rfl,trivial⟩ (fun _ h=>?_)
 ·dsimp only
  refine List.Perm.trans ?_ hperm
  rw[List.append_assoc]
  refine(List.Perm.refl done).append ?_
  obtain⟨hi,rfl⟩:=List.getElem?_eq_some_iff.1 hr
  exact perm_erase hi
 ·dsimp only
  have hi:=(List.getElem?_eq_some_iff.1 hr).1
  rw[List.length_eraseIdx,if_pos hi];omega
 ·dsimp only
  rw[List.map_append,←map_erase,List.map_cons,List.map_nil,hxe]
  exact h.all Y30
theorem hkeptq_c (w0:World) (L:List HP) (bh bd n:Nat) (H:Ho) (hB:HoB n H) (hn:n≤80000) (hq0:H.queues.length≤1000):
 KC Tryz.prog 20 #[ptrV bh] w0 (hoP bh bd H::L) (fun u M=> ∃ns:List ByteArray,ns.Perm (H.queues.map (·.1))∧M=SL 44 5 msC u ((sortB ns).flatMap (keptAt H))::hoP bh bd H::L):=
 hkept0 80000 1000 (by decide) (by decide) (by decide) w0 L bh bd n H hB hn hq0
end Go.Proofs.YtjhogocabcdjbabGreatDoor
/- house: There -/
namespace Go.Proofs.YtjhogocabcdjbabGreatDoor
open Go Go.RowKit WB
set_option maxRecDepth 100000 in
theorem hthere_c (w0:World) (L:List HP) (bh bd n:Nat) (H:Ho) (s:ByteArray) (hB:HoB n H) (hn:n≤80000):
 KC Tryz.prog 28 #[ptrV bh,.string s] w0 (hoP bh bd H::L) (fun u M=> ∃v,u=.tuple #[v,errV 70 (thereE H s)]∧M=SL 44 5 msC v (thereL H s)::hoP bh bd H::L):=by
 have hnl:=hB.nlen
 have hso:=hB.sorted
 have ends:thereE H s=7→∀w',St w0 (hoP bh bd H::L) w'→∃v L',Ending.returned (.tuple #[.slice none 0 0,errV 70 7])=Ending.returned v∧(∃u,v=.tuple #[u,errV 70 (thereE H s)]∧L'=SL 44 5 msC u (thereL H s)::hoP bh bd H::L)∧St w0 L' w':=fun he w' hs'=>by
  refine⟨_,_,rfl,⟨_,by rw[he],rfl⟩,?_⟩
  unfold thereL
  rw[if_neg (by rw[he];decide)]
  exact SL_nil hs'
 refine KC.mk (n:=34) Tryz.func28 rfl Tryz.ntmps28 (by simp) ?_
 refine Z53 ?_
 refine K.open' (fun _ h=>hoP_open h) ?_
 rintro⟨V,hV⟩
 dsimp only
 have hps:=hV.ps
 have hg:=mapE_get hV s
 refine Z231 ?_
 refine Z7 ?_
 refine Z21 ?_
 cases hq:H.qI s with
 |none=>
  have he:thereE H s=7:=by unfold thereE;rw[hq]
  rw[hq]at hg
  refine Z326 ?_
  refine KO.lkmOk strKey s rfl rfl rfl Tryz.underlying123 Tryz.underlying9 Tryz.zeroValue119 Y11 rfl ?_;rw[hg]
  refine Z106 ?_
  refine Z70 ?_
  refine Z131 ?_
  refine Z155 ?_
  refine Z155 ?_
  refine Z330 ?_
  refine Z45 ?_
  refine Z2 ?_
  refine K.condT rfl (by simp) ?_
  refine Z169 ?_
  refine KQ.ret2 rfl rfl rfl (fun w' hs'=>ends he w' (hoP_mk V hV (hs'.all Y23)))
 |some i=>
 have hil:=(qI_lt hq).1
 obtain⟨p,hp⟩:∃p,V.ps[4+i]? =some p:=⟨_,List.getElem?_eq_getElem (by omega)⟩
 rw[hq]at hg
 simp only[Option.bind_some,hp,Option.map_some]at hg
 have heq:thereE H s=if s≠deadS∧localB H.names s=false then 7 else 0:=by unfold thereE;rw[hq]
 refine Z326 ?_
 refine KO.lkmOk strKey s rfl rfl rfl Tryz.underlying123 Tryz.underlying9 Tryz.zeroValue119 Y11 rfl ?_;rw[hg]
 refine Z178 ?_
 refine K.cut (fun _:Unit=>[(0,ptrV bh),(6,ptrV p),(30,.bool (decide (s≠deadS∧localB H.names s=false)))]) (fun _=>hoX bh bd V H L) (fun _=>True) ?_ ?_
 ·by_cases hsd:s=deadS
  ·have hsd2:s=⟨#[100,101,97,100]⟩:=hsd
   have hsd3:(!decide (s=⟨#[100,101,97,100]⟩))=false:=by rw[hsd2];rfl
   clear hsd
   refine Z344 ?_
   refine Z316 ?_
   refine Z136 ?_
   refine Z136 ?_
   refine KO.no rfl rfl hsd3 rfl ?_
   refine KO.no rfl rfl Y63 rfl ?_
   refine Z57 ?_
   refine KO.pickF rfl ?_ rfl rfl ?_
   (focus assumption)
   refine Z27 ?_
   refine KO.nil ?_
   exact KQ.mid () trivial ⟨rfl,rfl,by simp[hsd2,deadS,envAt],trivial⟩ (fun w' hs'=>hs')
  ·have hsd2:¬s=⟨#[100,101,97,100]⟩:=hsd
   refine Z344 ?_
   refine Z316 ?_
   refine Z303 ?_
   refine Z1 ?_
   refine Z303 ?_
   refine Z49 ?_
   refine Z303 ?_
   refine Z98 ?_
   refine Z303 ?_
   refine Z1 ?_
   refine KO.on rfl rfl (by simp[hsd2]) ?_;refine KO.ce (cp:=[]) rfl rfl rfl Tryz.call57 rfl (local_e w0 _ _ _ bh 6 (hoC bd V H) 133 V.nv H.names s Y21 Y21 rfl (by omega) hso) ?_;rintro v' L' ⟨rfl,rfl⟩
   refine Z303 ?_
   refine Z70 ?_
   refine Z57 ?_
   refine KO.pickT rfl ?_ rfl rfl ?_
   (focus(simp_all;done))
   refine Z27 ?_
   refine KO.nil ?_
   exact KQ.mid () trivial ⟨rfl,rfl,by simp[hsd,envAt],trivial⟩ (fun w' hs'=>hs')
 rintro⟨⟩-
 refine K.condD rfl (fun h4=>?_) (fun h4=>?_)
 ·have he:thereE H s=7:=by rw[heq,if_pos h4]
  refine Z169 ?_
  refine KQ.ret2 rfl rfl rfl (fun w' hs'=>ends he w' (hoP_mk V hV hs'))
 have he:thereE H s=0:=by rw[heq,if_neg h4]
 have hql:=(hB.qa hil).len
 have htl:thereL H s=qthere (H.qAt i):=by unfold thereL;rw[if_pos he,hq];rfl
 refine Z273 ?_
 refine KO.ce (cp:=[]) rfl rfl rfl Tryz.call80 rfl (KE.famE1 (A:=fun v=>SL 44 5 msC v (qthere (H.qAt i))) (φ:=fun _=>True) hp (all_q hV.ways hil) Y11 (fun L=>(there_e w0 _ L p (H.qAt i) .head (by omega)).turn (by rintro v M rfl;exact⟨_,⟨trivial,rfl⟩,fun _ h=>h⟩))) ?_;rintro vk L' ⟨-,rfl⟩
 refine Z192 ?_
 refine KQ.ret2 rfl rfl rfl (fun w' hs'=>⟨_,_,rfl,⟨vk,by rw[he];rfl,rfl⟩,?_⟩)
 rw[htl]
 exact(hoP_mk V hV (hs'.all (M:=hoX bh bd V H (SL 44 5 msC vk (qthere (H.qAt i))::L)) Y3)).all Y3
end Go.Proofs.YtjhogocabcdjbabGreatDoor
/- a house as a bag of messages: each with its queue, the unit that puts it, the unit that takes it -/
namespace WB
open Go
structure En where
 j:Nat
 m:Ms
 put:Int
 got:Int
def enOf (j:Nat) (e:It):En:=⟨j,e.m,e.put,e.got⟩
def ent (j:Nat) (l:List It):List En:=l.map (enOf j)
def vw (l:List Qu):List En:=l.zipIdx.flatMap fun x=>ent x.2 x.1.l
def vr (l:List Qu) (j:Nat):List En:=(l.zipIdx.eraseIdx j).flatMap fun x=>ent x.2 x.1.l
theorem perm_take {α:Type}:∀{l:List α} {i:Nat} {x:α},l[i]? =some x→l.Perm (x::l.eraseIdx i)
 |[],i,x,h=>by simp at h
 |a::l,0,x,h=>by simp at h;subst h;exact .refl _
 |a::l,i+1,x,h=>((perm_take (l:=l) Y56).cons a).trans (.swap _ _ _)
theorem perm_set {α:Type}:∀{l:List α} {i:Nat} {x:α} (y:α),l[i]? =some x→(l.set i y).Perm (y::l.eraseIdx i)
 |[],i,x,y,h=>by simp at h
 |a::l,0,x,y,h=>.refl _
 |a::l,i+1,x,y,h=>((perm_set (l:=l) y Y56).cons a).trans (.swap _ _ _)
theorem perm_flatMap {α β:Type} {f:α→List β} {l l':List α} (h:l.Perm l'):(l.flatMap f).Perm (l'.flatMap f):=by
 induction h with
 |nil=>exact .refl _
 |cons a _ ih=>rw[List.flatMap_cons,List.flatMap_cons];exact(List.Perm.refl _).append ih
 |swap a b l=>
  rw[List.flatMap_cons,List.flatMap_cons,List.flatMap_cons,List.flatMap_cons,←List.append_assoc,←List.append_assoc]
  exact List.perm_append_comm.append (.refl _)
 |trans _ _ h1 h2=>exact h1.trans h2
theorem vw_split {l:List Qu} {j:Nat} {q:Qu} (h:l[j]? =some q):(vw l).Perm (ent j q.l++vr l j):=by
 unfold vw vr
 have h1:l.zipIdx[j]? =some (q,j):=by rw[List.getElem?_zipIdx,h];simp
 exact perm_flatMap (perm_take h1)
theorem zipIdx_set (l:List Qu) (j:Nat) (q:Qu):(l.set j q).zipIdx=l.zipIdx.set j (q,j):=by
 apply List.ext_getElem?
 intro i
 rw[List.getElem?_zipIdx,List.getElem?_set,List.getElem?_set,List.getElem?_zipIdx,List.length_zipIdx]
 by_cases e:j=i
 ·subst e
  rw[if_pos rfl,if_pos rfl]
  split<;>simp
 ·rw[if_neg e,if_neg e]
theorem vr_set (l:List Qu) (j:Nat) (q:Qu):vr (l.set j q) j=vr l j:=by
 unfold vr
 rw[zipIdx_set,List.eraseIdx_set_eq]
theorem vw_set {l:List Qu} {j:Nat} {q:Qu} (q':Qu) (h:l[j]? =some q):(vw (l.set j q')).Perm (ent j q'.l++vr l j):=by
 have h1:(l.set j q')[j]? =some q':=by rw[List.getElem?_set_self (List.getElem?_eq_some_iff.1 h).1]
 have :=vw_split h1
 rwa [vr_set]at this
theorem vw_mem {l:List Qu} {e:En}:e∈vw l↔ ∃q,l[e.j]? =some q∧∃x∈q.l,e=enOf e.j x:=by
 unfold vw ent
 rw[List.mem_flatMap]
 constructor
 ·rintro⟨⟨q,j⟩,h1,h2⟩
  rw[List.mem_map]at h2
  obtain⟨x,hx,rfl⟩:=h2
  rw[List.mem_zipIdx_iff_getElem?]at h1
  exact⟨q,h1,x,hx,rfl⟩
 ·rintro⟨q,h1,x,hx,he⟩
  refine⟨(q,e.j),List.mem_zipIdx_iff_getElem?.2 h1,?_⟩
  rw[List.mem_map]
  exact⟨x,hx,he.symm⟩
theorem vw_push {l:List Qu} {j:Nat} {q:Qu} (m:Ms) (u:Int) (h:l[j]? =some q):(vw (l.set j (qpush q m u))).Perm (⟨j,m,max u (-1),-1⟩::vw l):=by
 refine(vw_set _ h).trans (List.Perm.trans ?_ (((vw_split h).symm).cons _))
 have h1:(qpush q m u).l.Perm (qitem q m u::q.l):=by
  unfold qpush
  dsimp only
  refine List.perm_middle.trans ?_
  rw[List.take_append_drop]
 have h2:=h1.map (enOf j)
 exact h2.append (.refl _)
theorem vw_erase {l:List Qu} {j k:Nat} {q:Qu} {x:It} (h:l[j]? =some q) (hx:q.l[k]? =some x) (nx:Int):(vw l).Perm (enOf j x::vw (l.set j ⟨q.l.eraseIdx k,nx⟩)):=by
 refine(vw_split h).trans (List.Perm.trans ?_ ((vw_set _ h).symm.cons _))
 exact((perm_take hx).map (enOf j)).append (.refl _)
theorem vw_change {l:List Qu} {j k:Nat} {q:Qu} {x:It} (y:It) (h:l[j]? =some q) (hx:q.l[k]? =some x) (nx:Int):∃R,(vw l).Perm (enOf j x::R)∧(vw (l.set j ⟨q.l.set k y,nx⟩)).Perm (enOf j y::R):=by
 refine⟨ent j (q.l.eraseIdx k)++vr l j,?_,?_⟩
 ·exact(vw_split h).trans (((perm_take hx).map (enOf j)).append (.refl _))
 ·exact(vw_set _ h).trans (((perm_set y hx).map (enOf j)).append (.refl _))
def freeE (u:Int) (e:En):En:=⟨e.j,e.m,if e.put=u then -1 else e.put,if e.got=u then -1 else e.got⟩
theorem vw_ends {l:List Qu} {u:Int} (hu:0≤u):vw (l.map fun q=>qends q u true)=((vw l).filter fun e=> !decide (e.put=u)).map (freeE u):=by
 unfold vw
 rw[List.zipIdx_map,List.flatMap_map,List.filter_flatMap,List.map_flatMap]
 congr 1
 funext x
 unfold ent
 dsimp only[Prod.map]
 rw[show(qends x.1 u true).l=(x.1.l.filter fun e=> !endB u true e).map (freeIt u)by unfold qends;rw[if_neg (by omega)]]
 rw[List.map_map,List.filter_map,List.map_map]
 have :(fun e=> !endB u true e)=((fun e:En=> !decide (e.put=u))∘enOf x.2):=by
  funext e;unfold endB enOf;simp
 rw[this]
 rfl
def idE (e:En):Int:=e.m.id
def hv (H:Ho):List En:=vw H.all
def keptB (e:En):Bool:=decide (e.put<0)
def jmE (e:En):Nat×Ms:=(e.j,e.m)
def hk (H:Ho):List (Nat×Ms):=((hv H).filter keptB).map jmE
def keyJ (H:Ho) (s:ByteArray):Option Nat:=(H.qI s).map (4+ ·)
end WB
/- what a unit's record does to a house's bag -/
namespace WB
open Go
def keysOf (H:Ho):List ByteArray:=H.queues.map (·.1)
theorem qI_keys {H H':Ho} (h:keysOf H'=keysOf H) (s:ByteArray):H'.qI s=H.qI s:=by rw[qI_fst,qI_fst];unfold keysOf at h;rw[h]
theorem bag_q {n:Nat} {H:Ho} (hB:HoB n H) {i:Nat} (hi:i<H.queues.length):H.all[4+i]? =some (H.qAt i):=all_q hB.ways hi
theorem put1_bag {n:Nat} {H:Ho} (hB:HoB n H) {m:Ms} {i:Nat} (hm:m.house=H.id) (hq:H.qI m.queue=some i):∃H1,hput1 H m=some H1∧(hv H1).Perm (⟨4+i,m,-1,-1⟩::hv H)∧keysOf H1=keysOf H∧H1.names=H.names∧H1.ways=H.ways∧H1.next=max H.next (m.id/4+1)∧Same H H1:=by
 have hi:=(qI_lt hq).1
 let H0:Ho:={H with next:=max H.next (m.id/4+1)}
 refine⟨H0.setQ i (qpush (H0.qAt i) m (-1)),?_,?_,?_,rfl,rfl,rfl,⟨rfl,rfl,rfl,rfl,rfl,rfl,rfl,rfl⟩⟩
 ·unfold hput1
  dsimp only
  rw[if_neg (by rw[hm];simp)]
  rw[hq]
  rfl
 ·unfold hv
  rw[all_setQ (H:=H0) hB.ways]
  have :=vw_push (l:=H0.all) m (-1) (bag_q hB hi)
  exact this
 ·unfold keysOf;exact setQ_fst (H:=H0) i _
theorem nodup_inj {α β:Type} {f:α→β} {l:List α} (h:(l.map f).Nodup) {x y:α} (hx:x∈l) (hy:y∈l) (e:f x=f y):x=y:=by
 induction l with
 |nil=>cases hx
 |cons a l ih=>
  rw[List.map_cons,List.nodup_cons]at h
  rcases List.mem_cons.1 hx with h1|h1<;>rcases List.mem_cons.1 hy with h2|h2
  ·rw[h1,h2]
  ·exact absurd (by rw[←h1,e];exact List.mem_map_of_mem (f:=f) h2) h.1
  ·exact absurd (by rw[←h2,←e];exact List.mem_map_of_mem (f:=f) h1) h.1
  ·exact ih h.2 h1 h2
theorem filter_ne {l R:List En} {e:En} (h:(l.map idE).Nodup) (hp:l.Perm (e::R)):R.Perm (l.filter fun x=> !decide (idE x=idE e)):=by
 have h1:=hp.filter (fun x=> !decide (idE x=idE e))
 have h2:(e::R).filter (fun x=> !decide (idE x=idE e))=R:=by
  rw[List.filter_cons,if_neg (by simp)]
  rw[List.filter_eq_self]
  intro x hx
  have hn:=(hp.map idE).nodup_iff.1 h
  rw[List.map_cons,List.nodup_cons]at hn
  have :idE x≠idE e:=fun e2=>hn.1 (e2▸List.mem_map_of_mem (f:=idE) hx)
  simpa using this
 rw[h2]at h1
 exact h1.symm
theorem cut_got (g:Int×ByteArray):cutB 32 (gotT g)=(itoaS g.1,g.2,true):=by
 unfold gotT
 rw[show(sp:ByteArray)=chr1 32 from rfl]
 exact cutB_hit (itoa_noB _ (by decide)) _
theorem get1_bag {n:Nat} {H:Ho} (hB:HoB n H) {g:Int×ByteArray} (hg:0≤g.1∧g.1≤1099511627776∧wordB g.2=true) {i:Nat} (hq:H.qI g.2=some i) (hn:((hv H).map idE).Nodup) {e:En} (he:e∈hv H) (hj:e.j=4+i) (hid:idE e=g.1):
 ∃H1,hget1 H (gotT g)=some H1∧(hv H1).Perm ((hv H).filter fun x=> !decide (idE x=g.1))∧keysOf H1=keysOf H∧H1.names=H.names∧H1.ways=H.ways∧H1.next=H.next∧Same H H1:=by
 have hi:=(qI_lt hq).1
 obtain⟨q,h1,x,hx,hex⟩:=vw_mem.1 he
 rw[hj]at h1
 have h2:=bag_q hB hi
 rw[h2]at h1
 simp only[Option.some.injEq]at h1
 subst h1
 have hxid:x.m.id=g.1:=by rw[←hid,hex];rfl
 obtain⟨k,hk⟩:∃k,qtakeI (H.qAt i) g.1=some k:=by
  unfold qtakeI
  cases hf:(H.qAt i).l.findIdx? (idB g.1)with
  |some k=>exact⟨k,rfl⟩
  |none=>
   rw[List.findIdx?_eq_none_iff]at hf
   have :=hf x hx
   unfold idB at this
   simp[hxid]at this
 obtain⟨hkl,hkp,-⟩:=List.findIdx?_eq_some_iff_getElem.1 hk
 have hkx:(H.qAt i).l[k]? =some (H.qAt i).l[k]:=List.getElem?_eq_getElem hkl
 have hkid:((H.qAt i).l[k]).m.id=g.1:=by unfold idB at hkp;simpa using hkp
 refine⟨H.setQ i (qtake (H.qAt i) g.1),?_,?_,by unfold keysOf;exact setQ_fst i _,rfl,rfl,rfl,⟨rfl,rfl,rfl,rfl,rfl,rfl,rfl,rfl⟩⟩
 ·unfold hget1
  rw[cut_got]
  dsimp only
  rw[numO_itoa ⟨by omega,by omega⟩]
  dsimp only
  rw[hq]
  dsimp only
  rw[if_pos (by unfold qtakeE;rw[hk])]
 ·unfold hv
  rw[all_setQ hB.ways]
  have e1:qtake (H.qAt i) g.1=⟨(H.qAt i).l.eraseIdx k,(H.qAt i).next⟩:=by unfold qtake;rw[hk]
  rw[e1]
  have hp:=vw_erase (l:=H.all) h2 hkx (H.qAt i).next
  have :=filter_ne hn hp
  rw[show idE (enOf (4+i) (H.qAt i).l[k])=g.1 from hkid]at this
  exact this
theorem gets_bag {n:Nat}:∀(l:List (Int×ByteArray)) {H:Ho},HoB n H→((hv H).map idE).Nodup→(l.map (·.1)).Nodup→(∀g∈l,(0≤g.1∧g.1≤1099511627776∧wordB g.2=true)∧∃i,H.qI g.2=some i∧∃e∈hv H,e.j=4+i∧idE e=g.1)→
 ∃H1,hgets H (l.map gotT)=(H1,true)∧(hv H1).Perm ((hv H).filter fun x=> !decide (idE x∈l.map (·.1)))∧keysOf H1=keysOf H∧H1.names=H.names∧H1.ways=H.ways∧H1.next=H.next∧Same H H1∧HoB n H1
 |[],H,hB,_,_,_=>⟨H,rfl,by rw[List.filter_eq_self.2 (fun _ _=>by simp)],rfl,rfl,rfl,rfl,.refl _,hB⟩
 |g::l,H,hB,hn,hd,h=>by
  obtain⟨hr,i,hi,e,he,hj,hid⟩:=h g (by simp)
  obtain⟨H1,e1,p1,k1,n1,w1,x1,s1⟩:=get1_bag hB hr hi hn he hj hid
  have hB1:=hB.get1 e1
  rw[List.map_cons,List.nodup_cons]at hd
  have hn1:((hv H1).map idE).Nodup:=by
   refine(p1.map idE).nodup_iff.2 ?_
   exact hn.sublist (List.filter_sublist.map _)
  obtain⟨H2,e2,p2,k2,n2,w2,x2,s2,hB2⟩:=gets_bag l hB1 hn1 hd.2 fun g' hg'=>by
   obtain⟨hr',i',hi',e',he',hj',hid'⟩:=h g' (by simp[hg'])
   refine⟨hr',i',by rw[qI_keys k1];exact hi',e',?_,hj',hid'⟩
   rw[p1.mem_iff,List.mem_filter]
   refine⟨he',?_⟩
   have :idE e'≠g.1:=by rw[hid'];exact fun e=>hd.1 (e▸List.mem_map_of_mem (f:=(·.1)) hg')
   simpa using this
  refine⟨H2,?_,?_,k2.trans k1,n2.trans n1,w2.trans w1,x2.trans x1,s1.trans s2,hB2⟩
  ·rw[List.map_cons,hgets,e1];exact e2
  ·refine p2.trans ((p1.filter _).trans ?_)
   rw[List.filter_filter]
   refine List.Perm.of_eq (List.filter_congr fun x _=>?_)
   rw[List.map_cons]
   by_cases h1:idE x=g.1<;>by_cases h2:idE x∈l.map (·.1)<;>simp[h1,h2]
theorem pcs_joinS {c:UInt8}:∀{l:List ByteArray},l≠[]→(∀p∈l,noB c p)→pcs c (joinS l (chr1 c))=l
 |[],h,_=>absurd rfl h
 |[p],_,h=>by rw[joinS_one];exact pcs_free (h p (by simp))
 |p::q::l,_,h=>by
  rw[joinS_cons2,pcs_app (h p (by simp)),pcs_joinS (by simp) fun x hx=>h x Y67]
theorem gotT_noB {g:Int×ByteArray} (h:wordB g.2=true) {c:UInt8} (h1:c.toNat≠45∧(c.toNat<48∨57<c.toNat)) (h2:isLet c=false) (h3:c≠32):noB c (gotT g):=by
 unfold gotT
 refine noB_app (noB_app (itoa_noB _ h1) ?_) ?_
 ·exact fun b hb=>by simp[sp]at hb;subst hb;exact fun e=>h3 e.symm
 ·intro b hb e
  subst e
  have hw:=word_let h
  unfold allLet at hw
  rw[List.all_eq_true]at hw
  rw[hw b hb]at h2;cases h2
theorem gets_text {l:List (Int×ByteArray)} (h:∀g∈l,wordB g.2=true) (h0:l≠[]):joinS (l.map gotT) plus≠⟨#[]⟩∧pcs 43 (joinS (l.map gotT) plus)=l.map gotT:=by
 have h2:pcs 43 (joinS (l.map gotT) plus)=l.map gotT:=by
  rw[show(plus:ByteArray)=chr1 43 from rfl]
  refine pcs_joinS Y51 fun p hp=>?_
  obtain⟨g,hg,rfl⟩:=List.mem_map.1 hp
  exact gotT_noB (h g hg) (by decide) (by decide) (by decide)
 refine⟨fun e=>?_,h2⟩
 rw[e,show pcs 43 ⟨#[]⟩=[⟨#[]⟩]from pcs_free (fun b hb=>by simp at hb)]at h2
 match l,h0 with
 |g::l,_=>
  rw[List.map_cons,List.cons.injEq]at h2
  have :=congrArg ByteArray.size h2.1
  unfold gotT at this
  have h3:sp.size=1:=rfl
  simp only[ByteArray.size_append]at this
  have h4:(⟨#[]⟩:ByteArray).size=0:=rfl
  omega
end WB
/- what lies on a disk, and what a house that is opened has of it -/
namespace WB
open Go
inductive Plays:Ho→List ByteArray→Ho→Prop
 |nil (H:Ho):Plays H [] H
 |cons {H H1 H':Ho} {s:ByteArray} {R:List ByteArray} (h:hplays H s=(H1,true)) (t:Plays {H1 with used:=H.used+1} R H'):Plays H (s::R) H'
theorem Plays.snoc {H H' H1:Ho} {R:List ByteArray} {s:ByteArray} (h:Plays H R H') (hs:hplays H' s=(H1,true)):Plays H (R++[s]) {H1 with used:=H'.used+1}:=by
 induction h with
 |nil H=>exact .cons hs (.nil _)
 |cons e _ ih=>exact .cons e (ih hs)
theorem Plays.used {H H':Ho} {R:List ByteArray} (h:Plays H R H'):H'.used=H.used+R.length:=by
 induction h with
 |nil H=>rfl
 |cons e _ ih=>rw[ih];simp;omega
theorem Plays.same {H H':Ho} {R:List ByteArray} (h:Plays H R H'):H'.id=H.id∧H'.down=H.down∧H'.torn=H.torn∧H'.units=H.units:=by
 induction h with
 |nil H=>exact⟨rfl,rfl,rfl,rfl⟩
 | @cons H H1 H' s R e _ ih=>
  have :=hplays_same H s
  rw[e]at this
  obtain⟨a,b,c,d⟩:=ih
  exact⟨a.trans this.id,b.trans this.down,c.trans this.torn,d.trans this.units⟩
structure DkInv (D:Dk) (R:List ByteArray):Prop where
 len:D.places.length=300
 many:R.length≤300
 on:∀(k:Nat) s,R[k]? =some s→D.places[k]? =some (sealS (k:Nat) s)
 off:∀(k:Nat) t,R.length≤k→D.places[k]? =some t→openS (k:Nat) t=none
 size:∀t∈D.places,t.size≤800000
 recs:∀s∈R,RecOk 250 s∧noB 124 s
theorem DkInv.ok {D:Dk} {R:List ByteArray} (h:DkInv D R) (hl: -4000000000000000000≤D.left∧D.left≤9223372036854775807):DkOk D:=by
 refine⟨h.len,hl,h.size,fun k t s ht hs=>?_⟩
 rcases Nat.lt_or_ge k R.length with hk|hk
 ·have h1:=h.on k R[k] (List.getElem?_eq_getElem hk)
  rw[ht]at h1
  simp only[Option.some.injEq]at h1
  rw[h1,openS_seal (h.recs _ (List.getElem_mem hk)).2]at hs
  simp only[Option.some.injEq]at hs
  rw[←hs];exact(h.recs _ (List.getElem_mem hk)).1
 ·rw[h.off k t hk ht]at hs;cases hs
theorem open_go {D:Dk} {R:List ByteArray} (h:DkInv D R) {H H':Ho} {R2:List ByteArray} (hp:Plays H R2 H'):∀{pre:List ByteArray},R=pre++R2→H.used=pre.length→∀f,f+H.used=300→openN D f H=H':=by
 induction hp with
 |nil H=>
  intro pre he hu f hf
  rw[List.append_nil]at he
  subst he
  match f with
  |0=>rfl
  |f+1=>
   unfold openN
   obtain⟨t,ht⟩:∃t,D.places[H.used]? =some t:=⟨_,List.getElem?_eq_getElem (by rw[h.len];omega)⟩
   have e:D.places.getD H.used ⟨#[]⟩=t:=by rw[List.getD_eq_getElem?_getD,ht];rfl
   rw[e,h.off H.used t (by omega) ht]
 | @cons H H1 H' s R2 e hp ih=>
  intro pre he hu f hf
  have hm:=h.many
  have hl:R.length=pre.length+(R2.length+1):=by rw[he];simp
  have hk:R[H.used]? =some s:=by rw[he,List.getElem?_append_right (by omega),hu];simp
  obtain⟨f',rfl⟩:∃f',f=f'+1:=⟨f-1,by omega⟩
  unfold openN
  have ht:=h.on _ _ hk
  have e2:D.places.getD H.used ⟨#[]⟩=sealS (H.used:Nat) s:=by rw[List.getD_eq_getElem?_getD,ht];rfl
  have hs:s∈R:=List.mem_of_getElem? hk
  rw[e2,openS_seal (h.recs s hs).2]
  dsimp only
  rw[e]
  dsimp only
  rw[if_neg (by simp)]
  exact ih (pre:=pre++[s]) (by rw[he];simp) Y61 f' Y47
theorem open_plays {D:Dk} {R:List ByteArray} (h:DkInv D R) {id:Int} {H':Ho} (hp:Plays (hNew id) R H'):openH id D=H':=open_go h hp (pre:=[]) rfl rfl 300 rfl
theorem dkTorn_size (s:ByteArray) (torn:Int):(dkTorn s torn).size≤s.size:=by unfold dkTorn;simp;omega
theorem DkInv.cut {D:Dk} {R:List ByteArray} (h:DkInv D R) (n:Int):DkInv (dkCut D n) R:=⟨h.len,h.many,h.on,h.off,h.size,h.recs⟩
theorem DkInv.bad {D:Dk} {R:List ByteArray} (h:DkInv D R) {s:ByteArray} (hs:s.size≤700000) (hb:noB 124 s) {torn:Int} (ho:dkOff D=true) (hr:R.length<300):DkInv (dkWrite D R.length (sealS (R.length:Nat) s) torn) R:=by
 unfold dkWrite
 rw[if_pos ho]
 split
 ·rename_i ht
  refine⟨by simpa using h.len,h.many,fun k x hk=>?_,fun k t hk hx=>?_,fun t hx=>?_,h.recs⟩
  ·have :=(List.getElem?_eq_some_iff.1 hk).1
   dsimp only
   rw[List.getElem?_set_ne (by omega)]
   exact h.on k x hk
  ·dsimp only at hx
   rw[List.getElem?_set]at hx
   split at hx
   ·rename_i e
    subst e
    split at hx
    ·simp only[Option.some.injEq]at hx
     subst hx
     unfold dkTorn
     have h0:=sealS_size (R.length:Nat) s
     exact openS_torn hb (by omega)
    ·cases hx
   ·exact h.off k t hk hx
  ·dsimp only at hx
   rcases List.mem_or_eq_of_mem_set hx with h1|rfl
   ·exact h.size t h1
   ·have :=dkTorn_size (sealS (R.length:Nat) s) torn
    have :=sealS_le (k:=(R.length:Nat)) ⟨by omega,by omega⟩ hs
    omega
 ·exact h
theorem DkInv.good {D:Dk} {R:List ByteArray} (h:DkInv D R) {s:ByteArray} (hs:s.size≤700000) (hb:noB 124 s) (hrec:RecOk 250 s) {torn:Int} (ho:¬dkOff D=true) (hr:R.length<300):DkInv (dkWrite D R.length (sealS (R.length:Nat) s) torn) (R++[s]):=by
 unfold dkWrite
 rw[if_neg ho]
 have hl:=h.len
 refine⟨by simpa using h.len,by simp;omega,fun k x hk=>?_,fun k t hk hx=>?_,fun t hx=>?_,fun x hx=>?_⟩
 ·dsimp only
  rcases Nat.lt_or_ge k R.length with hlt|hge
  ·rw[List.getElem?_append_left hlt]at hk
   rw[List.getElem?_set_ne (by omega)]
   exact h.on k x hk
  ·have :=(List.getElem?_eq_some_iff.1 hk).1
   simp at this
   obtain rfl:k=R.length:=by omega
   rw[List.getElem?_append_right (Nat.le_refl _)]at hk
   simp at hk
   subst hk
   rw[List.getElem?_set_self (by omega)]
 ·dsimp only at hx
  simp at hk
  rw[List.getElem?_set_ne (by omega)]at hx
  exact h.off k t (by omega) hx
 ·dsimp only at hx
  rcases List.mem_or_eq_of_mem_set hx with h1|rfl
  ·exact h.size t h1
  ·have :=sealS_le (k:=(R.length:Nat)) ⟨by omega,by omega⟩ hs
   omega
 ·rcases List.mem_append.1 hx with hx|hx
  ·exact h.recs x hx
  ·simp at hx;subst hx;exact⟨hrec,hb⟩
theorem dkNew_inv:DkInv dkNew []:=by
 refine⟨List.length_replicate,by simp,fun k s h=>by simp at h,fun k t _ ht=>?_,fun t ht=>?_,fun s h=>by cases h⟩
 ·have :t=⟨#[]⟩:=List.eq_of_mem_replicate (List.mem_of_getElem? ht)
  subst this
  exact openS_nil _
 ·have :t=⟨#[]⟩:=List.eq_of_mem_replicate ht
  subst this;decide
theorem noB_let {c:UInt8} (h2:isLet c=false) {s:ByteArray} (h:allLet s=true):noB c s:=fun b hb e=>by
 subst e
 unfold allLet at h
 rw[List.all_eq_true]at h
 rw[h b hb]at h2;cases h2
theorem bar_rec {x:Unt} (h:UntOk x):noB 124 (recU x):=by
 rw[recU_eq]
 unfold recB
 refine noB_app (noB_app (noB_chr (by decide)) (noB_chr (by decide))) (noB_app (noB_app (noB_write (by decide) (by decide) (by decide) fun m hm=>?_) (noB_chr (by decide))) fun b hb=>?_)
 ·obtain⟨p,hp,rfl⟩:=List.mem_map.1 hm
  exact h.puts p hp
 ·rcases mem_joinS hb with hb|⟨y,hy,hb⟩
  ·simp[plus]at hb;subst hb;decide
  ·obtain⟨g,hg,rfl⟩:=List.mem_map.1 hy
   exact gotT_noB (h.gets g hg).2.2 (by decide) (by decide) (by decide) b hb
theorem bar_name {x:Nm} (h:rightNm x=true):noB 124 (nameR x):=by
 obtain⟨h1,h2,-,-⟩:=right_word h
 rw[nameR_eq]
 have hd:noB 124 (dash1 x.tgt):=by
  unfold dash1
  split
  ·exact noB_chr (by decide)
  ·rename_i h3
   rcases h2 with h2|h2
   ·exact noB_let (by decide) (word_let h2)
   ·exact absurd h2 h3
 exact noB_app (noB_app (noB_chr (by decide)) (noB_chr (by decide))) (noB_app (noB_app (noB_let (by decide) (word_let h1)) (noB_chr (by decide))) (noB_app (noB_app hd (noB_chr (by decide))) (itoa_noB _ (by decide))))
theorem UntOk.recK {x:Unt} (h:UntOk x) {k:Nat} (hk:x.puts.length≤k):RecOk k (recU x):=by
 have h1:=h.recO
 refine⟨h1.size,fun _ l hl=>?_,fun hk2=>?_⟩
 ·rw[cutB_recU,h.read]at hl
  simp only[Option.some.injEq]at hl
  subst hl
  simpa using hk
 ·rw[cutB_recU]at hk2
  exact absurd (show chr1 117=chr1 114 from hk2) (by decide)
theorem RecOk.mono {k m:Nat} {s:ByteArray} (h:RecOk k s) (hk:k≤m):RecOk m s:=⟨h.size,fun e l hl=>Nat.le_trans (h.many e l hl) hk,fun e a b c l h1 h2=>⟨Nat.le_trans (h.come e a b c l h1 h2).1 hk,(h.come e a b c l h1 h2).2⟩⟩
theorem hnameR_ok {x:Nm} (h:rightNm x=true):hnameR (x.name++chr1 32++(dash1 x.tgt++chr1 32++itoaS x.house))=some x:=by
 obtain⟨h1,h2,h5,h6⟩:=right_word h
 have hd:noB 32 (dash1 x.tgt):=by
  unfold dash1
  split
  ·exact noB_chr (by decide)
  ·rename_i h3
   rcases h2 with h2|h2
   ·exact noB_let (by decide) (word_let h2)
   ·exact absurd h2 h3
 unfold hnameR
 rw[pcs_app (noB_let (by decide) (word_let h1)),pcs_app hd,pcs_free (itoa_noB _ (by decide))]
 dsimp only
 rw[numO_itoa ⟨by omega,by omega⟩]
 have hda:dash (dash1 x.tgt)=x.tgt:=by
  unfold dash1
  split
  ·rename_i h3;rw[h3];decide
  ·rename_i h3
   unfold dash Lib.trimPrefix
   rw[if_neg]
   ·rfl
   ·rcases h2 with h2|h2
    ·have hl:=word_let h2
     unfold allLet at hl
     rw[List.all_eq_true]at hl
     intro hp
     cases ht:x.tgt.data.toList with
     |nil=>rw[ht]at hp;revert hp;decide
     |cons b r=>
      rw[ht]at hp
      have hb:(45:UInt8)=b:=by unfold Lib.hasPrefix at hp;simpa using hp
      have :=hl b (by rw[ht];simp)
      rw[←hb]at this
      revert this;decide
    ·exact absurd h2 h3
 rw[hda]
 rfl
theorem hplays_name {H:Ho} {x:Nm} (h:setErr H.names x=0):hplays H (nameR x)=(hset H x,true):=by
 unfold hplays
 rw[cutB_nameR]
 dsimp only
 rw[if_pos rfl,hnameR_ok (setErr_right h)]
 dsimp only
 unfold hsetE
 rw[h];rfl
theorem hplays_unit {H:Ho} (x:Unt):hplays H (recU x)=hends H (recB x):=by
 unfold hplays
 rw[cutB_recU]
 dsimp only
 rw[if_neg (by decide),if_neg (by decide),if_pos rfl]
end WB
/- a house and its disk, whatever units do: what holds all the time -/
namespace WB
open Go
structure UI (H:Ho) (u:Nat) (x:Unt) (c:Nat):Prop where
 many:x.puts.length+x.gets.length≤c
 puts:∀p∈x.puts,msRight p.1=true∧p.1.house=H.id∧∃i,H.qI p.1.queue=some i∧∃e∈hv H,e.j=4+i∧e.m=p.1∧e.put=(u:Int)
 pn:(x.puts.map fun p=>p.1.id).Nodup
 gets:∀g∈x.gets,wordB g.2=true∧∃i,H.qI g.2=some i∧∃e∈hv H,e.j=4+i∧idE e=g.1∧e.put<0∧e.got=(u:Int)
 gn:(x.gets.map (·.1)).Nodup
structure LInv (W:ByteArray→Prop) (id:Int) (c:Nat) (H H0:Ho) (D:Dk) (R:List ByteArray) (T:List Int) (P G:Nat→List Int):Prop where
 hid:H.id=id
 B:HoB (1000+250*c) H
 dk:DkInv D R
 rl:R.length≤3+c
 left: -(10+(c:Int))≤D.left∧D.left≤10
 pl:Plays (hNew id) R H0
 used:H.used=R.length
 names:H0.names=H.names
 keys:keysOf H0=keysOf H
 ways:(∀q∈H.ways,q.l=[])∧∀q∈H0.ways,q.l=[]
 free0:∀e∈hv H0,e.put= -1∧e.got= -1
 sim:(hk H).Perm ((hv H0).map jmE)
 nod:((hv H).map idE).Nodup
 lt:∀e∈hv H,0≤e.m.id∧e.m.id≤1099511627776∧e.m.id/4<H.next
 lt0:∀e∈hv H0,e.m.id/4<H0.next
 unit:∀(u:Nat) x,H.units[u]? =some x→UI H u x c∧(x.puts.map fun p=>p.1.id)=P u∧x.gets.map (·.1)=G u
 tn:T.Nodup
 te:T.Perm ((hk H).map (·.2.id))
 loc:∀s,W s→wordB s=true∧plR H s=(s,-1,0)
section
variable {W:ByteArray→Prop} {id:Int} {c:Nat} {H H0:Ho} {D:Dk} {R:List ByteArray} {T:List Int} {P G:Nat→List Int}
theorem hk_ids (H:Ho):(hk H).map (·.2.id)=((hv H).filter keptB).map idE:=by unfold hk;rw[List.map_map];rfl
theorem unit_set {us:List Unt} {u v:Nat} {x y:Unt} (hu:u<us.length) (h:(us.set u y)[v]? =some x):(v=u∧x=y)∨(v≠u∧us[v]? =some x):=by
 rw[List.getElem?_set]at h
 split at h
 ·rename_i e;simp only[hu,if_true,Option.some.injEq]at h;exact .inl ⟨e.symm,h.symm⟩
 ·rename_i e;exact .inr ⟨fun e2=>e e2.symm,h⟩
def upd (P:Nat→List Int) (u:Nat) (l:List Int):Nat→List Int:=fun v=>if v=u then l else P v
theorem uAt_of {u:Nat} (h:HoB c H) (hu:u<5):H.units[u]? =some (H.uAt u):=by
 unfold Ho.uAt
 rw[List.getD_eq_getElem?_getD,List.getElem?_eq_getElem (by rw[h.units];exact hu)];rfl
end
end WB
/- a house and its disk: units that are over, or taken back; the power; opened anew -/
namespace WB
open Go
section
variable {W:ByteArray→Prop} {id:Int} {c:Nat} {H H0:Ho} {D:Dk} {R:List ByteArray} {T:List Int} {P G:Nat→List Int}
def addT (T:List Int) (k:Int):List Int:=if k∈T then T else T++[k]
def delT (T:List Int) (k:Int):List Int:=T.filter fun x=> !decide (x=k)
def doneT (T p g:List Int):List Int:=g.foldl delT (p.foldl addT T)
theorem hEnds_hv (H:Ho) {u:Int} (hu:0≤u):hv (hEnds H u)=((hv H).filter fun e=> !decide (e.put=u)).map (freeE u):=by
 unfold hv
 rw[hEnds_all,vw_ends hu]
end
end WB
/- a house and its disk: a unit that is over -/
namespace WB
open Go
section
variable {W:ByteArray→Prop} {id:Int} {c:Nat} {H H0:Ho} {D:Dk} {R:List ByteArray} {T:List Int} {P G:Nat→List Int}
theorem dkOff_err {D:Dk}:dkErr D=0↔ ¬dkOff D=true:=by
 unfold dkErr
 split<;>simp_all
theorem dkWrite_left {D:Dk} {k:Nat} {s:ByteArray} {torn:Int}:(dkWrite D k s torn).left=if dkOff D=true then D.left else D.left-1:=by
 unfold dkWrite
 split
 ·split<;>rfl
 ·rfl
end
end WB
/- a house that has just been opened, and has its names -/
namespace WB
open Go
theorem HoB.name {n:Nat} {H:Ho} (h:HoB n H) (D:Dk) (x:Nm):HoB (n+1) (nameH H D x):=by
 unfold nameH
 split
 ·exact h.le (by omega)
 ·rename_i h1
  have hr:rightNm x=true:=by
   cases hr:rightNm x with
   |true=>rfl
   |false=>
    have :setErr H.names x≠0:=fun h0=>by rw[setErr_right h0]at hr;cases hr
    unfold namePE at h1
    rw[if_pos this]at h1
    exact absurd this h1
  unfold wrH
  split
  ·exact(h.log (D:=D)).plays (recOk_name hr) (by omega)
  ·exact(h.log (D:=D)).le (by omega)
theorem dkWrite_cut {D:Dk} {k:Nat} {s:ByteArray} {torn:Int}:(dkWrite D k s torn).cut=D.cut:=by
 unfold dkWrite
 split
 ·split<;>rfl
 ·rfl
theorem name_step {H:Ho} {D:Dk} {x:Nm} {R:List ByteArray} (hd:DkInv D R) (hc:D.cut=false) (hu:H.used=R.length) (hr:R.length<300) (hdn:H.down=false) (hs:setErr H.names x=0) (hn:x.name≠deadS):
 nameE H D x=0∧nameH H D x=hset {H with used:=H.used+1} x∧DkInv (nameD H D x) (R++[nameR x])∧(nameD H D x).cut=false∧(nameD H D x).left=D.left-1:=by
 have e1:namePE H x=0:=by unfold namePE;rw[if_neg (by simpa using hs),if_neg hn]
 have e2:roomE H=0:=by unfold roomE;rw[if_neg Y64,if_neg (by omega)]
 have ho:¬dkOff D=true:=by unfold dkOff;simp[hc]
 have e3:dkErr D=0:=dkOff_err.2 ho
 have e4:logE H D=0:=by unfold logE;rw[if_neg (by simpa using e2)];exact e3
 have e5:logH H D={H with used:=H.used+1}:=by unfold logH;rw[if_neg (by simpa using e2),if_neg (by simpa using e3)]
 have e6:nameD H D x=dkWrite D H.used (sealS H.used (nameR x)) H.torn:=by unfold nameD logD;rw[if_neg (by simpa using e1),if_neg (by simpa using e2)]
 have hright:=setErr_right hs
 have hrec:=recOk_name hright
 refine⟨by unfold nameE;rw[if_neg (by simpa using e1)];exact e4,?_,?_,?_,?_⟩
 ·unfold nameH wrH
  rw[if_neg (by simpa using e1),if_pos e4,e5,hplays_name (H:={H with used:=H.used+1}) hs]
 ·rw[e6,hu]
  exact hd.good (by have :=hrec.size;omega) (bar_name hright) (hrec.mono (by omega)) ho hr
 ·rw[e6,dkWrite_cut];exact hc
 ·rw[e6,dkWrite_left,if_neg ho]
def inS:ByteArray:=⟨#[105,110]⟩
def outS:ByteArray:=⟨#[111,117,116]⟩
def farS:ByteArray:=⟨#[102,97,114]⟩
def nms (j:Int) (i:Nat):Nm:=if i=0 then⟨inS,⟨#[]⟩,-1⟩else if i=1 then⟨outS,⟨#[]⟩,-1⟩else⟨farS,inS,j⟩
def nmH (j:Int) (s:Ho×Dk):Nat→Ho×Dk
 |0=>s
 |i+1=>(nameH (nmH j s i).1 (nmH j s i).2 (nms j i),nameD (nmH j s i).1 (nmH j s i).2 (nms j i))
def namedAt (id j:Int) (u:Nat) (ns:List Nm) (qs:List (ByteArray×Qu)):Ho:=⟨id,u,false,-1,0,ns,qs,List.replicate 4 ⟨[],0⟩,List.replicate 5 ⟨[],[]⟩,List.replicate 4 [],List.replicate 4 0,List.replicate 4 0⟩
def namedH (id j:Int):Ho:=namedAt id j 3 [⟨farS,inS,j⟩,⟨inS,⟨#[]⟩,-1⟩,⟨outS,⟨#[]⟩,-1⟩] [(deadS,⟨[],0⟩),(inS,⟨[],0⟩),(outS,⟨[],0⟩)]
def namedR (j:Int):List ByteArray:=[nameR (nms j 0),nameR (nms j 1),nameR (nms j 2)]
set_option maxRecDepth 20000 in
theorem named_all (id j:Int) (hj:0≤j∧j<4):
 (∀i,i<3→nameE (nmH j (hNew id,dkNew) i).1 (nmH j (hNew id,dkNew) i).2 (nms j i)=0)∧(nmH j (hNew id,dkNew) 3).1=namedH id j∧DkInv (nmH j (hNew id,dkNew) 3).2 (namedR j)∧(nmH j (hNew id,dkNew) 3).2.left= -3∧(nmH j (hNew id,dkNew) 3).2.cut=false:=by
 have s0:setErr (hNew id).names (nms j 0)=0:=by show setErr [] ⟨inS,⟨#[]⟩,-1⟩=0;decide+kernel
 obtain⟨a1,b1,c1,d1,l1⟩:=name_step (H:=hNew id) (x:=nms j 0) dkNew_inv rfl rfl (by simp) rfl s0 (by show ¬inS=deadS;decide)
 have b1':nameH (hNew id) dkNew (nms j 0)=namedAt id j 1 [⟨inS,⟨#[]⟩,-1⟩] [(deadS,⟨[],0⟩),(inS,⟨[],0⟩)]:=b1.trans Y62
 have s1:setErr (namedAt id j 1 [⟨inS,⟨#[]⟩,-1⟩] [(deadS,⟨[],0⟩),(inS,⟨[],0⟩)]).names (nms j 1)=0:=by show setErr [⟨inS,⟨#[]⟩,-1⟩] ⟨outS,⟨#[]⟩,-1⟩=0;decide+kernel
 obtain⟨a2,b2,c2,d2,l2⟩:=name_step (H:=namedAt id j 1 [⟨inS,⟨#[]⟩,-1⟩] [(deadS,⟨[],0⟩),(inS,⟨[],0⟩)]) (x:=nms j 1) c1 d1 rfl (by simp) rfl s1 (by show ¬outS=deadS;decide)
 have b2':nameH (namedAt id j 1 [⟨inS,⟨#[]⟩,-1⟩] [(deadS,⟨[],0⟩),(inS,⟨[],0⟩)]) (nameD (hNew id) dkNew (nms j 0)) (nms j 1)=namedAt id j 2 [⟨inS,⟨#[]⟩,-1⟩,⟨outS,⟨#[]⟩,-1⟩] [(deadS,⟨[],0⟩),(inS,⟨[],0⟩),(outS,⟨[],0⟩)]:=b2.trans Y62
 have hj4:j=0∨j=1∨j=2∨j=3:=by omega
 have s2:setErr (namedAt id j 2 [⟨inS,⟨#[]⟩,-1⟩,⟨outS,⟨#[]⟩,-1⟩] [(deadS,⟨[],0⟩),(inS,⟨[],0⟩),(outS,⟨[],0⟩)]).names (nms j 2)=0:=by
  show setErr [⟨inS,⟨#[]⟩,-1⟩,⟨outS,⟨#[]⟩,-1⟩] ⟨farS,inS,j⟩=0
  rcases hj4 with rfl|rfl|rfl|rfl<;>decide+kernel
 obtain⟨a3,b3,c3,d3,l3⟩:=name_step (H:=namedAt id j 2 [⟨inS,⟨#[]⟩,-1⟩,⟨outS,⟨#[]⟩,-1⟩] [(deadS,⟨[],0⟩),(inS,⟨[],0⟩),(outS,⟨[],0⟩)]) (x:=nms j 2) c2 d2 rfl (by simp) rfl s2 (by show ¬farS=deadS;decide)
 have b3':hset {namedAt id j 2 [⟨inS,⟨#[]⟩,-1⟩,⟨outS,⟨#[]⟩,-1⟩] [(deadS,⟨[],0⟩),(inS,⟨[],0⟩),(outS,⟨[],0⟩)]with used:=(namedAt id j 2 [⟨inS,⟨#[]⟩,-1⟩,⟨outS,⟨#[]⟩,-1⟩] [(deadS,⟨[],0⟩),(inS,⟨[],0⟩),(outS,⟨[],0⟩)]).used+1} (nms j 2)=namedH id j:=by
  rcases hj4 with rfl|rfl|rfl|rfl<;>kernel_rfl
 have e0:nmH j (hNew id,dkNew) 0=(hNew id,dkNew):=rfl
 have e1:nmH j (hNew id,dkNew) 1=(namedAt id j 1 [⟨inS,⟨#[]⟩,-1⟩] [(deadS,⟨[],0⟩),(inS,⟨[],0⟩)],nameD (hNew id) dkNew (nms j 0)):=by
  rw[nmH,e0];dsimp only;rw[b1']
 have e2:nmH j (hNew id,dkNew) 2=(namedAt id j 2 [⟨inS,⟨#[]⟩,-1⟩,⟨outS,⟨#[]⟩,-1⟩] [(deadS,⟨[],0⟩),(inS,⟨[],0⟩),(outS,⟨[],0⟩)],nameD (namedAt id j 1 [⟨inS,⟨#[]⟩,-1⟩] [(deadS,⟨[],0⟩),(inS,⟨[],0⟩)]) (nameD (hNew id) dkNew (nms j 0)) (nms j 1)):=by
  rw[nmH,e1];dsimp only;rw[b2']
 rw[show nmH j (hNew id,dkNew) 3=(nameH (nmH j (hNew id,dkNew) 2).1 (nmH j (hNew id,dkNew) 2).2 (nms j 2),nameD (nmH j (hNew id,dkNew) 2).1 (nmH j (hNew id,dkNew) 2).2 (nms j 2))from rfl,e2]
 dsimp only
 refine⟨fun i hi=>?_,b3.trans b3',c3,by rw[l3,l2,l1];rfl,d3⟩
 match i,hi with
 |0,_=>rw[e0];exact a1
 |1,_=>rw[e1];exact a2
 |2,_=>rw[e2];exact a3
theorem named_B {id:Int} (h:0≤id∧id<4) (j:Int):∀i,HoB (10+i) (nmH j (hNew id,dkNew) i).1
 |0=>hNew_B h
 |i+1=>((named_B h j i).name _ _).le (by omega)
theorem namedH_plays (id j:Int) (hj:0≤j∧j<4):Plays (hNew id) (namedR j) (namedH id j):=by
 have hj4:j=0∨j=1∨j=2∨j=3:=by omega
 refine .cons (hplays_name (x:=nms j 0) (by show setErr [] ⟨inS,⟨#[]⟩,-1⟩=0;decide+kernel)) ?_
 rw[show({hset (hNew id) (nms j 0)with used:=(hNew id).used+1}:Ho)=namedAt id j 1 [⟨inS,⟨#[]⟩,-1⟩] [(deadS,⟨[],0⟩),(inS,⟨[],0⟩)]by kernel_rfl]
 refine .cons (hplays_name (x:=nms j 1) (by show setErr [⟨inS,⟨#[]⟩,-1⟩] ⟨outS,⟨#[]⟩,-1⟩=0;decide+kernel)) ?_
 rw[show({hset (namedAt id j 1 [⟨inS,⟨#[]⟩,-1⟩] [(deadS,⟨[],0⟩),(inS,⟨[],0⟩)]) (nms j 1)with used:=(namedAt id j 1 [⟨inS,⟨#[]⟩,-1⟩] [(deadS,⟨[],0⟩),(inS,⟨[],0⟩)]).used+1}:Ho)=namedAt id j 2 [⟨inS,⟨#[]⟩,-1⟩,⟨outS,⟨#[]⟩,-1⟩] [(deadS,⟨[],0⟩),(inS,⟨[],0⟩),(outS,⟨[],0⟩)]by kernel_rfl]
 refine .cons (hplays_name (x:=nms j 2) (by show setErr [⟨inS,⟨#[]⟩,-1⟩,⟨outS,⟨#[]⟩,-1⟩] ⟨farS,inS,j⟩=0;rcases hj4 with rfl|rfl|rfl|rfl<;>decide+kernel)) ?_
 rw[show({hset (namedAt id j 2 [⟨inS,⟨#[]⟩,-1⟩,⟨outS,⟨#[]⟩,-1⟩] [(deadS,⟨[],0⟩),(inS,⟨[],0⟩),(outS,⟨[],0⟩)]) (nms j 2)with used:=(namedAt id j 2 [⟨inS,⟨#[]⟩,-1⟩,⟨outS,⟨#[]⟩,-1⟩] [(deadS,⟨[],0⟩),(inS,⟨[],0⟩),(outS,⟨[],0⟩)]).used+1}:Ho)=namedH id j by rcases hj4 with rfl|rfl|rfl|rfl<;>kernel_rfl]
 exact .nil _
def wInOut (s:ByteArray):Prop:=s=inS∨s=outS
end WB
/- maps that the call has made: a key is taken out -/
namespace WB
open Go Go.RowKit Go.ChangeMaps Go.MapKept
section
variable {κ:Type} [DecidableEq κ] {d:TypeDesc} {kv:κ→Value} {w0 w:World} {L:List HP} {P:Program} {b:Nat} {m:List (κ×Value)}
theorem omapK_del (K:KeyLaw d kv) (h:St w0 (omapK kv b m::L) w) {t k E ty:TypeId} (ht:P.underlying t=some (.map k E)) (hk:P.underlying k=some d) (s:κ):
 ∃w',(Builtin.delete_ #[t,k] ty #[.map (some b),kv s]).run P w=.ok (.tuple #[]) w'∧St w0 (omapK kv b (delK m s)::L) w':=by
 obtain⟨es,h⟩:=h.exs
 obtain⟨clk,h⟩:=h.exs
 obtain⟨hr,h⟩:=h.split.purs
 obtain⟨_,hb⟩:=h.look
 have up:∀(o:Obj),St w0 (blk b o::L) {w with heap:=w.heap.setIfInBounds b o}:=fun o=>
  h.upd rfl rfl rfl (by simp) (by have :=h.lt;simp[this]) (fun k hk=>by simp[Array.getElem?_setIfInBounds,Ne.symm hk])
 rcases findK K s _ m 0 hr.ents with⟨h2,h3,h4,h5⟩|⟨j,e,_,h3,h4,h5,_,h6⟩
 ·refine⟨{w with heap:=w.heap.setIfInBounds b (.map es clk)},?_,?_⟩
  ·simp[Builtin.delete_,run_underlying ht,run_getObj_map hb,run_checkKey hk (K.isKey s),run_findKey hk h3,run_setObj_map _ hb,Result.andThen]
  ·rw[h5]
   exact St.exi es (St.exi clk (St.join (St.puri hr (up (.map es clk)))))
 ·have hj:j<es.size:=by have :=(List.getElem?_eq_some_iff.1 h3).1;simpa using this
  have e1:(es.eraseIdx j hj).toList=es.toList.eraseIdx j:=by simp
  refine⟨_,?_,St.exi (es.eraseIdx j hj) (St.exi clk (St.join (St.puri (p:=esB kv (es.eraseIdx j hj).toList clk (delK m s)) ?_ (up (.map (es.eraseIdx j hj) clk)))))⟩
  ·simp[Builtin.delete_,run_underlying ht,run_getObj_map hb,run_checkKey hk (K.isKey s),run_findKey hk h5,run_setObj_map _ hb,Result.andThen,Array.eraseIdxIfInBounds,hj]
  ·rw[e1]
   exact⟨h6,fun e he=>hr.old e ((List.eraseIdx_sublist _ _).subset he),hr.nodup.sublist ((List.eraseIdx_sublist _ _).map _)⟩
end
section
variable {κ:Type} [DecidableEq κ] {kd:TypeDesc} {kv:κ→Value}
variable {P:Program} {ops:Array Oper} {d:Bool} {Q:Exit→Act→World→Prop} {n:Nat} {D:List Deferred} {w0:World} {G:Env} {L R:List HP} {l:List (Kd×Oper)} {k:Kd}
 {t:Nat} {ty T KT E:TypeId} {pos:String} {af:Array Edge} {x y u:Operand} {v z:Value} {b:Nat} {m:List (κ×Value)}
theorem KO.delm (K:KeyLaw kd kv) (s:κ) (hk:(!d||k== .write)=true) (hx:ev G x=some (.map (some b))) (hy:ev G y=some (kv s)) (hT:P.underlying T=some (.map KT E)) (hK:P.underlying KT=some kd) (hp:Pick L (omapK kv b m) R)
 (h:KO P ops d Q n D w0 G (omapK kv b (delK m s)::R) l):KO P ops d Q n D w0 G L ((k,⟨none,.call ⟨.builtin .delete,#[x,y],#[T,KT]⟩,ty,pos,af,none⟩)::l):=
 KO.wn hk (fun a w ha hw=>by
  obtain⟨w',hr,hs⟩:=omapK_del (P:=P) (ty:=ty) K (hw.pick hp) hT hK s
  exact⟨w',.tuple #[],by simp[execOp,resolve,invoke,builtin,ha.eval hx,ha.eval hy,hr],hs⟩) h
end
def setM (T:List Int):List (Int×Value):=T.map fun k=>(k,.bool true)
end WB
/- a part of an array's value that is a struct; three names one by one -/
namespace WB
open Go Go.RowKit
section
variable {P:Program} {ops:Array Oper} {d:Bool} {Q:Exit→Act→World→Prop} {n:Nat} {D:List Deferred} {w0:World} {G:Env} {L R:List HP} {l:List (Kd×Oper)} {k:Kd}
 {t:Nat} {ty T:TypeId} {pos:String} {af:Array Edge} {x y z:Operand} {i:Nat} {a c:Int} {kk kk':IntKind}
theorem KO.idxAgN {cs us:List Value} {len sz:Nat} {E:TypeId} (hx:ev G x=some (.agg cs.toArray)) (hy:ev G y=some (.int kk a)) (hT:P.underlying T=some (.array len E)) (hA:∀w,(isAgg E).run P w=.ok true w) (hs:∀w,(Go.sizeOf E).run P w=.ok sz w) (ha:a=(i:Int)) (hi:i<len) (hv:(cs.drop (i *sz)).take sz=us) (ht:Nat.blt t n=true)
 (h:KO P ops d Q n D w0 ((t,.agg us.toArray)::G) L l):KO P ops d Q n D w0 G L ((k,⟨some t,.index T x y,ty,pos,af,none⟩)::l):=
 KO.val (fun a' w ha'=>by
  subst ha
  have h1:(0:Int)≤(i:Int)∧(i:Int)<(len:Int):=⟨by omega,by omega⟩
  have h2:cs.toArray.extract (i *sz) (i *sz+sz)=us.toArray:=by rw[←hv,List.extract_toArray,List.extract_eq_take_drop,Nat.add_sub_cancel_left]
  simp[execOp,ha'.eval hx,ha'.eval hy,Instr.index,asIntOf,run_underlying hT,h1,hs w,part,hA w]
  rw[←h2]
  simp
  intro h3;omega
  ) ht h
end
theorem nms_size (j:Int) (i:Nat):(nms j i).name.size≤3∧(nms j i).tgt.size≤3:=by
 unfold nms
 split
 ·exact⟨by decide,by decide⟩
 ·split
  ·exact⟨by decide,by decide⟩
  ·exact⟨by show farS.size≤3;decide,by show inS.size≤3;decide⟩
theorem nmsC (j:Int):[(nms j 0),(nms j 1),(nms j 2)].flatMap Nm.cells=[Value.string ⟨#[105,110]⟩,.string ⟨#[]⟩,.int .i64 (-1),.string ⟨#[111,117,116]⟩,.string ⟨#[]⟩,.int .i64 (-1),.string ⟨#[102,97,114]⟩,.string ⟨#[105,110]⟩,.int .i64 j]:=rfl
theorem nms_cut (j:Int):∀i,i<3→(([(nms j 0),(nms j 1),(nms j 2)].flatMap Nm.cells).drop (i *3)).take 3=(nms j i).cells
 |0,_=>rfl
 |1,_=>rfl
 |2,_=>rfl
end WB
namespace WB
open Go
theorem nameD_ok (H:Ho) (D:Dk) (x:Nm):(nameD H D x).places.length=D.places.length∧D.left-1≤(nameD H D x).left∧(nameD H D x).left≤D.left:=by
 unfold nameD
 split
 ·exact⟨rfl,by omega,Int.le_refl _⟩
 ·unfold logD
  split
  ·exact⟨rfl,by omega,Int.le_refl _⟩
  ·refine⟨?_,?_,?_⟩
   ·unfold dkWrite
    split
    ·split
     ·simp
     ·rfl
    ·simp
   ·rw[dkWrite_left];split<;>omega
   ·rw[dkWrite_left];split<;>omega
theorem nmD_ok (id j:Int):∀i,(nmH j (hNew id,dkNew) i).2.places.length=300∧ -(i:Int)≤(nmH j (hNew id,dkNew) i).2.left∧(nmH j (hNew id,dkNew) i).2.left≤0
 |0=>⟨List.length_replicate,by show -((0:Nat):Int)≤0;omega,Int.le_refl 0⟩
 |i+1=>by
  obtain⟨a,b,c⟩:=nmD_ok id j i
  obtain⟨a',b',c'⟩:=nameD_ok (nmH j (hNew id,dkNew) i).1 (nmH j (hNew id,dkNew) i).2 (nms j i)
  exact⟨a'.trans a,by simp only[nmH];push_cast;omega,by simp only[nmH];omega⟩
end WB
/- what the laws ask of a house: pick, named -/
namespace Go.Proofs.YtjhogocabcdjbabGreatDoor
open Go Go.RowKit WB
set_option maxRecDepth 100000 in
theorem named_c (w0:World) (L:List HP) (bh bd:Nat) (id k m:Int) (hT:Tab w0) (hM:Lim w0) (hid:0≤id∧id<4) (hk:0≤k∧k<4) (hm:1≤m∧m≤4):
 KC Tryz.prog 12 #[ptrV bh,.int .i64 k,.int .i64 m] w0 (hoP bh bd (hNew id)::dkP bd dkNew::L) (fun u M=>u=.bool true∧M=hoP bh bd (nmH ((k+1)%m) (hNew id,dkNew) 3).1::dkP bd (nmH ((k+1)%m) (hNew id,dkNew) 3).2::L):=by
 have hj:0≤(k+1)%m∧(k+1)%m<4:=⟨Int.emod_nonneg _ (by omega),by have :=Int.emod_lt_of_pos (k+1) (show 0<m by omega);omega⟩
 obtain⟨he,-⟩:=named_all id ((k+1)%m) hj
 have hB:=named_B hid ((k+1)%m)
 have hD:=nmD_ok id ((k+1)%m)
 have hz:=nms_size ((k+1)%m)
 have hcut:=nms_cut ((k+1)%m)
 have hcs:=nmsC ((k+1)%m)
 generalize hjd:(k+1)%m=j at hj he hB hD hz hcut hcs ⊢
 have hmx:(1000000:Nat)≤maxLen:=by decide
 generalize hcs':[nms j 0,nms j 1,nms j 2].flatMap Nm.cells=cs at hcut hcs
 refine KC.mk (n:=25) Tryz.func12 rfl Tryz.ntmps12 (by simp) ?_
 refine Z3 ?_
 refine Z135 ?_
 refine Z167 ?_
 refine Z167 ?_
 refine Z1 ?_
 refine Z23 ?_
 refine Z1 ?_
 refine KO.rem rfl rfl (by omega) (by omega) rfl ?_;rw[hjd]
 refine Z167 ?_
 refine KO.bld (v:=.agg cs.toArray) rfl (by intro w;rw[hcs];go_simp;rfl) rfl ?_
 refine Z119 ?_
 refine K.loop (fun i:Nat=>[(0,ptrV bh),(16,.agg cs.toArray),(17,.int .i64 (i:Nat))])
  (fun i=>hoP bh bd (nmH j (hNew id,dkNew) i).1::dkP bd (nmH j (hNew id,dkNew) i).2::L) (fun i=>i≤3) (fun i=>3-i) 0
  (Nat.zero_le _) ⟨rfl,rfl,rfl,trivial⟩ (fun _ h=>h) ?_
 intro i hi
 refine Z111 ?_
 refine K.condD rfl (fun h=>?_) (fun h=>?_)
 ·have hi3:i<3:=by omega
  obtain⟨hz1,hz2⟩:=hz i
  obtain⟨d1,d2,d3⟩:=hD i
  have hei:=he i hi3
  have hci:=hcut i hi3
  have hBi:=hB i
  have hst:nmH j (hNew id,dkNew) (i+1)=(nameH (nmH j (hNew id,dkNew) i).1 (nmH j (hNew id,dkNew) i).2 (nms j i),nameD (nmH j (hNew id,dkNew) i).1 (nmH j (hNew id,dkNew) i).2 (nms j i)):=rfl
  generalize nms j i=x at hz1 hz2 hei hci hst
  generalize nmH j (hNew id,dkNew) i=s at d1 d2 d3 hei hBi hst
  obtain⟨Hi,Di⟩:=s
  obtain⟨xn,xt,xh⟩:=x
  dsimp only at hz1 hz2 hei d1 d2 d3 hBi hst
  refine Z145 ?_
  refine KO.idxAgN (i:=i) rfl rfl Tryz.underlying137 Tryz.isAgg75 Tryz.sizeOf75 rfl hi3 hci rfl ?_
  refine KO.alloc rfl Tryz.zeroValue75 Y68 rfl ?_;intro b8
  refine KO.sto0 rfl rfl rfl Y68 (by exact Tryz.sizeOf75) Y68 Y21 Y68 ?_
  refine Z348 ?_
  refine Z334 ?_
  refine KO.cl (cp:=[]) rfl rfl rfl Tryz.call31 rfl (KC.pk2 Y11 Y11 (hname_c w0 _ bh bd (10+i) Hi Di ⟨xn,xt,xh⟩ hT hM hBi (by omega) d1 ⟨by omega,by omega⟩ Y47 Y47)) ?_;rintro v' L' ⟨rfl,rfl⟩;rw[hei]
  refine Z309 ?_
  refine Z63 ?_
  refine Z191 ?_
  refine KQ.round (i+1) (by omega) (by omega) ⟨rfl,rfl,rfl,trivial⟩ (fun _ h=>?_)
  rw[hst]
  exact h.all Y1
 ·obtain rfl:i=3:=by omega
  refine Z351 ?_
  refine KQ.ret1 rfl rfl (fun w' hs'=>⟨_,_,rfl,⟨rfl,rfl⟩,hs'⟩)
end Go.Proofs.YtjhogocabcdjbabGreatDoor
/- a house with one queue: what the law's fact says -/
namespace WB
open Go
def qS:ByteArray:=⟨#[113]⟩
def aS:ByteArray:=⟨#[97]⟩
def bS:ByteArray:=⟨#[98]⟩
def nmQ:Nm:=⟨qS,⟨#[]⟩,-1⟩
def ka (u:Nat) (nx:Int) (q:Qu) (u0 u2:Unt):Ho:=⟨1,u,false,-1,nx,[nmQ],[(deadS,⟨[],0⟩),(qS,q)],List.replicate 4 ⟨[],0⟩,[u0,⟨[],[]⟩,u2,⟨[],[]⟩,⟨[],[]⟩],List.replicate 4 [],List.replicate 4 0,List.replicate 4 0⟩
def kaM:Ms:=⟨1,3,aS,qS,1⟩
def kbM:Ms:=⟨5,3,bS,qS,1⟩
def k1:Ho:=ka 1 0 ⟨[],0⟩ ⟨[],[]⟩ ⟨[],[]⟩
def k2:Ho:=ka 1 1 ⟨[⟨kaM,0,0,-1⟩],1⟩ ⟨[(kaM,-1)],[]⟩ ⟨[],[]⟩
def k3:Ho:=ka 2 1 ⟨[⟨kaM,1,-1,-1⟩],2⟩ ⟨[],[]⟩ ⟨[],[]⟩
def k4:Ho:=ka 2 2 ⟨[⟨kaM,1,-1,-1⟩,⟨kbM,2,2,-1⟩],3⟩ ⟨[],[]⟩ ⟨[(kbM,-1)],[]⟩
def k5:Ho:=ka 2 1 ⟨[⟨kaM,0,-1,-1⟩],1⟩ ⟨[],[]⟩ ⟨[],[]⟩
def kd1:Dk:=nameD (hNew 1) dkNew nmQ
def kd3:Dk:=cmD k2 kd1 0
def kU:Unt:=⟨[(kaM,-1)],[]⟩
theorem dkNew_ok:DkOk dkNew:=dkNew_inv.ok ⟨by show(-4000000000000000000:Int)≤0;omega,by show(0:Int)≤9223372036854775807;omega⟩
theorem open_new (id:Int):openH id dkNew=hNew id:=open_plays dkNew_inv (.nil _)
end WB
/- waybillkeep.kept: the fact -/
namespace Go.Proofs.YtjhogocabcdjbabGreatDoor
open Go Go.RowKit WB
end Go.Proofs.YtjhogocabcdjbabGreatDoor
/- house: Waits, Doubt, Arrived, Names, Down -/
namespace Go.Proofs.YtjhogocabcdjbabGreatDoor
open Go Go.RowKit WB
theorem hdown_e (w0:World) (L R:List HP) (bh bd:Nat) (H:Ho) (hp:Pick L (hoP bh bd H) R):KE Tryz.prog 76 #[ptrV bh] w0 L (fun u M=>u=.bool H.down∧M=L):=by
 refine KE.mk (n:=7) Tryz.func76 rfl Tryz.ntmps76 (by simp) ?_
 intro w hw
 obtain⟨V,hV,hc⟩:=hoP_cells hw hp
 have hc3:=hc 3 _ rfl
 refine Z150 ?_
 refine Z346 ?_
 refine Z33 ?_
 refine KQ.ret1 rfl rfl (fun w' hs=>⟨_,_,rfl,⟨rfl,rfl⟩,hw.below_step hs.below,hs.below⟩)
def waitE (H:Ho) (k:Int):Int:=if rightK H k=true then 0 else 2
def waitL (H:Ho) (k:Int):List Ms:=if rightK H k=true then qkept (H.wAt k.toNat)else[]
theorem hwaits_c (w0:World) (L:List HP) (bh bd n:Nat) (H:Ho) (k:Int) (hB:HoB n H) (hn:n≤80000):
 KC Tryz.prog 27 #[ptrV bh,.int .i64 k] w0 (hoP bh bd H::L) (fun u M=> ∃v,u=.tuple #[v,errV 70 (waitE H k)]∧M=SL 44 5 msC v (waitL H k)::hoP bh bd H::L):=by
 unfold waitE waitL
 refine KC.mk (n:=18) Tryz.func27 rfl Tryz.ntmps27 (by simp) ?_
 refine Z230 ?_
 refine Z21 ?_
 cases hk:rightK H k with
 |false=>
  refine Z72 ?_
  refine KO.ce (cp:=[]) rfl rfl rfl Tryz.call79 rfl (hright_e w0 _ _ bh bd H k Y21) ?_;rintro v' L' ⟨rfl,rfl⟩;rw[hk]
  refine Z70 ?_
  refine Z55 ?_
  refine Z169 ?_
  refine KQ.ret2 rfl rfl rfl (fun w' hs'=>⟨_,_,rfl,⟨_,rfl,rfl⟩,SL_nil hs'⟩)
 |true=>
  obtain⟨hk0,hk4,-⟩:=rightK_iff.1 hk
  obtain⟨j,rfl⟩:∃j:Nat,k=(j:Int):=⟨k.toNat,by omega⟩
  have hj:j<4:=by omega
  refine Z72 ?_
  refine KO.ce (cp:=[]) rfl rfl rfl Tryz.call79 rfl (hright_e w0 _ _ bh bd H (j:Int) Y21) ?_;rintro v' L' ⟨rfl,rfl⟩;rw[hk]
  refine Z322 ?_
  refine K.open' (fun _ h=>hoP_open h) ?_
  rintro⟨V,hV⟩
  dsimp only
  have hps:=hV.ps
  obtain⟨p,hp⟩:∃p,V.ps[j]? =some p:=⟨_,List.getElem?_eq_getElem (by omega)⟩
  have hw:=hoC_way (bd:=bd) hV hj hp
  have hall:=all_w hV.ways hj
  have hql:=(hB.w hj).len
  refine Z171 ?_
  refine Z107 ?_
  refine KO.ldAt (i:=8+j) rfl rfl Tryz.isAgg119 Y21 Y31 hw rfl ?_
  refine KO.ce (cp:=[]) rfl rfl rfl Tryz.call67 rfl (KE.famE1 (A:=fun v=>msS v (qkept (H.wAt j))) (φ:=fun _=>True) hp hall Y11 (fun L=>KE.mono (kept_e w0 _ _ p (H.wAt j) .head (by omega)) (fun v M h=>⟨trivial,h⟩))) ?_;rintro va L' ⟨-,rfl⟩
  refine Z192 ?_
  refine KQ.ret2 rfl rfl rfl (fun w' hs'=>⟨_,_,rfl,⟨_,rfl,rfl⟩,?_⟩)
  have h1:=hoP_mk V hV (L:=msS va (qkept (H.wAt j))::L) (hs'.all Y7)
  exact h1.all Y7
def arrE (H:Ho) (k:Int):Int:=if rightK H k=true then 0 else 2
def arrN (H:Ho) (k:Int):Int:=if rightK H k=true then avAt H k.toNat else 0
theorem harrived_e (w0:World) (L R:List HP) (bh bd:Nat) (H:Ho) (k:Int) (hp:Pick L (hoP bh bd H) R):
 KE Tryz.prog 111 #[ptrV bh,.int .i64 k] w0 L (fun u M=>u=.tuple #[.int .i64 (arrN H k),errV 70 (arrE H k)]∧M=L):=by
 unfold arrE arrN
 refine KE.mk (n:=17) Tryz.func111 rfl Tryz.ntmps111 (by simp) ?_
 intro w hw
 have hri:=hright_e w0 L R bh bd H k hp
 obtain⟨V,hV,hc⟩:=hoP_cells hw hp
 refine Z230 ?_
 refine Z21 ?_
 cases hk:rightK H k with
 |false=>
  rw[hk]at hri
  refine Z72 ?_
  refine KO.ce (cp:=[]) rfl rfl rfl Tryz.call79 rfl (hri.rebase hw) ?_;rintro v' L' ⟨rfl,rfl⟩
  refine Z70 ?_
  refine Z55 ?_
  refine Z169 ?_
  refine KQ.ret2 rfl rfl rfl (fun w' hs=>⟨_,_,rfl,⟨rfl,rfl⟩,hw.below_step hs.below,hs.below⟩)
 |true=>
  rw[hk]at hri
  obtain⟨hk0,hk4,-⟩:=rightK_iff.1 hk
  obtain⟨j,rfl⟩:∃j:Nat,k=(j:Int):=⟨k.toNat,by omega⟩
  have hj:j<4:=by omega
  have hcj:=hc (30+j) _ (hoC_arr (bd:=bd) hV hj).1
  have hcj2:w.cell? ((⟨bh,30,none⟩:Addr).add (j *1))=some (.int .i64 (avAt H j)):=by rw[Addr.add_lit,Nat.mul_one];exact hcj
  refine Z72 ?_
  refine KO.ce (cp:=[]) rfl rfl rfl Tryz.call79 rfl (hri.rebase hw) ?_;rintro v' L' ⟨rfl,rfl⟩
  refine Z322 ?_
  refine Z171 ?_
  refine Z60 ?_
  refine KO.ld0 rfl rfl Tryz.isAgg3 hcj2 rfl ?_
  refine Z192 ?_
  refine KQ.ret2 rfl rfl rfl (fun w' hs=>⟨_,_,rfl,⟨rfl,rfl⟩,hw.below_step hs.below,hs.below⟩)
theorem osl_of {w0 w w':World} {L:List HP} {e:TypeId} {sz n:Nat} {v:Value} {xs:List Value} (hw:St w0 L w) (hb:Below w.heap.size w w') (ho:w'.ownsRow w.heap.size e sz v n xs):St w0 (osl e sz v n xs::L) w':=by
 obtain⟨hl,⟨rfl,rfl⟩|⟨g,cap,cur,rfl,hg,hh,h1,h2,h3,h4⟩⟩:=ho
 ·have :xs=[]:=List.eq_nil_of_length_eq_zero Y50
  subst this
  exact(hw.below_step hb).osl_nil
 ·have hs:St w [blk g (.cells cur e (0,0))] w':=by
   refine⟨hb.os,hb.tape,hb.output,hb.size,hb.block,⟨fun k=>if k=g then some (.cells cur e (0,0))else none,fun k o hk=>?_,?_⟩⟩
   ·dsimp only at hk
    split at hk
    ·rename_i e1;subst e1
     simp only[Option.some.injEq]at hk;subst hk
     exact⟨hg,hh⟩
    ·cases hk
   ·refine⟨fun k=>if k=g then some (.cells cur e (0,0))else none,fun _=>none,fun k=>.inr rfl,?_,⟨if_pos rfl,fun k hk=>if_neg hk⟩,fun _=>rfl⟩
    funext k
    unfold uni
    split<;>simp_all
  have h5:=(hw.stack hs).osl_mk (n:=n) (size:=sz) (xs:=xs) h1 h2 h3 h4
  exact h5
theorem clone_e (w0:World) (L R:List HP) (v:Value) (l:List Int) (hl:0<l.length) (hl2:l.length≤1000000) (hp:Pick L (batS v l) R):KE Tryz.prog 195 #[v] w0 L (fun u M=>M=SL 3 1 intC u l::L):=fun w hw=>by
 obtain⟨⟨⟨g,off,cs,cap⟩,hv,hcs⟩,hs⟩:=roS_some hl (hw.pick hp)
 dsimp only at hv hcs hs
 subst hv
 refine(Tryz.slices_Clone_int g off l.length cap l w (Nat.le_refl _) (by omega) (fun j hj=>?_)).mono ?_
 ·rw[World.cell?,hs.look.2]
  have :=hcs j (l.getD j 0) (by rw[List.getD_eq_getElem?_getD,List.getElem?_eq_getElem hj];rfl)
  simpa using this
 ·rintro e w' ⟨v',rfl,ho,-,hb⟩
  refine⟨v',_,rfl,rfl,?_,hb⟩
  rw[List.take_length]at ho
  have h8:∀l:List Int,l.map (Value.int .i64)=l.flatMap intC:=fun l=>by
   induction l with
   |nil=>rfl
   |cons x l ih=>rw[List.flatMap_cons,←ih];rfl
  rw[h8]at ho
  exact osl_of hw hb ho
def dbE (H:Ho) (k:Int):Int:=if rightK H k=true then 0 else 2
def dbN (H:Ho) (k:Int):Int:=if rightK H k=true then(if(bcAt H k.toNat).length=0 then 0 else snAt H k.toNat)else 0
def dbL (H:Ho) (k:Int):List Int:=if rightK H k=true then bcAt H k.toNat else[]
set_option maxRecDepth 100000 in
theorem hdoubt_c (w0:World) (L:List HP) (bh bd n:Nat) (H:Ho) (k:Int) (hB:HoB n H):
 KC Tryz.prog 110 #[ptrV bh,.int .i64 k] w0 (hoP bh bd H::L) (fun u M=> ∃v,u=.tuple #[.int .i64 (dbN H k),v,errV 70 (dbE H k)]∧M=SL 3 1 intC v (dbL H k)::hoP bh bd H::L):=by
 unfold dbE dbN dbL
 refine KC.mk (n:=33) Tryz.func110 rfl Tryz.ntmps110 (by simp) ?_
 refine Z3 ?_
 refine Z166 ?_
 refine Z21 ?_
 cases hk:rightK H k with
 |false=>
  refine Z72 ?_
  refine KO.ce (cp:=[]) rfl rfl rfl Tryz.call79 rfl (hright_e w0 _ _ bh bd H k Y21) ?_;rintro v' L' ⟨rfl,rfl⟩;rw[hk]
  refine Z70 ?_
  refine Z55 ?_
  refine Z75 ?_
  refine Z7 ?_
  refine Z59 ?_
  refine KQ.ret3 rfl rfl rfl rfl (fun w' hs'=>⟨_,_,rfl,⟨_,rfl,rfl⟩,SL_nil hs'⟩)
 |true=>
  obtain⟨hk0,hk4,-⟩:=rightK_iff.1 hk
  obtain⟨j,rfl⟩:∃j:Nat,k=(j:Int):=⟨k.toNat,by omega⟩
  have hj:j<4:=by omega
  refine Z72 ?_
  refine KO.ce (cp:=[]) rfl rfl rfl Tryz.call79 rfl (hright_e w0 _ _ bh bd H (j:Int) Y21) ?_;rintro v' L' ⟨rfl,rfl⟩;rw[hk]
  refine Z322 ?_
  refine K.open' (fun _ h=>hoP_open h) ?_
  rintro⟨V,hV⟩
  dsimp only
  have hbs:=hV.bs
  have hbt:=hV.batch
  obtain⟨bv,hbv⟩:∃e,V.bs[j]? =some e:=⟨_,List.getElem?_eq_getElem (by omega)⟩
  obtain⟨bl,hbl2⟩:∃e,H.batch[j]? =some e:=⟨_,List.getElem?_eq_getElem (by omega)⟩
  have hba:bcAt H j=bl:=by unfold bcAt;rw[List.getD_eq_getElem?_getD,hbl2];rfl
  have hbll:=hB.ext.bat bl (List.mem_of_getElem? hbl2)
  rw[Int.toNat_natCast]
  rw[hba]
  obtain⟨c1,c2⟩:=hoC_bat (bd:=bd) hV hbv
  obtain⟨d1,d2⟩:=hoC_snt (bd:=bd) hV hj
  refine Z190 ?_
  refine K.fact (fun w hw=>roS_form (hw.pick (A:=batS bv bl) .head)) ?_
  rintro⟨ba,bc,rfl⟩
  have back:∀{w':World} {M:List HP},St w0 (batS (.slice ba bl.length bc) bl::fam batS (V.bs.eraseIdx j) (H.batch.eraseIdx j)::blk bh (.cells (hoC bd V H).toArray 133 (0,0))::nmS V.nv H.names::omapK Value.string V.mb (mapE V H)::fam quP V.ps H.all::fam putsS (V.us.map (·.1)) (H.units.map (·.puts))::fam getsS (V.us.map (·.2)) (H.units.map (·.gets))::M) w'→St w0 (hoP bh bd H::M) w':=fun h=>hoP_mk V hV ((fam_back hbv hbl2 h).all Y7)
  refine Z171 ?_
  refine Z141 ?_
  refine Z128 ?_
  refine Z246 ?_
  refine K.condD rfl (fun h0=>?_) (fun h0=>?_)
  ·have h00:bl.length=0:=by omega
   have hnil:bl=[]:=List.length_eq_zero_iff.1 h00
   refine Z3 ?_
   refine Z166 ?_
   refine Z59 ?_
   refine KQ.ret3 rfl rfl rfl rfl (fun w' hs'=>⟨_,_,rfl,⟨_,by rw[if_pos rfl,if_pos h00,if_pos rfl];rfl,rfl⟩,?_⟩)
   rw[if_pos rfl]
   have h1:=back (hs'.all Y30)
   subst hnil
   exact SL_nil h1
  ·have h00:¬bl.length=0:=by omega
   refine Z6 ?_
   refine K.draw [.pure,.pure,.pure,.pure,.pure,.read,.pure,.pure,.pure,.pure,.pure,.read,.keep,.pure,.pure,.pure] [0,1,2,3,4,5,6,7,8,9,10,11,12,13,14,15] Y62 Y62 ?_
   refine Z217 ?_
   refine Z109 ?_
   refine KO.ldAt (i:=26+j) rfl rfl Tryz.isAgg3 Y11 Y31 d1 rfl ?_
   refine Z217 ?_
   refine Z141 ?_
   refine KO.ce (cp:=[]) rfl rfl rfl Tryz.call195 rfl (clone_e w0 _ _ _ bl (by omega) (by omega) Y21) ?_;rintro va L' rfl
   refine Z166 ?_
   refine Z33 ?_
   refine KQ.ret3 rfl rfl rfl rfl (fun w' hs'=>⟨_,_,rfl,⟨_,by rw[if_pos rfl,if_neg h00,if_pos rfl];rfl,rfl⟩,?_⟩)
   rw[if_pos rfl]
   have h1:=back (M:=SL 3 1 intC va bl::L) (hs'.all Y7)
   exact h1.all Y7
end Go.Proofs.YtjhogocabcdjbabGreatDoor
/- the house: names taken out, batches made and known -/
namespace WB
open Go
theorem rec_cut {c:UInt8} (h:c≠58) (s:ByteArray):cutB 58 (chr1 c++chr1 58++s)=(chr1 c,s,true):=cutB_hit (noB_chr h) s
theorem recOk_plain {c:UInt8} (h:c≠58) (h1:c≠117) (h2:c≠114) {s:ByteArray} (hs:s.size≤79000):RecOk 1 (chr1 c++chr1 58++s):=by
 have e1:(chr1 c).size=1:=rfl
 have e2:(chr1 58).size=1:=rfl
 have e3:∀d,chr1 c=chr1 d→c=d:=fun d e=>by
  have :=congrArg (·.data.toList) e
  simpa[chr1]using this
 refine⟨by simp only[ByteArray.size_append];omega,fun hk=>?_,fun hk=>?_⟩
 ·rw[rec_cut h]at hk;exact absurd (e3 _ hk) h1
 ·rw[rec_cut h]at hk;exact absurd (e3 _ hk) h2
def recD (s:ByteArray):ByteArray:=chr1 100++chr1 58++s
def unPE (H:Ho) (s:ByteArray):Int:=if H.names.any (fun x=>decide (x.name=s))=true then 0 else 7
def unE (H:Ho) (D:Dk) (s:ByteArray):Int:=if unPE H s≠0 then unPE H s else logE H D
def unH (H:Ho) (D:Dk) (s:ByteArray):Ho:=if unPE H s≠0 then H else wrH H D (recD s)
def unD (H:Ho) (D:Dk) (s:ByteArray):Dk:=if unPE H s≠0 then D else logD H D (recD s)
def recA (k:Int):ByteArray:=chr1 97++chr1 58++itoaS k
def caPE (H:Ho) (k n:Int):Int:=if rightK H k=false then 2 else if H.down=true then 6 else if bcAt H k.toNat=[]∨n≠snAt H k.toNat then 8 else 0
def caE (H:Ho) (D:Dk) (k n:Int):Int:=if caPE H k n≠0 then caPE H k n else logE H D
def caH (H:Ho) (D:Dk) (k n:Int):Ho:=if caPE H k n≠0 then H else wrH H D (recA k)
def caD (H:Ho) (D:Dk) (k n:Int):Dk:=if caPE H k n≠0 then D else logD H D (recA k)
def recBt (k:Int) (l:List Int):ByteArray:=chr1 98++chr1 58++joinS ((k::l).map itoaS) sp
def btIds (H:Ho) (k:Nat):List Int:=((qthere (H.wAt k)).take 3).map (·.id)
def btPE (H:Ho) (k:Int):Int:=if rightK H k=false then 2 else if H.down=true then 6 else if bcAt H k.toNat=[]∧qthere (H.wAt k.toNat)=[]then 8 else 0
def btNew (H:Ho) (k:Int):Bool:=decide (btPE H k=0∧bcAt H k.toNat=[])
def btE (H:Ho) (D:Dk) (k:Int):Int:=if btPE H k≠0 then btPE H k else if btNew H k=true then logE H D else 0
def btH (H:Ho) (D:Dk) (k:Int):Ho:=if btNew H k=true then wrH H D (recBt k (btIds H k.toNat))else H
def btD (H:Ho) (D:Dk) (k:Int):Dk:=if btNew H k=true then logD H D (recBt k (btIds H k.toNat))else D
def inB (l:List Int) (m:Ms):Bool:=decide (m.id∈l)
def btL (H:Ho) (D:Dk) (k:Int):List Ms:=if btE H D k=0 then(qkept ((btH H D k).wAt k.toNat)).filter (inB (bcAt (btH H D k) k.toNat))else[]
def btN (H:Ho) (D:Dk) (k:Int):Int:=if btE H D k=0 then snAt (btH H D k) k.toNat else 0
theorem recA_ok {k:Int} (hk:0≤k∧k<4):RecOk 1 (recA k):=recOk_plain (by decide) (by decide) (by decide) (by have :=itoaS_size (n:=k) ⟨by omega,by omega⟩;omega)
theorem recBt_size {k:Int} {l:List Int} (hk:0≤k∧k<4) (hl:l.length≤3) (hi:∀x∈l,intB x):(joinS ((k::l).map itoaS) sp).size≤1000:=by
 have h1:=joinS_size sp 30 ((k::l).map itoaS) (fun x hx=>by
  obtain⟨n,hn,rfl⟩:=List.mem_map.1 hx
  have hb:intB n:=by
   rcases List.mem_cons.1 hn with rfl|hn
   ·exact⟨by omega,by omega⟩
   ·exact hi n hn
  have :=itoaS_size hb;omega)
 have h2:sp.size=1:=rfl
 rw[h2,List.length_map,List.length_cons]at h1
 omega
theorem recBt_ok {k:Int} {l:List Int} (hk:0≤k∧k<4) (hl:l.length≤3) (hi:∀x∈l,intB x):RecOk 1 (recBt k l):=recOk_plain (by decide) (by decide) (by decide) (by have :=recBt_size hk hl hi;omega)
end WB
/- house: Unname, Came, Batch -/
namespace Go.Proofs.YtjhogocabcdjbabGreatDoor
open Go Go.RowKit WB
set_option maxRecDepth 100000 in
theorem hCame_c (w0:World) (L:List HP) (bh bd n:Nat) (H:Ho) (D:Dk) (k m:Int) (hT:Tab w0) (hM:Lim w0) (hB:HoB n H) (hn:n+1≤90000) (h3:D.places.length=300) (hd: -4000000000000000000≤D.left∧D.left≤9223372036854775807):
 KC Tryz.prog 100 #[ptrV bh,.int .i64 k,.int .i64 m] w0 (hoP bh bd H::dkP bd D::L) (fun u M=>u=errV 70 (caE H D k m)∧M=hoP bh bd (caH H D k m)::dkP bd (caD H D k m)::L):=by
 unfold caE caH caD
 refine KC.mk (n:=44) Tryz.func100 rfl Tryz.ntmps100 (by simp) ?_
 refine Z230 ?_
 refine Z39 ?_
 cases hk:rightK H k with
 |false=>
  have he:caPE H k m=2:=by unfold caPE;rw[if_pos hk]
  rw[he]
  refine Z72 ?_
  refine KO.ce (cp:=[]) rfl rfl rfl Tryz.call79 rfl (hright_e w0 _ _ bh bd H k Y21) ?_;rintro v' L' ⟨rfl,rfl⟩;rw[hk]
  refine Z70 ?_
  refine Z7 ?_
  refine Z55 ?_
  refine Z249 ?_
  refine KQ.ret1 rfl rfl (fun w' hs'=>⟨_,_,rfl,⟨rfl,rfl⟩,hs'⟩)
 |true=>
 obtain⟨hk0,hk4,-⟩:=rightK_iff.1 hk
 obtain⟨j,rfl⟩:∃j:Nat,k=(j:Int):=⟨k.toNat,by omega⟩
 have hj:j<4:=by omega
 refine Z72 ?_
 refine KO.ce (cp:=[]) rfl rfl rfl Tryz.call79 rfl (hright_e w0 _ _ bh bd H (j:Int) Y21) ?_;rintro v' L' ⟨rfl,rfl⟩;rw[hk]
 refine Z70 ?_
 refine Z7 ?_
 refine Z63 ?_
 refine Z53 ?_
 refine K.open' (fun _ h=>hoP_open h) ?_
 rintro⟨V,hV⟩
 dsimp only
 cases hdn:H.down with
 |true=>
  have he:caPE H (j:Int) m=6:=by unfold caPE;rw[if_neg Y58,if_pos hdn]
  rw[he]
  refine Z337 ?_
  refine Z83 ?_
  refine K.condT rfl hdn ?_
  refine Z249 ?_
  refine KQ.ret1 rfl rfl (fun w' hs'=>⟨_,_,rfl,⟨rfl,rfl⟩,hoP_mk V hV hs'⟩)
 |false=>
 refine Z337 ?_
 refine Z83 ?_
 refine K.condF rfl hdn ?_
 refine Z53 ?_
 have hbs:=hV.bs
 have hbt:=hV.batch
 obtain⟨bv,hbv⟩:∃e,V.bs[j]? =some e:=⟨_,List.getElem?_eq_getElem (by omega)⟩
 obtain⟨bl,hbl2⟩:∃e,H.batch[j]? =some e:=⟨_,List.getElem?_eq_getElem (by omega)⟩
 have hba:bcAt H j=bl:=by unfold bcAt;rw[List.getD_eq_getElem?_getD,hbl2];rfl
 obtain⟨c1,c2⟩:=hoC_bat (bd:=bd) hV hbv
 obtain⟨d1,d2⟩:=hoC_snt (bd:=bd) hV hj
 have he:caPE H (j:Int) m=if bl=[]∨m≠snAt H j then 8 else 0:=by unfold caPE;rw[if_neg Y58,if_neg Y64,Int.toNat_natCast,hba]
 refine Z190 ?_
 refine K.fact (fun w hw=>roS_form (hw.pick (A:=batS bv bl) .head)) ?_
 rintro⟨ba,bc,rfl⟩
 have back:∀{w':World} {M:List HP},St w0 (batS (.slice ba bl.length bc) bl::fam batS (V.bs.eraseIdx j) (H.batch.eraseIdx j)::blk bh (.cells (hoC bd V H).toArray 133 (0,0))::nmS V.nv H.names::omapK Value.string V.mb (mapE V H)::fam quP V.ps H.all::fam putsS (V.us.map (·.1)) (H.units.map (·.puts))::fam getsS (V.us.map (·.2)) (H.units.map (·.gets))::M) w'→St w0 (hoP bh bd H::M) w':=fun h=>hoP_mk V hV ((fam_back hbv hbl2 h).all Y7)
 refine K.cut (fun b:Bool=>[(0,ptrV bh),(1,.int .i64 (j:Nat)),(19,.bool b)]) (fun _=>hoP bh bd H::dkP bd D::L) (fun b=>b=decide (bl=[]∨m≠snAt H j)) ?_ ?_
 ·by_cases h0:bl=[]
  ·have h00:(bl.length:Int)=0:=by rw[h0];rfl
   refine Z171 ?_
   refine Z141 ?_
   refine Z128 ?_
   refine Z68 ?_
   refine Z313 ?_
   refine Z18 ?_
   refine Z43 ?_
   refine Z144 ?_
   exact KQ.mid true (by simp[h0]) ⟨rfl,rfl,rfl,trivial⟩ (fun w' hs'=>back (hs'.all Y30))
  ·have h00:¬(bl.length:Int)=0:=by
    have :bl.length≠0:=fun e=>h0 (List.length_eq_zero_iff.1 e)
    omega
   refine Z171 ?_
   refine Z141 ?_
   refine Z128 ?_
   refine Z68 ?_
   refine Z127 ?_
   refine Z127 ?_
   refine Z358 ?_
   refine KO.fo0 (off:=26) rfl Tryz.runUnderlying133 rfl rfl Tryz.sizeOf95 rfl ?_
   refine KO.on rfl rfl (decide_eq_false h00) ?_;refine KO.idxA (i:=j) rfl rfl Tryz.runUnderlying95 Tryz.sizeOf3 rfl (by omega) rfl ?_
   refine KO.on rfl rfl (decide_eq_false h00) ?_;refine KO.ldAt (i:=26+j) rfl rfl Tryz.isAgg3 Y11 Y31 d1 rfl ?_
   refine Z20 ?_
   refine Z265 ?_
   refine Z48 ?_
   refine Z144 ?_
   exact KQ.mid (decide (m≠snAt H j)) (by simp[h0]) ⟨rfl,rfl,rfl,trivial⟩ (fun w' hs'=>back (hs'.all Y30))
 ·rintro b hb
  rw[hb]
  refine K.condD rfl (fun h6=>?_) (fun h6=>?_)
  ·rw[if_pos h6]at he
   rw[he]
   refine Z249 ?_
   refine KQ.ret1 rfl rfl (fun w' hs'=>⟨_,_,rfl,⟨rfl,rfl⟩,hs'⟩)
  ·rw[if_neg h6]at he
   rw[he]
   have hrec:=recA_ok (k:=(j:Int)) ⟨by omega,by omega⟩
   have his:=itoaS_size (n:=(j:Int)) ⟨by omega,by omega⟩
   refine Z22 ?_
   refine Z214 ?_
   refine KO.ce (cp:=[]) rfl rfl rfl Tryz.call59 rfl (itoa_e w0 _ (j:Int) hT ⟨by omega,by omega⟩) ?_;rintro v' L' ⟨rfl,rfl⟩
   refine KO.cat rfl rfl (by have :(⟨#[97,58]⟩:ByteArray).size=2:=rfl;omega) rfl ?_;rw[show(⟨#[97,58]⟩++itoaS (j:Int):ByteArray)=recA (j:Int)from by unfold recA;rw[show(⟨#[97,58]⟩:ByteArray)=chr1 97++chr1 58 by decide]]
   refine KO.cl (cp:=[]) rfl rfl rfl Tryz.call84 rfl (KC.pk2 Y21 Y21 (hwrites_c w0 _ bh bd n 1 H D (recA (j:Int)) hT hM hB hrec (by omega) h3 hd)) ?_;rintro v' L' ⟨rfl,rfl⟩
   refine Z33 ?_
   refine KQ.ret1 rfl rfl (fun w' hs'=>⟨_,_,rfl,⟨rfl,rfl⟩,hs'.all Y30⟩)
end Go.Proofs.YtjhogocabcdjbabGreatDoor
/- house: Batch -/
namespace Go.Proofs.YtjhogocabcdjbabGreatDoor
open Go Go.RowKit WB
theorem idxi_e (w0:World) (L:List HP) (v:Value) (xs:List Int) (x:Int) (hr:∀w,St w0 L w→RdA w 1 intC v xs) (hlen:xs.length<1000000):
 KE Tryz.prog 176 #[v,.int .i64 x] w0 L (fun v L'=>v=.int .i64 (fidx (fun y=>decide (x=y)) xs)∧L'=L):=by
 refine KE.mk (n:=19) Tryz.func176 rfl Tryz.ntmps176 (by simp) ?_
 intro w hw
 obtain⟨a,cap,rfl,hc⟩:=hr w hw
 refine Z150 ?_
 refine Z128 ?_
 refine Z119 ?_
 refine K.loop (fun k:Nat=>[(0,.slice a xs.length cap),(1,.int .i64 x),(7,.int .i64 (xs.length:Nat)),(8,.int .i64 (k:Nat))]) (fun _=>[]) (fun k=>k≤xs.length∧∀(j:Nat) (u:Int),j<k→xs[j]? =some u→(fun y=>decide (x=y)) u=false) (fun k=>xs.length-k) 0 ⟨by omega,fun j u h=>by omega⟩ ⟨rfl,rfl,rfl,rfl,trivial⟩ (fun _ h=>h) ?_
 rintro k ⟨hk,hno⟩
 refine Z111 ?_
 refine K.condD rfl (fun h=>?_) (fun h=>?_)
 ·have hlt:k<xs.length:=by omega
  obtain⟨e,he⟩:∃e,xs[k]? =some e:=⟨xs[k],List.getElem?_eq_getElem hlt⟩
  obtain⟨ad,rfl,hh⟩:=hc k e he
  have hh2:w.cell? (ad.add (k *1))=some (.int .i64 e):=by
   have :=hh 0 _ rfl
   rwa [Addr.add_add,Nat.add_zero]at this
  refine Z229 ?_
  refine Z28 ?_
  refine Z34 ?_
  refine KO.idxH rfl rfl Tryz.runUnderlying23 Tryz.sizeOf3 Y68 (by omega) rfl ?_
  refine KO.ld0 rfl rfl Tryz.isAgg3 hh2 rfl ?_
  refine Z246 ?_
  refine K.condD rfl (fun h1=>?_) (fun h1=>?_)
  ·refine Z117 ?_
   refine Z146 ?_
   refine KQ.ret1 rfl rfl (fun w' hs=>⟨_,_,rfl,⟨?_,rfl⟩,hw.below_step hs.below,hs.below⟩)
   rw[fidx_hit he (p:=fun y=>decide (x=y)) Y53 hno]
  ·refine Z191 ?_
   refine KQ.round (k+1) ⟨by omega,fun j u hj hu=>?_⟩ (by omega) ⟨rfl,rfl,rfl,rfl,trivial⟩ (fun _ h=>h)
   by_cases hjk:j=k
   ·subst hjk;rw[he]at hu;simp only[Option.some.injEq]at hu;rw[←hu];simpa using h1
   ·exact hno j u (by omega) hu
 ·refine Z351 ?_
  refine KQ.ret1 rfl rfl (fun w' hs=>⟨_,_,rfl,⟨?_,rfl⟩,hw.below_step hs.below,hs.below⟩)
  rw[fidx_miss fun j u hu=>hno j u Y16 hu]
theorem coni_e (w0:World) (L:List HP) (v:Value) (xs:List Int) (x:Int) (hr:∀w,St w0 L w→RdA w 1 intC v xs) (hlen:xs.length<1000000):
 KE Tryz.prog 92 #[v,.int .i64 x] w0 L (fun v L'=>v=.bool (decide (x∈xs))∧L'=L):=by
 refine KE.mk (n:=9) Tryz.func92 rfl Tryz.ntmps92 (by simp) ?_
 intro w hw
 refine Z352 ?_
 refine KO.ce (cp:=[]) rfl rfl rfl Tryz.call176 rfl ((idxi_e w0 L v xs x hr hlen).rebase hw) ?_;rintro v L' ⟨rfl,rfl⟩
 refine Z77 ?_
 refine Z33 ?_
 refine KQ.ret1 rfl rfl (fun w' hs=>⟨_,_,rfl,⟨?_,rfl⟩,hw.below_step hs.below,hs.below⟩)
 rw[fidx_any]
 congr 1
 rw[List.any_eq]
 simp
set_option maxRecDepth 100000 in
set_option maxHeartbeats 1000000 in
theorem hBatch_c (w0:World) (L:List HP) (bh bd n:Nat) (H:Ho) (D:Dk) (k:Int) (hT:Tab w0) (hM:Lim w0) (hB:HoB n H) (hn:n+1≤80000) (h3:D.places.length=300) (hd: -4000000000000000000≤D.left∧D.left≤9223372036854775807):
 KC Tryz.prog 35 #[ptrV bh,.int .i64 k] w0 (hoP bh bd H::dkP bd D::L) (fun u M=> ∃v,u=.tuple #[.int .i64 (btN H D k),v,errV 70 (btE H D k)]∧M=SL 44 5 msC v (btL H D k)::hoP bh bd (btH H D k)::dkP bd (btD H D k)::L):=by
 have hid:∀j,j<4→∀m∈qthere (H.wAt j),intB m.id:=fun j hj m hm=>by
  unfold qthere at hm
  obtain⟨e,he,rfl⟩:=List.mem_map.1 hm
  have :=(hB.w hj).ids e (List.mem_filter.1 he).1
  exact⟨by omega,by omega⟩
 have hBb:HoB (n+1) (btH H D k):=by
  unfold btH
  split
  ·rename_i hnw
   have hk2:rightK H k=true:=by
    unfold btNew btPE at hnw
    cases hk:rightK H k with
    |true=>rfl
    |false=>rw[hk]at hnw;simp at hnw
   obtain⟨hk0,hk4,-⟩:=rightK_iff.1 hk2
   unfold wrH
   split
   ·exact(hB.log (D:=D)).plays (recBt_ok ⟨hk0,hk4⟩ (by unfold btIds;simp;omega) (fun x hx=>by
     obtain⟨m,hm,rfl⟩:=List.mem_map.1 hx
     exact hid _ (by omega) m (List.mem_of_mem_take hm))) (by omega)
   ·exact(hB.log (D:=D)).le (by omega)
  ·exact hB.le (by omega)
 have early:∀e:Int,e≠0→btE H D k=e→btNew H k=false→∀w',St w0 (hoP bh bd H::dkP bd D::L) w'→∃v L',Ending.returned (.tuple #[.int .i64 0,.slice none 0 0,errV 70 e])=Ending.returned v∧(∃u,v=.tuple #[.int .i64 (btN H D k),u,errV 70 (btE H D k)]∧L'=SL 44 5 msC u (btL H D k)::hoP bh bd (btH H D k)::dkP bd (btD H D k)::L)∧St w0 L' w':=fun e he hb hnw w' hs'=>by
  refine⟨_,_,rfl,⟨.slice none 0 0,?_,rfl⟩,?_⟩
  ·unfold btN;rw[hb,if_neg he]
  ·unfold btL btH btD
   rw[hb,if_neg he,hnw]
   exact SL_nil hs'
 refine KC.mk (n:=105) Tryz.func35 rfl Tryz.ntmps35 (by simp) ?_
 refine Z3 ?_
 refine Z166 ?_
 refine Z21 ?_
 cases hk:rightK H k with
 |false=>
  have he:btPE H k=2:=by unfold btPE;rw[if_pos hk]
  have he2:btE H D k=2:=by unfold btE;rw[he];rfl
  have hnw:btNew H k=false:=by unfold btNew;rw[he];rfl
  refine Z72 ?_
  refine KO.ce (cp:=[]) rfl rfl rfl Tryz.call79 rfl (hright_e w0 _ _ bh bd H k Y21) ?_;rintro v' L' ⟨rfl,rfl⟩;rw[hk]
  refine Z70 ?_
  refine Z55 ?_
  refine Z75 ?_
  refine Z7 ?_
  refine Z59 ?_
  refine KQ.ret3 rfl rfl rfl rfl (fun w' hs'=>early 2 (by decide) he2 hnw w' hs')
 |true=>
 obtain⟨hk0,hk4,-⟩:=rightK_iff.1 hk
 obtain⟨j,rfl⟩:∃j:Nat,k=(j:Int):=⟨k.toNat,by omega⟩
 have hj:j<4:=by omega
 refine Z72 ?_
 refine KO.ce (cp:=[]) rfl rfl rfl Tryz.call79 rfl (hright_e w0 _ _ bh bd H (j:Int) Y21) ?_;rintro v' L' ⟨rfl,rfl⟩;rw[hk]
 refine Z322 ?_
 refine K.open' (fun _ h=>hoP_open h) ?_
 rintro⟨V,hV⟩
 dsimp only
 cases hdn:H.down with
 |true=>
  have he:btPE H (j:Int)=6:=by unfold btPE;rw[if_neg Y58,if_pos hdn]
  have he2:btE H D (j:Int)=6:=by unfold btE;rw[he];rfl
  have hnw:btNew H (j:Int)=false:=by unfold btNew;rw[he];rfl
  refine Z337 ?_
  refine Z2 ?_
  refine K.condT rfl hdn ?_
  refine Z75 ?_
  refine Z7 ?_
  refine Z59 ?_
  refine KQ.ret3 rfl rfl rfl rfl (fun w' hs'=>early 6 (by decide) he2 hnw w' (hoP_mk V hV hs'))
 |false=>
 refine Z337 ?_
 refine Z2 ?_
 refine K.condF rfl hdn ?_
 refine Z6 ?_
 have hbs:=hV.bs
 have hbt:=hV.batch
 have hps:=hV.ps
 obtain⟨bv,hbv⟩:∃e,V.bs[j]? =some e:=⟨_,List.getElem?_eq_getElem (by omega)⟩
 obtain⟨bl,hbl2⟩:∃e,H.batch[j]? =some e:=⟨_,List.getElem?_eq_getElem (by omega)⟩
 have hba:bcAt H j=bl:=by unfold bcAt;rw[List.getD_eq_getElem?_getD,hbl2];rfl
 obtain⟨c1,c2⟩:=hoC_bat (bd:=bd) hV hbv
 obtain⟨p,hp⟩:∃p,V.ps[j]? =some p:=⟨_,List.getElem?_eq_getElem (by omega)⟩
 have hw:=hoC_way (bd:=bd) hV hj hp
 have hall:=all_w hV.ways hj
 have hql:=(hB.w hj).len
 have hpe:btPE H (j:Int)=if bl=[]∧qthere (H.wAt j)=[]then 8 else 0:=by unfold btPE;rw[if_neg Y58,if_neg Y64,Int.toNat_natCast,hba]
 refine Z190 ?_
 refine K.fact (fun w hw=>roS_form (hw.pick (A:=batS bv bl) .head)) ?_
 rintro⟨ba,bc,rfl⟩
 have back:∀{w':World} {M:List HP},St w0 (batS (.slice ba bl.length bc) bl::fam batS (V.bs.eraseIdx j) (H.batch.eraseIdx j)::blk bh (.cells (hoC bd V H).toArray 133 (0,0))::nmS V.nv H.names::omapK Value.string V.mb (mapE V H)::fam quP V.ps H.all::fam putsS (V.us.map (·.1)) (H.units.map (·.puts))::fam getsS (V.us.map (·.2)) (H.units.map (·.gets))::M) w'→St w0 (hoP bh bd H::M) w':=fun h=>hoP_mk V hV ((fam_back hbv hbl2 h).all Y7)
 refine Z171 ?_
 refine Z141 ?_
 refine Z128 ?_
 refine Z246 ?_
 refine K.cut (fun _:Unit=>[(0,ptrV bh),(1,.int .i64 (j:Nat))]) (fun _=>hoP bh bd (btH H D (j:Int))::dkP bd (btD H D (j:Int))::L) (fun _=>btE H D (j:Int)=0) ?_ ?_
 ·refine K.condD rfl (fun h0=>?_) (fun h0=>?_)
  ·have hnil:bl=[]:=List.length_eq_zero_iff.1 (by omega)
   refine Z117 ?_
   refine Z26 ?_
   refine Z107 ?_
   refine KO.ldAt (i:=8+j) rfl rfl Tryz.isAgg119 Y11 Y31 hw rfl ?_
   refine KO.ce (cp:=[]) rfl rfl rfl Tryz.call80 rfl (KE.famE1 (A:=fun v=>msS v (qthere (H.wAt j))) (φ:=fun _=>True) hp hall Y11 (fun L=>KE.mono (there_e w0 _ _ p (H.wAt j) .head (by omega)) (fun v M h=>⟨trivial,h⟩))) ?_;rintro va L' ⟨-,rfl⟩
   refine Z21 ?_
   have hids:=hid j hj
   have htl:(qthere (H.wAt j)).length≤n:=by unfold qthere;rw[List.length_map];exact Nat.le_trans (List.length_filter_le _ _) hql
   have hbi:btIds H j=((qthere (H.wAt j)).take 3).map (·.id):=rfl
   generalize htq:qthere (H.wAt j)=tl at hids htl hbi hpe ⊢
   refine K.fact (fun w hw=>SL_form (hw.pick (A:=msS va tl) .head)) ?_
   rintro⟨ta,tc,rfl,htg⟩
   refine Z8 ?_
   refine Z101 ?_
   refine Z246 ?_
   refine K.condD rfl (fun h7=>?_) (fun h7=>?_)
   ·have htn:tl=[]:=List.length_eq_zero_iff.1 (by omega)
    rw[if_pos ⟨hnil,htn⟩]at hpe
    have he2:btE H D (j:Int)=8:=by unfold btE;rw[hpe];rfl
    have hnw:btNew H (j:Int)=false:=by unfold btNew;rw[hpe];rfl
    refine Z75 ?_
    refine Z7 ?_
    refine Z59 ?_
    refine KQ.ret3 rfl rfl rfl rfl (fun w' hs'=>early 8 (by decide) he2 hnw w' ?_)
    have h1:=back (M:=dkP bd D::L) (hs'.all Y5)
    exact h1
   ·have htn:tl≠[]:=fun e=>h7 (by rw[e];rfl)
    rw[if_neg (fun e=>htn e.2)]at hpe
    have hnw:btNew H (j:Int)=true:=by unfold btNew;rw[hpe,Int.toNat_natCast,hba,hnil];rfl
    obtain⟨g,rfl⟩:=htg (by have :tl.length≠0:=fun e=>h7 (by omega)
                           omega)
    have hjt:(j:Int).toNat=j:=Int.toNat_natCast j
    have hrec:=recBt_ok (k:=(j:Int)) (l:=btIds H j) ⟨by omega,by omega⟩ (by rw[hbi];simp;omega) (fun x hx=>by
     rw[hbi]at hx
     obtain⟨m,hm,rfl⟩:=List.mem_map.1 hx
     exact hids m (List.mem_of_mem_take hm))
    have hrsz:=recBt_size (k:=(j:Int)) (l:=btIds H j) ⟨by omega,by omega⟩ (by rw[hbi];simp;omega) (fun x hx=>by
     rw[hbi]at hx
     obtain⟨m,hm,rfl⟩:=List.mem_map.1 hx
     exact hids m (List.mem_of_mem_take hm))
    refine K.fact (fun w hw=>(SL_cap (hw.pick (A:=msS (.slice (some ⟨g,0,none⟩) tl.length tc) tl) Y21)).2) ?_
    intro htc
    generalize hil:btIds H j=il at hrec hrsz hbi
    have hill:il.length=min tl.length 3:=by rw[hbi,List.length_map,List.length_take];omega
    have hlow:(min (tl.length:Int) 3)=((min tl.length 3:Nat):Int):=by omega
    refine Z273 ?_
    refine KO.ce (cp:=[]) rfl rfl rfl Tryz.call59 rfl (itoa_e w0 _ (j:Int) hT ⟨by omega,by omega⟩) ?_;rintro v' L' ⟨rfl,rfl⟩
    refine KO.bs1 (z:=(Value.string ⟨#[]⟩)) (sz:=1) (by':=16) rfl rfl Tryz.underlying115 Y62 Y68 Y68 (by decide) (by decide) rfl ?_;intro b46
    refine Z21 ?_
    refine K.conv (fun w' hw'=>strS_blkM (b:=b46) (vs:=[.string (itoaS (j:Int))]) (xs:=[itoaS (j:Int)]) (k:=1) (hw'.pick Y21) rfl rfl (by omega)) ?_
    refine Z72 ?_
    refine Z101 ?_
    refine KO.min2 rfl rfl hlow rfl ?_
    refine KO.cutTo (hi:=min tl.length 3) rfl rfl Tryz.underlying49 Tryz.sizeOf44 rfl (by omega) rfl ?_
    refine Z285 ?_
    refine K.loop (fun q:Nat×Value=>[(0,ptrV bh),(1,.int .i64 (j:Nat)),(8,q.2),(51,.slice (some ⟨g,0,none⟩) (min tl.length 3) tc),(52,.int .i64 ((min tl.length 3:Nat):Int)),(53,.int .i64 (q.1:Nat))])
     (fun q=>strS q.2 (((j:Int)::il.take q.1).map itoaS)::msS (.slice (some ⟨g,0,none⟩) tl.length tc) tl::batS (.slice ba bl.length bc) bl::fam batS (V.bs.eraseIdx j) (H.batch.eraseIdx j)::blk bh (.cells (hoC bd V H).toArray 133 (0,0))::nmS V.nv H.names::omapK Value.string V.mb (mapE V H)::fam quP V.ps H.all::fam putsS (V.us.map (·.1)) (H.units.map (·.puts))::fam getsS (V.us.map (·.2)) (H.units.map (·.gets))::dkP bd D::L)
     (fun q=>q.1≤min tl.length 3) (fun q=>min tl.length 3-q.1) (0,.slice (some ⟨b46,0,none⟩) 1 1) (Nat.zero_le _) ⟨rfl,rfl,rfl,rfl,rfl,rfl,trivial⟩ (fun w' hs'=>hs'.all Y7) ?_
    rintro⟨i,v8⟩ hi
    dsimp only at hi ⊢
    refine Z111 ?_
    refine K.condD rfl (fun h11=>?_) (fun h11=>?_)
    ·obtain⟨m,hm⟩:∃e,tl[i]? =some e:=⟨tl[i],List.getElem?_eq_getElem (by omega)⟩
     have hmi:=hids m (List.mem_of_getElem? hm)
     have hit:il[i]? =some m.id:=by rw[hbi,List.getElem?_map,List.getElem?_take,if_pos (by omega),hm];rfl
     obtain⟨mi,mp,mb,mq,mh⟩:=m
     dsimp only at hmi hit
     refine Z349 ?_
     refine KO.ldEN rfl rfl Tryz.isAgg44 Tryz.sizeOf44 Y11 (fun _=>rfl) Y63 rfl ?_
     refine KO.alloc rfl Tryz.zeroValue44 Y68 rfl ?_;intro b10
     refine Z67 ?_
     refine Z2 ?_
     refine Z8 ?_
     refine Z25 ?_
     refine KO.ld (v:=.int .i64 mi) rfl rfl Tryz.isAgg3 Y21 Y68 rfl ?_
     refine KO.ce (cp:=[]) rfl rfl rfl Tryz.call59 rfl (itoa_e w0 _ mi hT hmi) ?_;rintro v' L' ⟨rfl,rfl⟩
     refine KO.bs1 (z:=(Value.string ⟨#[]⟩)) (sz:=1) (by':=16) rfl rfl Tryz.underlying115 Y62 Y68 Y68 (by decide) (by decide) rfl ?_;intro b61
     refine KO.app (cf:=strC) (z:=Value.string ⟨#[]⟩) (sz:=1) (by':=16) (xs:=((j:Int)::il.take i).map itoaS) rfl rfl rfl (.tail (.tail .head)) .head Tryz.underlying115 str_info rfl (itoaS mi) rfl rfl rfl Y61 (by decide) rfl ?_;intro v62
     refine Z234 ?_
     refine KQ.round (i+1,v62) Y47 Y47 ⟨rfl,rfl,rfl,rfl,rfl,rfl,trivial⟩ (fun w' hs'=>?_)
     dsimp only
     rw[take_succ_some hit,←List.cons_append,List.map_append]
     exact hs'.all Y5
    obtain rfl:i=min tl.length 3:=by omega
    rw[←hill,List.take_length]
    have hbe:btE H D (j:Int)=logE H D:=by unfold btE;rw[hpe,hnw];rfl
    have hbH:btH H D (j:Int)=wrH H D (recBt (j:Int) il):=by unfold btH;rw[hnw,hjt,hil];rfl
    have hbD:btD H D (j:Int)=logD H D (recBt (j:Int) il):=by unfold btD;rw[hnw,hjt,hil];rfl
    refine Z9 ?_
    refine K.conv (L':=hoP bh bd H::dkP bd D::strS v8 (((j:Int)::il).map itoaS)::L) (fun w' hs'=>?_) ?_
    ·have h1:=back (M:=strS v8 (((j:Int)::il).map itoaS)::dkP bd D::L) (hs'.all Y5)
     exact h1.all Y3
    refine Z72 ?_
    refine KO.ce (cp:=[]) rfl rfl rfl Tryz.call62 rfl (join_e w0 _ _ v8 (((j:Int)::il).map itoaS) sp Y11 Y61 (by omega)) ?_;rintro v' L' ⟨rfl,rfl⟩
    refine KO.cat rfl rfl (by have :(⟨#[98,58]⟩:ByteArray).size=2:=rfl;omega) rfl ?_;rw[show(⟨#[98,58]⟩++joinS (((j:Int)::il).map itoaS) sp:ByteArray)=recBt (j:Int) il from by unfold recBt;rw[show(⟨#[98,58]⟩:ByteArray)=chr1 98++chr1 58 by decide]]
    refine KO.cl (cp:=[]) rfl rfl rfl Tryz.call84 rfl (KC.pk2 Y21 Y21 (hwrites_c w0 _ bh bd n 1 H D (recBt (j:Int) il) hT hM hB hrec (by omega) h3 hd)) ?_;rintro v' L' ⟨rfl,rfl⟩
    refine Z239 ?_
    refine K.condD rfl (fun h16=>?_) (fun h16=>?_)
    ·refine Z117 ?_
     refine Z166 ?_
     refine Z59 ?_
     refine KQ.ret3 rfl rfl rfl rfl (fun w' hs'=>⟨_,_,rfl,⟨.slice none 0 0,?_,rfl⟩,?_⟩)
     ·unfold btN;rw[hbe,if_neg h16]
     ·unfold btL;rw[hbe,if_neg h16,hbH,hbD]
      exact SL_nil (hs'.all Y1)
    ·refine Z189 ?_
     have h160:logE H D=0:=by simpa using h16
     exact KQ.mid () (by rw[hbe];exact h160) ⟨rfl,rfl,trivial⟩ (fun w' hs'=>by rw[hbH,hbD];exact hs'.all Y1)
  ·have hnl:bl≠[]:=fun e=>h0 (by rw[e];rfl)
   rw[if_neg (fun e=>hnl e.1)]at hpe
   have hnw:btNew H (j:Int)=false:=by unfold btNew;rw[hpe,Int.toNat_natCast,hba];simp[hnl]
   have he2:btE H D (j:Int)=0:=by unfold btE;rw[hpe,hnw];rfl
   have hbH:btH H D (j:Int)=H:=by unfold btH;rw[hnw];rfl
   have hbD:btD H D (j:Int)=D:=by unfold btD;rw[hnw];rfl
   rw[hbH,hbD]
   refine Z189 ?_
   exact KQ.mid () he2 ⟨rfl,rfl,trivial⟩ (fun w' hs'=>back (hs'.all Y30))
 ·rintro⟨⟩ he0
  have hbN:btN H D (j:Int)=snAt (btH H D (j:Int)) j:=by unfold btN;rw[if_pos he0,Int.toNat_natCast]
  have hbL:btL H D (j:Int)=(qkept ((btH H D (j:Int)).wAt j)).filter (inB (bcAt (btH H D (j:Int)) j)):=by unfold btL;rw[if_pos he0,Int.toNat_natCast]
  rw[hbN,hbL,he0]
  generalize btH H D (j:Int)=H2 at hBb ⊢
  generalize btD H D (j:Int)=D2
  clear back early
  refine K.open' (fun _ h=>hoP_open h) ?_
  rintro⟨V2,hV2⟩
  dsimp only
  have hbs2:=hV2.bs
  have hbt2:=hV2.batch
  have hps2:=hV2.ps
  obtain⟨bv2,hbv2⟩:∃e,V2.bs[j]? =some e:=⟨_,List.getElem?_eq_getElem (by omega)⟩
  obtain⟨bl2,hbl3⟩:∃e,H2.batch[j]? =some e:=⟨_,List.getElem?_eq_getElem (by omega)⟩
  have hba2:bcAt H2 j=bl2:=by unfold bcAt;rw[List.getD_eq_getElem?_getD,hbl3];rfl
  have hbll:=hBb.ext.bat bl2 (List.mem_of_getElem? hbl3)
  rw[hba2]
  obtain⟨c3,-⟩:=hoC_bat (bd:=bd) hV2 hbv2
  obtain⟨d3,-⟩:=hoC_snt (bd:=bd) hV2 hj
  obtain⟨p2,hp2⟩:∃p,V2.ps[j]? =some p:=⟨_,List.getElem?_eq_getElem (by omega)⟩
  have hw2:=hoC_way (bd:=bd) hV2 hj hp2
  have hall2:=all_w hV2.ways hj
  have hql2:=(hBb.w hj).len
  have hakl:(qkept (H2.wAt j)).length≤n+1:=by unfold qkept;rw[List.length_map];exact Nat.le_trans (List.length_filter_le _ _) hql2
  refine K.conv (fun w hw=>fam_out hbv2 hbl3 (hw.pick (A:=fam batS V2.bs H2.batch) Y11)) ?_
  refine K.fact (fun w hw=>roS_form (hw.pick (A:=batS bv2 bl2) .head)) ?_
  rintro⟨ba2,bc2,rfl⟩
  have back2:∀{w':World} {M:List HP},St w0 (batS (.slice ba2 bl2.length bc2) bl2::fam batS (V2.bs.eraseIdx j) (H2.batch.eraseIdx j)::blk bh (.cells (hoC bd V2 H2).toArray 133 (0,0))::nmS V2.nv H2.names::omapK Value.string V2.mb (mapE V2 H2)::fam quP V2.ps H2.all::fam putsS (V2.us.map (·.1)) (H2.units.map (·.puts))::fam getsS (V2.us.map (·.2)) (H2.units.map (·.gets))::M) w'→St w0 (hoP bh bd H2::M) w':=fun h=>hoP_mk V2 hV2 ((fam_back hbv2 hbl3 h).all Y7)
  refine Z150 ?_
  refine Z26 ?_
  refine Z107 ?_
  refine KO.ldAt (i:=8+j) rfl rfl Tryz.isAgg119 Y11 Y31 hw2 rfl ?_
  refine KO.ce (cp:=[]) rfl rfl rfl Tryz.call67 rfl (KE.famE1 (A:=fun v=>msS v (qkept (H2.wAt j))) (φ:=fun _=>True) hp2 hall2 Y11 (fun L=>KE.mono (kept_e w0 _ _ p2 (H2.wAt j) .head (by omega)) (fun v M h=>⟨trivial,h⟩))) ?_;rintro va L' ⟨-,rfl⟩;refine KO.fact (fun w hw=>SL_form (hw.pick (A:=msS va (qkept (H2.wAt j))) .head)) ?_;rintro⟨aa,ac,rfl,hag⟩
  refine Z285 ?_
  generalize qkept (H2.wAt j)=al at hakl hag ⊢
  refine K.loop (fun q:Nat×Value=>[(0,ptrV bh),(1,.int .i64 (j:Nat)),(12,q.2),(78,.slice aa al.length ac),(79,.int .i64 (al.length:Nat)),(80,.int .i64 (q.1:Nat))])
   (fun q=>SL 44 5 msC q.2 ((al.take q.1).filter (inB bl2))::msS (.slice aa al.length ac) al::batS (.slice ba2 bl2.length bc2) bl2::fam batS (V2.bs.eraseIdx j) (H2.batch.eraseIdx j)::blk bh (.cells (hoC bd V2 H2).toArray 133 (0,0))::nmS V2.nv H2.names::omapK Value.string V2.mb (mapE V2 H2)::fam quP V2.ps H2.all::fam putsS (V2.us.map (·.1)) (H2.units.map (·.puts))::fam getsS (V2.us.map (·.2)) (H2.units.map (·.gets))::dkP bd D2::L)
   (fun q=>q.1≤al.length) (fun q=>al.length-q.1) (0,.slice none 0 0) (Nat.zero_le _) ⟨rfl,rfl,rfl,rfl,rfl,rfl,trivial⟩ (fun w' hs'=>?_) ?_
  ·have h1:=SL_nil (E:=44) (sz:=5) (cf:=msC) hs'
   exact h1.all Y7
  rintro⟨i,v12⟩ hi
  dsimp only at hi ⊢
  refine Z111 ?_
  refine K.condD rfl (fun h20=>?_) (fun h20=>?_)
  ·obtain⟨m,hm⟩:∃e,al[i]? =some e:=⟨al[i],List.getElem?_eq_getElem (by omega)⟩
   obtain⟨g2,rfl⟩:=hag (by omega)
   have htk:(al.take (i+1)).filter (inB bl2)=(al.take i).filter (inB bl2)++if m.id∈bl2 then[m]else[]:=by
    rw[take_succ_some hm,List.filter_append]
    congr 1
    rw[List.filter_cons]
    unfold inB
    by_cases hb:m.id∈bl2<;>simp[hb]
   have hfl:((al.take i).filter (inB bl2)).length≤al.length:=Nat.le_trans (List.length_filter_le _ _) Y61
   obtain⟨mi,mp,mb,mq,mh⟩:=m
   dsimp only at htk
   refine Z145 ?_
   refine Z163 ?_
   refine KO.alloc rfl Tryz.zeroValue44 Y68 rfl ?_;intro b14
   refine Z278 ?_
   refine K.draw [.pure,.pure,.pure,.pure,.pure,.read,.pure,.read,.keep] [0,1,2,3,4,5,6,7,8] Y62 Y62 ?_
   refine Z217 ?_
   refine Z41 ?_
   refine KO.ldAt (i:=22+j) rfl rfl Tryz.isAgg23 Y11 Y31 c3 rfl ?_
   refine Z25 ?_
   refine KO.ld (v:=.int .i64 mi) rfl rfl Tryz.isAgg3 Y21 Y68 rfl ?_
   refine KO.ce (cp:=[]) rfl rfl rfl Tryz.call92 rfl (coni_e w0 _ _ bl2 mi (fun w' hw'=>roS_rd (hw'.pick (A:=batS (.slice ba2 bl2.length bc2) bl2) Y11)) (by omega)) ?_;rintro v' L' ⟨rfl,rfl⟩
   refine Z2 ?_
   refine K.condD rfl (fun hb=>?_) (fun hb=>?_)
   ·rw[if_pos hb]at htk
    refine Z8 ?_
    refine Z124 ?_
    refine KO.bs1 (z:=(Value.agg #[.int .i64 0,.int .i64 0,.string ⟨#[]⟩,.string ⟨#[]⟩,.int .i64 0])) (sz:=5) (by':=56) rfl rfl Tryz.underlying49 Y62 Y68 Y68 (by decide) (by decide) rfl ?_;intro b95
    refine KO.app (cf:=msC) (z:=Value.agg #[.int .i64 0,.int .i64 0,.string ⟨#[]⟩,.string ⟨#[]⟩,.int .i64 0]) (sz:=5) (by':=56) (xs:=(al.take i).filter (inB bl2)) rfl rfl rfl Y11 .head Tryz.underlying49 Y62 Y68 ⟨mi,mp,mb,mq,mh⟩ rfl rfl rfl (by omega) (by decide) rfl ?_;intro v96
    refine Z234 ?_
    refine KQ.round (i+1,v96) Y47 Y47 ⟨rfl,rfl,rfl,rfl,rfl,rfl,trivial⟩ (fun w' hs'=>?_)
    dsimp only
    rw[htk]
    exact hs'.all Y5
   ·rw[if_neg hb,List.append_nil]at htk
    refine Z191 ?_
    refine KQ.round (i+1,v12) Y47 Y47 ⟨rfl,rfl,rfl,rfl,rfl,rfl,trivial⟩ (fun w' hs'=>?_)
    dsimp only
    rw[htk]
    exact hs'.all Y5
  ·obtain rfl:i=al.length:=by omega
   rw[List.take_length]
   refine Z9 ?_
   refine Z171 ?_
   refine Z109 ?_
   refine KO.ldAt (i:=26+j) rfl rfl Tryz.isAgg3 Y11 Y31 d3 rfl ?_
   refine Z1 ?_
   refine Z166 ?_
   refine Z33 ?_
   refine KQ.ret3 rfl rfl rfl rfl (fun w' hs'=>⟨_,_,rfl,⟨v12,rfl,rfl⟩,?_⟩)
   have h1:=back2 (M:=SL 44 5 msC v12 (al.filter (inB bl2))::dkP bd D2::L) (hs'.all Y5)
   exact h1.all Y3
end Go.Proofs.YtjhogocabcdjbabGreatDoor
/- the house: batches that arrive -/
namespace WB
open Go
def rmV (r:List (ByteArray×Int)):List (ByteArray×Value):=r.map fun x=>(x.1,.int .i64 x.2)
def rmG (r:List (ByteArray×Int)) (s:ByteArray):Int:=(getK r s).getD 0
theorem rmV_get (r:List (ByteArray×Int)) (s:ByteArray):(getK (rmV r) s).getD (.int .i64 0)=.int .i64 (rmG r s):=by
 unfold rmV rmG
 induction r with
 |nil=>rfl
 |cons x r ih=>
  rw[List.map_cons,getK,getK]
  dsimp only
  by_cases h:x.1=s
  ·rw[if_pos h,if_pos h];rfl
  ·rw[if_neg h,if_neg h,ih]
theorem rmV_put (r:List (ByteArray×Int)) (s:ByteArray) (v:Int):putK (rmV r) s (.int .i64 v)=rmV (putK r s v):=by
 unfold rmV
 induction r with
 |nil=>rfl
 |cons x r ih=>
  rw[List.map_cons,putK,putK]
  dsimp only
  by_cases h:x.1=s
  ·rw[if_pos h,if_pos h];rfl
  ·rw[if_neg h,if_neg h,ih];rfl
theorem rmG_put (r:List (ByteArray×Int)) (s t:ByteArray) (v:Int):rmG (putK r s v) t=if s=t then v else rmG r t:=by
 unfold rmG
 rw[getK_putK]
 split<;>rfl
def toDead (H:Ho) (m:Ms) (r:List (ByteArray×Int)):Bool:=match H.qI m.queue with
 |none=>true
 |some i=> !localB H.names m.queue||decide (20≤((H.qAt i).l.length:Int)+rmG r m.queue)
def arDst (H:Ho):List Ms→List (ByteArray×Int)→List ByteArray
 |[],_=>[]
 |m::l,r=>if toDead H m r=true then deadS::arDst H l r else m.queue::arDst H l (putK r m.queue (rmG r m.queue+1))
theorem arDst_len (H:Ho):∀(l:List Ms) (r:List (ByteArray×Int)),(arDst H l r).length=l.length
 |[],_=>rfl
 |m::l,r=>by
  unfold arDst
  split<;>simp[arDst_len H l]
theorem arDst_mem (H:Ho):∀(l:List Ms) (r:List (ByteArray×Int)),∀t∈arDst H l r,t=deadS∨∃m∈l,t=m.queue
 |[],_,t,h=>by cases h
 |m::l,r,t,h=>by
  unfold arDst at h
  split at h
  ·rcases List.mem_cons.1 h with rfl|h
   ·exact .inl rfl
   ·rcases arDst_mem H l r t h with h|⟨x,hx,h⟩
    ·exact .inl h
    ·exact .inr ⟨x,by simp[hx],h⟩
  ·rcases List.mem_cons.1 h with rfl|h
   ·exact .inr ⟨m,by simp,rfl⟩
   ·rcases arDst_mem H l _ t h with h|⟨x,hx,h⟩
    ·exact .inl h
    ·exact .inr ⟨x,by simp[hx],h⟩
def notFor (H:Ho) (m:Ms):Bool:=decide (m.house≠H.id)||decide (m.id%4=H.id)
def sameId (m x:Ms):Bool:=decide (x.id=m.id)
def twAt (H:Ho) (l:List Ms) (i:Nat) (m:Ms):Bool:=(l.take i).any (sameId m)||H.queues.any fun x=>qhas x.2 m.id
def arTw (H:Ho) (l:List Ms):Bool:=l.zipIdx.any fun x=>twAt H l x.2 x.1
def recR (k:Int) (l:List Ms) (t:List ByteArray):ByteArray:=chr1 114++chr1 58++(itoaS k++chr1 47++(writeS l++chr1 47++joinS t plus))
def arPE (H:Ho) (k n:Int) (l:List Ms):Int:=
 if rightK H k=false then 2 else if H.down=true then 6 else if n≤avAt H k.toNat then 0 else if avAt H k.toNat+1<n then 10 else if badI l≠none∨l.any (notFor H)=true then 1 else if arTw H l=true then 9 else 0
def arW (H:Ho) (k n:Int) (l:List Ms):Bool:=decide (arPE H k n l=0∧avAt H k.toNat<n)
def arE (H:Ho) (D:Dk) (k n:Int) (l:List Ms):Int:=if arPE H k n l≠0 then arPE H k n l else if arW H k n l=true then logE H D else 0
def arRec (H:Ho) (k:Int) (l:List Ms):ByteArray:=recR k l (arDst H l [])
def arH (H:Ho) (D:Dk) (k n:Int) (l:List Ms):Ho:=if arW H k n l=true then wrH H D (arRec H k l)else H
def arD (H:Ho) (D:Dk) (k n:Int) (l:List Ms):Dk:=if arW H k n l=true then logD H D (arRec H k l)else D
def arNo (H:Ho) (D:Dk) (k n:Int) (l:List Ms):Int:=if arE H D k n l=0 then avAt (arH H D k n l) k.toNat else 0
theorem word_noB {c:UInt8} (h2:isLet c=false) {s:ByteArray} (h:wordB s=true):noB c s:=fun b hb e=>by
 subst e
 have h:=word_let h
 unfold allLet at h
 rw[List.all_eq_true]at h
 rw[h b hb]at h2;cases h2
theorem deadS_word:wordB deadS=true:=by decide+kernel
theorem arDst_word {H:Ho} {l:List Ms} (h:∀m∈l,msRight m=true) (r:List (ByteArray×Int)):∀t∈arDst H l r,wordB t=true:=fun t ht=>by
 rcases arDst_mem H l r t ht with rfl|⟨m,hm,rfl⟩
 ·exact deadS_word
 ·obtain⟨-,-,-,-,-,h6,-,-⟩:=msRight_parts (h m hm);exact h6
theorem joinS_noB {c:UInt8} {sep:ByteArray} (hs:noB c sep) {l:List ByteArray} (h:∀x∈l,noB c x):noB c (joinS l sep):=fun b hb=>by
 rcases mem_joinS hb with hb|⟨y,hy,hb⟩
 ·exact hs b hb
 ·exact h y hy b hb
theorem pcs_joinP {l:List ByteArray} (hl:l≠[]) (h:∀t∈l,wordB t=true):pcs 43 (joinS l plus)=l:=by
 have :∀{l:List ByteArray},l≠[]→(∀p∈l,noB 43 p)→pcs 43 (joinS l (chr1 43))=l:=by
  intro l
  induction l with
  |nil=>intro h;exact absurd rfl h
  |cons p l ih=>
   intro _ h
   cases l with
   |nil=>rw[joinS_one];exact pcs_free (h p (by simp))
   |cons q l=>rw[joinS_cons2,pcs_app (h p (by simp)),ih (by simp) fun x hx=>h x Y67]
 exact this hl fun t ht=>word_noB (by decide) (h t ht)
theorem recR_parts {k:Int} {l:List Ms} {t:List ByteArray} (h:∀m∈l,msRight m=true) (ht:∀x∈t,wordB x=true):pcs 47 (cutB 58 (recR k l t)).2.1=[itoaS k,writeS l,joinS t plus]:=by
 unfold recR
 rw[rec_cut (by decide)]
 dsimp only
 rw[pcs_app (itoa_noB _ (by decide)),pcs_app (noB_write (by decide) (by decide) (by decide) h),pcs_free]
 exact joinS_noB (fun b hb=>by simp[plus]at hb;subst hb;decide) fun x hx=>word_noB (by decide) (ht x hx)
theorem recR_ok {k:Int} {l:List Ms} {t:List ByteArray} (hk:0≤k∧k<4) (h:badI l=none) (hl:l.length≤250) (ht:∀x∈t,wordB x=true) (hlt:t.length=l.length):RecOk 250 (recR k l t)∧(recR k l t).size≤40000:=by
 have hr:=badI_all h
 have h1:(writeS l).size≤250*101:=by
  have :=joinS_size plus 100 (l.map msgS) (fun x hx=>by
   obtain⟨m,hm,rfl⟩:=List.mem_map.1 hx
   exact msgS_size (hr m hm))
  have h2:plus.size=1:=rfl
  rw[h2,List.length_map]at this
  unfold writeS
  have h3:=Nat.mul_le_mul_right (100+1) hl
  omega
 have h4:(joinS t plus).size≤250*9:=by
  have :=joinS_size plus 8 t (fun x hx=>(wordB_size (ht x hx)).2)
  have h2:plus.size=1:=rfl
  rw[h2,hlt]at this
  have h3:=Nat.mul_le_mul_right (8+1) hl
  omega
 have h5:=itoaS_size (n:=k) ⟨by omega,by omega⟩
 have e1:(chr1 114).size=1:=rfl
 have e2:(chr1 58).size=1:=rfl
 have e3:(chr1 47).size=1:=rfl
 have hs:(recR k l t).size≤40000:=by unfold recR;simp only[ByteArray.size_append];omega
 refine⟨⟨by omega,fun hk=>?_,fun _ a b c l' h6 h7=>?_⟩,hs⟩
 ·unfold recR at hk
  rw[rec_cut (by decide)]at hk
  exact absurd (show chr1 114=chr1 117 from hk) (by decide)
 ·rw[recR_parts hr ht]at h6
  simp only[List.cons.injEq,and_true]at h6
  obtain⟨-,rfl,rfl⟩:=h6
  rw[mrd_write h]at h7
  simp only[Option.some.injEq]at h7
  subst h7
  refine⟨hl,?_⟩
  by_cases h0:t=[]
  ·subst h0
   simp at hlt
   omega
  ·rw[pcs_joinP h0 ht];omega
end WB
/- house: Arrives -/
namespace Go.Proofs.YtjhogocabcdjbabGreatDoor
open Go Go.RowKit WB
theorem conm_e (w0:World) (L:List HP) (v:Value) (xs:List Ms) (f:FuncId) (cp:List Value) (pf:Ms→Bool) (hr:∀w,St w0 L w→RdA w 5 msC v xs) (hlen:xs.length<1000000) (hcall:∀args w,(callFunc f args).run Tryz.prog w=.ok (.enter f args) w)
 (hcl:∀e,e∈xs→KE Tryz.prog f ([]++([Value.agg (msC e).toArray]++cp)).toArray w0 L (fun v L'=>v=.bool (pf e)∧L'=L)):
 KE Tryz.prog 189 #[v,.func (.func f) [].toArray cp.toArray] w0 L (fun v L'=>v=.bool (xs.any pf)∧L'=L):=by
 refine KE.mk (n:=9) Tryz.func189 rfl Tryz.ntmps189 (by simp) ?_
 intro w hw
 refine Z352 ?_
 refine KO.ce rfl rfl rfl Tryz.call153 rfl ((idxm_e w0 L v xs f cp pf hr hlen hcall hcl).rebase hw) ?_;rintro v L' ⟨rfl,rfl⟩
 refine Z77 ?_
 refine Z33 ?_
 refine KQ.ret1 rfl rfl (fun w' hs=>⟨_,_,rfl,⟨?_,rfl⟩,hw.below_step hs.below,hs.below⟩)
 rw[fidx_any]
theorem ar1_e (w0:World) (L R R2:List HP) (m:Ms) (b bh bd:Nat) (H:Ho) (E:TypeId) (hp:Pick L (blk b (.cells [ptrV bh].toArray E (0,0))) R) (hq:Pick L (hoP bh bd H) R2) (hm:0≤m.id):
 KE Tryz.prog 190 #[.agg (msC m).toArray,.pointer (some ⟨b,0,none⟩)] w0 L (fun v L'=>v=.bool (notFor H m)∧L'=L):=by
 obtain⟨mi,mp,mb,mq,mh⟩:=m
 dsimp only at hm
 refine KE.mk (n:=21) Tryz.func190 rfl Tryz.ntmps190 (by simp) ?_
 intro w hw
 obtain⟨V,hV,hc⟩:=hoP_cells hw hq
 have hc0:w.cell? ⟨bh,0,none⟩=some (.int .i64 H.id):=hc 0 _ rfl
 have hb0:w.cell? ⟨b,0,none⟩=some (ptrV bh):=by rw[World.cell?,(hw.pick hp).look.2];rfl
 refine Z3 ?_
 refine KO.box rfl rfl Y68 rfl ?_;intro b2
 refine Z21 ?_
 by_cases h1:mh=H.id
 ·refine Z197 ?_
  refine Z17 ?_
  refine KO.ld0 rfl rfl Tryz.isAgg29 hb0 rfl ?_
  refine Z49 ?_
  refine Z115 ?_
  refine KO.ld0 rfl rfl Tryz.isAgg3 hc0 rfl ?_
  refine Z265 ?_
  refine Z325 ?_
  refine KO.on rfl rfl Y69 ?_;refine KO.ld (v:=.int .i64 mi) rfl rfl Tryz.isAgg3 Y21 Y68 rfl ?_
  refine KO.on rfl rfl Y69 ?_;refine KO.rem rfl rfl (by omega) hm rfl ?_
  refine KO.on rfl rfl Y69 ?_;refine KO.ld0 rfl rfl Tryz.isAgg29 hb0 rfl ?_
  refine Z20 ?_
  refine Z358 ?_
  refine Z115 ?_
  refine KO.on rfl rfl Y69 ?_;refine KO.ld0 rfl rfl Tryz.isAgg3 hc0 rfl ?_
  refine Z20 ?_
  refine Z68 ?_
  refine Z48 ?_
  refine Z33 ?_
  refine KQ.ret1 rfl rfl (fun w' hs=>⟨_,_,rfl,⟨?_,rfl⟩,hw.below_step hs.below,hs.below⟩)
  unfold notFor;simp[h1]
 ·refine Z197 ?_
  refine Z17 ?_
  refine KO.ld0 rfl rfl Tryz.isAgg29 hb0 rfl ?_
  refine Z49 ?_
  refine Z115 ?_
  refine KO.ld0 rfl rfl Tryz.isAgg3 hc0 rfl ?_
  refine Z265 ?_
  refine Z313 ?_
  refine Z18 ?_
  refine Z43 ?_
  refine Z33 ?_
  refine KQ.ret1 rfl rfl (fun w' hs=>⟨_,_,rfl,⟨?_,rfl⟩,hw.below_step hs.below,hs.below⟩)
  unfold notFor;simp[h1]
theorem ar2_e (w0:World) (L R:List HP) (x m:Ms) (b:Nat) (E:TypeId) (hp:Pick L (blk b (.cells (msC m).toArray E (0,0))) R):
 KE Tryz.prog 191 #[.agg (msC x).toArray,.pointer (some ⟨b,0,none⟩)] w0 L (fun v L'=>v=.bool (sameId m x)∧L'=L):=by
 obtain⟨mi,mp,mb,mq,mh⟩:=m
 obtain⟨xi,xp,xb,xq,xh⟩:=x
 refine KE.mk (n:=9) Tryz.func191 rfl Tryz.ntmps191 (by simp) ?_
 intro w hw
 have hw:=hw.pick hp
 refine Z3 ?_
 refine KO.box rfl rfl Y68 rfl ?_;intro b2
 refine Z135 ?_
 refine Z220 ?_
 refine Z25 ?_
 refine Z323 ?_
 refine Z33 ?_
 refine KQ.ret1 rfl rfl (fun w' hs=>⟨_,_,rfl,⟨rfl,rfl⟩,(hw.unpick hp).below_step hs.below,hs.below⟩)
theorem zip_any {α:Type} (f:Nat→α→Bool) (l:List α):l.zipIdx.any (fun x=>f x.2 x.1)=false↔ ∀i x,l[i]? =some x→f i x=false:=by
 rw[List.any_eq_false]
 constructor
 ·intro h i x hx
  have :=h (x,i) (List.mem_zipIdx_iff_getElem?.2 hx)
  simpa using this
 ·rintro h ⟨x,i⟩ hx
  have :=h i x (List.mem_zipIdx_iff_getElem?.1 hx)
  simpa using this
set_option maxRecDepth 100000 in
set_option maxHeartbeats 2000000 in
theorem hArrives_c (w0:World) (L:List HP) (A:HP) (bh bd n:Nat) (H:Ho) (D:Dk) (k m:Int) (a:Option Addr) (cap:Nat) (l:List Ms) (hT:Tab w0) (hM:Lim w0) (hB:HoB n H) (hn:n+250≤80000) (h3:D.places.length=300) (hd: -4000000000000000000≤D.left∧D.left≤9223372036854775807)
 (hA:∀w R,St w0 (A::R) w→RdA w 5 msC (.slice a l.length cap) l) (hcap:l.length≤cap) (hl:l.length≤250) (hsz:∀m∈l,m.body.size≤maxLen∧m.queue.size≤maxLen):
 KC Tryz.prog 103 #[ptrV bh,.int .i64 k,.int .i64 m,.slice a l.length cap] w0 (hoP bh bd H::dkP bd D::A::L) (fun u M=>u=.tuple #[.int .i64 (arNo H D k m l),errV 70 (arE H D k m l)]∧M=hoP bh bd (arH H D k m l)::dkP bd (arD H D k m l)::A::L):=by
 have early:∀e:Int,e≠0→arPE H k m l=e→∀w',St w0 (hoP bh bd H::dkP bd D::A::L) w'→∃v L',Ending.returned (.tuple #[.int .i64 0,errV 70 e])=Ending.returned v∧(v=.tuple #[.int .i64 (arNo H D k m l),errV 70 (arE H D k m l)]∧L'=hoP bh bd (arH H D k m l)::dkP bd (arD H D k m l)::A::L)∧St w0 L' w':=fun e he hb w' hs'=>by
  have hnw:arW H k m l=false:=by unfold arW;rw[hb];simp[he]
  have hae:arE H D k m l=e:=by unfold arE;rw[hb,if_pos he]
  refine⟨_,_,rfl,⟨?_,rfl⟩,?_⟩
  ·unfold arNo;rw[hae,if_neg he]
  ·unfold arH arD;rw[hnw];exact hs'
 refine KC.mk (n:=175) Tryz.func103 rfl Tryz.ntmps103 (by simp) ?_
 refine Z3 ?_
 refine KO.box rfl rfl Y68 rfl ?_;intro b4
 refine Z166 ?_
 refine Z39 ?_
 cases hk:rightK H k with
 |false=>
  have he:arPE H k m l=2:=by unfold arPE;rw[if_pos hk]
  refine Z231 ?_
  refine KO.ld rfl rfl Tryz.isAgg29 Y21 Y68 rfl ?_
  refine Z1 ?_
  refine KO.ce (cp:=[]) rfl rfl rfl Tryz.call79 rfl (hright_e w0 _ _ bh bd H k Y11) ?_;rintro v' L' ⟨rfl,rfl⟩;rw[hk]
  refine Z70 ?_
  refine Z7 ?_
  refine Z55 ?_
  refine Z75 ?_
  refine Z146 ?_
  refine KQ.ret2 rfl rfl rfl (fun w' hs'=>early 2 (by decide) he w' (hs'.all Y1))
 |true=>
 obtain⟨hk0,hk4,-⟩:=rightK_iff.1 hk
 obtain⟨j,rfl⟩:∃j:Nat,k=(j:Int):=⟨k.toNat,by omega⟩
 have hj:j<4:=by omega
 refine Z231 ?_
 refine KO.ld rfl rfl Tryz.isAgg29 Y21 Y68 rfl ?_
 refine Z1 ?_
 refine KO.ce (cp:=[]) rfl rfl rfl Tryz.call79 rfl (hright_e w0 _ _ bh bd H (j:Int) Y11) ?_;rintro v' L' ⟨rfl,rfl⟩;rw[hk]
 refine Z70 ?_
 refine Z7 ?_
 refine Z63 ?_
 refine Z53 ?_
 refine K.open' (fun _ h=>hoP_open (h.pick Y11)) ?_
 rintro⟨V,hV⟩
 dsimp only
 have hps:=hV.ps
 have hnl:=hB.nlen
 have hso:=hB.sorted
 cases hdn:H.down with
 |true=>
  have he:arPE H (j:Int) m l=6:=by unfold arPE;rw[if_neg Y58,if_pos hdn]
  refine Z231 ?_
  refine Z283 ?_
  refine Z93 ?_
  refine Z83 ?_
  refine K.condT rfl hdn ?_
  refine Z75 ?_
  refine Z146 ?_
  refine KQ.ret2 rfl rfl rfl (fun w' hs'=>early 6 (by decide) he w' (hoP_mk V hV (hs'.all Y5)))
 |false=>
 refine Z231 ?_
 refine Z283 ?_
 refine Z93 ?_
 refine Z83 ?_
 refine K.condF rfl hdn ?_
 refine Z53 ?_
 obtain⟨d1,-⟩:=hoC_arr (bd:=bd) hV hj
 obtain⟨ha0,ha9⟩:0≤avAt H j∧avAt H j≤(n:Int):=getD_mem0 hB.ext.arr
 have hpe:arPE H (j:Int) m l=if m≤avAt H j then 0 else if avAt H j+1<m then 10 else if badI l≠none∨l.any (notFor H)=true then 1 else if arTw H l=true then 9 else 0:=by unfold arPE;rw[if_neg Y58,if_neg Y64,Int.toNat_natCast]
 refine Z8 ?_
 refine Z283 ?_
 refine Z26 ?_
 refine Z207 ?_
 refine KO.leq rfl rfl rfl ?_
 refine Z83 ?_
 refine K.condD rfl (fun h5=>?_) (fun h5=>?_)
 ·rw[if_pos h5]at hpe
  have hnw:arW H (j:Int) m l=false:=by unfold arW;rw[Int.toNat_natCast];simp;omega
  have hae:arE H D (j:Int) m l=0:=by unfold arE;rw[hpe,hnw];rfl
  refine Z3 ?_
  refine Z283 ?_
  refine Z26 ?_
  refine Z207 ?_
  refine Z7 ?_
  refine Z146 ?_
  refine KQ.ret2 rfl rfl rfl (fun w' hs'=>⟨_,_,rfl,⟨?_,rfl⟩,?_⟩)
  ·unfold arNo arH;rw[hae,hnw,if_pos rfl,Int.toNat_natCast];rfl
  ·unfold arH arD;rw[hnw];exact hoP_mk V hV (hs'.all Y5)
 rw[if_neg h5]at hpe
 refine Z117 ?_
 refine Z283 ?_
 refine Z26 ?_
 refine Z207 ?_
 refine Z23 ?_
 refine Z170 ?_
 refine Z83 ?_
 refine K.condD rfl (fun h7=>?_) (fun h7=>?_)
 ·rw[if_pos (by omega)]at hpe
  refine Z75 ?_
  refine Z146 ?_
  refine KQ.ret2 rfl rfl rfl (fun w' hs'=>early 10 (by decide) hpe w' (hoP_mk V hV (hs'.all Y5)))
 rw[if_neg (by omega)]at hpe
 refine Z62 ?_
 refine K.conv (L':=hoP bh bd H::dkP bd D::A::blk b4 (.cells [ptrV bh].toArray 29 (0,0))::L) (fun w' hs'=>hoP_mk V hV (hs'.all Y7)) ?_
 clear d1 hps hV V
 cases hbad:badI l with
 |some bi=>
  rw[hbad,if_pos (.inl (by simp))]at hpe
  refine Z8 ?_
  refine KO.ce (cp:=[]) rfl rfl rfl Tryz.call60 rfl (mwrite_e w0 _ _ l (fun w' hw'=>hA w' _ (hw'.pick (A:=A) (.tail (.tail .head)))) hT hsz (by omega)) ?_;rintro v' L' hR;unfold MwR at hR;rw[hbad]at hR;obtain⟨bx,rfl,rfl⟩:=hR
  refine Z106 ?_
  refine Z227 ?_
  refine Z131 ?_
  refine Z168 ?_
  refine Z169 ?_
  refine KQ.ret2 rfl rfl rfl (fun w' hs'=>early 1 (by decide) hpe w' (hs'.all Y5))
 |none=>
 have hright:∀m∈l,msRight m=true:=badI_all hbad
 rw[hbad]at hpe
 refine Z8 ?_
 refine KO.ce (cp:=[]) rfl rfl rfl Tryz.call60 rfl (mwrite_e w0 _ _ l (fun w' hw'=>hA w' _ (hw'.pick (A:=A) (.tail (.tail .head)))) hT hsz (by omega)) ?_;rintro v' L' hR;unfold MwR at hR;rw[hbad]at hR;obtain⟨rfl,rfl⟩:=hR
 refine Z308 ?_
 refine KO.mkc rfl rfl rfl ?_
 refine KO.on rfl rfl rfl ?_;refine KO.ce rfl rfl rfl Tryz.call189 rfl (conm_e w0 _ _ l 190 [.pointer (some ⟨b4,0,none⟩)] (notFor H) (fun w' hw'=>hA w' _ (hw'.pick (A:=A) (.tail (.tail .head)))) (by omega) Tryz.call190 (fun e he=>ar1_e _ _ _ _ e b4 bh bd H _ Y11 Y21 (msRight_parts (hright e he)).1)) ?_;rintro v' L' ⟨rfl,rfl⟩
 refine Z319 ?_
 cases hnf:l.any (notFor H)with
 |true=>
  rw[if_pos (.inr hnf)]at hpe
  refine Z275 ?_
  refine Z169 ?_
  refine KQ.ret2 rfl rfl rfl (fun w' hs'=>early 1 (by decide) hpe w' (hs'.all Y5))
 |false=>
 rw[if_neg (by rw[hnf];simp)]at hpe
 refine Z295 ?_
 refine Z273 ?_
 refine Z101 ?_
 refine Z61 ?_
 refine KQ.next ?_
 have hAt:∀(i:Nat) x,l[i]? =some x→∀w R,St w0 (A::R) w→∃ad,a=some ad∧HasCells w (ad.add (i *5)) (msC x):=fun i x hx w R hw=>by
  obtain⟨a',c',e,hc⟩:=hA w R hw
  simp only[Value.slice.injEq]at e
  obtain⟨rfl,-,-⟩:=e
  exact hc i x hx
 refine K.cut (fun _:Unit=>[(1,.int .i64 (j:Nat)),(3,.slice a l.length cap),(4,.pointer (some ⟨b4,0,none⟩)),(10,.string (writeS l))]) (fun _=>hoP bh bd H::dkP bd D::A::blk b4 (.cells [ptrV bh].toArray 29 (0,0))::L) (fun _=>arTw H l=false) ?_ ?_
 ·refine K.block ?_
  refine K.loop (fun i:Nat=>(74,.slice a l.length cap)::(75,.int .i64 (l.length:Nat))::(76,.int .i64 (i:Nat))::[(1,.int .i64 (j:Nat)),(3,.slice a l.length cap),(4,.pointer (some ⟨b4,0,none⟩)),(10,.string (writeS l))]) (fun _=>hoP bh bd H::dkP bd D::A::blk b4 (.cells [ptrV bh].toArray 29 (0,0))::L) (fun i=>i≤l.length∧∀i' x,i'<i→l[i']? =some x→twAt H l i' x=false) (fun i=>l.length-i) 0
   ⟨Nat.zero_le _,fun i' x h=>by omega⟩ ⟨rfl,rfl,rfl,rfl,rfl,rfl,rfl,trivial⟩ (fun w' hs'=>hs'.all Y23) ?_
  rintro i ⟨hi,hno⟩
  refine Z111 ?_
  refine K.condD rfl (fun h13=>?_) (fun h13=>?_)
  ·obtain⟨x,hx⟩:∃e,l[i]? =some e:=⟨l[i],List.getElem?_eq_getElem (by omega)⟩
   refine K.fact (fun w hw=>by obtain⟨ad,h,-⟩:=hAt i x hx w _ (hw.pick (A:=A) (.tail (.tail .head)));exact(⟨ad,h⟩:∃ad,a=some ad)) ?_
   rintro⟨ad,rfl⟩
   refine Z229 ?_
   refine KO.idxH (i:=i) rfl rfl Tryz.runUnderlying49 Tryz.sizeOf44 rfl (by omega) rfl ?_
   refine KO.ldN (cs:=(msC x).toArray) rfl rfl Tryz.isAgg44 Tryz.sizeOf44 rfl (fun w hw=>by obtain⟨ad2,h,hc⟩:=hAt i x hx w _ (hw.pick (A:=A) (.tail (.tail .head)));cases h;exact hc) rfl ?_
   refine KO.alloc rfl Tryz.zeroValue44 Y68 rfl ?_;intro b13
   refine Z7 ?_
   refine Z278 ?_
   refine Z72 ?_
   refine KO.cutTo (hi:=i) rfl rfl Tryz.underlying49 Tryz.sizeOf44 rfl (by omega) rfl ?_
   refine KO.mkc rfl rfl rfl ?_
   refine KO.ce rfl rfl rfl Tryz.call189 rfl (conm_e w0 _ _ (l.take i) 191 [.pointer (some ⟨b13,0,none⟩)] (sameId x) (fun w' hw'=>⟨_,_,by rw[List.length_take,Nat.min_eq_left (by omega)],fun i' y hy=>hAt i' y (by rw[List.getElem?_take]at hy;split at hy;exact hy;cases hy) w' _ (hw'.pick (A:=A) (.tail (.tail (.tail .head))))⟩) Y28 Tryz.call191 (fun e he=>ar2_e _ _ _ e x b13 _ Y21)) ?_;rintro v' L' ⟨rfl,rfl⟩
   refine Z21 ?_
   obtain⟨tw0,htw0⟩:∃t,t=(l.take i).any (sameId x):=⟨_,rfl⟩
   rw[←htw0]
   refine K.open' (fun _ h=>hoP_open (h.pick Y11)) ?_
   rintro⟨V,hV⟩
   dsimp only
   have hps:=hV.ps
   refine Z231 ?_
   refine Z267 ?_
   refine Z49 ?_
   refine Z29 ?_
   refine KO.rng rfl rfl Tryz.underlying123 Y11 rfl ?_;intro r90
   refine Z15 ?_
   refine K.loop (fun p:List Nat×List Nat×Bool×Option (ByteArray×Value)=>(90,.pointer (some ⟨r90,0,none⟩))::(14,.bool p.2.2.1)::(13,.pointer (some ⟨b13,0,none⟩))::(74,.slice (some ad) l.length cap)::(75,.int .i64 (l.length:Nat))::(76,.int .i64 (i:Nat))::[(1,.int .i64 (j:Nat)),(3,.slice (some ad) l.length cap),(4,.pointer (some ⟨b4,0,none⟩)),(10,.string (writeS l))])
    (fun p=>itK Value.string V.mb r90 (mapE V H) (p.1.map fun r=>(mapE V H).getD r default) p.2.2.2::blk bh (.cells (hoC bd V H).toArray 133 (0,0))::nmS V.nv H.names::fam quP V.ps H.all::fam putsS (V.us.map (·.1)) (H.units.map (·.puts))::fam getsS (V.us.map (·.2)) (H.units.map (·.gets))::fam batS V.bs H.batch::blk b13 (.cells (msC x).toArray 44 (0,0))::dkP bd D::A::blk b4 (.cells [ptrV bh].toArray 29 (0,0))::L)
    (fun p=>(p.2.1++p.1).Perm (List.range H.queues.length)∧p.2.2.1=(tw0||p.2.1.any fun r=>qhas (H.qAt r) x.id)) (fun p=>p.1.length) (List.range H.queues.length,[],tw0,none)
    ⟨by simp,by simp⟩ ⟨rfl,rfl,rfl,rfl,rfl,rfl,rfl,rfl,rfl,rfl,trivial⟩ (fun _ h=>?_) ?_
   ·have e1:(List.range H.queues.length).map (fun r=>(mapE V H).getD r default)=mapE V H:=by
     have hll:(mapE V H).length=H.queues.length:=by unfold mapE mEnt;rw[List.length_zipWith,List.length_drop];omega
     rw[←hll]
     apply List.ext_getElem
     ·simp
     ·intro i h1 h2;simp[List.getD_eq_getElem?_getD,List.getElem?_eq_getElem h2]
    dsimp only
    rw[e1]
    exact h.all Y30
   rintro⟨rest,done,tw,cur⟩ ⟨hperm,htw⟩
   dsimp only at hperm htw ⊢
   refine Z3 ?_
   refine KO.nxt rfl rfl Y21 rfl (fun h0=>?_) (fun i2 e he=>?_)
   refine Z187 ?_
   refine Z0 ?_
   have hrest:rest=[]:=by simpa using h0
   subst hrest
   rw[List.append_nil]at hperm
   have htwv:tw=twAt H l i x:=by
    rw[htw,htw0]
    unfold twAt
    congr 1
    rw[Bool.eq_iff_iff,List.any_eq_true,List.any_eq_true]
    constructor
    ·rintro⟨r,hr,h⟩
     have hrl:r<H.queues.length:=by have :=hperm.mem_iff.1 hr;simpa using this
     refine⟨H.queues[r],List.getElem_mem hrl,?_⟩
     unfold Ho.qAt at h
     rw[List.getD_eq_getElem?_getD,List.getElem?_eq_getElem hrl]at h
     exact h
    ·rintro⟨q,hq,h⟩
     obtain⟨r,hrl,rfl⟩:=List.getElem_of_mem hq
     refine⟨r,hperm.mem_iff.2 (by simpa using hrl),?_⟩
     unfold Ho.qAt
     rw[List.getD_eq_getElem?_getD,List.getElem?_eq_getElem hrl]
     exact h
   refine Z295 ?_
   refine Z274 ?_
   refine Z2 ?_
   refine K.cond rfl (fun h20=>?_) (fun h20=>?_)
   ·have hat:arTw H l=true:=by
     unfold arTw
     rw[List.any_eq_true]
     exact⟨(x,i),List.mem_zipIdx_iff_getElem?.2 hx,by dsimp only;rw[←htwv];exact h20⟩
    rw[if_pos hat]at hpe
    refine Z75 ?_
    refine Z146 ?_
    refine KQ.ret2 rfl rfl rfl (fun w' hs'=>early 9 (by decide) hpe w' ?_)
    exact hoP_mk V hV (hs'.all Y5)
   ·refine Z191 ?_
    refine KQ.round (i+1) ⟨by omega,fun i' y hi' hy=>?_⟩ (by omega) ⟨rfl,rfl,rfl,rfl,rfl,rfl,rfl,trivial⟩ (fun w' hs'=>?_)
    ·by_cases e:i'=i
     ·subst e;rw[hx]at hy;cases hy;rw[←htwv];exact h20
     ·exact hno i' y (by omega) hy
    ·exact hoP_mk V hV (hs'.all Y5)
   obtain⟨r,hr,rfl⟩:∃r,rest[i2]? =some r∧(mapE V H).getD r default=e:=by
    rw[List.getElem?_map]at he
    cases hr:rest[i2]? with
    |none=>rw[hr]at he;cases he
    |some r=>rw[hr]at he;exact⟨r,rfl,by simpa using he⟩
   have hrl:r<H.queues.length:=by
    have :r∈List.range H.queues.length:=hperm.mem_iff.1 (List.mem_append_right _ (List.mem_of_getElem? hr))
    simpa using this
   obtain⟨s,hs0⟩:=mapE_at hV hrl
   rw[hs0]
   refine Z187 ?_
   refine Z0 ?_
   refine Z275 ?_
   refine Z10 ?_
   have hp2:V.ps[4+r]? =some (V.ps.getD (4+r) 0):=by rw[List.getD_eq_getElem?_getD,List.getElem?_eq_getElem (by omega)];rfl
   have hqlr:=(hB.qa hrl).len
   have hpr:((done++[r])++rest.eraseIdx i2).Perm (List.range H.queues.length):=by
    refine List.Perm.trans ?_ hperm
    rw[List.append_assoc]
    refine(List.Perm.refl done).append ?_
    obtain⟨hi3,rfl⟩:=List.getElem?_eq_some_iff.1 hr
    exact perm_erase hi3
   have hml:(rest.eraseIdx i2).length<rest.length:=by
    have hi3:=(List.getElem?_eq_some_iff.1 hr).1
    rw[List.length_eraseIdx,if_pos hi3];omega
   refine Z231 ?_
   refine KO.ent rfl rfl Y21 rfl ?_
   refine Z187 ?_
   refine Z83 ?_
   cases tw with
   |true=>
    refine Z72 ?_
    refine Z12 ?_
    refine Z12 ?_
    refine Z45 ?_
    refine Z7 ?_
    refine Z44 ?_
    refine KQ.round (rest.eraseIdx i2,done++[r],true,some (s,ptrV (V.ps.getD (4+r) 0))) ⟨hpr,?_⟩ hml ⟨rfl,rfl,rfl,rfl,rfl,rfl,rfl,rfl,rfl,rfl,trivial⟩ (fun _ h=>?_)
    ·dsimp only
     rw[List.any_append,←Bool.or_assoc,←htw];rfl
    ·dsimp only
     rw[←map_erase]
     exact h.all Y30
   |false=>
    refine Z8 ?_
    refine Z65 ?_
    refine Z25 ?_
    refine KO.on rfl rfl rfl ?_;refine KO.ld (v:=.int .i64 x.id) rfl rfl Tryz.isAgg3 Y11 Y68 rfl ?_
    refine KO.on rfl rfl rfl ?_;refine KO.ce (cp:=[]) rfl rfl rfl Tryz.call146 rfl (KE.famE0 (φ:=fun v=>v=.bool (qhas (H.qAt r) x.id)) hp2 (all_q hV.ways hrl) Y11 (fun L=>has_e w0 _ _ (V.ps.getD (4+r) 0) (H.qAt r) x.id .head (by omega))) ?_;rintro v' L' ⟨rfl,rfl⟩
    refine Z27 ?_
    refine Z7 ?_
    refine Z44 ?_
    refine KQ.round (rest.eraseIdx i2,done++[r],qhas (H.qAt r) x.id,some (s,ptrV (V.ps.getD (4+r) 0))) ⟨hpr,?_⟩ hml ⟨rfl,rfl,rfl,rfl,rfl,rfl,rfl,rfl,rfl,rfl,trivial⟩ (fun _ h=>?_)
    ·dsimp only
     rw[List.any_append,←Bool.or_assoc,←htw];simp
    ·dsimp only
     rw[←map_erase]
     exact h.all Y7
  ·have hil:i=l.length:=by omega
   refine Z134 ?_
   exact KQ.mid () (by
    unfold arTw
    rw[zip_any (f:=fun i x=>twAt H l i x)]
    intro i' y hy
    exact hno i' y (by have :=(List.getElem?_eq_some_iff.1 hy).1;omega) hy) ⟨rfl,rfl,rfl,rfl,trivial⟩ (fun w' hs'=>hs'.all Y23)
 ·rintro⟨⟩ htwf
  rw[htwf]at hpe
  have hpe0:arPE H (j:Int) m l=0:=hpe
  have hnw:arW H (j:Int) m l=true:=by unfold arW;rw[hpe0,Int.toNat_natCast];simp;omega
  have hae:arE H D (j:Int) m l=logE H D:=by unfold arE;rw[hpe0,hnw];rfl
  have haH:arH H D (j:Int) m l=wrH H D (arRec H (j:Int) l):=by unfold arH;rw[hnw];rfl
  have haD:arD H D (j:Int) m l=logD H D (arRec H (j:Int) l):=by unfold arD;rw[hnw];rfl
  obtain⟨hrec,hrsz⟩:=recR_ok (k:=(j:Int)) ⟨by omega,by omega⟩ hbad hl (arDst_word hright []) (arDst_len H l [])
  have hdl:=arDst_len H l []
  refine K.open' (fun _ h=>hoP_open (h.pick Y21)) ?_
  rintro⟨V,hV⟩
  dsimp only
  have hps:=hV.ps
  refine Z3 ?_
  refine KO.mkm (Value.string) rfl rfl ?_;intro b105
  refine Z135 ?_
  refine Z28 ?_
  refine Z285 ?_
  refine K.loop (fun q:Nat×Value×List (ByteArray×Int)×List ByteArray=>[(1,.int .i64 (j:Nat)),(4,.pointer (some ⟨b4,0,none⟩)),(10,.string (writeS l)),(17,.map (some b105)),(18,q.2.1),(106,.slice a l.length cap),(107,.int .i64 (l.length:Nat)),(108,.int .i64 (q.1:Nat))])
   (fun q=>strS q.2.1 q.2.2.2::omapK Value.string b105 (rmV q.2.2.1)::blk bh (.cells (hoC bd V H).toArray 133 (0,0))::nmS V.nv H.names::omapK Value.string V.mb (mapE V H)::fam quP V.ps H.all::fam putsS (V.us.map (·.1)) (H.units.map (·.puts))::fam getsS (V.us.map (·.2)) (H.units.map (·.gets))::fam batS V.bs H.batch::dkP bd D::A::blk b4 (.cells [ptrV bh].toArray 29 (0,0))::L)
   (fun q=>q.1≤l.length∧arDst H l []=q.2.2.2++arDst H (l.drop q.1) q.2.2.1∧q.2.2.2.length=q.1∧∀s,0≤rmG q.2.2.1 s∧rmG q.2.2.1 s≤(q.1:Int)) (fun q=>l.length-q.1) (0,.slice none 0 0,[],[])
   ⟨Nat.zero_le _,rfl,rfl,fun s=>⟨Int.le_refl _,Int.le_refl _⟩⟩ ⟨rfl,rfl,rfl,rfl,rfl,rfl,rfl,rfl,trivial⟩ (fun w' hs'=>?_) ?_
  ·have h1:=SL_nil (E:=9) (sz:=1) (cf:=strC) hs'
   exact h1.all Y30
  rintro⟨i,v18,room,ds⟩ ⟨hi,hds,hdsl,hroom⟩
  dsimp only at hi hds hdsl hroom ⊢
  refine Z111 ?_
  refine K.condD rfl (fun h26=>?_) (fun h26=>?_)
  ·obtain⟨x,hx⟩:∃e,l[i]? =some e:=⟨l[i],List.getElem?_eq_getElem (by omega)⟩
   have hdrop:l.drop i=x::l.drop (i+1):=by
    obtain⟨h1,rfl⟩:=List.getElem?_eq_some_iff.1 hx
    exact List.drop_eq_getElem_cons h1
   rw[hdrop,arDst]at hds
   refine K.fact (fun w hw=>by obtain⟨ad,h,-⟩:=hAt i x hx w _ (hw.pick (A:=A) Y11);exact(⟨ad,h⟩:∃ad,a=some ad)) ?_
   rintro⟨ad,rfl⟩
   refine Z145 ?_
   refine KO.idxH (i:=i) rfl rfl Tryz.runUnderlying49 Tryz.sizeOf44 rfl (by omega) rfl ?_
   refine KO.ldN (cs:=(msC x).toArray) rfl rfl Tryz.isAgg44 Tryz.sizeOf44 rfl (fun w hw=>by obtain⟨ad2,h,hc⟩:=hAt i x hx w _ (hw.pick (A:=A) Y11);cases h;exact hc) rfl ?_
   refine KO.alloc rfl Tryz.zeroValue44 Y68 rfl ?_;intro b20
   refine Z278 ?_
   have hg:=mapE_get hV x.queue
   obtain⟨zv,hzv⟩:∃zv,zv=(getK (mapE V H) x.queue).getD (.pointer none):=⟨_,rfl⟩
   refine K.draw [.read,.pure,.pure,.read,.pure,.read,.read,.pure] [0,1,2,3,4,5,6,7] Y62 Y62 ?_
   refine Z267 ?_
   refine Z49 ?_
   refine Z210 ?_
   refine KO.ldAt (i:=7) rfl rfl Tryz.isAgg123 Y11 rfl rfl rfl ?_
   refine Z272 ?_
   refine KO.lkm strKey x.queue rfl rfl rfl Tryz.underlying123 Tryz.underlying9 Tryz.zeroValue119 Y11 rfl ?_;rw[←hzv]
   refine Z21 ?_
   have hdead:toDead H x room=true→arDst H l []=(ds++[deadS])++arDst H (l.drop (i+1)) room:=fun h=>by rw[hds,if_pos h,List.append_assoc];rfl
   have hlive:toDead H x room=false→arDst H l []=(ds++[x.queue])++arDst H (l.drop (i+1)) (putK room x.queue (rmG room x.queue+1)):=fun h=>by rw[hds,if_neg (by rw[h];simp),List.append_assoc];rfl
   refine K.cut (fun b:Bool=>[(1,.int .i64 (j:Nat)),(4,.pointer (some ⟨b4,0,none⟩)),(10,.string (writeS l)),(17,.map (some b105)),(18,v18),(20,.pointer (some ⟨b20,0,none⟩)),(139,.bool b),(106,.slice (some ad) l.length cap),(107,.int .i64 (l.length:Nat)),(108,.int .i64 (i:Nat))])
    (fun _=>strS v18 ds::omapK Value.string b105 (rmV room)::blk bh (.cells (hoC bd V H).toArray 133 (0,0))::nmS V.nv H.names::omapK Value.string V.mb (mapE V H)::fam quP V.ps H.all::fam putsS (V.us.map (·.1)) (H.units.map (·.puts))::fam getsS (V.us.map (·.2)) (H.units.map (·.gets))::fam batS V.bs H.batch::dkP bd D::A::blk b4 (.cells [ptrV bh].toArray 29 (0,0))::blk b20 (.cells (msC x).toArray 44 (0,0))::L) (fun b=>b=toDead H x room) ?_ ?_
   ·cases hlb:localB H.names x.queue with
    |false=>
     have ht:toDead H x room=true:=by
      unfold toDead;split
      ·rfl
      ·rw[hlb];rfl
     refine Z159 ?_
     refine Z49 ?_
     refine Z98 ?_
     refine Z272 ?_
     refine KO.ce (cp:=[]) rfl rfl rfl Tryz.call57 rfl (local_e w0 _ _ _ bh 6 (hoC bd V H) 133 V.nv H.names x.queue Y11 Y11 rfl (by omega) hso) ?_;rintro v' L' ⟨rfl,rfl⟩;rw[hlb]
     refine Z70 ?_
     refine Z96 ?_
     refine Z271 ?_
     refine Z12 ?_
     refine Z12 ?_
     refine Z45 ?_
     refine KO.nil ?_
     exact KQ.mid true ht.symm ⟨rfl,rfl,rfl,rfl,rfl,rfl,rfl,rfl,rfl,rfl,trivial⟩ (fun w' hs'=>hs'.all Y7)
    |true=>
     obtain⟨q,hq⟩:=local_q hB hlb
     have hqk:=(qI_lt hq).1
     have hqlr:=(hB.qa hqk).len
     obtain⟨p,hp⟩:∃p,V.ps[4+q]? =some p:=⟨_,List.getElem?_eq_getElem (by omega)⟩
     rw[hq]at hg
     simp only[Option.bind_some,hp,Option.map_some]at hg
     rw[hg]at hzv
     subst hzv
     have hrm:=hroom x.queue
     have ht:toDead H x room=decide (20≤((H.qAt q).l.length:Int)+rmG room x.queue):=by unfold toDead;rw[hq];dsimp only;rw[hlb];rfl
     refine Z159 ?_
     refine Z49 ?_
     refine Z98 ?_
     refine Z272 ?_
     refine KO.ce (cp:=[]) rfl rfl rfl Tryz.call57 rfl (local_e w0 _ _ _ bh 6 (hoC bd V H) 133 V.nv H.names x.queue Y11 Y11 rfl (by omega) hso) ?_;rintro v' L' ⟨rfl,rfl⟩;rw[hlb]
     refine Z70 ?_
     refine Z281 ?_
     refine KO.on rfl rfl rfl ?_;refine KO.eqPn rfl Tryz.underlying119 rfl ?_
     refine Z180 ?_
     refine Z14 ?_
     refine Z74 ?_
     refine KO.on rfl rfl rfl ?_;refine KO.ld (v:=.string x.queue) rfl rfl Tryz.isAgg9 Y21 Y68 rfl ?_
     refine KO.on rfl rfl rfl ?_;refine KO.lkm strKey x.queue rfl rfl rfl Tryz.underlying282 Tryz.underlying9 Tryz.zeroValue3 Y11 rfl ?_;rw[rmV_get]
     refine KO.on rfl rfl rfl ?_;refine KO.ce (cp:=[]) rfl rfl rfl Tryz.call192 rfl (KE.famE0 (φ:=fun v=>v=.int .i64 ((H.qAt q).l.length:Nat)) hp (all_q hV.ways hqk) Y11 (fun L=>many_e w0 _ _ p (H.qAt q) .head)) ?_;rintro v' L' ⟨rfl,rfl⟩
     refine KO.on rfl rfl rfl ?_;refine KO.add rfl rfl rfl (by omega) rfl ?_
     refine KO.on rfl rfl rfl ?_;refine KO.geq rfl rfl rfl ?_
     refine Z27 ?_
     refine KO.nil ?_
     exact KQ.mid (decide (((H.qAt q).l.length:Int)+rmG room x.queue≥20)) (by rw[ht]) ⟨rfl,rfl,rfl,rfl,rfl,rfl,rfl,rfl,rfl,rfl,trivial⟩ (fun w' hs'=>hs'.all Y7)
   ·rintro b hb
    refine K.cond rfl (fun hbt=>?_) (fun hbf=>?_)
    ·have h1:=hdead (by rw[←hb];exact hbt)
     refine Z117 ?_
     refine KO.bs1 (z:=Value.string ⟨#[]⟩) (sz:=1) (by':=16) rfl rfl Tryz.underlying115 str_info Y68 Y68 (by decide) (by decide) rfl ?_;intro b141
     refine KO.app (cf:=strC) (z:=Value.string ⟨#[]⟩) (sz:=1) (by':=16) (xs:=ds) rfl rfl rfl (.tail .head) .head Tryz.underlying115 str_info rfl deadS rfl rfl rfl (by omega) (by decide) rfl ?_;intro v142
     refine Z144 ?_
     refine Z108 ?_
     refine Z76 ?_
     refine KQ.round (i+1,v142,room,ds++[deadS]) ⟨by dsimp only;omega,h1,by dsimp only;simp;omega,fun s=>?_⟩ Y47 ⟨rfl,rfl,rfl,rfl,rfl,rfl,rfl,rfl,trivial⟩ (fun w' hs'=>hs'.all Y5)
     have :=hroom s
     dsimp only;push_cast;omega
    ·have h1:=hlive (by rw[←hb];exact hbf)
     have hrm:=hroom x.queue
     refine Z102 ?_
     refine Z117 ?_
     refine Z74 ?_
     refine KO.ld (v:=.string x.queue) rfl rfl Tryz.isAgg9 Y11 Y68 rfl ?_
     refine KO.lkm strKey x.queue rfl rfl rfl Tryz.underlying282 Tryz.underlying9 Tryz.zeroValue3 Y11 rfl ?_;rw[rmV_get]
     refine Z23 ?_
     refine KO.upm strKey x.queue rfl rfl rfl rfl Tryz.underlying282 Tryz.underlying9 Y11 ?_;rw[rmV_put]
     refine Z2 ?_
     refine Z8 ?_
     refine Z74 ?_
     refine KO.ld (v:=.string x.queue) rfl rfl Tryz.isAgg9 Y11 Y68 rfl ?_
     refine KO.bs1 (z:=(Value.string ⟨#[]⟩)) (sz:=1) (by':=16) rfl rfl Tryz.underlying115 Y62 Y68 Y68 (by decide) (by decide) rfl ?_;intro b151
     refine KO.app (cf:=strC) (z:=Value.string ⟨#[]⟩) (sz:=1) (by':=16) (xs:=ds) rfl rfl rfl (.tail (.tail .head)) .head Tryz.underlying115 str_info rfl x.queue rfl rfl rfl (by omega) (by decide) rfl ?_;intro v152
     refine Z234 ?_
     refine KQ.round (i+1,v152,putK room x.queue (rmG room x.queue+1),ds++[x.queue]) ⟨by dsimp only;omega,h1,by dsimp only;simp;omega,fun s=>?_⟩ Y47 ⟨rfl,rfl,rfl,rfl,rfl,rfl,rfl,rfl,trivial⟩ (fun w' hs'=>hs'.all Y5)
     dsimp only
     rw[rmG_put]
     have :=hroom s
     split<;>push_cast<;>omega
  ·obtain rfl:i=l.length:=by omega
   rw[List.drop_length,arDst,List.append_nil]at hds
   subst hds
   have his:=itoaS_size (n:=(j:Int)) ⟨by omega,by omega⟩
   have hrs2:(recR (j:Int) l (arDst H l [])).size=(⟨#[114,58]⟩++itoaS (j:Int)++⟨#[47]⟩++writeS l++⟨#[47]⟩++joinS (arDst H l []) plus:ByteArray).size∧(⟨#[114,58]⟩++itoaS (j:Int)++⟨#[47]⟩++writeS l++⟨#[47]⟩++joinS (arDst H l []) plus:ByteArray)=arRec H (j:Int) l:=by
    have e:(⟨#[114,58]⟩++itoaS (j:Int)++⟨#[47]⟩++writeS l++⟨#[47]⟩++joinS (arDst H l []) plus:ByteArray)=recR (j:Int) l (arDst H l []):=by
     unfold recR
     rw[show(⟨#[114,58]⟩:ByteArray)=chr1 114++chr1 58 by decide,show(⟨#[47]⟩:ByteArray)=chr1 47 from rfl]
     simp only[ByteArray.append_assoc]
    exact⟨by rw[e],e⟩
   have hz:=hrs2.1
   rw[hz]at hrsz
   simp only[ByteArray.size_append]at hrsz
   refine Z9 ?_
   refine K.conv (L':=hoP bh bd H::dkP bd D::strS v18 (arDst H l [])::A::blk b4 (.cells [ptrV bh].toArray 29 (0,0))::L) (fun w' hs'=>hoP_mk V hV (hs'.all Y5)) ?_
   refine K.draw [.read,.pure,.keep,.pure,.pure,.pure,.pure,.pure,.pure,.keep,.pure,.write,.pure] [0,1,5,8,2,3,4,6,7,9,10,11,12] Y62 Y62 ?_
   refine Z267 ?_
   refine Z125 ?_
   refine KO.ce (cp:=[]) rfl rfl rfl Tryz.call59 rfl (itoa_e w0 _ (j:Int) hT ⟨by omega,by omega⟩) ?_;rintro v' L' ⟨rfl,rfl⟩
   refine Z121 ?_
   refine KO.cat rfl rfl Y22 rfl ?_
   refine KO.cat rfl rfl Y22 rfl ?_
   refine KO.cat rfl rfl Y22 rfl ?_
   refine KO.ce (cp:=[]) rfl rfl rfl Tryz.call62 rfl (join_e w0 _ _ v18 (arDst H l []) plus Y11 (by omega) (by omega)) ?_;rintro v' L' ⟨rfl,rfl⟩
   refine KO.cat rfl rfl Y22 rfl ?_;rw[hrs2.2]
   refine KO.cl (cp:=[]) rfl rfl rfl Tryz.call84 rfl (KC.pk2 Y21 Y21 (hwrites_c w0 _ bh bd n 250 H D (arRec H (j:Int) l) hT hM hB hrec (by omega) h3 hd)) ?_;rintro v' L' ⟨rfl,rfl⟩
   refine Z239 ?_
   refine K.condD rfl (fun h35=>?_) (fun h35=>?_)
   ·refine Z117 ?_
    refine Z7 ?_
    refine Z59 ?_
    refine KQ.ret2 rfl rfl rfl (fun w' hs'=>⟨_,_,rfl,⟨?_,rfl⟩,?_⟩)
    ·unfold arNo;rw[hae,if_neg h35]
    ·rw[haH,haD];exact hs'.all Y1
   ·have h350:logE H D=0:=by simpa using h35
    refine Z6 ?_
    generalize hH2:wrH H D (arRec H (j:Int) l)=H2 at haH ⊢
    refine K.open' (fun _ h=>hoP_open (h.pick Y21)) ?_
    rintro⟨V2,hV2⟩
    dsimp only
    obtain⟨d2,-⟩:=hoC_arr (bd:=bd) hV2 hj
    refine Z231 ?_
    refine Z267 ?_
    refine Z26 ?_
    refine Z60 ?_
    refine KO.ldAt (i:=30+j) rfl rfl Tryz.isAgg3 Y21 Y31 d2 rfl ?_
    refine Z192 ?_
    refine KQ.ret2 rfl rfl rfl (fun w' hs'=>⟨_,_,rfl,⟨?_,rfl⟩,?_⟩)
    ·unfold arNo;rw[hae,if_pos h350,haH,h350,Int.toNat_natCast];rfl
    ·rw[haH,haD];exact hoP_mk V2 hV2 (hs'.all Y5)
end Go.Proofs.YtjhogocabcdjbabGreatDoor
/- frames' text: plain -/
namespace WB
open Go
structure Fr where
 frm:Int
 num:Int
 ack:Bool
def frC (f:Fr) (v:Value):List Value:=[.int .i64 f.frm,.int .i64 f.num,.bool f.ack,v]
def colon:ByteArray:=⟨#[58]⟩
def kindS (a:Bool):ByteArray:=if a then⟨#[97]⟩else⟨#[98]⟩
def frS (f:Fr) (xs:List Ms):ByteArray:=joinS [kindS f.ack,itoaS f.frm,itoaS f.num,writeS xs] colon
def okF (f:Fr) (xs:List Ms):Prop:=0≤f.frm∧f.frm≤3∧0≤f.num∧f.num≤1099511627776∧f.ack=decide (xs.length=0)∧xs.length≤3∧badI xs=none
instance (f:Fr) (xs:List Ms):Decidable (okF f xs):=by unfold okF;infer_instance
def fwE (f:Fr) (xs:List Ms):Int:=if okF f xs then 0 else 1
def fwT (f:Fr) (xs:List Ms):ByteArray:=if okF f xs then frS f xs else⟨#[]⟩
theorem fw_bad {f:Fr} {xs:List Ms} (h:¬okF f xs):fwE f xs=1∧fwT f xs=⟨#[]⟩:=⟨if_neg h,if_neg h⟩
theorem fw_ok {f:Fr} {xs:List Ms} (h:okF f xs):fwE f xs=0∧fwT f xs=frS f xs:=⟨if_pos h,if_pos h⟩
end WB
