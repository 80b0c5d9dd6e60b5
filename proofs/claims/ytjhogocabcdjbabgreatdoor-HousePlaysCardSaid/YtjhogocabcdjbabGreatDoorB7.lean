/- waybilllaw.HousePlays: for every number, every list of acts and every number of places the law returns true, and the list reads as it did. No condition. -/
import Derived.Test.YtjhogocabcdjbabGreatDoorCards
import Derived.Test.YtjhogocabcdjbabGreatDoorTie
import Derived.Stop.LaidErr
import Derived.ChangeMaps5
import Derived.Test.YtjhogocabcdjbabGreatDoorB6
set_option linter.unusedSimpArgs false
set_option linter.unusedVariables false
set_option maxRecDepth 100000
set_option maxHeartbeats 8000000
namespace Go.Proofs.YtjhogocabcdjbabGreatDoor.hplays
open Go Go.RowKit Go.ChangeShapes Go.WideShapes Go.ChangeAt Go.Deep WB
theorem own:ownKnob Tryz.prog.godebug=none:=by kernel_rfl
theorem laidOut:laidOutB Tryz.prog=true:=by kernel_rfl
theorem et:Tryz.prog.globalNamed "errors.errorType"=some 5:=by kernel_rfl
theorem rt:(Tryz.prog.cutTypes.find? (·.1== "internal/reflectlite.rtype")).map (·.2)=some 367:=by kernel_rfl
theorem VR:((List.range 492).filter fun t=>Tryz.prog.rowNamed t [101,114,114,111,114])=[31]:=by kernel_rfl
theorem Zz:Tryz.prog.types.size=492:=by kernel_rfl
theorem MO{W:World}(h:handlesMet Tryz.prog [("errors.errorType",Rows.laid_errors_errorType)] W):fM W:=by
 obtain⟨name,u,ty,e1,e2,e3,e4,e5⟩:=h _ (List.mem_singleton.2 rfl);have en:name=[101,114,114,111,114]:=(Option.some.inj e1).symm;subst en;obtain rfl:=Option.some.inj (rt.symm.trans e2);have hm:ty∈(List.range 492).filter fun t=>Tryz.prog.rowNamed t [101,114,114,111,114]:=aF.2 ⟨cE.2 (by rw[<-Zz];exact e3),e4⟩
 rw[VR]at hm;obtain rfl:=List.mem_singleton.1 hm;have hh:typeHandle Tryz.prog 31=.pointer (some ⟨10,31,none⟩):=by kernel_rfl
 rw[hh]at e5;have h1:=World.var?_cell et e5 0;unfold fM;simpa using h1
theorem Am{W:World}(h:laidMetH Tryz.prog Rows.housePlaysRow.laid W):fM W:=MO h.2
noncomputable def hold (os:Os):World:=
 let w0:=World.holding Tryz.prog os ⟨#[],#[],[]⟩
 {w0 with heap:=w0.heap.modify 5 fun
  | .cells _ t frozen=>.cells #[.iface 367 (.agg #[.pointer (some ⟨10,31,none⟩)])] t frozen
  |o=>o}
def data:List (String×DataW Unit):=[("math/bits.deBruijn32tab",Rows.laid_math_bits_deBruijn32tab),("math/bits.deBruijn64tab",Rows.laid_math_bits_deBruijn64tab),("internal/strconv.uint64pow10",Rows.laid_internal_strconv_uint64pow10),("unicode/utf8.acceptRanges",Rows.laid_unicode_utf8_acceptRanges),("strconv.ErrRange",Rows.laid_strconv_ErrRange),("strconv.ErrSyntax",Rows.laid_strconv_ErrSyntax),("unicode/utf8.first",Rows.laid_unicode_utf8_first)]
noncomputable def mR (os:Os):World:=(hold os).layVars Tryz.prog data
theorem Ec(os:Os):(mR os).os=os:=World.layVars_os _ _ _
theorem PW(os:Os)(args:Array Value):laidMet Tryz.prog data ((mR os).forCall (fun _ _=>0) ⟨#[],args,[]⟩).memory:=by
 have h:laidMet Tryz.prog data (mR os):=laidMet_layVars (w0:=hold os) (data.map (·.1)) [] rfl bC bC LaidIn.none;exact h.of_heap (by simp[World.memory,World.forCall,Input.heap])
theorem OW(os:Os)(args:Array Value):laidMetH Tryz.prog Rows.housePlaysRow.laid ((mR os).forCall (fun _ _=>0) ⟨#[],args,[]⟩).memory:=
 laidMetH_of_parts (PW os args) bC
theorem KX{W:World}(h:laidMetH Tryz.prog Rows.housePlaysRow.laid W):laidMet Tryz.prog data W:=by
 have h1:=h.1
 rwa [show((Rows.housePlaysRow.laid).filter fun x=>x.2.handleName?.isNone)=data from by kernel_rfl]at h1
theorem Vw{W:World}(h:laidMetH Tryz.prog Rows.housePlaysRow.laid W):ym W:=by
 have h1:laidMet Tryz.prog data W:=KX h;have hd:("internal/strconv.uint64pow10",Lib.tabData .u64 Lib.pow10Tab)∈data:=by
  have e:(Lib.tabData .u64 Lib.pow10Tab:DataW Unit)=Rows.laid_internal_strconv_uint64pow10:=by kernel_rfl
  rw[e];unfold data;simp
 exact Fs h1 hd (g:=4) bC bC (n:=20) Tryz.underlying427 Tryz.underlying224 bC bC
theorem star: "*"++ "errors.errorString"= "*errors.errorString":=by decide
theorem Us(u:TypeId)(h:Tryz.prog.typeName? 3 u=some "*errors.errorString"):u=449:=
 typeName_ptr_named (nm:= "errors.errorString") (by rw[star];kernel_rfl) bC ah u (by rw[star];exact h)
theorem VZ{W:World}(h:laidMetH Tryz.prog Rows.housePlaysRow.laid W)(hSh:W.ShapedOpen Tryz.prog):xg W:=by
 have h1:laidMet Tryz.prog [("strconv.ErrRange",Rows.laid_strconv_ErrRange),("strconv.ErrSyntax",Rows.laid_strconv_ErrSyntax),("unicode/utf8.first",Rows.laid_unicode_utf8_first)] W:=(KX h).tail.tail.tail.tail;obtain⟨a0,s0,Ny,-,-,-⟩:=laid_sentinel h1 (show Tryz.prog.globalNamed "strconv.ErrRange"=some 3 by kernel_rfl) (show(Tryz.prog.globals[3]?).map (·.type)=some 31 by kernel_rfl) Tryz.underlying31 Us Tryz.underlying449 Tryz.underlying451 rfl rfl Tryz.underlying9 bC bC;obtain⟨a1,s1,E5,-,-,-⟩:=laid_sentinel h1.tail (show Tryz.prog.globalNamed "strconv.ErrSyntax"=some 2 by kernel_rfl) (show(Tryz.prog.globals[2]?).map (·.type)=some 31 by kernel_rfl) Tryz.underlying31 Us Tryz.underlying449 Tryz.underlying451 rfl rfl Tryz.underlying9 bC bC;exact⟨Tryz.laysM146.s1_3 W hSh,⟨_,_,by have :=World.var?_cell (show Tryz.prog.globalNamed "strconv.ErrSyntax"=some 2 by kernel_rfl) E5 0;simpa using this⟩,⟨_,_,by have :=World.var?_cell (show Tryz.prog.globalNamed "strconv.ErrRange"=some 3 by kernel_rfl) Ny 0;simpa using this⟩⟩
theorem Oj{H:Type}{enc:TypeId×Value->H}{W:World}{n:Nat}{cs:List Value}{y:DataW H×List MemPlace}(h:DataW.trod enc Tryz.prog W 0 (fun _=>true) true n 44 cs=some y):∃m:Ms,(m.body.size<=maxLen/\m.queue.size<=maxLen)/\cs=dy m:=by
 have S_:Tryz.prog.cellsOf 3=1:=by kernel_rfl
 have kE:Tryz.prog.cellsOf 9=1:=by kernel_rfl
 have hlen:=Fo Tryz.underlying44 h (show Tryz.prog.cellsOf 44=5 by kernel_rfl);obtain⟨s2,e2,_⟩:=q6 Tryz.underlying44 h 0 0 3 rfl S_ Tryz.underlying3;obtain⟨s3,e3,_⟩:=q6 Tryz.underlying44 h 1 1 3 rfl S_ Tryz.underlying3;obtain⟨s4,e4,w4⟩:=q5 Tryz.underlying44 h 2 2 9 rfl kE Tryz.underlying9;obtain⟨s5,e5,w5⟩:=q5 Tryz.underlying44 h 3 3 9 rfl kE Tryz.underlying9;obtain⟨s6,e6,_⟩:=q6 Tryz.underlying44 h 4 4 3 rfl S_ Tryz.underlying3
 match cs,hlen,e2,e3,e4,e5,e6 with
 |[c2,c3,c4,c5,c6],_,e2,e3,e4,e5,e6=>
  simp only[List.getElem?_cons_zero,List.getElem?_cons_succ,az]at e2 e3 e4 e5 e6;exact⟨⟨s2,s3,s4,s5,s6⟩,⟨w4,w5⟩,by rw[e2,e3,e4,e5,e6];rfl⟩
theorem ZU{H:Type}{enc:TypeId×Value->H}{W:World}{r:Reach}{base:Nat}{v:Value}{d:DataW H}{p:List MemPlace}(hv:Value.okWide Tryz.prog W r base 44 v)(h:DataW.Trod enc Tryz.prog W 0 (fun _=>true) true 44 v d p):
 ∃m:Ms,v=.agg (dy m).toArray/\(m.body.size<=maxLen/\m.queue.size<=maxLen):=by
 obtain⟨cs,rfl,_⟩:=okWide_struct Tryz.underlying44 hv;obtain⟨fuel,hf⟩:=h;obtain⟨m,hm,kE⟩:=Oj hf;refine⟨m,?_,hm⟩;have :cs.toList=dy m:=kE;rw[<-this]
theorem OA{H:Type}{enc:TypeId×Value->H}{α:Type}{φ:α->Prop}{cf:α->List Value}{W:World}{t e:TypeId}{cs:List Value}{y:DataW H×List MemPlace}{fuel sz:Nat}(ht:Tryz.prog.underlying t=some (.slice e))(hf:DataW.trod enc Tryz.prog W 0 (fun _=>true) true fuel t cs=some y)(dM:Tryz.prog.cellsOf e=sz)(rd:∀n cs y,DataW.trod enc Tryz.prog W 0 (fun _=>true) true n e cs=some y->∃x:α,φ x/\cs=cf x):
 ∃(a:Option Addr) (cap:Nat) (xs:List α),cs=[.slice a xs.length cap]/\xs.length<=cap/\qX W sz cf (.slice a xs.length cap) xs/\∀x∈xs,φ x:=by
 rcases open_slice ht hf with⟨kE,_⟩|⟨a',V0,nM,m,n,D,Pl,kE,_,hl,_,hm,_,hi⟩
 ·exact⟨none,0,[],kE,aP _,⟨none,0,rfl,fun i x h=>by simp at h⟩,fun x hx=>by simp at hx⟩
 ·have key:∀i,i<V0->∃x:α,φ x/\cz W (a'.add (i *sz)) (cf x):=fun i dN=>by
   obtain⟨Dv,hc,htr⟩:=hi i (by rw[hm];simp;omega);obtain⟨x,hx,rfl⟩:=rd n Dv _ htr;obtain⟨_,hlen,eM⟩:=World.cells?_some hc;refine⟨x,hx,fun j c hj=>?_⟩;have wN:=(aw.1 hj).1;rw[<-dM];rw[eM j ae];exact hj
  obtain⟨l,Q6,hp⟩:=p_ V0 key;refine⟨some a',nM,l,by rw[Q6];exact kE,by omega,⟨some a',nM,rfl,fun i x hx=>⟨a',rfl,(hp i x hx).2⟩⟩,fun x hx=>?_⟩;obtain⟨i,hi,rfl⟩:=List.getElem_of_mem hx;exact(hp i _ (ak hi)).1
def AcF (W:World) (p:Ac×Option Addr×Nat):Prop:=(p.1.list.length<=p.2.2/\qX W 5 dy (.slice p.2.1 p.1.list.length p.2.2) p.1.list)/\ -9223372036854775808<=p.1.n/\p.1.n<=9223372036854775807
def acF (p:Ac×Option Addr×Nat):List Value:=qF p.1 (.slice p.2.1 p.1.list.length p.2.2)
theorem RY{H:Type}{enc:TypeId×Value->H}{W:World}{n:Nat}{cs:List Value}{y:DataW H×List MemPlace}(h:DataW.trod enc Tryz.prog W 0 (fun _=>true) true n 79 cs=some y):∃p:Ac×Option Addr×Nat,AcF W p/\cs=acF p:=by
 have S_:Tryz.prog.cellsOf 3=1:=by kernel_rfl
 have kE:Tryz.prog.cellsOf 9=1:=by kernel_rfl
 have yO:Tryz.prog.cellsOf 75=3:=by kernel_rfl
 have qT:Tryz.prog.cellsOf 49=1:=by kernel_rfl
 have hlen:=Fo Tryz.underlying79 h (show Tryz.prog.cellsOf 79=9 by kernel_rfl);obtain⟨s0,e0,_⟩:=q6 Tryz.underlying79 h 0 0 3 rfl S_ Tryz.underlying3;obtain⟨s1,e1,_⟩:=q6 Tryz.underlying79 h 1 1 3 rfl S_ Tryz.underlying3;obtain⟨s2,e2,w2⟩:=q6 Tryz.underlying79 h 2 2 3 rfl S_ Tryz.underlying3;obtain⟨s3,e3,_⟩:=q6 Tryz.underlying79 h 3 3 3 rfl S_ Tryz.underlying3;obtain⟨m,y',hm⟩:=pM Tryz.underlying79 h 4 4 75 3 rfl yO;obtain⟨s7,e7,_⟩:=q5 Tryz.underlying79 h 5 7 9 rfl kE Tryz.underlying9;obtain⟨m8,y8,h8⟩:=pM Tryz.underlying79 h 6 8 49 1 rfl qT;obtain⟨la,lc,xs,e8,hxc,hx,_⟩:=OA (φ:=fun m:Ms=>m.body.size<=maxLen/\m.queue.size<=maxLen) (cf:=dy) Tryz.underlying49 h8 (show Tryz.prog.cellsOf 44=5 by kernel_rfl) (fun n cs y h=>Oj h);clear h h8
 match cs,hlen,e0,e1,e2,e3,hm,e7,e8 with
 |[c0,c1,c2,c3,c4,c5,c6,c7,c8],_,e0,e1,e2,e3,hm,e7,e8=>
  simp only[List.drop_succ_cons,List.drop_zero,List.take_succ_cons,List.take_zero]at hm e8;obtain⟨t4,e4,_⟩:=q5 Tryz.underlying75 hm 0 0 9 rfl kE Tryz.underlying9;obtain⟨t5,e5,_⟩:=q5 Tryz.underlying75 hm 1 1 9 rfl kE Tryz.underlying9;obtain⟨t6,e6,_⟩:=q6 Tryz.underlying75 hm 2 2 3 rfl S_ Tryz.underlying3;simp only[List.getElem?_cons_zero,List.getElem?_cons_succ,az]at e0 e1 e2 e3 e4 e5 e6 e7;simp only[List.cons.injEq,and_true]at e8;have wb: -9223372036854775808<=s2/\s2<=9223372036854775807:=by
   unfold Lit.wf at w2;rw[bm,decide_eq_true_eq,decide_eq_true_eq]at w2;exact⟨w2.1,w2.2⟩
  exact⟨(⟨s0,s1,s2,s3,⟨t4,t5,t6⟩,s7,xs⟩,la,lc),⟨⟨hxc,hx⟩,wb⟩,by rw[e0,e1,e2,e3,e4,e5,e6,e7,e8];rfl⟩
theorem Xv{W W':World}{v:Value}{ps:List (Ac×Option Addr×Nat)}(h:qX W 9 acF v ps)(hf:∀p∈ps,AcF W p)(e:Ext W W'):AcR W' v (ps.map (·.1)):=by
 obtain⟨a,cap,rfl,hc⟩:=h;refine⟨a,cap,by rw[aX],fun i x hx=>?_⟩;rw[aG]at hx;obtain⟨p,hp,rfl⟩:=Option.map_eq_some_iff.1 hx;obtain⟨ad,rfl,hh⟩:=hc i p hp;obtain⟨⟨h1,h2⟩,-⟩:=hf p (ax hp);exact⟨ad,p.2.1,p.2.2,rfl,hh.ext e,h1,zG h2 e⟩
theorem abQ{W:World}{ps:List (Ac×Option Addr×Nat)}(hf:∀p∈ps,AcF W p):∀x∈ps.map (·.1),-9223372036854775808<=x.n/\x.n<=9223372036854775807:=fun x hx=>by
 obtain⟨p,hp,rfl⟩:=aB.1 hx;exact(hf p hp).2
theorem PZ(H:Type)(enc:TypeId×Value->H)(W:World)(base:Nat)(args:Array Value)(ds gs:List (DataW H))(before:List MemPlace)(hval:∀(j:Nat) t v,Tryz.f6.params[j]? =some t->args[j]? =some v->Value.okWide Tryz.prog W .any base t v)(hW:DataW.Whole enc Tryz.prog Tryz.f6.params.toList Rows.housePlaysSpec.vars false W args.toList ds gs before)(hL:laidMetH Tryz.prog Rows.housePlaysRow.laid W)(hSh:W.ShapedOpen Tryz.prog):
 Calls Tryz.prog 6 args W fun e W'=> ∃v,e=.returned v/\Rows.housePlaysSpec.post enc Tryz.prog Tryz.f6 false true false false W args v W':=by
 have hW':=hW;obtain⟨p,q,hA0,hV,rfl,hfz,C_⟩:=hW;have hA:DataW.TrodAll enc Tryz.prog W 0 (fun _=>true) true Tryz.f6.params.toList args.toList ds p:=hA0;have hA2:=hA;rw[Tryz.params6]at hA hval;obtain⟨v0,v1,v2,d0,d1,d2,p0,p1,p2,rfl,rfl,rfl,h0,h1,h2⟩:=trodAll_three hA;obtain⟨rfl,rfl⟩:=trodVars_none hV;have hET:=Am hL;obtain⟨x,rfl,_,_,_⟩:=open_int Tryz.underlying3 (hval 0 3 v0 rfl rfl) h0;obtain⟨z,rfl,_,_,_⟩:=open_int Tryz.underlying3 (hval 2 3 v2 rfl rfl) h2;obtain⟨xs,hx,hxf⟩:=Sf (φ:=AcF W) (cf:=acF) Tryz.underlying68 (hval 1 68 v1 rfl rfl) h1 (show Tryz.prog.cellsOf 79=9 by kernel_rfl) (fun n cs y h=>RY h);have afN:=Vw hL;have afR:=VZ hL hSh;have dN:∀x∈p0++p1++p2,x.block<W.heap.size:=fun x hx=>by
  have :=hW'.lt x (List.mem_append_left _ hx);simpa using this
 have aak:Calls Tryz.prog 6 #[.int .i64 x,v1,.int .i64 z] W fun e W'=>e=.returned (.bool true)/\Below W.heap.size W W':=by
  refine(Pg HPI aaC W [] x z v1 (xs.map (·.1)) (fun w hw=>Xv hx hxf (Ext.bU hw.below)) (abQ hxf) afN afR hET W (St.init W)).mono ?_;rintro e W' ⟨v,L',rfl,⟨rfl,_⟩,_,hb⟩;exact⟨rfl,hb⟩
 refine aak.mono fun e W' ⟨he,hb⟩=>?_
 subst he;simp only[List.append_nil]at hW';exact⟨_,rfl,_,_,_,[],p0++p1++p2,[],hW',trodAll_mk1 (shut_bool Tryz.underlying4 _),F8 laidOut hb bC hA2 dN,rfl,hb.frame _,fun h=>by cases h⟩
theorem reads(os:Os){H:Type}(enc:TypeId×Value->H):∃places,DataW.whole enc Tryz.prog ((mR os).forCall (fun _ _=>0) ⟨#[],#[.int .i64 0,.slice none 0 0,.int .i64 0],[]⟩).memory Tryz.f6.params.toList Rows.housePlaysSpec.vars false (#[.int .i64 0,.slice none 0 0,.int .i64 0]:Array Value).toList 8=some ([.lit (.int .i64 0),.nil,.lit (.int .i64 0)],[],places):=
 ⟨[],by kernel_rfl⟩
theorem lifted(os:Os)(started:os.Started)(H:Type)(enc:TypeId×Value->H)(F:Stop.Interp):
 ReturnsInHanded {} Tryz.checked os 6 .any ((OpenSpec.ofChange Rows.housePlaysSpec).preRow enc Tryz.prog Tryz.f6 Rows.housePlaysRow.domain false Rows.housePlaysRow.laid) (((OpenSpec.ofChange Rows.housePlaysSpec).at F).post enc Tryz.prog Tryz.f6 false true false false):=by
 obtain⟨places,hx⟩:=reads os enc;refine returnsInHanded_of_row (C:=Tryz.checked) (s:=OpenSpec.ofChange Rows.housePlaysSpec) own started bC Tryz.func6
  (y7 (enc:=enc) (C:=Tryz.checked) false (mR os) #[.int .i64 0,.slice none 0 0,.int .i64 0] (Ec os) (World.shaped_of_ZipB bC bC) bC
   (OpenSpec.preRow_of_cond 8 hx bC (fun k hk=>by cases hk) bC (OW os _))) ?_
 intro W base args ds gs before hval hW _ _ _ hL hSh _;exact PZ H enc W base args ds gs before hval hW hL hSh
theorem j1:(Rows.housePlaysRow.wf (OpenSpec.ofChange Rows.housePlaysSpec)&&laidOutB Tryz.prog&&mapsRowed Tryz.prog)=true:=by kernel_rfl
theorem j2:(Tryz.f6.params.all (Tryz.prog.readableRec ·)&&namedTie Tryz.prog Rows.housePlaysRow.named Rows.housePlaysSpec.vars&&(Rows.housePlaysRow.stops==[])&&(Tryz.prog.stops==[])&&(Rows.housePlaysRow.knobs==[])&&(Tryz.prog.stopKnobs==[]))=true:=by kernel_rfl
theorem j3:(Rows.housePlaysRow.inPlace==Tryz.prog.inPlace 6)=true:=by kernel_rfl
theorem j4:(Rows.housePlaysRow.unfollowed==Tryz.prog.unfollowed 6)=true:=by kernel_rfl
theorem j5:(Rows.housePlaysRow.recurses==Tryz.prog.recurses 6)=true:=by kernel_rfl
theorem j6:(Rows.housePlaysRow.named==Tryz.prog.varsNamed 6)=true:=by kernel_rfl
theorem j8:(Tryz.prog.stopsHeard&&Tryz.prog.mayEnter&&(Rows.housePlaysRow.lifted==Tryz.prog.liftsFinal)&&(Tryz.prog.make==some Rows.housePlaysRow.make))=true:=by kernel_rfl
theorem closed:joinedFacts Tryz.prog 6 Tryz.f6 Rows.housePlaysSpec Rows.housePlaysRow=true:=Mq j1 j2 j3 j4 j5 j6 Y32 j8 Y32
theorem said:Rows.HousePlaysSaid:=
 OpenClaim.holds_of_wide_leaving 6 Tryz.f6 rfl rfl rfl rfl rfl rfl rfl ⟨rfl,rfl,rfl,rfl,rfl⟩ rfl rfl rfl rfl rfl bC Tryz.func6 closed
  (of_decide_eq_true bC) (by unfold Func.isWrapper;first|(rw[if_pos (by decide+kernel)];kernel_rfl)|(rw[if_neg (by decide+kernel)];exact⟨rfl,rfl⟩))
  (fun os started H enc _=>by rw[OpenClaim.pre_eq_preRow];exact ve (lifted os started H enc (fun _ _ _=>0)))
theorem plain(f:FuncId)(fn:Func)(hf:Tryz.pinned.checked.prog.funcNamed "waybill/waybilllaw.HousePlays"=some f)(hfn:Tryz.pinned.checked.prog.funcs[f]? =some fn):
 true=Tryz.pinned.checked.prog.looks []/\∀(j:Nat) t,fn.params[j]? =some t->Tryz.pinned.checked.prog.wantsStandIn t=false:=by
 obtain rfl:f=6:=Option.some.inj ((show Tryz.prog.funcNamed "waybill/waybilllaw.HousePlays"=some 6 by kernel_rfl).symm.trans hf) |>.symm
 obtain rfl:fn=Tryz.f6:=(Option.some.inj (Tryz.func6.symm.trans hfn)).symm;refine⟨by kernel_rfl,fun j t ht=>?_⟩;rw[Tryz.params6]at ht;have hm:t∈[3,68,3]:=by simpa using Array.mem_of_getElem? ht
 have cU:([3,68,3].all fun u=> !Tryz.prog.wantsStandIn u)=true:=by kernel_rfl
 exact(show Tryz.prog.wantsStandIn t=false by simpa using aL.1 cU t hm)
theorem goes:true=Rows.housePlaysRow.goesBy Tryz.prog:=Ti (f:=6) bC (eq_of_beq j4).symm Y32
theorem card:Rows.HousePlaysCardSaid:=
 xT .later _ _ _ _ said bC housePlays_row_tie rfl ⟨rfl,rfl⟩ Y32 rfl plain goes
end Go.Proofs.YtjhogocabcdjbabGreatDoor.hplays
