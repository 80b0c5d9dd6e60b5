/- waybillkeep.WorldOnce: for every number and every list of acts the law returns true, and the list reads as it did. No condition. -/
import Derived.Test.YtjhogocabcdjbabGreatDoorCards
import Derived.Test.YtjhogocabcdjbabGreatDoorTie
import Derived.Stop.LaidErr
import Derived.ChangeMaps5
import Derived.Test.YtjhogocabcdjbabGreatDoorB6
set_option linter.unusedSimpArgs false
set_option linter.unusedVariables false
set_option maxRecDepth 100000
set_option maxHeartbeats 8000000
namespace Go.Proofs.YtjhogocabcdjbabGreatDoor.wonce
open Go Go.RowKit Go.ChangeShapes Go.WideShapes Go.ChangeAt Go.Deep WB
theorem own:ownKnob Tryz.prog.godebug=none:=by kernel_rfl
theorem laidOut:laidOutB Tryz.prog=true:=by kernel_rfl
noncomputable def hold (os:Os):World:=World.holding Tryz.prog os ⟨#[],#[],[]⟩
def data:List (String×DataW Unit):=[("math/bits.deBruijn32tab",Rows.laid_math_bits_deBruijn32tab),("math/bits.deBruijn64tab",Rows.laid_math_bits_deBruijn64tab),("internal/strconv.uint64pow10",Rows.laid_internal_strconv_uint64pow10),("unicode/utf8.acceptRanges",Rows.laid_unicode_utf8_acceptRanges),("strconv.ErrRange",Rows.laid_strconv_ErrRange),("strconv.ErrSyntax",Rows.laid_strconv_ErrSyntax),("waybill/waybillkeep.queues",Rows.laid_waybill_waybillkeep_queues),("unicode/utf8.first",Rows.laid_unicode_utf8_first)]
noncomputable def lb (os:Os):World:=(hold os).layVars Tryz.prog data
theorem B9(os:Os):(lb os).os=os:=World.layVars_os _ _ _
theorem NF(os:Os)(args:Array Value):laidMet Tryz.prog data ((lb os).forCall (fun _ _=>0) ⟨#[],args,[]⟩).memory:=by
 have h:laidMet Tryz.prog data (lb os):=laidMet_layVars (w0:=hold os) (data.map (·.1)) [] rfl bC bC LaidIn.none
 exact h.of_heap (by simp[World.memory,World.forCall,Input.heap])
theorem MF(os:Os)(args:Array Value):laidMetH Tryz.prog Rows.worldOnceRow.laid ((lb os).forCall (fun _ _=>0) ⟨#[],args,[]⟩).memory:=
 laidMetH_of_parts (NF os args) bC
theorem B8{W:World}(h:laidMetH Tryz.prog Rows.worldOnceRow.laid W):laidMet Tryz.prog data W:=by
 have e:Rows.worldOnceRow.laid=data:=by kernel_rfl
 rw[e]at h;exact h
theorem Tw{W:World}(h:laidMetH Tryz.prog Rows.worldOnceRow.laid W):o0 W:=by
 have h1:laidMet Tryz.prog data W:=B8 h;have hd:("internal/strconv.uint64pow10",Lib.tabData .u64 Lib.pow10Tab)∈data:=by
  have e:(Lib.tabData .u64 Lib.pow10Tab:DataW Unit)=Rows.laid_internal_strconv_uint64pow10:=by kernel_rfl
  rw[e];unfold data;simp
 exact DD h1 hd (g:=4) bC bC (n:=20) Tryz.underlying427 Tryz.underlying224 bC bC
theorem star: "*"++ "errors.errorString"= "*errors.errorString":=by decide
theorem Sr(u:TypeId)(h:Tryz.prog.typeName? 3 u=some "*errors.errorString"):u=449:=
 typeName_ptr_named (nm:= "errors.errorString") (by rw[star];kernel_rfl) bC ai u (by rw[star];exact h)
theorem T4{W:World}(h:laidMetH Tryz.prog Rows.worldOnceRow.laid W)(YG:W.ShapedOpen Tryz.prog):o2 W:=by
 have h1:laidMet Tryz.prog [("strconv.ErrRange",Rows.laid_strconv_ErrRange),("strconv.ErrSyntax",Rows.laid_strconv_ErrSyntax),("waybill/waybillkeep.queues",Rows.laid_waybill_waybillkeep_queues),("unicode/utf8.first",Rows.laid_unicode_utf8_first)] W:=(B8 h).tail.tail.tail.tail;obtain⟨a0,s0,FL,-,-,-⟩:=laid_sentinel h1 (show Tryz.prog.globalNamed "strconv.ErrRange"=some 3 by kernel_rfl) (show(Tryz.prog.globals[3]?).map (·.type)=some 31 by kernel_rfl) Tryz.underlying31 Sr Tryz.underlying449 Tryz.underlying451 rfl rfl Tryz.underlying9 bC bC
 obtain⟨a1,s1,GD,-,-,-⟩:=laid_sentinel h1.tail (show Tryz.prog.globalNamed "strconv.ErrSyntax"=some 2 by kernel_rfl) (show(Tryz.prog.globals[2]?).map (·.type)=some 31 by kernel_rfl) Tryz.underlying31 Sr Tryz.underlying449 Tryz.underlying451 rfl rfl Tryz.underlying9 bC bC
 exact⟨Tryz.laysM146.s1_3 W YG,⟨_,_,by have :=World.var?_cell (show Tryz.prog.globalNamed "strconv.ErrSyntax"=some 2 by kernel_rfl) GD 0;simpa using this⟩,⟨_,_,by have :=World.var?_cell (show Tryz.prog.globalNamed "strconv.ErrRange"=some 3 by kernel_rfl) FL 0;simpa using this⟩⟩
theorem TI{H:Type}{enc:TypeId×Value->H}{W:World}{n:Nat}{cs:List Value}{y:DataW H×List MemPlace}(h:DataW.trod enc Tryz.prog W 0 (fun _=>true) true n 38 cs=some y):∃x:Ia,True/\cs=nB x:=by
 have SS:Tryz.prog.cellsOf 3=1:=by kernel_rfl
 have hlen:=LI Tryz.underlying38 h (show Tryz.prog.cellsOf 38=5 by kernel_rfl);obtain⟨s0,e0,_⟩:=xB Tryz.underlying38 h 0 0 3 rfl SS Tryz.underlying3;obtain⟨s1,e1,_⟩:=xB Tryz.underlying38 h 1 1 3 rfl SS Tryz.underlying3;obtain⟨s2,e2,_⟩:=xB Tryz.underlying38 h 2 2 3 rfl SS Tryz.underlying3;obtain⟨s3,e3,_⟩:=xB Tryz.underlying38 h 3 3 3 rfl SS Tryz.underlying3;obtain⟨s4,e4,_⟩:=xB Tryz.underlying38 h 4 4 3 rfl SS Tryz.underlying3
 match cs,hlen,e0,e1,e2,e3,e4 with
 |[c0,c1,c2,c3,c4],_,e0,e1,e2,e3,e4=>
  simp only[List.getElem?_cons_zero,List.getElem?_cons_succ,az]at e0 e1 e2 e3 e4;exact⟨⟨s0,s1,s2,s3,s4⟩,trivial,by rw[e0,e1,e2,e3,e4];rfl⟩
theorem PK{α:Type}{sz:Nat}{cf:α->List Value}{W W':World}{v:Value}{xs:List α}(h:vE W sz cf v xs)(e:Ext W W'):vE W' sz cf v xs:=by
 obtain⟨a,cap,rfl,hc⟩:=h;exact⟨a,cap,rfl,fun i x hx=>by obtain⟨ad,rfl,hh⟩:=hc i x hx;exact⟨ad,rfl,hh.ext e⟩⟩
theorem TK{W:World}(h:laidMetH Tryz.prog Rows.worldOnceRow.laid W):Wh W:=by
 have h1:laidMet Tryz.prog data W:=B8 h;have hd:("waybill/waybillkeep.queues",(.agg (([⟨#[105,110]⟩,⟨#[111,117,116]⟩,⟨#[102,97,114]⟩]:List ak).map fun z=>.lit (.string z.data.toList)):DataW Unit))∈data:=by
  have e:(.agg (([⟨#[105,110]⟩,⟨#[111,117,116]⟩,⟨#[102,97,114]⟩]:List ak).map fun z=>.lit (.string z.data.toList)):DataW Unit)=Rows.laid_waybill_waybillkeep_queues:=by kernel_rfl
  rw[e];unfold data;simp
 have h2:=BU h1 hd (g:=0) bC bC (n:=3) Tryz.underlying40 Tryz.underlying9 bC bC;intro k hk
 match k,hk with
 |0,_=>exact h2 0 _ rfl
 |1,_=>exact h2 1 _ rfl
 |2,_=>exact h2 2 _ rfl
theorem NH(H:Type)(enc:TypeId×Value->H)(W:World)(base:Nat)(args:Array Value)(ds gs:List (DataW H))(before:List MemPlace)(hval:∀(j:Nat) t v,Tryz.f4.params[j]? =some t->args[j]? =some v->Value.okWide Tryz.prog W .any base t v)(hW:DataW.Whole enc Tryz.prog Tryz.f4.params.toList Rows.worldOnceSpec.vars false W args.toList ds gs before)(hL:laidMetH Tryz.prog Rows.worldOnceRow.laid W)(YG:W.ShapedOpen Tryz.prog):
 Calls Tryz.prog 4 args W fun e W'=> ∃v,e=.returned v/\Rows.worldOnceSpec.post enc Tryz.prog Tryz.f4 false true false false W args v W':=by
 have hW':=hW;obtain⟨p,q,hA0,hV,rfl,hfz,sK⟩:=hW;have hA:DataW.TrodAll enc Tryz.prog W 0 (fun _=>true) true Tryz.f4.params.toList args.toList ds p:=hA0;have hA2:=hA;rw[Tryz.params4]at hA hval;obtain⟨v0,v1,d0,d1,p0,p1,rfl,rfl,rfl,h0,h1⟩:=trodAll_two hA;obtain⟨rfl,rfl⟩:=trodVars_none hV;obtain⟨x,rfl,_,_,_⟩:=open_int Tryz.underlying3 (hval 0 3 v0 rfl rfl) h0;obtain⟨xs,hx,_⟩:=PY (φ:=fun _:Ia=>True) (cf:=nB) Tryz.underlying22 (hval 1 22 v1 rfl rfl) h1 (show Tryz.prog.cellsOf 38=5 by kernel_rfl) (fun n cs y h=>TI h);have ac4:=Tw hL;have ac7:=T4 hL YG;have hQs:=TK hL;have dt:∀x∈p0++p1,x.block<W.heap.size:=fun x hx=>by
  have :=hW'.lt x (List.mem_append_left _ hx);simpa using this
 have XN:Calls Tryz.prog 4 #[.int .i64 x,v1] W fun e W'=>e=.returned (.bool true)/\Below W.heap.size W W':=by
  refine(Pd W [] v1 x xs (fun w hw=>PK hx (Ext.bW hw.below)) ac4 ac7 hQs W (St.init W)).mono ?_;rintro e W' ⟨v,L',rfl,⟨rfl,_⟩,_,hb⟩;exact⟨rfl,hb⟩
 refine XN.mono fun e W' ⟨he,hb⟩=>?_
 subst he;simp only[List.append_nil]at hW';exact⟨_,rfl,_,_,_,[],p0++p1,[],hW',trodAll_mk1 (shut_bool Tryz.underlying4 _),El laidOut hb bC hA2 dt,rfl,hb.frame _,fun h=>by cases h⟩
theorem reads(os:Os){H:Type}(enc:TypeId×Value->H):∃places,DataW.whole enc Tryz.prog ((lb os).forCall (fun _ _=>0) ⟨#[],#[.int .i64 0,.slice none 0 0],[]⟩).memory Tryz.f4.params.toList Rows.worldOnceSpec.vars false (#[.int .i64 0,.slice none 0 0]:Array Value).toList 8=some ([.lit (.int .i64 0),.nil],[],places):=
 ⟨[],by kernel_rfl⟩
theorem lifted(os:Os)(started:os.Started)(H:Type)(enc:TypeId×Value->H)(F:Stop.Interp):
 ReturnsInHanded {} Tryz.checked os 4 .any ((OpenSpec.ofChange Rows.worldOnceSpec).preRow enc Tryz.prog Tryz.f4 Rows.worldOnceRow.domain false Rows.worldOnceRow.laid) (((OpenSpec.ofChange Rows.worldOnceSpec).at F).post enc Tryz.prog Tryz.f4 false true false false):=by
 obtain⟨places,hx⟩:=reads os enc;refine returnsInHanded_of_row (C:=Tryz.checked) (s:=OpenSpec.ofChange Rows.worldOnceSpec) own started bC Tryz.func4
  (xo (enc:=enc) (C:=Tryz.checked) false (lb os) #[.int .i64 0,.slice none 0 0] (B9 os) (World.shaped_of_ZipB bC bC) bC
   (OpenSpec.preRow_of_cond 8 hx bC (fun k hk=>by cases hk) bC (MF os _))) ?_
 intro W base args ds gs before hval hW _ _ _ hL YG _;exact NH H enc W base args ds gs before hval hW hL YG
theorem j1:(Rows.worldOnceRow.wf (OpenSpec.ofChange Rows.worldOnceSpec)&&laidOutB Tryz.prog&&mapsRowed Tryz.prog)=true:=by kernel_rfl
theorem j2:(Tryz.f4.params.all (Tryz.prog.readableRec ·)&&namedTie Tryz.prog Rows.worldOnceRow.named Rows.worldOnceSpec.vars&&(Rows.worldOnceRow.stops==[])&&(Tryz.prog.stops==[])&&(Rows.worldOnceRow.knobs==[])&&(Tryz.prog.stopKnobs==[]))=true:=by kernel_rfl
theorem j3:(Rows.worldOnceRow.inPlace==Tryz.prog.inPlace 4)=true:=by kernel_rfl
theorem j4:(Rows.worldOnceRow.unfollowed==Tryz.prog.unfollowed 4)=true:=by kernel_rfl
theorem j5:(Rows.worldOnceRow.recurses==Tryz.prog.recurses 4)=true:=by kernel_rfl
theorem j6:(Rows.worldOnceRow.named==Tryz.prog.varsNamed 4)=true:=by kernel_rfl
theorem j8:(Tryz.prog.stopsHeard&&Tryz.prog.mayEnter&&(Rows.worldOnceRow.lifted==Tryz.prog.liftsFinal)&&(Tryz.prog.make==some Rows.worldOnceRow.make))=true:=by kernel_rfl
theorem closed:joinedFacts Tryz.prog 4 Tryz.f4 Rows.worldOnceSpec Rows.worldOnceRow=true:=JZ j1 j2 j3 j4 j5 j6 Y30 j8 Y30
theorem said:Rows.WorldOnceSaid:=
 OpenClaim.holds_of_wide_leaving 4 Tryz.f4 rfl rfl rfl rfl rfl rfl rfl ⟨rfl,rfl,rfl,rfl,rfl⟩ rfl rfl rfl rfl rfl bC Tryz.func4 closed
  (of_decide_eq_true bC) (by unfold Func.isWrapper;first|(rw[if_pos (by decide+kernel)];kernel_rfl)|(rw[if_neg (by decide+kernel)];exact⟨rfl,rfl⟩))
  (fun os started H enc _=>by rw[OpenClaim.pre_eq_preRow];exact sF (lifted os started H enc (fun _ _ _=>0)))
theorem plain(f:FuncId)(fn:Func)(hf:Tryz.pinned.checked.prog.funcNamed "waybill/waybillkeep.WorldOnce"=some f)(hfn:Tryz.pinned.checked.prog.funcs[f]? =some fn):
 true=Tryz.pinned.checked.prog.looks []/\∀(j:Nat) t,fn.params[j]? =some t->Tryz.pinned.checked.prog.wantsStandIn t=false:=by
 obtain rfl:f=4:=Option.some.inj ((show Tryz.prog.funcNamed "waybill/waybillkeep.WorldOnce"=some 4 by kernel_rfl).symm.trans hf) |>.symm
 obtain rfl:fn=Tryz.f4:=(Option.some.inj (Tryz.func4.symm.trans hfn)).symm;refine⟨by kernel_rfl,fun j t ht=>?_⟩;rw[Tryz.params4]at ht;have hm:t∈[3,22]:=by simpa using Array.mem_of_getElem? ht
 have fg:([3,22].all fun u=> !Tryz.prog.wantsStandIn u)=true:=by kernel_rfl
 exact(show Tryz.prog.wantsStandIn t=false by simpa using aI.1 fg t hm)
theorem goes:true=Rows.worldOnceRow.goesBy Tryz.prog:=Q9 (f:=4) bC (eq_of_beq j4).symm Y30
theorem card:Rows.WorldOnceCardSaid:=
 vW .later _ _ _ _ said bC worldOnce_row_tie rfl ⟨rfl,rfl⟩ Y30 rfl plain goes
end Go.Proofs.YtjhogocabcdjbabGreatDoor.wonce
