/- waybillkeep.WorldOrder: for every number and every list of acts the law returns true, and the list reads as it did. No condition. -/
import Derived.Test.YtjhogocabcdjbabGreatDoorCards
import Derived.Test.YtjhogocabcdjbabGreatDoorTie
import Derived.Stop.LaidErr
import Derived.ChangeMaps5
import Derived.Test.YtjhogocabcdjbabGreatDoorB6
set_option linter.unusedSimpArgs false
set_option linter.unusedVariables false
set_option maxRecDepth 100000
set_option maxHeartbeats 8000000
namespace Go.Proofs.YtjhogocabcdjbabGreatDoor.worder
open Go Go.RowKit Go.ChangeShapes Go.WideShapes Go.ChangeAt Go.Deep WB
theorem own:ownKnob Tryz.prog.godebug=none:=by kernel_rfl
theorem laidOut:laidOutB Tryz.prog=true:=by kernel_rfl
noncomputable def hold (os:Os):World:=World.holding Tryz.prog os ⟨#[],#[],[]⟩
def data:List (String×DataW Unit):=[("math/bits.deBruijn32tab",Rows.laid_math_bits_deBruijn32tab),("math/bits.deBruijn64tab",Rows.laid_math_bits_deBruijn64tab),("internal/strconv.uint64pow10",Rows.laid_internal_strconv_uint64pow10),("unicode/utf8.acceptRanges",Rows.laid_unicode_utf8_acceptRanges),("strconv.ErrRange",Rows.laid_strconv_ErrRange),("strconv.ErrSyntax",Rows.laid_strconv_ErrSyntax),("waybill/waybillkeep.queues",Rows.laid_waybill_waybillkeep_queues),("unicode/utf8.first",Rows.laid_unicode_utf8_first)]
noncomputable def mG (os:Os):World:=(hold os).layVars Tryz.prog data
theorem DD(os:Os):(mG os).os=os:=World.layVars_os _ _ _
theorem PG(os:Os)(args:Array Value):laidMet Tryz.prog data ((mG os).forCall (fun _ _=>0) ⟨#[],args,[]⟩).memory:=by
 have h:laidMet Tryz.prog data (mG os):=laidMet_layVars (w0:=hold os) (data.map (·.1)) [] rfl bH bH LaidIn.none
 exact h.of_heap (by simp[World.memory,World.forCall,Input.heap])
theorem Oz(os:Os)(args:Array Value):laidMetH Tryz.prog Rows.worldOrderRow.laid ((mG os).forCall (fun _ _=>0) ⟨#[],args,[]⟩).memory:=
 laidMetH_of_parts (PG os args) bH
theorem DC{W:World}(h:laidMetH Tryz.prog Rows.worldOrderRow.laid W):laidMet Tryz.prog data W:=by
 have e:Rows.worldOrderRow.laid=data:=by kernel_rfl
 rw[e]at h
 exact h
theorem VP{W:World}(h:laidMetH Tryz.prog Rows.worldOrderRow.laid W):qH W:=by
 have h1:laidMet Tryz.prog data W:=DC h
 have hd:("internal/strconv.uint64pow10",Lib.tabData .u64 Lib.pow10Tab)∈data:=by
  have e:(Lib.tabData .u64 Lib.pow10Tab:DataW Unit)=Rows.laid_internal_strconv_uint64pow10:=by kernel_rfl
  rw[e];unfold data;simp
 exact E6 h1 hd (g:=4) bH bH (n:=20) Tryz.underlying427 Tryz.underlying224 bH bH
theorem star: "*"++ "errors.errorString"= "*errors.errorString":=by decide
theorem UM(u:TypeId)(h:Tryz.prog.typeName? 3 u=some "*errors.errorString"):u=449:=
 typeName_ptr_named (nm:= "errors.errorString") (by rw[star];kernel_rfl) bH ai u (by rw[star];exact h)
theorem Wm{W:World}(h:laidMetH Tryz.prog Rows.worldOrderRow.laid W)(hSh:W.ShapedOpen Tryz.prog):qK W:=by
 have h1:laidMet Tryz.prog [("strconv.ErrRange",Rows.laid_strconv_ErrRange),("strconv.ErrSyntax",Rows.laid_strconv_ErrSyntax),("waybill/waybillkeep.queues",Rows.laid_waybill_waybillkeep_queues),("unicode/utf8.first",Rows.laid_unicode_utf8_first)] W:=(DC h).tail.tail.tail.tail
 obtain⟨a0,s0,IL,-,-,-⟩:=laid_sentinel h1 (show Tryz.prog.globalNamed "strconv.ErrRange"=some 3 by kernel_rfl) (show(Tryz.prog.globals[3]?).map (·.type)=some 31 by kernel_rfl) Tryz.underlying31 UM Tryz.underlying449 Tryz.underlying451 rfl rfl Tryz.underlying9 bH bH
 obtain⟨a1,s1,Me,-,-,-⟩:=laid_sentinel h1.tail (show Tryz.prog.globalNamed "strconv.ErrSyntax"=some 2 by kernel_rfl) (show(Tryz.prog.globals[2]?).map (·.type)=some 31 by kernel_rfl) Tryz.underlying31 UM Tryz.underlying449 Tryz.underlying451 rfl rfl Tryz.underlying9 bH bH
 exact⟨Tryz.laysM146.s1_3 W hSh,⟨_,_,by have :=World.var?_cell (show Tryz.prog.globalNamed "strconv.ErrSyntax"=some 2 by kernel_rfl) Me 0;simpa using this⟩,⟨_,_,by have :=World.var?_cell (show Tryz.prog.globalNamed "strconv.ErrRange"=some 3 by kernel_rfl) IL 0;simpa using this⟩⟩
theorem V3{H:Type}{enc:TypeId×Value->H}{W:World}{n:Nat}{cs:List Value}{y:DataW H×List MemPlace}(h:DataW.trod enc Tryz.prog W 0 (fun _=>true) true n 38 cs=some y):∃x:Bl,True/\cs=nP x:=by
 have U_:Tryz.prog.cellsOf 3=1:=by kernel_rfl
 have hlen:=NA Tryz.underlying38 h (show Tryz.prog.cellsOf 38=5 by kernel_rfl)
 obtain⟨s0,e0,_⟩:=zm Tryz.underlying38 h 0 0 3 rfl U_ Tryz.underlying3
 obtain⟨s1,e1,_⟩:=zm Tryz.underlying38 h 1 1 3 rfl U_ Tryz.underlying3
 obtain⟨s2,e2,_⟩:=zm Tryz.underlying38 h 2 2 3 rfl U_ Tryz.underlying3
 obtain⟨s3,e3,_⟩:=zm Tryz.underlying38 h 3 3 3 rfl U_ Tryz.underlying3
 obtain⟨s4,e4,_⟩:=zm Tryz.underlying38 h 4 4 3 rfl U_ Tryz.underlying3
 match cs,hlen,e0,e1,e2,e3,e4 with
 |[c0,c1,c2,c3,c4],_,e0,e1,e2,e3,e4=>
  simp only[List.getElem?_cons_zero,List.getElem?_cons_succ,az]at e0 e1 e2 e3 e4
  exact⟨⟨s0,s1,s2,s3,s4⟩,trivial,by rw[e0,e1,e2,e3,e4];rfl⟩
theorem R8{α:Type}{sz:Nat}{cf:α->List Value}{W W':World}{v:Value}{xs:List α}(h:x9 W sz cf v xs)(e:Ext W W'):x9 W' sz cf v xs:=by
 obtain⟨a,cap,rfl,hc⟩:=h
 exact⟨a,cap,rfl,fun i x hx=>by obtain⟨ad,rfl,hh⟩:=hc i x hx;exact⟨ad,rfl,hh.ext e⟩⟩
theorem V4{W:World}(h:laidMetH Tryz.prog Rows.worldOrderRow.laid W):YP W:=by
 have h1:laidMet Tryz.prog data W:=DC h
 have hd:("waybill/waybillkeep.queues",(.agg (([⟨#[105,110]⟩,⟨#[111,117,116]⟩,⟨#[102,97,114]⟩]:List ak).map fun z=>.lit (.string z.data.toList)):DataW Unit))∈data:=by
  have e:(.agg (([⟨#[105,110]⟩,⟨#[111,117,116]⟩,⟨#[102,97,114]⟩]:List ak).map fun z=>.lit (.string z.data.toList)):DataW Unit)=Rows.laid_waybill_waybillkeep_queues:=by kernel_rfl
  rw[e];unfold data;simp
 have h2:=Df h1 hd (g:=0) bH bH (n:=3) Tryz.underlying40 Tryz.underlying9 bH bH
 intro k hk
 match k,hk with
 |0,_=>exact h2 0 _ rfl
 |1,_=>exact h2 1 _ rfl
 |2,_=>exact h2 2 _ rfl
theorem PK(H:Type)(enc:TypeId×Value->H)(W:World)(base:Nat)(args:Array Value)(ds gs:List (DataW H))(before:List MemPlace)(hval:∀(j:Nat) t v,Tryz.f5.params[j]? =some t->args[j]? =some v->Value.okWide Tryz.prog W .any base t v)(hW:DataW.Whole enc Tryz.prog Tryz.f5.params.toList Rows.worldOrderSpec.vars false W args.toList ds gs before)(hL:laidMetH Tryz.prog Rows.worldOrderRow.laid W)(hSh:W.ShapedOpen Tryz.prog):
 Calls Tryz.prog 5 args W fun e W'=> ∃v,e=.returned v/\Rows.worldOrderSpec.post enc Tryz.prog Tryz.f5 false true false false W args v W':=by
 have hW':=hW
 obtain⟨p,q,hA0,hV,rfl,hfz,nM⟩:=hW
 have hA:DataW.TrodAll enc Tryz.prog W 0 (fun _=>true) true Tryz.f5.params.toList args.toList ds p:=hA0
 have hA2:=hA
 rw[Tryz.params5]at hA hval
 obtain⟨v0,v1,d0,d1,p0,p1,rfl,rfl,rfl,h0,h1⟩:=trodAll_two hA
 obtain⟨rfl,rfl⟩:=trodVars_none hV
 obtain⟨x,rfl,_,_,_⟩:=open_int Tryz.underlying3 (hval 0 3 v0 rfl rfl) h0
 obtain⟨xs,hx,_⟩:=Sk (φ:=fun _:Bl=>True) (cf:=nP) Tryz.underlying22 (hval 1 22 v1 rfl rfl) h1 (show Tryz.prog.cellsOf 38=5 by kernel_rfl) (fun n cs y h=>V3 h)
 have af3:=VP hL
 have af_:=Wm hL hSh
 have hQs:=V4 hL
 have dS:∀x∈p0++p1,x.block<W.heap.size:=fun x hx=>by
  have :=hW'.lt x (List.mem_append_left _ hx)
  simpa using this
 have aav:Calls Tryz.prog 5 #[.int .i64 x,v1] W fun e W'=>e=.returned (.bool true)/\Below W.heap.size W W':=by
  refine(Nr W [] v1 x xs (fun w hw=>R8 hx (Ext.ct hw.below)) af3 af_ hQs W (St.init W)).mono ?_
  rintro e W' ⟨v,L',rfl,⟨rfl,_⟩,_,hb⟩
  exact⟨rfl,hb⟩
 refine aav.mono fun e W' ⟨he,hb⟩=>?_
 subst he
 simp only[List.append_nil]at hW'
 exact⟨_,rfl,_,_,_,[],p0++p1,[],hW',trodAll_mk1 (shut_bool Tryz.underlying4 _),FL laidOut hb bH hA2 dS,rfl,hb.frame _,fun h=>by cases h⟩
theorem reads(os:Os){H:Type}(enc:TypeId×Value->H):∃places,DataW.whole enc Tryz.prog ((mG os).forCall (fun _ _=>0) ⟨#[],#[.int .i64 0,.slice none 0 0],[]⟩).memory Tryz.f5.params.toList Rows.worldOrderSpec.vars false (#[.int .i64 0,.slice none 0 0]:Array Value).toList 8=some ([.lit (.int .i64 0),.nil],[],places):=
 ⟨[],by kernel_rfl⟩
theorem lifted(os:Os)(started:os.Started)(H:Type)(enc:TypeId×Value->H)(F:Stop.Interp):
 ReturnsInHanded {} Tryz.checked os 5 .any ((OpenSpec.ofChange Rows.worldOrderSpec).preRow enc Tryz.prog Tryz.f5 Rows.worldOrderRow.domain false Rows.worldOrderRow.laid) (((OpenSpec.ofChange Rows.worldOrderSpec).at F).post enc Tryz.prog Tryz.f5 false true false false):=by
 obtain⟨places,hx⟩:=reads os enc
 refine returnsInHanded_of_row (C:=Tryz.checked) (s:=OpenSpec.ofChange Rows.worldOrderSpec) own started bH Tryz.func5
  (zi (enc:=enc) (C:=Tryz.checked) false (mG os) #[.int .i64 0,.slice none 0 0] (DD os) (World.shaped_of_ZipB bH bH) bH
   (OpenSpec.preRow_of_cond 8 hx bH (fun k hk=>by cases hk) bH (Oz os _))) ?_
 intro W base args ds gs before hval hW _ _ _ hL hSh _
 exact PK H enc W base args ds gs before hval hW hL hSh
theorem j1:(Rows.worldOrderRow.wf (OpenSpec.ofChange Rows.worldOrderSpec)&&laidOutB Tryz.prog&&mapsRowed Tryz.prog)=true:=by kernel_rfl
theorem j2:(Tryz.f5.params.all (Tryz.prog.readableRec ·)&&namedTie Tryz.prog Rows.worldOrderRow.named Rows.worldOrderSpec.vars&&(Rows.worldOrderRow.stops==[])&&(Tryz.prog.stops==[])&&(Rows.worldOrderRow.knobs==[])&&(Tryz.prog.stopKnobs==[]))=true:=by kernel_rfl
theorem j3:(Rows.worldOrderRow.inPlace==Tryz.prog.inPlace 5)=true:=by kernel_rfl
theorem j4:(Rows.worldOrderRow.unfollowed==Tryz.prog.unfollowed 5)=true:=by kernel_rfl
theorem j5:(Rows.worldOrderRow.recurses==Tryz.prog.recurses 5)=true:=by kernel_rfl
theorem j6:(Rows.worldOrderRow.named==Tryz.prog.varsNamed 5)=true:=by kernel_rfl
theorem j8:(Tryz.prog.stopsHeard&&Tryz.prog.mayEnter&&(Rows.worldOrderRow.lifted==Tryz.prog.liftsFinal)&&(Tryz.prog.make==some Rows.worldOrderRow.make))=true:=by kernel_rfl
theorem closed:joinedFacts Tryz.prog 5 Tryz.f5 Rows.worldOrderSpec Rows.worldOrderRow=true:=L7 j1 j2 j3 j4 j5 j6 Y36 j8 Y36
theorem said:Rows.WorldOrderSaid:=
 OpenClaim.holds_of_wide_leaving 5 Tryz.f5 rfl rfl rfl rfl rfl rfl rfl ⟨rfl,rfl,rfl,rfl,rfl⟩ rfl rfl rfl rfl rfl bH Tryz.func5 closed
  (of_decide_eq_true bH) (by unfold Func.isWrapper;first|(rw[if_pos (by decide+kernel)];kernel_rfl)|(rw[if_neg (by decide+kernel)];exact⟨rfl,rfl⟩))
  (fun os started H enc _=>by rw[OpenClaim.pre_eq_preRow];exact uR (lifted os started H enc (fun _ _ _=>0)))
theorem plain(f:FuncId)(fn:Func)(hf:Tryz.pinned.checked.prog.funcNamed "waybill/waybillkeep.WorldOrder"=some f)(hfn:Tryz.pinned.checked.prog.funcs[f]? =some fn):
 true=Tryz.pinned.checked.prog.looks []/\∀(j:Nat) t,fn.params[j]? =some t->Tryz.pinned.checked.prog.wantsStandIn t=false:=by
 obtain rfl:f=5:=Option.some.inj ((show Tryz.prog.funcNamed "waybill/waybillkeep.WorldOrder"=some 5 by kernel_rfl).symm.trans hf) |>.symm
 obtain rfl:fn=Tryz.f5:=(Option.some.inj (Tryz.func5.symm.trans hfn)).symm
 refine⟨by kernel_rfl,fun j t ht=>?_⟩
 rw[Tryz.params5]at ht
 have hm:t∈[3,22]:=by simpa using Array.mem_of_getElem? ht
 have fw:([3,22].all fun u=> !Tryz.prog.wantsStandIn u)=true:=by kernel_rfl
 exact(show Tryz.prog.wantsStandIn t=false by simpa using aJ.1 fw t hm)
theorem goes:true=Rows.worldOrderRow.goesBy Tryz.prog:=Tz (f:=5) bH (eq_of_beq j4).symm Y36
theorem card:Rows.WorldOrderCardSaid:=
 yv .later _ _ _ _ said bH worldOrder_row_tie rfl ⟨rfl,rfl⟩ Y36 rfl plain goes
end Go.Proofs.YtjhogocabcdjbabGreatDoor.worder
