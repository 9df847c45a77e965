/- Statement TopCodec: a text that is packed as it comes, and unpacked as its bytes come, in whatever pieces, is the same text with the same sum. No condition but what the row lists. -/
import Derived.Test.YtmdgeoalamancaaGreatDoorTie
import Derived.Test.YtmdgeoalamancaaGreatDoorCards
import Derived.SevenTiedAt
import Derived.Test.YtmdgeoalamancaaGreatDoorZBM
import Derived.Test.YtmdgeoalamancaaGreatDoorZBN
set_option maxRecDepth 100000
set_option linter.unusedVariables false
set_option linter.unusedSimpArgs false
namespace Go.Proofs.YtmdgeoalamancaaGreatDoor.topCodec
open Go.ChangeShapes Go.WideShapes Go.ChangeAt Go.RowKit Go.ChangeMaps
set_option maxRecDepth 100000 in
theorem lifted (os:Os) (started:os.Started) (H:Type) (enc:TypeId × Value→H):
  ReturnsInHanded {} Tryz.checked os 3 .any (fun w args=>(Rows.topCodecSpec.pre enc Tryz.prog Tryz.f3 Rows.topCodecRow.domain false w args∧laidMetH Tryz.prog laidN w)∧sizedMet enc Tryz.prog Tryz.f3 (OpenSpec.ofChange Rows.topCodecSpec) false w args)
   (Rows.topCodecSpec.post enc Tryz.prog Tryz.f3 false true false false):=by
 refine returns_laid (C:=Tryz.checked) (X:=fun w _=>laidMetH Tryz.prog laidN w) (fun _ _ _ hh h=>h.of_heap hh) own started (by kernel_rfl) Tryz.func3
  (ChangeSpec.witness_shaped (enc:=enc) (C:=Tryz.checked) (os:=os) (X:=fun w _=>laidMetH Tryz.prog laidN w) false (World.laidAll Tryz.prog os laidN) #[.slice none 0 0,.slice none 0 0,.int .u8 0] 8 (World.laidAll_os _ _ _)
   (World.shaped_of_ZipB (by kernel_rfl) (by kernel_rfl)) (by kernel_rfl) (by kernel_rfl) (by kernel_rfl) (laid_met os _)) ?_
 intro W base args ds gs before hval0 hW hL hsh
 have hval: ∀(j:Nat) t v,Tryz.f3.params[j]? =some t→args[j]? =some v→Value.okWide Tryz.prog W .any base t v:=hval0
 have hW':=hW
 obtain⟨p,q,hA0,hV,rfl,hfz,hnd⟩:=hW
 have hA:DataW.TrodAll enc Tryz.prog W 0 (fun _=>true) true Tryz.f3.params.toList args.toList ds p:=hA0
 rw[Tryz.params3] at hA hval
 obtain⟨v0,vs0,d0,ds0,p0,q0,hargs,rfl,rfl,h0,r0⟩:=trodAll_cons hA
 obtain⟨v1,vs1,d1,ds1,p1,q1,rfl,rfl,rfl,h1,r1⟩:=trodAll_cons r0
 obtain⟨v2,vs2,d2,ds2,p2,q2,rfl,rfl,rfl,h2,r2⟩:=trodAll_cons r1
 obtain⟨rfl,rfl,rfl⟩:=trodAll_nil r2
 obtain rfl:args=#[v0,v1,v2]:=by cases args;simp_all
 obtain⟨rfl,rfl⟩:=trodVars_none hV
 obtain⟨sp0,sn0,sc0,rfl⟩:=okWide_slice Tryz.underlying22 (hval 0 22 v0 rfl rfl)
 obtain⟨sp1,sn1,sc1,rfl⟩:=okWide_slice Tryz.underlying23 (hval 1 23 v1 rfl rfl)
 obtain⟨zz,rfl⟩:=okWide_int Tryz.underlying5 (hval 2 5 v2 rfl rfl)
 obtain⟨n,ws,hS,hP⟩:=bss_open h0.choose_spec
 obtain⟨g,hU,hg⟩:=u8s_open h1.choose_spec
 obtain⟨f2,h2⟩:=h2
 obtain⟨z,hze,_,hz⟩:=DataW.trod_int Tryz.underlying5 h2
 obtain rfl:zz=z:=by
  injection hze with a
  injection a
 obtain⟨l0,u0⟩:=u8_bd hz
 obtain⟨x,rfl⟩: ∃x:Nat,zz=(x:Nat):=⟨zz.toNat,by omega⟩
 have hsz:=size_of hsh
 refine (codec_walk n _ x ws g _ _ W hS hP hU rfl hg (by omega) (gl_of hL hsz) (cr_of hL hsz)).mono fun e W' ⟨he,hb⟩=> ?_
 subst he
 exact⟨_,rfl,law_post rfl hW' ⟨⟨by kernel_rfl,by kernel_rfl⟩,⟨by kernel_rfl,by kernel_rfl⟩,⟨by kernel_rfl,by kernel_rfl⟩,trivial⟩ (by kernel_rfl) rfl hb⟩
theorem holds:Rows.TopCodecSaid:=
 OpenClaim.holds_of_wide 3 Tryz.f3 rfl rfl rfl rfl rfl rfl rfl ⟨rfl,rfl,rfl,rfl,rfl⟩ rfl rfl rfl rfl rfl (by kernel_rfl) Tryz.func3 (by kernel_rfl)
  (of_decide_eq_true (by kernel_rfl)) (by unfold Func.isWrapper;first|(rw[if_pos (by decide+kernel)];kernel_rfl)|(rw[if_neg (by decide+kernel)];exact⟨rfl,rfl⟩))
  (fun os started H enc _=>lifted os started H enc)
theorem proved:Rows.TopCodecCardSaid:=
 Claim7.holds_tied_plain_at .later [] [.data,.data,.data,.data,.data,.data,.data,.pinned] true (true, "7d66967506fcf7b7c7f64feebff7b636173b0c2205c542376312b511052f9aad") false holds (fun _ h=>by cases h) (by kernel_rfl) (fun _ h=>by cases h) topCodec_row_tie rfl ⟨rfl,rfl⟩ (by kernel_rfl) rfl
  (fun f fn hf hfn=>by
   obtain rfl:f=3:=Option.some.inj ((show Tryz.prog.funcNamed "punnet/punnettop.TopCodec" =some 3 by kernel_rfl).symm.trans hf) |>.symm
   obtain rfl:fn=Tryz.f3:=(Option.some.inj (Tryz.func3.symm.trans hfn)).symm
   exact⟨by kernel_rfl,fun j t ht=>by
    rw[Tryz.params3] at ht
    have hm:t∈[22,23,5]:=by simpa using Array.mem_of_getElem? ht
    have hall:([22,23,5].all fun u=> !Tryz.prog.wantsStandIn u)=true:=by kernel_rfl
    exact (show Tryz.prog.wantsStandIn t=false by simpa using List.all_eq_true.1 hall t hm)⟩)
  (by kernel_rfl)
#print axioms proved
end Go.Proofs.YtmdgeoalamancaaGreatDoor.topCodec
