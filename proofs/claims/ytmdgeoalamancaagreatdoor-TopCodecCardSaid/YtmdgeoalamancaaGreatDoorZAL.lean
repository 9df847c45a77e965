/- The machine: dynamic blocks begin. Runs of lengths are undone. -/
import Derived.Test.YtmdgeoalamancaaGreatDoorZAK
set_option maxRecDepth 100000
set_option linter.unusedVariables false
set_option linter.unusedSimpArgs false
namespace Go.Proofs.YtmdgeoalamancaaGreatDoor
open Go.RowKit
open Bt Can Mc
theorem and5_u32 (x:Nat) (h:x<4294967296):bits .and .u32 (x:Int) 31=((x%32:Nat):Int):=by
 unfold bits
 have e1:(BitVec.ofInt 32 (x:Int)&&& BitVec.ofInt 32 31).toNat=x%32:=by
  rw[BitVec.toNat_and,show (BitVec.ofInt 32 31).toNat=2^5-1 by decide,Nat.and_two_pow_sub_one_eq_mod,BitVec.ofInt_natCast,BitVec.toNat_ofNat,show x%2^32=x from Nat.mod_eq_of_lt h]
 show IntKind.u32.wrap (((BitVec.ofInt 32 (x:Int)&&& BitVec.ofInt 32 31).toNat:Nat):Int)=_
 rw[e1,u32_wrap _ (by omega)]
theorem odr_lt: ∀t,t<19→odr.getD t 0<19:=by decide
section
variable {mb rb wb:Nat} {RF S:List Nat} {vo:Value} {q:Qv} {f:Bool} {T:List Nat} {R:List Bool} {O:List Nat}
set_option maxHeartbeats 4000000 in
theorem counts_yes (nl nd many:Nat) (w:World) (h:Maq w mb rb wb RF S vo q ⟨f,T,.counts⟩ R O) (hR:14≤R.length) (h1:257≤nl∧nl≤286) (h2:1≤nd∧nd≤30) (h3:4≤many∧many≤19) (hx:val (R.take 14)=(nl-257)+32*(nd-1)+1024*(many-4)):Calls Tryz.prog 56 #[.pointer (some ⟨mb,0,none⟩)] w (Yes (mb::(RF++wb::(obk vo++S))) mb ⟨f,T,.short nl nd many 0 (List.replicate 19 0)⟩ (R.drop 14) O w):=by
 have k1:=h.own.1 1 _ rfl
 have HB:=Lib.hid (bits_yes RF rb R 14 w h.rd (by decide) hR)
 have HM:=Lib.hid h
 obtain⟨X,hX⟩: ∃z,(nl-257)+32*(nd-1)+1024*(many-4)=z:=⟨_,rfl⟩
 rw[hx,hX] at HB
 have z1:=and5_u32 X (by omega)
 rw[show X%32=nl-257 by omega] at z1
 obtain⟨A,hA⟩: ∃z,nl-257=z:=⟨_,rfl⟩
 obtain⟨B5,hB5⟩: ∃z,X/32=z:=⟨_,rfl⟩
 obtain⟨B10,hB10⟩: ∃z,X/1024=z:=⟨_,rfl⟩
 obtain⟨D,hD⟩: ∃z,nd-1=z:=⟨_,rfl⟩
 rw[hA] at z1
 have z2:(X:Int)/32=((B5:Nat):Int):=by omega
 have z3:(X:Int)/1024=((B10:Nat):Int):=by omega
 have z4:=and5_u32 B5 (by omega)
 rw[show B5%32=D by omega] at z4
 have y1:IntKind.i64.wrap (A:Int)=(A:Int):=IntWalk.i64_in _ (by omega)
 have y2:IntKind.i64.wrap (D:Int)=(D:Int):=IntWalk.i64_in _ (by omega)
 have y3:IntKind.i64.wrap (B10:Int)=(B10:Int):=IntWalk.i64_in _ (by omega)
 have y4:IntKind.i64.wrap ((A:Int)+257)=(nl:Int):=by rw[IntWalk.i64_in _ (by omega)];omega
 have y5:IntKind.i64.wrap ((D:Int)+1)=(nd:Int):=by rw[IntWalk.i64_in _ (by omega)];omega
 have y6:IntKind.i64.wrap ((B10:Int)+4)=(many:Int):=by rw[IntWalk.i64_in _ (by omega)];omega
 have d1:decide ((286:Int)<(nl:Int))=false:=decide_eq_false (by omega)
 have d1':decide (286<nl)=false:=decide_eq_false (by omega)
 have d2:decide ((30:Int)<(nd:Int))=false:=decide_eq_false (by omega)
 have d2':decide (30<nd)=false:=decide_eq_false (by omega)
 clear h hx hX hA hB5 hB10 hD
 go_enter Tryz.func56,Tryz.ntmps56
 go_wp2_with (fail)
 refine HB.out.mono ?_
 rintro e w1 ⟨rfl,hr1,hf1⟩
 have HM1:=Lib.hid (HM.out.read1 hr1 hf1)
 have HF1:=Lib.hid (hf1.weak (G:=mb::(RF++wb::(obk vo++S))) (fun x hx _=>by rw[List.mem_singleton.1 hx];exact HM.out.foot.2.1))
 clear hr1 hf1 k1 HB
 have hmk:=hmkI 19 w1 (by omega)
 rw[show ((19:Nat):Int)=(19:Int) from rfl] at hmk
 obtain⟨Z,hZ⟩: ∃z,iC (List.replicate 19 0)=z:=⟨_,rfl⟩
 rw[hZ] at hmk
 obtain⟨wa,hwa⟩: ∃z:World,z=w1.alloc (.cells Z.toArray 3):=⟨_,rfl⟩
 have hba:Below w1.heap.size w1 wa:=by rw[hwa];exact (Below.refl _ _).alloc (Nat.le_refl _) _
 have hza:w1.heap.size<wa.heap.size:=by rw[hwa];simp
 have HRA:Hid (Row 0 3 1 wa (.slice (some ⟨w1.heap.size,0,none⟩) 19 19) 19 (iC (List.replicate 19 0))):=Lib.hid (by
  rw[hwa,←hZ]
  exact (Row.lit w1 _ (Nat.le_refl _) (by omega) (by rw[iC_len];simp)).mono (Nat.zero_le _))
 have HMA:=Lib.hid (HM1.out.grow (F1:=[w1.heap.size]) hba (fun k hk=>by rw[List.mem_singleton.1 hk];exact⟨Nat.le_refl _,hza⟩))
 have HFA:=Lib.hid (HF1.out.trans (Fr.of_below (F:=[]) hba) (fun x hx _=>by cases hx))
 have hzw:=HF1.out.size
 obtain⟨g,hg⟩: ∃z,w1.heap.size=z:=⟨_,rfl⟩
 have k8:=HMA.out.own.1 8 _ rfl
 have k9:=HMA.out.own.1 9 _ rfl
 have k10:=HMA.out.own.1 10 _ rfl
 have k11:=HMA.out.own.1 11 _ rfl
 have k12:=HMA.out.own.1 12 _ rfl
 have k13:=HMA.out.own.1 13 _ rfl
 have k14:=HMA.out.own.1 14 _ rfl
 have f8:=HMA.out.own.2 8
 have f9:=HMA.out.own.2 9
 have f10:=HMA.out.own.2 10
 have f11:=HMA.out.own.2 11
 have f12:=HMA.out.own.2 12
 have f13:=HMA.out.own.2 13
 have f14:=HMA.out.own.2 14
 rw[←hwa] at hmk
 clear hwa
 go_upto_region 5 with (fail)
 rw[hg] at HRA HMA hza hzw
 have s8:=HMA.out.set (q':={q with hl:= .int .i64 (nl:Nat)}) (f':=f) (st':= .counts) 8 (.int .i64 (nl:Nat)) rfl (by decide) HMA.out.st
 have s9:=s8.set (q':={q with hl:= .int .i64 (nl:Nat),hd:= .int .i64 (nd:Nat)}) (f':=f) (st':= .counts) 9 (.int .i64 (nd:Nat)) rfl (by decide) s8.st
 have s10:=s9.set (q':={q with hl:= .int .i64 (nl:Nat),hd:= .int .i64 (nd:Nat),many:= .int .i64 (many:Nat)}) (f':=f) (st':= .counts) 10 (.int .i64 (many:Nat)) rfl (by decide) s9.st
 have s11:=s10.set (q':={q with hl:= .int .i64 (nl:Nat),hd:= .int .i64 (nd:Nat),many:= .int .i64 (many:Nat),told:= .int .i64 0}) (f':=f) (st':= .counts) 11 (.int .i64 0) rfl (by decide) s10.st
 have s12:=s11.set (q':={q with hl:= .int .i64 (nl:Nat),hd:= .int .i64 (nd:Nat),many:= .int .i64 (many:Nat),told:= .int .i64 0,sh:= .slice (some ⟨g,0,none⟩) 19 19}) (f':=f) (st':= .counts) 12 (.slice (some ⟨g,0,none⟩) 19 19) rfl (by decide) s11.st
 have s13:=s12.set (q':={q with hl:= .int .i64 (nl:Nat),hd:= .int .i64 (nd:Nat),many:= .int .i64 (many:Nat),told:= .int .i64 0,sh:= .slice (some ⟨g,0,none⟩) 19 19,tbl:= .pointer none}) (f':=f) (st':= .counts) 13 (.pointer none) rfl (by decide) s12.st
 have s14:=s13.set (q':={q with hl:= .int .i64 (nl:Nat),hd:= .int .i64 (nd:Nat),many:= .int .i64 (many:Nat),told:= .int .i64 0,sh:= .slice (some ⟨g,0,none⟩) 19 19,tbl:= .pointer none,lens:= .slice none 0 0}) (f':=f) (st':= .counts) 14 (.slice none 0 0) rfl (by decide) s13.st
 have HM2:=Lib.hid s14
 have hmg:mb≠g:=fun e=>by have:=HM.out.lt;omega
 have HF2:=Lib.hid (((((((HFA.out.setCell (p:=⟨mb,8,none⟩) (.inl (by simp)) (.int .i64 (nl:Nat))).setCell (p:=⟨mb,9,none⟩) (.inl (by simp)) (.int .i64 (nd:Nat))).setCell (p:=⟨mb,10,none⟩) (.inl (by simp)) (.int .i64 (many:Nat))).setCell (p:=⟨mb,11,none⟩) (.inl (by simp)) (.int .i64 0)).setCell (p:=⟨mb,12,none⟩) (.inl (by simp)) (.slice (some ⟨g,0,none⟩) 19 19)).setCell (p:=⟨mb,13,none⟩) (.inl (by simp)) (.pointer none)).setCell (p:=⟨mb,14,none⟩) (.inl (by simp)) (.slice none 0 0))
 have hfa:Fr [mb] wa (((((((wa.setCell ⟨mb,8,none⟩ (.int .i64 (nl:Nat))).setCell ⟨mb,9,none⟩ (.int .i64 (nd:Nat))).setCell ⟨mb,10,none⟩ (.int .i64 (many:Nat))).setCell ⟨mb,11,none⟩ (.int .i64 0)).setCell ⟨mb,12,none⟩ (.slice (some ⟨g,0,none⟩) 19 19)).setCell ⟨mb,13,none⟩ (.pointer none)).setCell ⟨mb,14,none⟩ (.slice none 0 0)):=
  (((((((Fr.refl _ _).setCell (p:=⟨mb,8,none⟩) (.inl (by simp)) _).setCell (p:=⟨mb,9,none⟩) (.inl (by simp)) _).setCell (p:=⟨mb,10,none⟩) (.inl (by simp)) _).setCell (p:=⟨mb,11,none⟩) (.inl (by simp)) _).setCell (p:=⟨mb,12,none⟩) (.inl (by simp)) _).setCell (p:=⟨mb,13,none⟩) (.inl (by simp)) _).setCell (p:=⟨mb,14,none⟩) (.inl (by simp)) _
 have HR2:=Lib.hid (HRA.out.fr hfa (fun k hk=>by rw[mem_obk] at hk;simp[Value.ownBlock] at hk;subst hk;simpa using fun e=>hmg e.symm))
 clear k8 k9 k10 k11 k12 k13 k14 f8 f9 f10 f11 f12 f13 f14 s8 s9 s10 s11 s12 s13 s14 hfa HRA HMA HFA hmk hZ
 generalize (((((((wa.setCell ⟨mb,8,none⟩ (.int .i64 (nl:Nat))).setCell ⟨mb,9,none⟩ (.int .i64 (nd:Nat))).setCell ⟨mb,10,none⟩ (.int .i64 (many:Nat))).setCell ⟨mb,11,none⟩ (.int .i64 0)).setCell ⟨mb,12,none⟩ (.slice (some ⟨g,0,none⟩) 19 19)).setCell ⟨mb,13,none⟩ (.pointer none)).setCell ⟨mb,14,none⟩ (.slice none 0 0))=w3 at*
 obtain⟨q3,hq3⟩: ∃z:Qv,z={q with hl:= .int .i64 (nl:Nat),hd:= .int .i64 (nd:Nat),many:= .int .i64 (many:Nat),told:= .int .i64 0,sh:= .slice (some ⟨g,0,none⟩) 19 19,tbl:= .pointer none,lens:= .slice none 0 0}:=⟨_,rfl⟩
 have HM3:Hid (Maq w3 mb rb wb RF ([g]++S) vo q3 ⟨f,T,.counts⟩ (R.drop 14) O):=Lib.hid (by rw[hq3];exact HM2.out)
 have HQ:Hid (q3.hl= .int .i64 (nl:Nat)∧q3.hd= .int .i64 (nd:Nat)∧q3.many= .int .i64 (many:Nat)∧q3.told= .int .i64 ((0:Nat):Int)∧q3.lens= .slice none 0 0∧q3.sh= .slice (some ⟨g,0,none⟩) 19 19):=Lib.hid (by rw[hq3];exact⟨rfl,rfl,rfl,rfl,rfl,rfl⟩)
 clear hq3 HM2
 have k8:=HM3.out.own.1 8 (.int .i64 (nl:Nat)) (by rw[←HQ.out.1];rfl)
 have k9:=HM3.out.own.1 9 (.int .i64 (nd:Nat)) (by rw[←HQ.out.2.1];rfl)
 have HG:=Lib.hid (goOn_any 4 _ w3 HM3.out.own rfl)
 go_wp2_with (fail)
 refine HG.out.mono ?_
 rintro e w4 ⟨rfl,rfl⟩
 go_wp2_with (fail)
 go_ret
 have hf9:Fr [mb] w3 (w3.setCell ⟨mb,5,none⟩ (.int .i64 4)):=(Fr.refl _ _).setCell (p:=⟨mb,5,none⟩) (.inl (by simp)) _
 obtain⟨e1,e2,e3,e4,e5,e6⟩:=HQ.out
 refine Yes.of (S':=[g]) (HM3.out.cells (q':={q3 with stage:= .int .i64 4}) (f':=f) (st':= .short nl nd many 0 (List.replicate 19 0)) hf9 (fun k hk=> .inl (List.mem_singleton.1 hk)) (HM3.out.own.set 5 _ (by simp[mcs])) ⟨rfl,e1,e2,e3,e4,e5,?_,rfl,?_,by decide,h1.2,h2.2,h3.2⟩ (fun k hk=>⟨by have:=HM3.out.sep.1 4 k (by simp[List.mem_singleton.1 hk]);simpa using this,.inl (by simp[List.mem_singleton.1 hk])⟩)) ⟨HF2.out.setCell (p:=⟨mb,5,none⟩) (.inl (by simp)) _,New.stage (fun k hk=> .inr (by rw[List.mem_singleton.1 hk];exact hzw))⟩
 ·show Row 0 3 1 _ q3.sh 19 _
  rw[e6]
  exact HR2.out.fr hf9 (fun k hk=>by rw[mem_obk] at hk;simp[Value.ownBlock] at hk;subst hk;simpa using fun e=>hmg e.symm)
 ·show∀k∈obk q3.sh,k∈[g]
  rw[e6]
  exact fun k hk=>hk
set_option maxHeartbeats 4000000 in
theorem short_no (nl nd many told:Nat) (sh:List Nat) (w:World) (h:Maq w mb rb wb RF S vo q ⟨f,T,.short nl nd many told sh⟩ R O) (hR:R.length<3):Calls Tryz.prog 57 #[.pointer (some ⟨mb,0,none⟩)] w (No (mb::(RF++wb::(obk vo++S))) mb ⟨f,T,.short nl nd many told sh⟩ R O w):=by
 have k1:=h.own.1 1 _ rfl
 have HB:=Lib.hid (bits_no RF rb R 3 w h.rd (by decide) hR)
 have HM:=Lib.hid h
 clear h
 go_enter Tryz.func57,Tryz.ntmps57
 go_wp2_with (fail)
 refine HB.out.mono ?_
 rintro e w1 ⟨rfl,hb1⟩
 have HB1:=Lib.hid hb1
 clear hb1
 go_wp2_with (fail)
 go_ret
 exact⟨by rfl,(HM.out.below HB1.out).ma,Fr.of_below HB1.out⟩
set_option maxHeartbeats 4000000 in
theorem short_yes (nl nd many told v:Nat) (sh:List Nat) (w:World) (h:Maq w mb rb wb RF S vo q ⟨f,T,.short nl nd many told sh⟩ R O) (hR:3≤R.length) (hv:v<8) (hx:val (R.take 3)=v) (hG:Gl w) (hrb:8≤rb) (hlt:told+1<many):Calls Tryz.prog 57 #[.pointer (some ⟨mb,0,none⟩)] w (Yes (mb::(RF++wb::(obk vo++S))) mb ⟨f,T,.short nl nd many (told+1) (sh.set (odr.getD told 0) v)⟩ (R.drop 3) O w):=by
 have k1:=h.own.1 1 _ rfl
 have HB:=Lib.hid (bits_yes RF rb R 3 w h.rd (by decide) hR)
 rw[hx] at HB
 have HM0:=Lib.hid h
 have HGL:=Lib.hid hG
 obtain⟨e0,e1,e2,e3,e4,e5,e6,e7,e8,e9',e10⟩:=h.st
 obtain⟨sc,hsc⟩: ∃sc g,q.sh= .slice (some ⟨g,0,none⟩) 19 sc:=by
  rcases row_form e6 with ⟨_,h0,_⟩|⟨g,cap,hv,_⟩
  ·omega
  ·exact⟨cap,g,hv⟩
 obtain⟨g,hg⟩:=hsc
 have HSH:=Lib.hid hg
 have HTO:=Lib.hid e4
 have HQ:=Lib.hid (show q.hl= .int .i64 (nl:Nat)∧q.hd= .int .i64 (nd:Nat)∧q.many= .int .i64 (many:Nat)∧q.lens= .slice none 0 0 from⟨e1,e2,e3,e5⟩)
 obtain⟨hnl,hnd,hmany⟩:=e10
 have HSS:=Lib.hid (show g∈S from e8 g (by rw[hg];exact mem_obk.2 rfl))
 have e9:told<19:=by omega
 have hP:=odr_lt told e9
 obtain⟨P,hP0⟩: ∃z,odr.getD told 0=z:=⟨_,rfl⟩
 have HP:=Lib.hid hP0
 rw[hP0] at hP ⊢
 have y1:IntKind.i64.wrap (v:Int)=(v:Int):=IntWalk.i64_in _ (by omega)
 obtain⟨TN,hTN⟩: ∃z,told+1=z:=⟨_,rfl⟩
 rw[hTN] at hlt ⊢
 skip
 have y2:IntKind.i64.wrap ((told:Int)+1)=((TN:Nat):Int):=by rw[IntWalk.i64_in _ (by omega)];omega
 have hPi:(P:Int)<19:=by omega
 clear h hx hG e0 e1 e2 e3 e4 e5 e8 hP0
 go_enter Tryz.func57,Tryz.ntmps57
 go_wp2_with (fail)
 refine HB.out.mono ?_
 rintro e w1 ⟨rfl,hr1,hf1⟩
 have HM:=Lib.hid (HM0.out.read1 hr1 hf1)
 have HF1:=Lib.hid (hf1.weak (G:=mb::(RF++wb::(obk vo++S))) (fun x hx _=>by rw[List.mem_singleton.1 hx];exact HM0.out.foot.2.1))
 have HGL1:=Lib.hid (HGL.out.fr hf1 (fun k hk=>by rw[List.mem_singleton.1 hk];exact hrb))
 have HOR:=Lib.hid (fun (W:World) (hW:Below w1.heap.size w1 W)=>order_any told e9 W (HGL1.out.below hW))
 rw[HP.out] at HOR
 clear hr1 hf1 k1 HB e6
 go_upto_region 4 with (fail)
 refine Mono.region_tail 14 (by kernel_rfl) (by kernel_rfl) (by kernel_rfl) (by kernel_rfl) ?_
 simp only[List.take_succ_cons,List.take_zero]
 refine Mono.hgl_val (v:= ?v0) rfl Mono.rr (fun ρ a W hR hd hf=> ?h0) ?_
 case h0=>
  have e0:=Mono.init_get hf (t:=0) (by kernel_rfl)
  clear hd hf
  (go_simp;try with_reducible rfl)
 refine Mono.hgl_val (v:= ?v1) rfl Mono.rr (fun ρ a W hR hd hf=> ?h1) ?_
 case h1=>
  have e17:=Mono.dep_val hd hf (t:=17) (k:=0) (by kernel_rfl) rfl
  clear hd hf
  (go_simp;try with_reducible rfl)
 refine Mono.hgl_val (v:= ?v2) rfl Mono.rr (fun ρ a W hR hd hf=> ?h2) ?_
 case h2=>
  have e18:=Mono.dep_val hd hf (t:=18) (k:=1) (by kernel_rfl) rfl
  clear hd hf
  (go_simp;try with_reducible rfl)
 refine Mono.hgl_val (v:= ?v3) rfl Mono.rr (fun ρ a W hR hd hf=> ?h3) ?_
 case h3=>
  have e19:=Mono.dep_val hd hf (t:=19) (k:=2) (by kernel_rfl) rfl
  clear hd hf
  (go_simp;try with_reducible rfl)
 refine Mono.hgl_val (v:= ?v4) rfl Mono.rr (fun ρ a W hR hd hf=> ?h4) ?_
 case h4=>
  have e20:=Mono.dep_val hd hf (t:=20) (k:=3) (by kernel_rfl) rfl
  have c1:=(HM.out.own.below hR HM.out.lt).1 12 (.slice (some ⟨g,0,none⟩) 19 sc) (by rw[←HSH.out];rfl)
  clear hd hf
  (go_simp;try with_reducible rfl)
 refine Mono.hgl_val (v:= ?v5) rfl Mono.rr (fun ρ a W hR hd hf=> ?h5) ?_
 case h5=>
  have e0:=Mono.init_get hf (t:=0) (by kernel_rfl)
  clear hd hf
  (go_simp;try with_reducible rfl)
 refine Mono.hgl_val (v:= ?v6) rfl Mono.rr (fun ρ a W hR hd hf=> ?h6) ?_
 case h6=>
  have e22:=Mono.dep_val hd hf (t:=22) (k:=5) (by kernel_rfl) rfl
  clear hd hf
  (go_simp;try with_reducible rfl)
 refine Mono.hgl_val (v:= ?v7) rfl Mono.rr (fun ρ a W hR hd hf=> ?h7) ?_
 case h7=>
  have e23:=Mono.dep_val hd hf (t:=23) (k:=6) (by kernel_rfl) rfl
  clear hd hf
  (go_simp;try with_reducible rfl)
 refine Mono.hgl_val (v:= ?v8) rfl Mono.rr (fun ρ a W hR hd hf=> ?h8) ?_
 case h8=>
  have e24:=Mono.dep_val hd hf (t:=24) (k:=7) (by kernel_rfl) rfl
  clear hd hf
  (go_simp;try with_reducible rfl)
 refine Mono.hgl_val (v:= ?v9) rfl Mono.rr (fun ρ a W hR hd hf=> ?h9) ?_
 case h9=>
  have e25:=Mono.dep_val hd hf (t:=25) (k:=8) (by kernel_rfl) rfl
  have c7:=(HM.out.own.below hR HM.out.lt).1 11 (.int .i64 (told:Nat)) (by rw[←HTO.out];rfl)
  clear hd hf
  (go_simp;try with_reducible rfl)
 refine Mono.hgl_call (fun x _=>x= .int .i64 (P:Nat)) rfl Mono.rr (fun _ _ _ h _=>h) (fun ρ a W hR hd hf=> ?h10) ?_
 case h10=>
  have e26:=Mono.dep_val hd hf (t:=26) (k:=9) (by kernel_rfl) rfl
  clear hd hf
  refine⟨_,_,by go_simp;first|rfl|exact⟨rfl,rfl⟩,?_⟩
  exact (HOR.out W hR).mono (fun e W' ⟨he,hw⟩=>⟨_,he,by rw[hw];exact Below.refl _ _,rfl⟩)
 refine Mono.hgl_val (v:= ?v11) rfl Mono.rr (fun ρ a W hR hd hf=> ?h11) ?_
 case h11=>
  have e3:=Mono.init_get hf (t:=3) (by kernel_rfl)
  clear hd hf
  (go_simp;try with_reducible rfl)
 refine Mono.hgl_val (v:= ?v12) rfl Mono.rr (fun ρ a W hR hd hf=> ?h12) ?_
 case h12=>
  have e28:=Mono.dep_val hd hf (t:=28) (k:=11) (by kernel_rfl) rfl
  clear hd hf
  (go_simp;try with_reducible rfl)
 refine Mono.hgl_val (v:= ?v13) rfl Mono.rr (fun ρ a W hR hd hf=> ?h13) ?_
 case h13=>
  have e21:=Mono.dep_val hd hf (t:=21) (k:=4) (by kernel_rfl) rfl
  have e27:=Mono.dep_val hd hf (t:=27) (k:=10) (by kernel_rfl) rfl
  clear hd hf
  (go_simp;try with_reducible rfl)
 refine Mono.hgl_done rfl (by decide) (fun ρ W hR ht=> ?_)
 simp only[List.take_succ_cons,List.take_zero,List.drop_succ_cons,List.drop_zero]
 obtain⟨d13,d12,d11,d10,d9,d8,d7,d6,d5,d4,d3,d2,d1,d0,_⟩:=ht
 simp only[List.length_cons,List.length_nil,Nat.reduceAdd] at d0 d1 d2 d3 d4 d5 d6 d7 d8 d9 d10 d11 d12 d13
 simp only[Mono.putAll,Nat.reduceAdd,d0,d1,d2,d3,d4,d5,d6,d7,d8,d9,d10,d11,d12,d13,Act.put,List.setIfInBounds_toArray,List.set_cons_zero,List.set_cons_succ]
 clear d0 d1 d2 d3 d4 d5 d6 d7 d8 d9 d10 d11 d12 d13
 have HM4:=Lib.hid (HM.out.below hR)
 have HF4:=Lib.hid (HF1.out.trans (Fr.of_below (F:=[]) hR) (fun x hx _=>by cases hx))
 have hrow:=HM4.out.st.2.2.2.2.2.2.1
 rw[HSH.out] at hrow
 have HRW:=Lib.hid hrow
 obtain⟨y0,hy0⟩: ∃y,sh[P]? =some y:=⟨_,List.getElem?_eq_getElem (by omega)⟩
 have kp:=sl_same HRW.out.sl (by omega) P _ (iC_get hy0)
 rw[Nat.zero_add] at kp
 have fp:=HRW.out.frozenAt P
 clear hR HM HF1 HOR HGL1 HGL hrow hy0
 go_upto_region 5 with (fail)
 have hf5:Fr [g] W (W.setCell ⟨g,P,none⟩ (.int .i64 (v:Nat))):=(Fr.refl _ _).setCell (p:=⟨g,P,none⟩) (.inl (by simp)) _
 have hmg:mb≠g:=fun e=>HM4.out.sep.2 0 4 mb (by decide) (by simp) (by show mb∈S;rw[e];exact HSS.out)
 have HM5:Hid (Maq (W.setCell ⟨g,P,none⟩ (.int .i64 (v:Nat))) mb rb wb RF S vo q ⟨f,T,.short nl nd many told (sh.set P v)⟩ (R.drop 3) O):=Lib.hid (HM4.out.cells (q':=q) (f':=f) (st':= .short nl nd many told (sh.set P v)) hf5 (fun k hk=> .inr (by rw[List.mem_singleton.1 hk];exact HSS.out)) (HM4.out.own.fr hf5 HM4.out.lt (by simpa using hmg)) (by
  obtain⟨a0,a1,a2,a3,a4,a5,a6,a7,a8,a9⟩:=HM4.out.st
  refine⟨a0,a1,a2,a3,a4,a5,?_,by rw[List.length_set];exact a7,a8,a9⟩
  rw[HSH.out,←iC_set]
  exact (World.ownsRow.stored HRW.out P (.int .i64 (v:Nat))).1) (fun k hk=>⟨by have:=HM4.out.sep.1 4 k hk;simpa using this,.inl hk⟩))
 have HF5:=Lib.hid (HF4.out.trans hf5 (fun x hx _=>by rw[List.mem_singleton.1 hx];simp[HSS.out]))
 clear kp fp HM4 HF4 HRW hf5
 generalize W.setCell ⟨g,P,none⟩ (.int .i64 (v:Nat))=w5 at*
 have k11:=HM5.out.own.1 11 (.int .i64 (told:Nat)) (by rw[←HTO.out];rfl)
 have f11:=HM5.out.own.2 11
 go_upto_region 6 with (fail)
 have hf6:Fr [mb] w5 (w5.setCell ⟨mb,11,none⟩ (.int .i64 ((TN:Nat):Int))):=(Fr.refl _ _).setCell (p:=⟨mb,11,none⟩) (.inl (by simp)) _
 have HF6:=Lib.hid (HF5.out.trans hf6 (fun x hx _=>by simp[List.mem_singleton.1 hx]))
 have HO6:=Lib.hid (HM5.out.own.set 11 (.int .i64 ((TN:Nat):Int)) (by simp[mcs]))
 have d1:decide (TN<many)=true:=decide_eq_true hlt
 have d1':decide (((TN:Nat):Int)<(many:Int))=true:=decide_eq_true (by omega)
 have HM6:Hid (Maq (w5.setCell ⟨mb,11,none⟩ (.int .i64 ((TN:Nat):Int))) mb rb wb RF S vo {q with told:= .int .i64 ((TN:Nat):Int)} ⟨f,T,.short nl nd many TN (sh.set P v)⟩ (R.drop 3) O):=Lib.hid (HM5.out.set (f':=f) 11 _ rfl (by decide) (by
  obtain⟨a0,a1,a2,a3,a4,a5,a6,a7,a8,a9⟩:=HM5.out.st
  exact⟨a0,a1,a2,a3,rfl,a5,a6,a7,a8,by omega,a9.2⟩))
 clear k11 f11 HM5 HF5 hf6
 generalize w5.setCell ⟨mb,11,none⟩ (.int .i64 ((TN:Nat):Int))=w6 at*
 have k11:=HO6.out.1 11 (.int .i64 ((TN:Nat):Int)) rfl
 have k10:=HO6.out.1 10 (.int .i64 (many:Nat)) (by rw[←HQ.out.2.2.1];rfl)
 go_quiet (fail)
 go_wp2_with (fail)
 go_ret
 exact Yes.of (HM6.out.below (below_drewN (Below.refl _ _) _)) ⟨HF6.out.drewN _,New.refl _ _⟩
set_option maxHeartbeats 4000000 in
theorem short_end (nl nd many told v:Nat) (sh:List Nat) (w:World) (h:Maq w mb rb wb RF S vo q ⟨f,T,.short nl nd many told sh⟩ R O) (hR:3≤R.length) (hv:v<8) (hx:val (R.take 3)=v) (hG:Gl w) (hrb:8≤rb) (hlt:told+1=many) (hm:May (sh.set (odr.getD told 0) v) 0):Calls Tryz.prog 57 #[.pointer (some ⟨mb,0,none⟩)] w (Yes (mb::(RF++wb::(obk vo++S))) mb ⟨f,T,.run nl nd (sh.set (odr.getD told 0) v) []⟩ (R.drop 3) O w):=by
 have k1:=h.own.1 1 _ rfl
 have HB:=Lib.hid (bits_yes RF rb R 3 w h.rd (by decide) hR)
 rw[hx] at HB
 have HM0:=Lib.hid h
 have HGL:=Lib.hid hG
 obtain⟨e0,e1,e2,e3,e4,e5,e6,e7,e8,e9',e10⟩:=h.st
 obtain⟨sc,hsc⟩: ∃sc g,q.sh= .slice (some ⟨g,0,none⟩) 19 sc:=by
  rcases row_form e6 with ⟨_,h0,_⟩|⟨g,cap,hv,_⟩
  ·omega
  ·exact⟨cap,g,hv⟩
 obtain⟨g,hg⟩:=hsc
 have HSH:=Lib.hid hg
 have HTO:=Lib.hid e4
 have HQ:=Lib.hid (show q.hl= .int .i64 (nl:Nat)∧q.hd= .int .i64 (nd:Nat)∧q.many= .int .i64 (many:Nat)∧q.lens= .slice none 0 0 from⟨e1,e2,e3,e5⟩)
 obtain⟨hnl,hnd,hmany⟩:=e10
 have HSS:=Lib.hid (show g∈S from e8 g (by rw[hg];exact mem_obk.2 rfl))
 have e9:told<19:=by omega
 have hP:=odr_lt told e9
 obtain⟨P,hP0⟩: ∃z,odr.getD told 0=z:=⟨_,rfl⟩
 have HP:=Lib.hid hP0
 rw[hP0] at hP hm ⊢
 have y1:IntKind.i64.wrap (v:Int)=(v:Int):=IntWalk.i64_in _ (by omega)
 obtain⟨TN,hTN⟩: ∃z,told+1=z:=⟨_,rfl⟩
 rw[hTN] at hlt
 subst hlt
 have y2:IntKind.i64.wrap ((told:Int)+1)=((TN:Nat):Int):=by rw[IntWalk.i64_in _ (by omega)];omega
 have hPi:(P:Int)<19:=by omega
 clear h hx hG e0 e1 e2 e3 e4 e5 e8 hP0
 go_enter Tryz.func57,Tryz.ntmps57
 go_wp2_with (fail)
 refine HB.out.mono ?_
 rintro e w1 ⟨rfl,hr1,hf1⟩
 have HM:=Lib.hid (HM0.out.read1 hr1 hf1)
 have HF1:=Lib.hid (hf1.weak (G:=mb::(RF++wb::(obk vo++S))) (fun x hx _=>by rw[List.mem_singleton.1 hx];exact HM0.out.foot.2.1))
 have HGL1:=Lib.hid (HGL.out.fr hf1 (fun k hk=>by rw[List.mem_singleton.1 hk];exact hrb))
 have HOR:=Lib.hid (fun (W:World) (hW:Below w1.heap.size w1 W)=>order_any told e9 W (HGL1.out.below hW))
 rw[HP.out] at HOR
 clear hr1 hf1 k1 HB e6
 go_upto_region 4 with (fail)
 refine Mono.region_tail 14 (by kernel_rfl) (by kernel_rfl) (by kernel_rfl) (by kernel_rfl) ?_
 simp only[List.take_succ_cons,List.take_zero]
 refine Mono.hgl_val (v:= ?v0) rfl Mono.rr (fun ρ a W hR hd hf=> ?h0) ?_
 case h0=>
  have e0:=Mono.init_get hf (t:=0) (by kernel_rfl)
  clear hd hf
  (go_simp;try with_reducible rfl)
 refine Mono.hgl_val (v:= ?v1) rfl Mono.rr (fun ρ a W hR hd hf=> ?h1) ?_
 case h1=>
  have e17:=Mono.dep_val hd hf (t:=17) (k:=0) (by kernel_rfl) rfl
  clear hd hf
  (go_simp;try with_reducible rfl)
 refine Mono.hgl_val (v:= ?v2) rfl Mono.rr (fun ρ a W hR hd hf=> ?h2) ?_
 case h2=>
  have e18:=Mono.dep_val hd hf (t:=18) (k:=1) (by kernel_rfl) rfl
  clear hd hf
  (go_simp;try with_reducible rfl)
 refine Mono.hgl_val (v:= ?v3) rfl Mono.rr (fun ρ a W hR hd hf=> ?h3) ?_
 case h3=>
  have e19:=Mono.dep_val hd hf (t:=19) (k:=2) (by kernel_rfl) rfl
  clear hd hf
  (go_simp;try with_reducible rfl)
 refine Mono.hgl_val (v:= ?v4) rfl Mono.rr (fun ρ a W hR hd hf=> ?h4) ?_
 case h4=>
  have e20:=Mono.dep_val hd hf (t:=20) (k:=3) (by kernel_rfl) rfl
  have c1:=(HM.out.own.below hR HM.out.lt).1 12 (.slice (some ⟨g,0,none⟩) 19 sc) (by rw[←HSH.out];rfl)
  clear hd hf
  (go_simp;try with_reducible rfl)
 refine Mono.hgl_val (v:= ?v5) rfl Mono.rr (fun ρ a W hR hd hf=> ?h5) ?_
 case h5=>
  have e0:=Mono.init_get hf (t:=0) (by kernel_rfl)
  clear hd hf
  (go_simp;try with_reducible rfl)
 refine Mono.hgl_val (v:= ?v6) rfl Mono.rr (fun ρ a W hR hd hf=> ?h6) ?_
 case h6=>
  have e22:=Mono.dep_val hd hf (t:=22) (k:=5) (by kernel_rfl) rfl
  clear hd hf
  (go_simp;try with_reducible rfl)
 refine Mono.hgl_val (v:= ?v7) rfl Mono.rr (fun ρ a W hR hd hf=> ?h7) ?_
 case h7=>
  have e23:=Mono.dep_val hd hf (t:=23) (k:=6) (by kernel_rfl) rfl
  clear hd hf
  (go_simp;try with_reducible rfl)
 refine Mono.hgl_val (v:= ?v8) rfl Mono.rr (fun ρ a W hR hd hf=> ?h8) ?_
 case h8=>
  have e24:=Mono.dep_val hd hf (t:=24) (k:=7) (by kernel_rfl) rfl
  clear hd hf
  (go_simp;try with_reducible rfl)
 refine Mono.hgl_val (v:= ?v9) rfl Mono.rr (fun ρ a W hR hd hf=> ?h9) ?_
 case h9=>
  have e25:=Mono.dep_val hd hf (t:=25) (k:=8) (by kernel_rfl) rfl
  have c7:=(HM.out.own.below hR HM.out.lt).1 11 (.int .i64 (told:Nat)) (by rw[←HTO.out];rfl)
  clear hd hf
  (go_simp;try with_reducible rfl)
 refine Mono.hgl_call (fun x _=>x= .int .i64 (P:Nat)) rfl Mono.rr (fun _ _ _ h _=>h) (fun ρ a W hR hd hf=> ?h10) ?_
 case h10=>
  have e26:=Mono.dep_val hd hf (t:=26) (k:=9) (by kernel_rfl) rfl
  clear hd hf
  refine⟨_,_,by go_simp;first|rfl|exact⟨rfl,rfl⟩,?_⟩
  exact (HOR.out W hR).mono (fun e W' ⟨he,hw⟩=>⟨_,he,by rw[hw];exact Below.refl _ _,rfl⟩)
 refine Mono.hgl_val (v:= ?v11) rfl Mono.rr (fun ρ a W hR hd hf=> ?h11) ?_
 case h11=>
  have e3:=Mono.init_get hf (t:=3) (by kernel_rfl)
  clear hd hf
  (go_simp;try with_reducible rfl)
 refine Mono.hgl_val (v:= ?v12) rfl Mono.rr (fun ρ a W hR hd hf=> ?h12) ?_
 case h12=>
  have e28:=Mono.dep_val hd hf (t:=28) (k:=11) (by kernel_rfl) rfl
  clear hd hf
  (go_simp;try with_reducible rfl)
 refine Mono.hgl_val (v:= ?v13) rfl Mono.rr (fun ρ a W hR hd hf=> ?h13) ?_
 case h13=>
  have e21:=Mono.dep_val hd hf (t:=21) (k:=4) (by kernel_rfl) rfl
  have e27:=Mono.dep_val hd hf (t:=27) (k:=10) (by kernel_rfl) rfl
  clear hd hf
  (go_simp;try with_reducible rfl)
 refine Mono.hgl_done rfl (by decide) (fun ρ W hR ht=> ?_)
 simp only[List.take_succ_cons,List.take_zero,List.drop_succ_cons,List.drop_zero]
 obtain⟨d13,d12,d11,d10,d9,d8,d7,d6,d5,d4,d3,d2,d1,d0,_⟩:=ht
 simp only[List.length_cons,List.length_nil,Nat.reduceAdd] at d0 d1 d2 d3 d4 d5 d6 d7 d8 d9 d10 d11 d12 d13
 simp only[Mono.putAll,Nat.reduceAdd,d0,d1,d2,d3,d4,d5,d6,d7,d8,d9,d10,d11,d12,d13,Act.put,List.setIfInBounds_toArray,List.set_cons_zero,List.set_cons_succ]
 clear d0 d1 d2 d3 d4 d5 d6 d7 d8 d9 d10 d11 d12 d13
 have HM4:=Lib.hid (HM.out.below hR)
 have HF4:=Lib.hid (HF1.out.trans (Fr.of_below (F:=[]) hR) (fun x hx _=>by cases hx))
 have hrow:=HM4.out.st.2.2.2.2.2.2.1
 rw[HSH.out] at hrow
 have HRW:=Lib.hid hrow
 obtain⟨y0,hy0⟩: ∃y,sh[P]? =some y:=⟨_,List.getElem?_eq_getElem (by omega)⟩
 have kp:=sl_same HRW.out.sl (by omega) P _ (iC_get hy0)
 rw[Nat.zero_add] at kp
 have fp:=HRW.out.frozenAt P
 clear hR HM HF1 HOR HGL1 HGL hrow hy0
 go_upto_region 5 with (fail)
 have hf5:Fr [g] W (W.setCell ⟨g,P,none⟩ (.int .i64 (v:Nat))):=(Fr.refl _ _).setCell (p:=⟨g,P,none⟩) (.inl (by simp)) _
 have hmg:mb≠g:=fun e=>HM4.out.sep.2 0 4 mb (by decide) (by simp) (by show mb∈S;rw[e];exact HSS.out)
 have HM5:Hid (Maq (W.setCell ⟨g,P,none⟩ (.int .i64 (v:Nat))) mb rb wb RF S vo q ⟨f,T,.short nl nd TN told (sh.set P v)⟩ (R.drop 3) O):=Lib.hid (HM4.out.cells (q':=q) (f':=f) (st':= .short nl nd TN told (sh.set P v)) hf5 (fun k hk=> .inr (by rw[List.mem_singleton.1 hk];exact HSS.out)) (HM4.out.own.fr hf5 HM4.out.lt (by simpa using hmg)) (by
  obtain⟨a0,a1,a2,a3,a4,a5,a6,a7,a8,a9⟩:=HM4.out.st
  refine⟨a0,a1,a2,a3,a4,a5,?_,by rw[List.length_set];exact a7,a8,a9⟩
  rw[HSH.out,←iC_set]
  exact (World.ownsRow.stored HRW.out P (.int .i64 (v:Nat))).1) (fun k hk=>⟨by have:=HM4.out.sep.1 4 k hk;simpa using this,.inl hk⟩))
 have HF5:=Lib.hid (HF4.out.trans hf5 (fun x hx _=>by rw[List.mem_singleton.1 hx];simp[HSS.out]))
 clear kp fp HM4 HF4 HRW hf5
 generalize W.setCell ⟨g,P,none⟩ (.int .i64 (v:Nat))=w5 at*
 have k11:=HM5.out.own.1 11 (.int .i64 (told:Nat)) (by rw[←HTO.out];rfl)
 have f11:=HM5.out.own.2 11
 go_upto_region 6 with (fail)
 have hf6:Fr [mb] w5 (w5.setCell ⟨mb,11,none⟩ (.int .i64 ((TN:Nat):Int))):=(Fr.refl _ _).setCell (p:=⟨mb,11,none⟩) (.inl (by simp)) _
 have HF6:=Lib.hid (HF5.out.trans hf6 (fun x hx _=>by simp[List.mem_singleton.1 hx]))
 have HO6:=Lib.hid (HM5.out.own.set 11 (.int .i64 ((TN:Nat):Int)) (by simp[mcs]))
 have d1:decide (TN<TN)=false:=decide_eq_false (by omega)
 have d1':decide (((TN:Nat):Int)<(TN:Int))=false:=decide_eq_false (by omega)
 have hrw5:=HM5.out.st.2.2.2.2.2.2.1
 rw[HSH.out] at hrw5
 have HRW6:=Lib.hid (hrw5.fr hf6 (fun k hk=>by rw[mem_obk] at hk;simp[Value.ownBlock] at hk;subst hk;simpa using fun e=>hmg e.symm))
 have HM6:Hid (Maq (w5.setCell ⟨mb,11,none⟩ (.int .i64 ((TN:Nat):Int))) mb rb wb RF S vo {q with told:= .int .i64 ((TN:Nat):Int)} ⟨f,T,.short nl nd TN TN (sh.set P v)⟩ (R.drop 3) O):=Lib.hid (HM5.out.set (f':=f) 11 _ rfl (by decide) (by
  obtain⟨a0,a1,a2,a3,a4,a5,a6,a7,a8,a9⟩:=HM5.out.st
  exact⟨a0,a1,a2,a3,rfl,a5,a6,a7,a8,by omega,a9.2⟩))
 clear k11 f11 HM5 HF5 hf6 hrw5 HO6
 generalize w5.setCell ⟨mb,11,none⟩ (.int .i64 ((TN:Nat):Int))=w6 at*
 have k11:=HM6.out.own.1 11 (.int .i64 ((TN:Nat):Int)) rfl
 have k10:=HM6.out.own.1 10 (.int .i64 (TN:Nat)) (by rw[←HQ.out.2.2.1];rfl)
 go_quiet (fail)
 have HM7:=Lib.hid (HM6.out.below (below_drewN (Below.refl _ _) nq))
 have HF7:=Lib.hid (HF6.out.drewN nq)
 have HRW7:=Lib.hid (HRW6.out.below (below_drewN (Below.refl _ _) nq))
 clear k10 k11 HM6 HF6 HRW6
 generalize w6.drewN nq=w7 at*
 have k12:=HM7.out.own.1 12 (.slice (some ⟨g,0,none⟩) 19 sc) (by rw[←HSH.out];rfl)
 have HN:=Lib.hid (new_any (sh.set P v) 19 0 _ w7.heap.size w7 HRW7.out.sl (Nat.le_refl _) (by rw[List.length_set];exact e7.symm) (by decide) hm (by decide))
 go_wp2_with (fail)
 refine HN.out.mono ?_
 rintro e w8 ⟨t1,F1,rfl,ht1,hn1,hb8⟩
 have HM8:=Lib.hid (HM7.out.grow (F1:=F1) hb8 (fun k hk=>⟨hn1 k hk,ht1.lt k hk⟩))
 have HF8:=Lib.hid (HF7.out.trans (Fr.of_below (F:=[]) hb8) (fun x hx _=>by cases hx))
 have HT8:=Lib.hid ht1
 have HN1:=Lib.hid (fun k hk=>Nat.le_trans HF7.out.size (hn1 k hk))
 clear ht1 hn1 hb8 HN HM7 HF7 HRW7 k12
 have k13:=HM8.out.own.1 13 _ rfl
 have f13:=HM8.out.own.2 13
 go_upto_region 12 with (fail)
 have hf9:Fr [mb] w8 (w8.setCell ⟨mb,13,none⟩ (.pointer (some ⟨t1,0,none⟩))):=(Fr.refl _ _).setCell (p:=⟨mb,13,none⟩) (.inl (by simp)) _
 have hnm: ∀k∈F1,k ∉ [mb]:=fun k hk hg=>by
  rw[List.mem_singleton.1 hg] at hk
  exact HM8.out.sep.2 4 0 mb (by decide) (by simp[hk]) (by simp)
 have HT9:=Lib.hid (HT8.out.fr hf9 hnm)
 have HF9:=Lib.hid (HF8.out.trans hf9 (fun x hx _=>by simp[List.mem_singleton.1 hx]))
 have HM9:=Lib.hid (HM8.out.set (q':={q with told:= .int .i64 ((TN:Nat):Int),tbl:= .pointer (some ⟨t1,0,none⟩)}) (f':=f) (st':= .short nl nd TN TN (sh.set P v)) 13 (.pointer (some ⟨t1,0,none⟩)) rfl (by decide) HM8.out.st)
 have HNM:=Lib.hid hnm
 clear k13 f13 HM8 HF8 HT8 hf9 hnm
 generalize w8.setCell ⟨mb,13,none⟩ (.pointer (some ⟨t1,0,none⟩))=w9 at*
 have HG:=Lib.hid (goOn_any 5 _ w9 HM9.out.own rfl)
 go_wp2_with (fail)
 refine HG.out.mono ?_
 rintro e w10 ⟨rfl,rfl⟩
 go_wp2_with (fail)
 go_ret
 have hf10:Fr [mb] w9 (w9.setCell ⟨mb,5,none⟩ (.int .i64 5)):=(Fr.refl _ _).setCell (p:=⟨mb,5,none⟩) (.inl (by simp)) _
 obtain⟨b1,b2,b3,b4⟩:=HQ.out
 refine Yes.of (S':=F1++S) (HM9.out.cells (q':={q with stage:= .int .i64 5,told:= .int .i64 ((TN:Nat):Int),tbl:= .pointer (some ⟨t1,0,none⟩)}) (f':=f) (st':= .run nl nd (sh.set P v) []) hf10 (fun k hk=> .inl (List.mem_singleton.1 hk)) (HM9.out.own.set 5 _ (by simp[mcs])) ⟨rfl,b1,b2,⟨t1,F1,rfl,HT9.out.fr hf10 HNM.out,fun k hk=> ?_⟩,?_,by simp,hnl,hnd⟩ (fun k hk=>⟨by have:=HM9.out.sep.1 4 k hk;simpa using this,.inl hk⟩)) ⟨HF9.out.trans hf10 (fun x hx _=>by simp[List.mem_singleton.1 hx]),New.stage (fun k hk=> ?_)⟩
 ·rcases List.mem_append.1 hk with hk|hk
  ·simp[hk]
  ·have hk:k∈obk q.lens:=hk
   rw[b4] at hk
   simp[obk,Value.ownBlock] at hk
 ·show Row 0 3 1 _ q.lens 0 []
  rw[b4]
  exact Row.nil
 ·rcases List.mem_append.1 hk with hk|hk
  ·exact .inr (HN1.out k hk)
  ·exact .inl hk
end
end Go.Proofs.YtmdgeoalamancaaGreatDoor
namespace Go.Proofs.YtmdgeoalamancaaGreatDoor
open Go.RowKit
open Bt Can Mc
set_option maxHeartbeats 1000000 in
theorem cloneI_any (l:List Nat) (n:Nat) (v:Value) (B:Nat) (w:World) (h:Sl w B 1 v n (iC l)) (hB:B≤w.heap.size) (hn:n≤100000000):
  Calls Tryz.prog 137 #[v] w fun e w'=> ∃v',e= .returned v'∧Row w.heap.size 3 1 w' v' n (iC l)∧Below w.heap.size w w':=by
 obtain⟨a,c,rfl,hcap⟩:=h.form
 cases a with
 |none=>
  have h0:n=0∧c=0:=by
   obtain⟨_,a',c',hv,_,hor⟩:=h
   injection hv with h1 h2 h3
   subst h1 h3
   rcases hor with ⟨h4,h5⟩|⟨b,off,h4,_⟩
   ·exact⟨h4,h5 rfl⟩
   ·cases h4
  obtain⟨rfl,rfl⟩:=h0
  have hl:iC l=[]:=List.eq_nil_of_length_eq_zero (by have:=h.1;simpa using this)
  rw[hl]
  have heq:=fun W=>Lib.run_eql_slice_nil (P:=Tryz.prog) W 55 3 none 0 0 0 0 rfl
  clear h hl
  go_enter Tryz.func137,Tryz.ntmps137
  go_wp2_with (fail)
  go_ret
  exact⟨_,rfl,Row.nil,Below.refl _ _⟩
 |some ad=>
  have hA1:=(Below.refl w.heap.size w).alloc (Nat.le_refl _) (.cells #[] 3)
  have HRE:=Lib.hid (Row.empty (e:=3) (size:=1) w (Nat.le_refl w.heap.size))
  have HTL:=Lib.hid ((h.mono hB).below hA1)
  have HA:=Lib.hid hA1
  have heq:=fun W=>Lib.run_eql_slice_nil (P:=Tryz.prog) W 55 3 (some ad) n c 0 0 rfl
  clear h hA1
  go_enter Tryz.func137,Tryz.ntmps137
  go_wp2_with (at_builtin;refine append_row Tryz.underlying55 info_in rfl (by decide) rfl _ _ rfl rfl HRE.out rfl HTL.out (iC_one _) ?_ ?_ ?_ ?_;omega;omega;(simp))
  intro v6 w6 hr6 hb6
  have HR6:Hid (Row w.heap.size 3 1 w6 v6 n (iC l)):=Lib.hid hr6
  have HB6:=Lib.hid (HA.out.trans hb6)
  clear hr6 hb6
  go_wp2_with (fail)
  go_ret
  exact⟨_,rfl,HR6.out,HB6.out⟩
theorem rbits_any (s:Nat) (hs:s≤18) (w:World):Calls Tryz.prog 100 #[.int .i64 (s:Nat)] w fun e w'=>e= .returned (.int .i64 (Rn.ext s:Nat))∧w'=w:=by
 by_cases h:s≤15
 ·have d1:decide ((0:Int)≤(s:Int))=true:=decide_eq_true (by omega)
  have d2:decide ((s:Int)≤15)=true:=decide_eq_true (by omega)
  have d2':decide (s≤15)=true:=decide_eq_true h
  have HE:Hid (Rn.ext s=0):=Lib.hid (by unfold Rn.ext;rw[if_neg (by omega),if_neg (by omega),if_neg (by omega)])
  go_enter Tryz.func100,Tryz.ntmps100
  go_wp2_with (fail)
  go_ret
  exact⟨by rw[HE.out];rfl,rfl⟩
 ·obtain rfl|rfl|rfl:s=16∨s=17∨s=18:=by omega
  all_goals
   go_enter Tryz.func100,Tryz.ntmps100
   go_wp2_with (fail)
   go_ret
   exact⟨by rfl,rfl⟩
theorem least_any (s:Nat) (hs:s≤18) (w:World):Calls Tryz.prog 173 #[.int .i64 (s:Nat)] w fun e w'=>e= .returned (.int .i64 (Rn.lst s:Nat))∧w'=w:=by
 by_cases h:s≤15
 ·have e1:((s:Int)==16)=false:=by rw[beq_eq_false_iff_ne];omega
  have e2:((s:Int)==17)=false:=by rw[beq_eq_false_iff_ne];omega
  have e3:((s:Int)==18)=false:=by rw[beq_eq_false_iff_ne];omega
  have e1':(s==16)=false:=by rw[beq_eq_false_iff_ne];omega
  have e2':(s==17)=false:=by rw[beq_eq_false_iff_ne];omega
  have e3':(s==18)=false:=by rw[beq_eq_false_iff_ne];omega
  have HE:Hid (Rn.lst s=1):=Lib.hid (by unfold Rn.lst;rw[if_neg (by omega),if_neg (by omega)])
  go_enter Tryz.func173,Tryz.ntmps173
  go_wp2_with (fail)
  go_ret
  exact⟨by rw[HE.out];rfl,rfl⟩
 ·obtain rfl|rfl|rfl:s=16∨s=17∨s=18:=by omega
  all_goals
   go_enter Tryz.func173,Tryz.ntmps173
   go_wp2_with (fail)
   go_ret
   exact⟨by rfl,rfl⟩
set_option maxHeartbeats 4000000 in
theorem extend_val (ls:List Nat) (s e:Nat) (most base:Nat) (v:Value) (w:World) (hr:Row base 3 1 w v ls.length (iC ls)) (hbase:base≤w.heap.size) (hs:s≤15) (he:e<1) (hl:ls.length+(1+e)≤most) (hmm:most≤1000):Calls Tryz.prog 136 #[v,.agg #[.int .i64 (s:Nat),.int .i64 (e:Nat)],.int .i64 (most:Nat)] w fun x w'=> ∃v',x= .returned (.tuple #[v',.bool true])∧Row base 3 1 w' v' (ls.length+(1+e)) (iC (ls++List.replicate (1+e) s))∧Below base w w':=by
 obtain⟨n,hn⟩: ∃z,ls.length=z:=⟨_,rfl⟩
 obtain⟨t,ht⟩: ∃z,1+e=z:=⟨_,rfl⟩
 have hBI:=fun W=>rbits_any s (by omega) W
 have hLS:=fun W=>least_any s (by omega) W
 rw[show Rn.ext s=0 by unfold Rn.ext;rw[if_neg (by omega),if_neg (by omega),if_neg (by omega)],show ((0:Nat):Int)=0 from rfl] at hBI
 rw[show Rn.lst s=1 by unfold Rn.lst;rw[if_neg (by omega),if_neg (by omega)],show ((1:Nat):Int)=1 from rfl] at hLS
 have HBI:=Lib.hid hBI
 have HLS:=Lib.hid hLS
 have HN:=Lib.hid hn
 rw[hn,ht] at hl
 rw[hn,ht]
 rw[hn] at hr
 have d1:decide ((s:Int)≤15)=true:=decide_eq_true (by omega)
 have d1':decide (s≤15)=true:=decide_eq_true (by omega)
 have d4:decide ((e:Int)<0)=false:=decide_eq_false (by omega)
 have d5:decide ((1:Int)≤(e:Int))=false:=decide_eq_false (by omega)
 have d5':decide (1≤e)=false:=decide_eq_false (by omega)
 have d5z:decide (0<e)=false:=decide_eq_false (by omega)
 have d5y:decide ((0:Int)<(e:Int))=false:=decide_eq_false (by omega)
 have q1:IntKind.i64.wrap ((1:Int)+(e:Int))=((t:Nat):Int):=by rw[IntWalk.i64_in _ (by omega)];omega
 have q2:IntKind.i64.wrap ((n:Int)+(t:Int))=((n+t:Nat):Int):=by rw[IntWalk.i64_in _ (by omega)];omega
 have d3:decide ((most:Int)<((n+t:Nat):Int))=false:=decide_eq_false (by omega)
 have d3':decide (most<n+t)=false:=decide_eq_false (by omega)
 have d3'':decide ((most:Int)<(n:Int)+(t:Int))=false:=decide_eq_false (by omega)
 obtain⟨wa,hwa⟩: ∃z:World,z=w.alloc (.cells #[.int .i64 (s:Nat),.int .i64 (e:Nat)] 182):=⟨_,rfl⟩
 have hba:Below w.heap.size w wa:=by rw[hwa];exact (Below.refl _ _).alloc (Nat.le_refl _) _
 have HO:Hid (Own wa w.heap.size [.int .i64 (s:Nat),.int .i64 (e:Nat)]):=Lib.hid (by rw[hwa];exact Own.new_at w _ _ _ rfl)
 have HR:=Lib.hid (hr.below hba)
 have HB:=Lib.hid (hba.mono hbase)
 have hza:w.heap.size<wa.heap.size:=by rw[hwa];simp
 obtain⟨va,vc,rfl,hvc⟩:=hr.form
 clear hr hba hBI hLS hn ht
 go_enter Tryz.func136,Tryz.ntmps136
 go_upto_region 1 with (fail)
 rw[←hwa]
 clear hwa
 obtain⟨g,hg⟩: ∃z,w.heap.size=z:=⟨_,rfl⟩
 rw[hg] at HO hza hbase ⊢
 clear hg
 have k0:=HO.out.1 0 _ rfl
 have k1:=HO.out.1 1 _ rfl
 go_wp2_with (fail)
 refine (HBI.out wa).mono ?_
 rintro x w1 ⟨rfl,rfl⟩
 go_upto_region 2 with (fail)
 go_quiet (fail)
 have HO1:=Lib.hid (HO.out.below (below_drewN (Below.refl (g+1) _) nq) (Nat.lt_succ_self g))
 have HR1:=Lib.hid (HR.out.below (below_drewN (Below.refl _ _) nq))
 have HB1:=Lib.hid (below_drewN HB.out nq)
 have hz1:g<(w1.drewN nq).heap.size:=hza
 clear k0 k1 HO HR HB hza
 generalize w1.drewN nq=w2 at*
 have k0:=HO1.out.1 0 _ rfl
 have k1:=HO1.out.1 1 _ rfl
 go_upto_region 11 with (fail)
 go_quiet ((go_at_call 173;exact Calls.quiet_of_same (HLS.out _)))
 have HR2:=Lib.hid (HR1.out.below (below_drewN (Below.refl _ _) nq))
 have HB2:=Lib.hid (below_drewN HB1.out nq)
 have hz2:g<(w2.drewN nq).heap.size:=hz1
 clear k0 k1 HO1 HR1 HB1 hz1
 generalize w2.drewN nq=w3 at*
 go_wp2_with (fail)
 go_loopw [0,63] (fun u i wr=> ∃j:Nat,i= .int .i64 j∧j≤t∧Hid (Row base 3 1 wr u (n+j) (iC (ls++List.replicate j s)))∧Hid (Below base w wr)∧g<wr.heap.size) (fun _ i _=>t-(intOf i).toNat)
 case atStart=>exact⟨0,rfl,Nat.zero_le _,Lib.hid (by rw[List.replicate_zero,List.append_nil];exact HR2.out),HB2,hz2⟩
 case round=>
  clear HR2 HB2 hz2
  obtain⟨j,rfl,hj,HR,HB,hz⟩:=hrel
  obtain⟨wo,rfl⟩: ∃z:World,z=wr:=⟨_,rfl⟩
  by_cases hlt:j<t
  ·have e1:decide (j<t)=true:=decide_eq_true hlt
   have e2:decide ((j:Int)<(t:Int))=true:=decide_eq_true (by omega)
   have p1:IntKind.i64.wrap ((j:Int)+1)=((j+1:Nat):Int):=by rw[IntWalk.i64_in _ (by omega)];omega
   have hA:=(Below.refl wo.heap.size wo).alloc (Nat.le_refl _) (.cells #[.int .i64 (s:Nat)] 3)
   have HRA:=Lib.hid (HR.out.below hA)
   have hzA:base≤(wo.alloc (.cells #[.int .i64 (s:Nat)] 3)).heap.size:=by simp;omega
   have HBA:=Lib.hid (HB.out.alloc (by omega) (.cells #[.int .i64 (s:Nat)] 3))
   have HS:Hid (Sl (wo.alloc (.cells #[.int .i64 (s:Nat)] 3)) (wo.heap.size+1) 1 (.slice (some ⟨wo.heap.size,0,none⟩) 1 1) 1 [.int .i64 (s:Nat)]):=Lib.hid (Sl.new wo 1 1 [.int .i64 (s:Nat)] 3 rfl)
   have HZ:=Lib.hid hzA
   obtain⟨ua,uc,rfl,_⟩:=HR.out.form
   have hJ:n+j≤2000:=by omega
   clear hA hzA HR HB
   go_wp2_with (at_builtin;refine append_row Tryz.underlying55 info_in rfl (by decide) rfl _ _ rfl rfl HRA.out rfl HS.out (by intro u hu;simp at hu;subst hu;rfl) ?_ ?_ ?_ ?_;omega;omega;exact HZ.out)
   intro v6 w6 hr6 hb6
   have HR6:Hid (Row base 3 1 w6 v6 (n+(j+1)) (iC (ls++List.replicate (j+1) s))):=Lib.hid (by
    have e:iC (ls++List.replicate (j+1) s)=iC (ls++List.replicate j s)++[.int .i64 (s:Nat)]:=by
     rw[List.replicate_succ',←List.append_assoc,iC_app]
     rfl
    rw[e]
    exact hr6)
   have HB6:=Lib.hid (HBA.out.trans hb6)
   have hz6:g<w6.heap.size:=by have:=hb6.size;simp at this;omega
   clear hr6 hb6 HRA HBA HS HZ
   go_wp2_with (fail)
   go_roundw
   case rel=>exact⟨j+1,rfl,hlt,HR6,HB6,hz6⟩
   case measure=>simp[intOf]<;>omega
  ·have e1:decide (j<t)=false:=decide_eq_false hlt
   have e2:decide ((j:Int)<(t:Int))=false:=decide_eq_false (by omega)
   obtain rfl:j=t:=by omega
   go_wp2_with (fail)
   go_ret2
   exact⟨_,rfl,HR.out,HB.out⟩
set_option maxHeartbeats 4000000 in
theorem extend_again (ls:List Nat) (e:Nat) (most base:Nat) (v:Value) (w:World) (hr:Row base 3 1 w v ls.length (iC ls)) (hbase:base≤w.heap.size) (he:e<4) (hne:ls≠[]) (hl:ls.length+(3+e)≤most) (hmm:most≤1000):Calls Tryz.prog 136 #[v,.agg #[.int .i64 16,.int .i64 (e:Nat)],.int .i64 (most:Nat)] w fun x w'=> ∃v',x= .returned (.tuple #[v',.bool true])∧Row base 3 1 w' v' (ls.length+(3+e)) (iC (ls++List.replicate (3+e) (ls.getLastD 0)))∧Below base w w':=by
 obtain⟨n,hn⟩: ∃z,ls.length=z:=⟨_,rfl⟩
 obtain⟨t,ht⟩: ∃z,3+e=z:=⟨_,rfl⟩
 have hBI:=fun W=>rbits_any 16 (by omega) W
 have hLS:=fun W=>least_any 16 (by omega) W
 rw[show Rn.ext 16=2 by rfl,show ((2:Nat):Int)=2 from rfl] at hBI
 rw[show Rn.lst 16=3 by rfl,show ((3:Nat):Int)=3 from rfl] at hLS
 have HBI:=Lib.hid hBI
 have HLS:=Lib.hid hLS
 have HN:=Lib.hid hn
 rw[hn,ht] at hl
 rw[hn,ht]
 rw[hn] at hr
 have d4:decide ((e:Int)<0)=false:=decide_eq_false (by omega)
 have d5:decide ((4:Int)≤(e:Int))=false:=decide_eq_false (by omega)
 have d5':decide (4≤e)=false:=decide_eq_false (by omega)
 have hn1:1≤n:=by rw[←hn];exact List.length_pos_iff.2 hne
 have hlast:ls[n-1]? =some (ls.getLastD 0):=by
  rw[List.getLastD_eq_getLast?,List.getLast?_eq_getElem?,hn,List.getElem?_eq_getElem (by omega)]
  rfl
 obtain⟨LD,hLD⟩: ∃z,ls.getLastD 0=z:=⟨_,rfl⟩
 rw[hLD] at hlast ⊢
 have d6:((n:Int)==0)=false:=by rw[beq_eq_false_iff_ne];omega
 have d6':(n==0)=false:=by rw[beq_eq_false_iff_ne];omega
 have q5:IntKind.i64.wrap ((n:Int)-1)=((n-1:Nat):Int):=by rw[IntWalk.i64_in _ (by omega)];omega
 have hni:((n-1:Nat):Int)<(n:Int):=by omega
 clear hLD hne
 have q1:IntKind.i64.wrap ((3:Int)+(e:Int))=((t:Nat):Int):=by rw[IntWalk.i64_in _ (by omega)];omega
 have q2:IntKind.i64.wrap ((n:Int)+(t:Int))=((n+t:Nat):Int):=by rw[IntWalk.i64_in _ (by omega)];omega
 have d3:decide ((most:Int)<((n+t:Nat):Int))=false:=decide_eq_false (by omega)
 have d3':decide (most<n+t)=false:=decide_eq_false (by omega)
 have d3'':decide ((most:Int)<(n:Int)+(t:Int))=false:=decide_eq_false (by omega)
 obtain⟨wa,hwa⟩: ∃z:World,z=w.alloc (.cells #[.int .i64 16,.int .i64 (e:Nat)] 182):=⟨_,rfl⟩
 have hba:Below w.heap.size w wa:=by rw[hwa];exact (Below.refl _ _).alloc (Nat.le_refl _) _
 have HO:Hid (Own wa w.heap.size [.int .i64 16,.int .i64 (e:Nat)]):=Lib.hid (by rw[hwa];exact Own.new_at w _ _ _ rfl)
 have HR:=Lib.hid (hr.below hba)
 have HB:=Lib.hid (hba.mono hbase)
 have hza:w.heap.size<wa.heap.size:=by rw[hwa];simp
 obtain⟨va,vc,rfl,hvc⟩:=hr.form
 clear hr hba hBI hLS hn ht
 go_enter Tryz.func136,Tryz.ntmps136
 go_upto_region 1 with (fail)
 rw[←hwa]
 clear hwa
 obtain⟨g,hg⟩: ∃z,w.heap.size=z:=⟨_,rfl⟩
 rw[hg] at HO hza hbase ⊢
 clear hg
 have k0:=HO.out.1 0 _ rfl
 have k1:=HO.out.1 1 _ rfl
 go_wp2_with (fail)
 refine (HBI.out wa).mono ?_
 rintro x w1 ⟨rfl,rfl⟩
 go_upto_region 2 with (fail)
 go_quiet (fail)
 have HO1:=Lib.hid (HO.out.below (below_drewN (Below.refl (g+1) _) nq) (Nat.lt_succ_self g))
 have HR1:=Lib.hid (HR.out.below (below_drewN (Below.refl _ _) nq))
 have HB1:=Lib.hid (below_drewN HB.out nq)
 have hz1:g<(w1.drewN nq).heap.size:=hza
 clear k0 k1 HO HR HB hza
 generalize w1.drewN nq=w2 at*
 have k0:=HO1.out.1 0 _ rfl
 have k1:=HO1.out.1 1 _ rfl
 obtain⟨ba,off,rfl,_⟩:=sl_cells HR1.out.sl (by omega)
 have kl:=sl_same HR1.out.sl (by omega) (n-1) _ (iC_get hlast)
 go_upto_region 11 with (fail)
 go_quiet ((go_at_call 173;exact Calls.quiet_of_same (HLS.out _)))
 have HR2:=Lib.hid (HR1.out.below (below_drewN (Below.refl _ _) nq))
 have HB2:=Lib.hid (below_drewN HB1.out nq)
 have hz2:g<(w2.drewN nq).heap.size:=hz1
 clear k0 k1 HO1 HR1 HB1 hz1
 generalize w2.drewN nq=w3 at*
 go_wp2_with (fail)
 go_loopw [0,63] (fun u i wr=> ∃j:Nat,i= .int .i64 j∧j≤t∧Hid (Row base 3 1 wr u (n+j) (iC (ls++List.replicate j LD)))∧Hid (Below base w wr)∧g<wr.heap.size) (fun _ i _=>t-(intOf i).toNat)
 case atStart=>exact⟨0,rfl,Nat.zero_le _,Lib.hid (by rw[List.replicate_zero,List.append_nil];exact HR2.out),HB2,hz2⟩
 case round=>
  clear HR2 HB2 hz2
  obtain⟨j,rfl,hj,HR,HB,hz⟩:=hrel
  obtain⟨wo,rfl⟩: ∃z:World,z=wr:=⟨_,rfl⟩
  by_cases hlt:j<t
  ·have e1:decide (j<t)=true:=decide_eq_true hlt
   have e2:decide ((j:Int)<(t:Int))=true:=decide_eq_true (by omega)
   have p1:IntKind.i64.wrap ((j:Int)+1)=((j+1:Nat):Int):=by rw[IntWalk.i64_in _ (by omega)];omega
   have hA:=(Below.refl wo.heap.size wo).alloc (Nat.le_refl _) (.cells #[.int .i64 (LD:Nat)] 3)
   have HRA:=Lib.hid (HR.out.below hA)
   have hzA:base≤(wo.alloc (.cells #[.int .i64 (LD:Nat)] 3)).heap.size:=by simp;omega
   have HBA:=Lib.hid (HB.out.alloc (by omega) (.cells #[.int .i64 (LD:Nat)] 3))
   have HS:Hid (Sl (wo.alloc (.cells #[.int .i64 (LD:Nat)] 3)) (wo.heap.size+1) 1 (.slice (some ⟨wo.heap.size,0,none⟩) 1 1) 1 [.int .i64 (LD:Nat)]):=Lib.hid (Sl.new wo 1 1 [.int .i64 (LD:Nat)] 3 rfl)
   have HZ:=Lib.hid hzA
   obtain⟨ua,uc,rfl,_⟩:=HR.out.form
   have hJ:n+j≤2000:=by omega
   clear hA hzA HR HB
   go_wp2_with (at_builtin;refine append_row Tryz.underlying55 info_in rfl (by decide) rfl _ _ rfl rfl HRA.out rfl HS.out (by intro u hu;simp at hu;subst hu;rfl) ?_ ?_ ?_ ?_;omega;omega;exact HZ.out)
   intro v6 w6 hr6 hb6
   have HR6:Hid (Row base 3 1 w6 v6 (n+(j+1)) (iC (ls++List.replicate (j+1) LD))):=Lib.hid (by
    have e:iC (ls++List.replicate (j+1) LD)=iC (ls++List.replicate j LD)++[.int .i64 (LD:Nat)]:=by
     rw[List.replicate_succ',←List.append_assoc,iC_app]
     rfl
    rw[e]
    exact hr6)
   have HB6:=Lib.hid (HBA.out.trans hb6)
   have hz6:g<w6.heap.size:=by have:=hb6.size;simp at this;omega
   clear hr6 hb6 HRA HBA HS HZ
   go_wp2_with (fail)
   go_roundw
   case rel=>exact⟨j+1,rfl,hlt,HR6,HB6,hz6⟩
   case measure=>simp[intOf]<;>omega
  ·have e1:decide (j<t)=false:=decide_eq_false hlt
   have e2:decide ((j:Int)<(t:Int))=false:=decide_eq_false (by omega)
   obtain rfl:j=t:=by omega
   go_wp2_with (fail)
   go_ret2
   exact⟨_,rfl,HR.out,HB.out⟩
set_option maxHeartbeats 4000000 in
theorem extend_zeros (ls:List Nat) (e:Nat) (most base:Nat) (v:Value) (w:World) (hr:Row base 3 1 w v ls.length (iC ls)) (hbase:base≤w.heap.size) (he:e<8) (hl:ls.length+(3+e)≤most) (hmm:most≤1000):Calls Tryz.prog 136 #[v,.agg #[.int .i64 17,.int .i64 (e:Nat)],.int .i64 (most:Nat)] w fun x w'=> ∃v',x= .returned (.tuple #[v',.bool true])∧Row base 3 1 w' v' (ls.length+(3+e)) (iC (ls++List.replicate (3+e) 0))∧Below base w w':=by
 obtain⟨n,hn⟩: ∃z,ls.length=z:=⟨_,rfl⟩
 obtain⟨t,ht⟩: ∃z,3+e=z:=⟨_,rfl⟩
 have hBI:=fun W=>rbits_any 17 (by omega) W
 have hLS:=fun W=>least_any 17 (by omega) W
 rw[show Rn.ext 17=3 by rfl,show ((3:Nat):Int)=3 from rfl] at hBI
 rw[show Rn.lst 17=3 by rfl,show ((3:Nat):Int)=3 from rfl] at hLS
 have HBI:=Lib.hid hBI
 have HLS:=Lib.hid hLS
 have HN:=Lib.hid hn
 rw[hn,ht] at hl
 rw[hn,ht]
 rw[hn] at hr
 have d4:decide ((e:Int)<0)=false:=decide_eq_false (by omega)
 have d5:decide ((8:Int)≤(e:Int))=false:=decide_eq_false (by omega)
 have d5':decide (8≤e)=false:=decide_eq_false (by omega)
 have q1:IntKind.i64.wrap ((3:Int)+(e:Int))=((t:Nat):Int):=by rw[IntWalk.i64_in _ (by omega)];omega
 have q2:IntKind.i64.wrap ((n:Int)+(t:Int))=((n+t:Nat):Int):=by rw[IntWalk.i64_in _ (by omega)];omega
 have d3:decide ((most:Int)<((n+t:Nat):Int))=false:=decide_eq_false (by omega)
 have d3':decide (most<n+t)=false:=decide_eq_false (by omega)
 have d3'':decide ((most:Int)<(n:Int)+(t:Int))=false:=decide_eq_false (by omega)
 obtain⟨wa,hwa⟩: ∃z:World,z=w.alloc (.cells #[.int .i64 17,.int .i64 (e:Nat)] 182):=⟨_,rfl⟩
 have hba:Below w.heap.size w wa:=by rw[hwa];exact (Below.refl _ _).alloc (Nat.le_refl _) _
 have HO:Hid (Own wa w.heap.size [.int .i64 17,.int .i64 (e:Nat)]):=Lib.hid (by rw[hwa];exact Own.new_at w _ _ _ rfl)
 have HR:=Lib.hid (hr.below hba)
 have HB:=Lib.hid (hba.mono hbase)
 have hza:w.heap.size<wa.heap.size:=by rw[hwa];simp
 obtain⟨va,vc,rfl,hvc⟩:=hr.form
 clear hr hba hBI hLS hn ht
 go_enter Tryz.func136,Tryz.ntmps136
 go_upto_region 1 with (fail)
 rw[←hwa]
 clear hwa
 obtain⟨g,hg⟩: ∃z,w.heap.size=z:=⟨_,rfl⟩
 rw[hg] at HO hza hbase ⊢
 clear hg
 have k0:=HO.out.1 0 _ rfl
 have k1:=HO.out.1 1 _ rfl
 go_wp2_with (fail)
 refine (HBI.out wa).mono ?_
 rintro x w1 ⟨rfl,rfl⟩
 go_upto_region 2 with (fail)
 go_quiet (fail)
 have HO1:=Lib.hid (HO.out.below (below_drewN (Below.refl (g+1) _) nq) (Nat.lt_succ_self g))
 have HR1:=Lib.hid (HR.out.below (below_drewN (Below.refl _ _) nq))
 have HB1:=Lib.hid (below_drewN HB.out nq)
 have hz1:g<(w1.drewN nq).heap.size:=hza
 clear k0 k1 HO HR HB hza
 generalize w1.drewN nq=w2 at*
 have k0:=HO1.out.1 0 _ rfl
 have k1:=HO1.out.1 1 _ rfl
 go_upto_region 11 with (fail)
 go_quiet ((go_at_call 173;exact Calls.quiet_of_same (HLS.out _)))
 have HR2:=Lib.hid (HR1.out.below (below_drewN (Below.refl _ _) nq))
 have HB2:=Lib.hid (below_drewN HB1.out nq)
 have hz2:g<(w2.drewN nq).heap.size:=hz1
 clear k0 k1 HO1 HR1 HB1 hz1
 generalize w2.drewN nq=w3 at*
 go_wp2_with (fail)
 go_loopw [0,63] (fun u i wr=> ∃j:Nat,i= .int .i64 j∧j≤t∧Hid (Row base 3 1 wr u (n+j) (iC (ls++List.replicate j 0)))∧Hid (Below base w wr)∧g<wr.heap.size) (fun _ i _=>t-(intOf i).toNat)
 case atStart=>exact⟨0,rfl,Nat.zero_le _,Lib.hid (by rw[List.replicate_zero,List.append_nil];exact HR2.out),HB2,hz2⟩
 case round=>
  clear HR2 HB2 hz2
  obtain⟨j,rfl,hj,HR,HB,hz⟩:=hrel
  obtain⟨wo,rfl⟩: ∃z:World,z=wr:=⟨_,rfl⟩
  by_cases hlt:j<t
  ·have e1:decide (j<t)=true:=decide_eq_true hlt
   have e2:decide ((j:Int)<(t:Int))=true:=decide_eq_true (by omega)
   have p1:IntKind.i64.wrap ((j:Int)+1)=((j+1:Nat):Int):=by rw[IntWalk.i64_in _ (by omega)];omega
   have hA:=(Below.refl wo.heap.size wo).alloc (Nat.le_refl _) (.cells #[.int .i64 0] 3)
   have HRA:=Lib.hid (HR.out.below hA)
   have hzA:base≤(wo.alloc (.cells #[.int .i64 0] 3)).heap.size:=by simp;omega
   have HBA:=Lib.hid (HB.out.alloc (by omega) (.cells #[.int .i64 0] 3))
   have HS:Hid (Sl (wo.alloc (.cells #[.int .i64 0] 3)) (wo.heap.size+1) 1 (.slice (some ⟨wo.heap.size,0,none⟩) 1 1) 1 [.int .i64 0]):=Lib.hid (Sl.new wo 1 1 [.int .i64 0] 3 rfl)
   have HZ:=Lib.hid hzA
   obtain⟨ua,uc,rfl,_⟩:=HR.out.form
   have hJ:n+j≤2000:=by omega
   clear hA hzA HR HB
   go_wp2_with (at_builtin;refine append_row Tryz.underlying55 info_in rfl (by decide) rfl _ _ rfl rfl HRA.out rfl HS.out (by intro u hu;simp at hu;subst hu;rfl) ?_ ?_ ?_ ?_;omega;omega;exact HZ.out)
   intro v6 w6 hr6 hb6
   have HR6:Hid (Row base 3 1 w6 v6 (n+(j+1)) (iC (ls++List.replicate (j+1) 0))):=Lib.hid (by
    have e:iC (ls++List.replicate (j+1) 0)=iC (ls++List.replicate j 0)++[.int .i64 0]:=by
     rw[List.replicate_succ',←List.append_assoc,iC_app]
     rfl
    rw[e]
    exact hr6)
   have HB6:=Lib.hid (HBA.out.trans hb6)
   have hz6:g<w6.heap.size:=by have:=hb6.size;simp at this;omega
   clear hr6 hb6 HRA HBA HS HZ
   go_wp2_with (fail)
   go_roundw
   case rel=>exact⟨j+1,rfl,hlt,HR6,HB6,hz6⟩
   case measure=>simp[intOf]<;>omega
  ·have e1:decide (j<t)=false:=decide_eq_false hlt
   have e2:decide ((j:Int)<(t:Int))=false:=decide_eq_false (by omega)
   obtain rfl:j=t:=by omega
   go_wp2_with (fail)
   go_ret2
   exact⟨_,rfl,HR.out,HB.out⟩
set_option maxHeartbeats 4000000 in
theorem extend_many (ls:List Nat) (e:Nat) (most base:Nat) (v:Value) (w:World) (hr:Row base 3 1 w v ls.length (iC ls)) (hbase:base≤w.heap.size) (he:e<128) (hl:ls.length+(11+e)≤most) (hmm:most≤1000):Calls Tryz.prog 136 #[v,.agg #[.int .i64 18,.int .i64 (e:Nat)],.int .i64 (most:Nat)] w fun x w'=> ∃v',x= .returned (.tuple #[v',.bool true])∧Row base 3 1 w' v' (ls.length+(11+e)) (iC (ls++List.replicate (11+e) 0))∧Below base w w':=by
 obtain⟨n,hn⟩: ∃z,ls.length=z:=⟨_,rfl⟩
 obtain⟨t,ht⟩: ∃z,11+e=z:=⟨_,rfl⟩
 have hBI:=fun W=>rbits_any 18 (by omega) W
 have hLS:=fun W=>least_any 18 (by omega) W
 rw[show Rn.ext 18=7 by rfl,show ((7:Nat):Int)=7 from rfl] at hBI
 rw[show Rn.lst 18=11 by rfl,show ((11:Nat):Int)=11 from rfl] at hLS
 have HBI:=Lib.hid hBI
 have HLS:=Lib.hid hLS
 have HN:=Lib.hid hn
 rw[hn,ht] at hl
 rw[hn,ht]
 rw[hn] at hr
 have d4:decide ((e:Int)<0)=false:=decide_eq_false (by omega)
 have d5:decide ((128:Int)≤(e:Int))=false:=decide_eq_false (by omega)
 have d5':decide (128≤e)=false:=decide_eq_false (by omega)
 have q1:IntKind.i64.wrap ((11:Int)+(e:Int))=((t:Nat):Int):=by rw[IntWalk.i64_in _ (by omega)];omega
 have q2:IntKind.i64.wrap ((n:Int)+(t:Int))=((n+t:Nat):Int):=by rw[IntWalk.i64_in _ (by omega)];omega
 have d3:decide ((most:Int)<((n+t:Nat):Int))=false:=decide_eq_false (by omega)
 have d3':decide (most<n+t)=false:=decide_eq_false (by omega)
 have d3'':decide ((most:Int)<(n:Int)+(t:Int))=false:=decide_eq_false (by omega)
 obtain⟨wa,hwa⟩: ∃z:World,z=w.alloc (.cells #[.int .i64 18,.int .i64 (e:Nat)] 182):=⟨_,rfl⟩
 have hba:Below w.heap.size w wa:=by rw[hwa];exact (Below.refl _ _).alloc (Nat.le_refl _) _
 have HO:Hid (Own wa w.heap.size [.int .i64 18,.int .i64 (e:Nat)]):=Lib.hid (by rw[hwa];exact Own.new_at w _ _ _ rfl)
 have HR:=Lib.hid (hr.below hba)
 have HB:=Lib.hid (hba.mono hbase)
 have hza:w.heap.size<wa.heap.size:=by rw[hwa];simp
 obtain⟨va,vc,rfl,hvc⟩:=hr.form
 clear hr hba hBI hLS hn ht
 go_enter Tryz.func136,Tryz.ntmps136
 go_upto_region 1 with (fail)
 rw[←hwa]
 clear hwa
 obtain⟨g,hg⟩: ∃z,w.heap.size=z:=⟨_,rfl⟩
 rw[hg] at HO hza hbase ⊢
 clear hg
 have k0:=HO.out.1 0 _ rfl
 have k1:=HO.out.1 1 _ rfl
 go_wp2_with (fail)
 refine (HBI.out wa).mono ?_
 rintro x w1 ⟨rfl,rfl⟩
 go_upto_region 2 with (fail)
 go_quiet (fail)
 have HO1:=Lib.hid (HO.out.below (below_drewN (Below.refl (g+1) _) nq) (Nat.lt_succ_self g))
 have HR1:=Lib.hid (HR.out.below (below_drewN (Below.refl _ _) nq))
 have HB1:=Lib.hid (below_drewN HB.out nq)
 have hz1:g<(w1.drewN nq).heap.size:=hza
 clear k0 k1 HO HR HB hza
 generalize w1.drewN nq=w2 at*
 have k0:=HO1.out.1 0 _ rfl
 have k1:=HO1.out.1 1 _ rfl
 go_upto_region 11 with (fail)
 go_quiet ((go_at_call 173;exact Calls.quiet_of_same (HLS.out _)))
 have HR2:=Lib.hid (HR1.out.below (below_drewN (Below.refl _ _) nq))
 have HB2:=Lib.hid (below_drewN HB1.out nq)
 have hz2:g<(w2.drewN nq).heap.size:=hz1
 clear k0 k1 HO1 HR1 HB1 hz1
 generalize w2.drewN nq=w3 at*
 go_wp2_with (fail)
 go_loopw [0,63] (fun u i wr=> ∃j:Nat,i= .int .i64 j∧j≤t∧Hid (Row base 3 1 wr u (n+j) (iC (ls++List.replicate j 0)))∧Hid (Below base w wr)∧g<wr.heap.size) (fun _ i _=>t-(intOf i).toNat)
 case atStart=>exact⟨0,rfl,Nat.zero_le _,Lib.hid (by rw[List.replicate_zero,List.append_nil];exact HR2.out),HB2,hz2⟩
 case round=>
  clear HR2 HB2 hz2
  obtain⟨j,rfl,hj,HR,HB,hz⟩:=hrel
  obtain⟨wo,rfl⟩: ∃z:World,z=wr:=⟨_,rfl⟩
  by_cases hlt:j<t
  ·have e1:decide (j<t)=true:=decide_eq_true hlt
   have e2:decide ((j:Int)<(t:Int))=true:=decide_eq_true (by omega)
   have p1:IntKind.i64.wrap ((j:Int)+1)=((j+1:Nat):Int):=by rw[IntWalk.i64_in _ (by omega)];omega
   have hA:=(Below.refl wo.heap.size wo).alloc (Nat.le_refl _) (.cells #[.int .i64 0] 3)
   have HRA:=Lib.hid (HR.out.below hA)
   have hzA:base≤(wo.alloc (.cells #[.int .i64 0] 3)).heap.size:=by simp;omega
   have HBA:=Lib.hid (HB.out.alloc (by omega) (.cells #[.int .i64 0] 3))
   have HS:Hid (Sl (wo.alloc (.cells #[.int .i64 0] 3)) (wo.heap.size+1) 1 (.slice (some ⟨wo.heap.size,0,none⟩) 1 1) 1 [.int .i64 0]):=Lib.hid (Sl.new wo 1 1 [.int .i64 0] 3 rfl)
   have HZ:=Lib.hid hzA
   obtain⟨ua,uc,rfl,_⟩:=HR.out.form
   have hJ:n+j≤2000:=by omega
   clear hA hzA HR HB
   go_wp2_with (at_builtin;refine append_row Tryz.underlying55 info_in rfl (by decide) rfl _ _ rfl rfl HRA.out rfl HS.out (by intro u hu;simp at hu;subst hu;rfl) ?_ ?_ ?_ ?_;omega;omega;exact HZ.out)
   intro v6 w6 hr6 hb6
   have HR6:Hid (Row base 3 1 w6 v6 (n+(j+1)) (iC (ls++List.replicate (j+1) 0))):=Lib.hid (by
    have e:iC (ls++List.replicate (j+1) 0)=iC (ls++List.replicate j 0)++[.int .i64 0]:=by
     rw[List.replicate_succ',←List.append_assoc,iC_app]
     rfl
    rw[e]
    exact hr6)
   have HB6:=Lib.hid (HBA.out.trans hb6)
   have hz6:g<w6.heap.size:=by have:=hb6.size;simp at this;omega
   clear hr6 hb6 HRA HBA HS HZ
   go_wp2_with (fail)
   go_roundw
   case rel=>exact⟨j+1,rfl,hlt,HR6,HB6,hz6⟩
   case measure=>simp[intOf]<;>omega
  ·have e1:decide (j<t)=false:=decide_eq_false hlt
   have e2:decide ((j:Int)<(t:Int))=false:=decide_eq_false (by omega)
   obtain rfl:j=t:=by omega
   go_wp2_with (fail)
   go_ret2
   exact⟨_,rfl,HR.out,HB.out⟩
theorem ext_any (ls:List Nat) (s e most base:Nat) (v:Value) (w:World) (hr:Row base 3 1 w v ls.length (iC ls)) (hbase:base≤w.heap.size) (hs:s≤18) (he:e<2^Rn.ext s) (h16:s=16→ls≠[]) (hl:(Rn.add ls (s,e)).length≤most) (hmm:most≤1000):Calls Tryz.prog 136 #[v,.agg #[.int .i64 (s:Nat),.int .i64 (e:Nat)],.int .i64 (most:Nat)] w fun x w'=> ∃v',x= .returned (.tuple #[v',.bool true])∧Row base 3 1 w' v' (Rn.add ls (s,e)).length (iC (Rn.add ls (s,e)))∧Below base w w':=by
 rw[Rn.add_len] at hl ⊢
 rw[Nat.add_assoc] at hl ⊢
 unfold Rn.add
 by_cases h:s≤15
 ·have h1:Rn.ext s=0:=by unfold Rn.ext;rw[if_neg (by omega),if_neg (by omega),if_neg (by omega)]
  have h2:Rn.lst s=1:=by unfold Rn.lst;rw[if_neg (by omega),if_neg (by omega)]
  rw[h1] at he
  rw[h2] at hl ⊢
  rw[if_pos h]
  exact extend_val ls s e most base v w hr hbase h he hl hmm
 ·obtain rfl|rfl|rfl:s=16∨s=17∨s=18:=by omega
  ·exact extend_again ls e most base v w hr hbase he (h16 rfl) hl hmm
  ·exact extend_zeros ls e most base v w hr hbase he hl hmm
  ·exact extend_many ls e most base v w hr hbase he hl hmm
set_option maxHeartbeats 4000000 in
theorem add_any (ls:List Nat) (s e most B n:Nat) (v:Value) (w:World) (h:Sl w B 1 v n (iC ls)) (hB:B≤w.heap.size) (hn:n=ls.length) (hs:s≤18) (he:e<2^Rn.ext s) (h16:s=16→ls≠[]) (hl:(Rn.add ls (s,e)).length≤most) (hmm:most≤1000):Calls Tryz.prog 101 #[v,.agg #[.int .i64 (s:Nat),.int .i64 (e:Nat)],.int .i64 (most:Nat)] w fun x w'=> ∃v',x= .returned (.tuple #[v',.int .i64 0])∧Row w.heap.size 3 1 w' v' (Rn.add ls (s,e)).length (iC (Rn.add ls (s,e)))∧Below w.heap.size w w':=by
 obtain⟨wa,hwa⟩: ∃z:World,z=w.alloc (.cells #[.int .i64 (s:Nat),.int .i64 (e:Nat)] 182):=⟨_,rfl⟩
 have hba:Below w.heap.size w wa:=by rw[hwa];exact (Below.refl _ _).alloc (Nat.le_refl _) _
 have HO:Hid (Own wa w.heap.size [.int .i64 (s:Nat),.int .i64 (e:Nat)]):=Lib.hid (by rw[hwa];exact Own.new_at w _ _ _ rfl)
 have HS:=Lib.hid (fun W (hW:Below w.heap.size w W)=>h.below (hW.mono hB))
 have HB:=Lib.hid hba
 have hza:w.heap.size<wa.heap.size:=by rw[hwa];simp
 have hnl:n≤1000:=by rw[Rn.add_len] at hl;omega
 have HX:=Lib.hid (fun (W:World) (u:Value) (hr:Row w.heap.size 3 1 W u n (iC ls)) (hz:w.heap.size≤W.heap.size)=>ext_any ls s e most w.heap.size u W (by rw[←hn];exact hr) hz hs he h16 hl hmm)
 obtain⟨va,vc,rfl,hvc⟩:=h.form
 obtain⟨N,hN⟩: ∃z,(Rn.add ls (s,e)).length=z:=⟨_,rfl⟩
 obtain⟨L2,hL2⟩: ∃z,iC (Rn.add ls (s,e))=z:=⟨_,rfl⟩
 rw[hN,hL2] at HX ⊢
 have HC:=Lib.hid (fun (W:World) (hW:Below w.heap.size w W)=>cloneI_any ls n _ B W (h.below (hW.mono hB)) (Nat.le_trans hB hW.size) (by omega))
 clear h hba hn hl hN hL2 h16 hs he
 go_enter Tryz.func101,Tryz.ntmps101
 go_upto_region 1 with (fail)
 rw[←hwa]
 clear hwa
 have k0:=HO.out.1 0 _ rfl
 have k1:=HO.out.1 1 _ rfl
 go_region_with ((first
  |(go_at_call 137
    go_loud ((refine (HC.out _ (by first|exact HB.out|exact HB.out.drew)).mono ?_
              rintro x w3 ⟨v3,rfl,hr3,hb3⟩
              have HR3:Hid (Row w.heap.size 3 1 w3 v3 n (iC ls)):=Lib.hid (hr3.mono (by simp;omega))
              have HB3:Hid (Below w.heap.size w w3):=Lib.hid ((by first|exact HB.out|exact HB.out.drew:Below w.heap.size w _).trans (hb3.mono (by simp;omega)))
              have HO3:Hid (Own w3 w.heap.size [.int .i64 (s:Nat),.int .i64 (e:Nat)]):=Lib.hid (HO.out.below ((Below.refl wa.heap.size wa).drew.trans hb3) hza)
              obtain⟨a3,c3,rfl,_⟩:=hr3.form
              have hz3:w.heap.size≤w3.heap.size:=HB3.out.size
              clear hr3 hb3 k0 k1
              have k0:=HO3.out.1 0 _ rfl
              have k1:=HO3.out.1 1 _ rfl)))
  |(go_at_call 136
    refine (HX.out _ _ HR3.out hz3).mono ?_
    rintro x w4 ⟨v4,rfl,hr4,hb4⟩
    have HR4:=Lib.hid hr4
    have HB4:=Lib.hid (HB3.out.trans hb4)
    clear hr4 hb4)))
 all_goals
  go_wp2_with (fail)
  go_ret2
  exact⟨_,rfl,HR4.out,HB4.out⟩
end Go.Proofs.YtmdgeoalamancaaGreatDoor
