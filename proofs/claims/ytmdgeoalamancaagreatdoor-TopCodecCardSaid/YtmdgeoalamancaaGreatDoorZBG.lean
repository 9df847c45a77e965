/- deflate: Write, Sync, Finish. TopCodec: what there is in memory between two calls; bytes as text. The spool, as new: maps without entries; dev, spans, quota, store, table, turns. The name "a" is one. -/
import Derived.Test.YtmdgeoalamancaaGreatDoorZBF
import Derived.Test.YtmdgeoalamancaaGreatDoorZAN
import Derived.Test.YtmdgeoalamancaaGreatDoorZAI
import Derived.Laws.BytesString
import Derived.Laws.IdiomStrings
import Derived.Test.YtmdgeoalamancaaGreatDoorZAO
import Derived.Test.YtmdgeoalamancaaGreatDoorZAJ
import Derived.Test.YtmdgeoalamancaaGreatDoorZAH
import Derived.Lib.Bytealg
set_option maxRecDepth 100000
set_option linter.unusedVariables false
set_option linter.unusedSimpArgs false
namespace Go.Proofs.YtmdgeoalamancaaGreatDoor
open Go.RowKit
open Bt Can Mc Pk
theorem emit_any (F:List Nat) (cb lv fr n:Nat) (f:Bool) (D:List Nat) (S:List Bool) (w:World) (h:Cm F w cb lv D fr S false) (hlv:lv≤9) (hn:fr+n=D.length) (hl:D.length≤30000) (hn1:n≤1000) (hb: ∀x∈D,x<256) (hS:S.length≤1000) (hG:Gl w) (hC:Cr w) (hF8: ∀k∈F,8≤k):Calls Tryz.prog 26 #[.pointer (some ⟨cb,0,none⟩),.int .i64 (n:Nat),.bool f] w (EmiP F cb lv D fr n S f w):=by
 obtain⟨wb,G,v,inn,b0,b1,b2,rfl,h⟩:=h
 by_cases h0:lv=0
 ·subst h0
  exact emit0_any cb wb fr n f G D v S inn b0 b1 b2 w h hn hl hb hS
 ·exact emit1_any cb wb lv fr n f G D v S inn b0 b1 b2 w h (by omega) (by omega) hn hl hn1 hb hS hG hC hF8
section
variable {w w7:World} {cb wb lv fq:Nat} {G D:List Nat} {v:Value} {S:List Bool} {inn b0 b1 b2:Int} {en:Bool}
theorem Cmq.data {v':Value} {D':List Nat} (h:Cmq w cb wb lv G v D fq S inn b0 b1 b2 en) (hf7:Fr (obk v) w w7) (hr:Row 0 5 1 w7 v' D'.length (bC D')) (hn: ∀k∈obk v',k∈obk v∨w.heap.size≤k):Cmq (w7.setCell ⟨cb,1,none⟩ v') cb wb lv G v' D' fq S inn b0 b1 b2 en∧Mv (cb::(G++obk v)) w (cb::(G++obk v')) (w7.setCell ⟨cb,1,none⟩ v'):=by
 have hO7:=h.own.fr hf7 h.lt (h.sep.2 0 2 cb (by decide) (by simp))
 have hf8:Fr [cb] w7 (w7.setCell ⟨cb,1,none⟩ v'):=(Fr.refl _ _).setCell (p:=⟨cb,1,none⟩) (.inl (by simp)) _
 have hlt:=h.lt
 have hz:=hf7.size
 have hnc: ∀k∈obk v',k ∉ [cb]:=fun k hk hg=>by
  rw[List.mem_singleton.1 hg] at hk
  rcases hn cb hk with e|e
  ·exact h.sep.2 0 2 cb (by decide) (by simp) e
  ·omega
 have hg1: ∀k∈G,k ∉ [cb]:=fun k hk hg=>by
  rw[List.mem_singleton.1 hg] at hk
  exact h.sep.2 1 0 cb (by decide) hk (by simp)
 refine⟨⟨hO7.set 1 _ (by simp[ccs]),(h.wr.fr hf7 (fun k hk=>h.sep.2 1 2 k (by decide) hk)).fr hf8 hg1,hr.fr hf8 hnc,?_⟩,?_,fun k hk=> ?_⟩
 ·exact h.sep.set (by have:=hf8.size;omega) 2 _ (fun k hk=>⟨Nat.lt_of_lt_of_le (hr.lt k (mem_obk.1 hk)).2 hf8.size,hn k hk⟩)
 ·exact (hf7.weak (fun x hx _=>by simp[hx])).trans hf8 (fun x hx _=>by rw[List.mem_singleton.1 hx];simp)
 ·rcases List.mem_cons.1 hk with rfl|hk
  ·exact .inl (by simp)
  rcases List.mem_append.1 hk with hk|hk
  ·exact .inl (by simp[hk])
  ·rcases hn k hk with e|e
   ·exact .inl (by simp[e])
   ·exact .inr e
end
def CwrP (F:List Nat) (cb lv:Nat) (D l:List Nat) (fr:Nat) (S:List Bool) (w:World) (e:Ending) (w':World):Prop:=e= .returned (.int .i64 0)∧ ∃F',Cm F' w' cb lv (D++l) fr S false∧Mv F w F' w'
set_option maxHeartbeats 8000000 in
theorem cwrite_any (F:List Nat) (cb lv fr m:Nat) (D l:List Nat) (vb:Value) (S:List Bool) (w:World) (h:Cm F w cb lv D fr S false) (hfr:fr≤D.length) (hl:D.length+m≤30000) (hw:D.length+m≤fr+1000) (hsl: ∀W,Fr F w W→Sl W W.heap.size 1 vb m (bC l)) (hm:m=l.length):Calls Tryz.prog 7 #[.pointer (some ⟨cb,0,none⟩),vb] w (CwrP F cb lv D l fr S w):=by
 obtain⟨wb,G,v,inn,b0,b1,b2,rfl,h⟩:=h
 obtain⟨a,cap,rfl,hcap⟩:=(hsl w (Fr.refl _ _)).form
 have HSL:=Lib.hid hsl
 obtain⟨oa,ocap,rfl,hocap⟩:=h.dat.form
 have HM:=Lib.hid h
 obtain⟨N,hN⟩: ∃z,D.length=z:=⟨_,rfl⟩
 have HN:=Lib.hid hN
 have HL:=Lib.hid hm
 rw[hN] at hfr hl hw hocap HM HSL
 have k4:=HM.out.own.1 4 _ rfl
 have f4:=HM.out.own.2 4
 have k6:=HM.out.own.1 8 _ rfl
 obtain⟨inn2,hin2⟩: ∃z,IntKind.i64.wrap (inn+(m:Int))=z:=⟨_,rfl⟩
 obtain⟨w1,hw1⟩: ∃z:World,z=w.setCell ⟨cb,4,none⟩ (.int .i64 inn2):=⟨_,rfl⟩
 have hf1:Fr [cb] w w1:=by rw[hw1];exact (Fr.refl _ _).setCell (p:=⟨cb,4,none⟩) (.inl (by simp)) _
 have HM1:Hid (Cmq w1 cb wb lv G (.slice oa N ocap) D fr S inn2 b0 b1 b2 false):=Lib.hid (HM.out.cells hf1 (by rw[hw1];exact HM.out.own.set 4 _ (by simp[ccs])))
 have HV1:Hid (Mv (cb::(G++obk (.slice oa N ocap))) w (cb::(G++obk (.slice oa N ocap))) w1):=Lib.hid (Mv.sub hf1 (fun x hx=>by rw[List.mem_singleton.1 hx];simp) (New.refl _ _))
 have HS1:=Lib.hid (HSL.out w1 HV1.out.1)
 clear h hsl hN hm hf1 HM HSL
 go_enter Tryz.func7,Tryz.ntmps7
 go_upto_region 4 with (fail)
 rw[←hw1]
 clear hw1 hin2 k4 f4 k6
 have k1:=HM1.out.own.1 1 _ rfl
 have HR1:Hid (Row 0 5 1 w1 (.slice oa N ocap) N (bC D)):=Lib.hid (by have:=HM1.out.dat;rwa [HN.out] at this)
 go_wp2_with (at_builtin;refine append_rowM (base:=0) (size:=1) (xs:=bC D) Tryz.underlying23 info_u8 rfl (by decide) rfl _ _ rfl rfl HR1.out rfl HS1.out (bC_one _) ?_ ?_ ?_ ?_;omega;omega;exact Nat.zero_le _)
 intro v7 w7 hr7 hb7 hg7 hw7
 obtain⟨a7,c7,rfl,_⟩:=hr7.form
 have hf7:Fr (obk (Value.slice oa N ocap)) w1 w7:=(Fr.refl _ w1).grown hg7 (fun k hk _=>mem_obk.2 hk)
 have hO7:=HM1.out.own.fr hf7 HM1.out.lt (HM1.out.sep.2 0 2 cb (by decide) (by simp))
 have hd:=HM1.out.data (D':=D++l) hf7 (by rw[List.length_append,HN.out,←HL.out,bC_app];exact hr7) (fun k hk=>by
  rcases hw7 with e|e
  ·exact .inl (mem_obk.2 (by rw[←e];exact mem_obk.1 hk))
  ·exact .inr (e k (mem_obk.1 hk)))
 have f1:=hO7.2 1
 have k1':=hO7.1 1 _ rfl
 obtain⟨w8,hw8⟩: ∃z:World,z=w7.setCell ⟨cb,1,none⟩ (.slice a7 (N+m) c7):=⟨_,rfl⟩
 rw[←hw8] at hd
 have HM8:=Lib.hid hd.1
 have HV8:=Lib.hid (HV1.out.trans hd.2)
 clear hr7 hb7 hg7 hw7 hf7 hO7 hd k1
 go_wp2_with (fail)
 rw[←hw8]
 clear hw8 f1 k1'
 refine wp_loop_rounds 1 ?_
 rw[rounds_succ]
 have HWT:=Lib.hid (waiting_any HM8.out (by rw[List.length_append,HN.out];omega) (by rw[List.length_append,HN.out,←HL.out];exact hl))
 obtain⟨r,hr⟩: ∃z,(D++l).length-fr=z:=⟨_,rfl⟩
 have hr2:r≤1000:=by rw[←hr,List.length_append,HN.out,←HL.out];omega
 rw[hr] at HWT
 have d1:decide (16384≤r)=false:=decide_eq_false (by omega)
 have d2:decide ((16384:Int)≤(r:Int))=false:=decide_eq_false (by omega)
 clear hr
 go_wp2_with (fail)
 refine HWT.out.mono ?_
 rintro e w9 ⟨rfl,nq,rfl⟩
 have HM9:=Lib.hid (HM8.out.below (below_drewN (Below.refl _ _) nq))
 have HV9:=Lib.hid (HV8.out.trans (Mv.below _ (below_drewN (Below.refl w8.heap.size w8) nq)))
 clear HM8 HV8 HWT
 generalize w8.drewN nq=w9 at*
 have k2:=HM9.out.own.1 2 _ rfl
 have d3:decide (131072<fr)=false:=decide_eq_false (by omega)
 have d4:decide ((131072:Int)<(fr:Int))=false:=decide_eq_false (by omega)
 go_wp2_with (fail)
 go_ret
 exact⟨by rfl,_,HM9.out.cm,by rw[HN.out];exact HV9.out⟩
def CsyP (F:List Nat) (cb lv:Nat) (D:List Nat) (fr:Nat) (S:List Bool) (w:World) (e:Ending) (w':World):Prop:=e= .returned (.int .i64 0)∧ ∃F' E,Cm F' w' cb lv D D.length (S++E) false∧Mv F w F' w'∧E.length≤1600000∧(S.length+E.length)%8=0∧ ∀p,p%8=S.length%8→Chn p ⟨false,D.take fr,.block⟩ E ⟨false,D,.block⟩
set_option maxHeartbeats 8000000 in
theorem csync_any (F:List Nat) (cb lv fr:Nat) (D:List Nat) (S:List Bool) (w:World) (h:Cm F w cb lv D fr S false) (hfr:fr≤D.length) (hl:D.length≤30000) (hn1:D.length≤fr+1000) (hb: ∀x∈D,x<256) (hlv:lv≤9) (hS:S.length≤1000) (hG:Gl w) (hC:Cr w) (hF8: ∀k∈F,8≤k):Calls Tryz.prog 8 #[.pointer (some ⟨cb,0,none⟩)] w (CsyP F cb lv D fr S w):=by
 have hcm:=h
 obtain⟨wb,G,v,inn,b0,b1,b2,rfl,h⟩:=h
 have k8:=h.own.1 8 _ rfl
 have HWT:=Lib.hid (waiting_any h hfr hl)
 have HCM:=Lib.hid hcm
 obtain⟨F,hF⟩: ∃z,cb::(G++obk v)=z:=⟨_,rfl⟩
 rw[hF] at HCM hF8 ⊢
 obtain⟨n,hn⟩: ∃z,D.length-fr=z:=⟨_,rfl⟩
 rw[hn] at HWT
 have HEM:=Lib.hid (fun (W:World) (hW:Below w.heap.size w W)=>emit_any F cb lv fr n false D S W (HCM.out.fr (Fr.of_below (F:=[]) hW) (fun _ _ h=>by cases h)) hlv (by omega) hl (by omega) hb hS (hG.fr (Fr.of_below (F:=[]) hW) (fun _ h=>by cases h)) (hC.below hW) hF8)
 have HN:=Lib.hid hn
 have HB:=Lib.hid hb
 clear h hcm hF hn hb hG hC hF8
 go_enter Tryz.func8,Tryz.ntmps8
 go_wp2_with (fail)
 refine HWT.out.mono ?_
 rintro e w1 ⟨rfl,nq,rfl⟩
 have HB1:Hid (Below w.heap.size w (w.drewN nq)):=Lib.hid (below_drewN (Below.refl _ _) nq)
 clear HWT k8
 generalize w.drewN nq=w1 at*
 have FIN: ∀(F1:List Nat) (E1:List Bool) (w2:World),Cm F1 w2 cb lv D D.length (S++E1) false→Mv F w F1 w2→E1.length≤1500000→(∀p,p%8=S.length%8→BlkB false (D.take fr) (D.drop fr) p E1)→ ∃wb,w2.cell? ⟨cb,3,none⟩=some (.pointer (some ⟨wb,0,none⟩))∧Calls Tryz.prog 27 #[.pointer (some ⟨wb,0,none⟩),.slice none 0 0,.bool false] w2 fun e w'=>e= .returned (.tuple #[])∧CsyP F cb lv D fr S w (.returned (.int .i64 0)) w':=fun F1 E1 w2 hc hv he hk=>by
  obtain⟨wb,G1,v1,inn,b0,b1,b2,rfl,h⟩:=hc
  refine⟨wb,h.own.1 3 _ rfl,(stored_any G1 wb 0 false (S++E1) [] (.slice none 0 0) w2 h.wr (by rw[List.length_append];omega) (fun W _=>Sl.nil) rfl (by omega) (fun x hx=>by cases hx)).mono ?_⟩
  rintro e w3 ⟨rfl,G3,hw3,hf3,hn3⟩
  have hm3:=h.write hw3 hf3 hn3
  refine⟨rfl,rfl,_,E1++storedB (S++E1).length false [],by rw[←List.append_assoc];exact hm3.cm,hv.trans ⟨hf3.weak (fun x hx _=>by simp[hx]),fun k hk=> ?_⟩,?_,?_,fun p hp=> ?_⟩
  ·rcases List.mem_cons.1 hk with h|hk
   ·exact .inl (by simp[h])
   rcases List.mem_append.1 hk with hk|hk
   ·rcases hn3 k hk with h|h
    ·exact .inl (by simp[h])
    ·exact .inr h
   ·exact .inl (by simp[hk])
  ·have:=storedB_len (S++E1).length false []
   rw[List.length_append]
   simp at this ⊢
   omega
  ·have:=(stored_chain false [] [] (S++E1).length (S++E1).length rfl (by simp) (fun x hx=>by cases hx)).2
   simp only[List.length_append] at this ⊢
   omega
  ·have h1:=hk p hp
   have h2:=blk_app h1 (stored_blk false (D.take fr++D.drop fr) [] (p+E1.length) (S++E1).length (by rw[List.length_append];omega) (by simp) (fun x hx=>by cases hx))
   have h3:=h2.1 rfl
   rwa [List.append_nil,List.take_append_drop] at h3
 by_cases h0:0<n
 ·have d1:decide (0<n)=true:=decide_eq_true h0
  have d2:decide ((0:Int)<(n:Int))=true:=decide_eq_true (by omega)
  have HE1:=Lib.hid (HEM.out w1 HB1.out)
  have HFIN:=Lib.hid FIN
  clear HEM FIN
  go_wp2_with (fail)
  refine HE1.out.mono ?_
  rintro e w2 ⟨rfl,F2,E2,hc2,hv2,he2,hk2⟩
  obtain⟨wb2,k3,hcall⟩:=HFIN.out F2 E2 w2 (by rw[show fr+n=D.length by have:=HN.out;omega] at hc2;exact hc2) ((Mv.below _ HB1.out).trans hv2) he2 hk2
  have HCL:=Lib.hid hcall
  clear hc2 hv2 he2 hk2 hcall HE1 HFIN
  go_wp2_with (fail)
  refine HCL.out.mono ?_
  rintro e w3 ⟨rfl,h3⟩
  have H3:=Lib.hid h3
  clear h3 HCL k3
  go_wp2_with (fail)
  go_ret
  exact H3.out
 ·have d1:decide (0<n)=false:=decide_eq_false h0
  have d2:decide ((0:Int)<(n:Int))=false:=decide_eq_false (by omega)
  have hfD:fr=D.length:=by have:=HN.out;omega
  obtain⟨wb2,k3,hcall⟩:=FIN F [] w1 (by rw[List.append_nil,←hfD];exact HCM.out.fr (Fr.of_below (F:=[]) HB1.out) (fun _ _ h=>by cases h)) (Mv.below _ HB1.out) (Nat.zero_le _) (fun p _=>by rw[hfD,List.drop_length];exact blk_nil _ _)
  have HCL:=Lib.hid hcall
  clear hcall FIN HEM hfD
  go_wp2_with (fail)
  refine HCL.out.mono ?_
  rintro e w3 ⟨rfl,h3⟩
  have H3:=Lib.hid h3
  clear h3 HCL k3
  go_wp2_with (fail)
  go_ret
  exact H3.out
def CfiP (F:List Nat) (cb lv:Nat) (D:List Nat) (fr:Nat) (S:List Bool) (w:World) (e:Ending) (w':World):Prop:=e= .returned (.int .i64 0)∧ ∃F' E,Cm F' w' cb lv [] 0 (S++E) true∧Mv F w F' w'∧E.length≤1600000∧(S.length+E.length)%8=0∧ ∀p,p%8=S.length%8→Chn p ⟨false,D.take fr,.block⟩ E ⟨true,D,.ended⟩
set_option maxHeartbeats 8000000 in
theorem cfinish_any (F:List Nat) (cb lv fr:Nat) (D:List Nat) (S:List Bool) (w:World) (h:Cm F w cb lv D fr S false) (hfr:fr≤D.length) (hl:D.length≤30000) (hn1:D.length≤fr+1000) (hb: ∀x∈D,x<256) (hlv:lv≤9) (hS:S.length≤1000) (hG:Gl w) (hC:Cr w) (hF8: ∀k∈F,8≤k):Calls Tryz.prog 15 #[.pointer (some ⟨cb,0,none⟩)] w (CfiP F cb lv D fr S w):=by
 have hcm:=h
 obtain⟨wb,G,v,inn,b0,b1,b2,rfl,h⟩:=h
 have k8:=h.own.1 8 _ rfl
 have HWT:=Lib.hid (waiting_any h hfr hl)
 have HCM:=Lib.hid hcm
 obtain⟨F,hF⟩: ∃z,cb::(G++obk v)=z:=⟨_,rfl⟩
 rw[hF] at HCM hF8 ⊢
 obtain⟨n,hn⟩: ∃z,D.length-fr=z:=⟨_,rfl⟩
 rw[hn] at HWT
 have HEM:=Lib.hid (fun (W:World) (hW:Below w.heap.size w W)=>emit_any F cb lv fr n true D S W (HCM.out.fr (Fr.of_below (F:=[]) hW) (fun _ _ h=>by cases h)) hlv (by omega) hl (by omega) hb hS (hG.fr (Fr.of_below (F:=[]) hW) (fun _ h=>by cases h)) (hC.below hW) hF8)
 have HN:=Lib.hid hn
 clear h hcm hF hn hb hG hC hF8
 go_enter Tryz.func15,Tryz.ntmps15
 go_wp2_with (fail)
 refine HWT.out.mono ?_
 rintro e w1 ⟨rfl,nq,rfl⟩
 have HB1:Hid (Below w.heap.size w (w.drewN nq)):=Lib.hid (below_drewN (Below.refl _ _) nq)
 clear HWT k8
 generalize w.drewN nq=w1 at*
 have HE1:=Lib.hid (HEM.out w1 HB1.out)
 clear HEM
 go_wp2_with (fail)
 refine HE1.out.mono ?_
 rintro e w2 ⟨rfl,F2,E2,hc2,hv2,he2,hk2⟩
 obtain⟨wb2,G2,v2,inn2,c0,c1,c2,rfl,h2⟩:=hc2
 have k3:=h2.own.1 3 _ rfl
 have HM2:=Lib.hid h2
 have HV2:=Lib.hid ((Mv.below F HB1.out).trans hv2)
 have HE2:=Lib.hid (And.intro he2 hk2)
 have HAL:=Lib.hid (align_any G2 wb2 (S++E2) w2 h2.wr (by rw[List.length_append];omega))
 clear h2 hv2 he2 hk2 HE1
 go_wp2_with (fail)
 refine HAL.out.mono ?_
 rintro e w3 ⟨rfl,G3,hw3,hf3,hn3⟩
 have hm3:=HM2.out.write hw3 hf3 hn3
 have HM3:=Lib.hid hm3
 have HV3:Hid (Mv F w (cb::(G3++obk v2)) w3):=Lib.hid (HV2.out.trans ⟨hf3.weak (fun x hx _=>by simp[hx]),fun k hk=>by
  rcases List.mem_cons.1 hk with h|hk
  ·exact .inl (by simp[h])
  rcases List.mem_append.1 hk with hk|hk
  ·rcases hn3 k hk with h|h
   ·exact .inl (by simp[h])
   ·exact .inr h
  ·exact .inl (by simp[hk])⟩)
 clear hw3 hf3 hn3 hm3 HM2 HV2 HAL k3
 obtain⟨PD,hPD⟩: ∃z,lsb 0 (gap (S++E2).length)=z:=⟨_,rfl⟩
 have hgp:PD.length=gap (S++E2).length:=by rw[←hPD,lsb_len]
 have HGP:=Lib.hid hgp
 rw[hPD] at HM3
 clear hPD hgp
 have f8:=HM3.out.own.2 8
 have k8:=HM3.out.own.1 8 _ rfl
 obtain⟨w4,hw4⟩: ∃z:World,z=w3.setCell ⟨cb,8,none⟩ (.bool true):=⟨_,rfl⟩
 have hf4:Fr [cb] w3 w4:=by rw[hw4];exact (Fr.refl _ _).setCell (p:=⟨cb,8,none⟩) (.inl (by simp)) _
 have HM4:Hid (Cmq w4 cb wb2 lv G3 v2 D (fr+n) (S++E2++PD) inn2 c0 c1 c2 true):=Lib.hid (HM3.out.cells hf4 (by rw[hw4];exact HM3.out.own.set 8 _ (by simp[ccs])))
 have HV4:=Lib.hid (HV3.out.trans (Mv.sub hf4 (fun x hx=>by rw[List.mem_singleton.1 hx];simp) (New.refl _ _)))
 clear hf4 HM3 HV3
 go_upto_region 6 with (fail)
 rw[←hw4]
 clear hw4 f8 k8
 have f1:=HM4.out.own.2 1
 have f2:=HM4.out.own.2 2
 have k1:=HM4.out.own.1 1 _ rfl
 have k2:=HM4.out.own.1 2 _ rfl
 obtain⟨hm5,hv5⟩:=HM4.out.data (v':= .slice none 0 0) (D':=[]) (Fr.refl _ _) Row.nil (fun k hk=>by simp[obk,Value.ownBlock] at hk)
 obtain⟨w5,hw5⟩: ∃z:World,z=w4.setCell ⟨cb,1,none⟩ (.slice none 0 0):=⟨_,rfl⟩
 rw[←hw5] at hm5 hv5
 have hf6:Fr [cb] w5 (w5.setCell ⟨cb,2,none⟩ (.int .i64 0)):=(Fr.refl _ _).setCell (p:=⟨cb,2,none⟩) (.inl (by simp)) _
 have HM6:=Lib.hid (hm5.cells (fr':=0) (inn':=inn2) (b0':=c0) (b1':=c1) (b2':=c2) (en':=true) hf6 (hm5.own.set 2 _ (by simp[ccs])))
 have HV6:=Lib.hid ((HV4.out.trans hv5).trans (Mv.sub hf6 (fun x hx=>by rw[List.mem_singleton.1 hx];simp) (New.refl _ _)))
 have HW5:=Lib.hid hw5
 clear hm5 hv5 hf6 hw5
 go_wp2_with (fail)
 go_ret
 rw[←HW5.out]
 refine⟨by rfl,_,E2++PD,by rw[←List.append_assoc];exact HM6.out.cm,HV6.out,?_,?_,fun p hp=> ?_⟩
 ·rw[List.length_append,HGP.out]
  have:=HE2.out.1
  unfold gap
  omega
 ·rw[List.length_append,HGP.out,List.length_append]
  unfold gap
  omega
 ·have h1:=(HE2.out.2 p hp).2 rfl PD (by rw[HGP.out,List.length_append];unfold gap;omega)
  rwa [List.take_append_drop] at h1
end Go.Proofs.YtmdgeoalamancaaGreatDoor
namespace Go.Proofs.YtmdgeoalamancaaGreatDoor
open Go.RowKit
open Bt Can Mc Pk
def u8L (l:List Nat):List UInt8:=l.map fun x=>UInt8.ofNat x
theorem conv_bytes {w:World} {B:Nat} {v:Value} (l:List Nat) (hb: ∀x∈l,x<256) (h:Sl w B 1 v l.length (bC l)):(convert 23 9 v).run Tryz.prog w= .ok (.string ⟨(u8L l).toArray⟩) w:=by
 obtain⟨_,a,cap,rfl,_,hor⟩:=h
 have key: ∀ad:Addr,(∀j u,(bC l)[j]? =some u→w.cell? (ad.add j)=some u)→(convert 23 9 (.slice (some ad) l.length cap)).run Tryz.prog w= .ok (.string ⟨(u8L l).toArray⟩) w:=fun ad hc=>by
  have hl:(u8L l).length=l.length:=by unfold u8L;simp
  have:=run_convert_bytes_back (P:=Tryz.prog) w 23 9 5 ad cap (u8L l) Tryz.underlying23 Tryz.underlying5 Tryz.underlying9 (fun j hj=>by
   rw[hl] at hj
   have h1:l[j]? =some l[j]:=List.getElem?_eq_getElem hj
   rw[hc j _ (bC_get h1)]
   have h2:=hb _ (List.getElem_mem hj)
   have h3:(u8L l)[j]? =some (UInt8.ofNat l[j]):=by unfold u8L;rw[List.getElem?_map,h1];rfl
   have h4:=(List.getElem?_eq_some_iff.1 h3).2
   rw[h4]
   have h5:(UInt8.ofNat l[j]).toNat=l[j]:=by simp;omega
   rw[h5])
  rwa [hl] at this
 rcases hor with ⟨h0,hn⟩|⟨b,off,rfl,_,hc⟩
 ·have hl:l=[]:=List.eq_nil_of_length_eq_zero h0
  subst hl
  cases a with
  |none=>
   rw[run_convert_bytes_string w _ _ _ _ _ _ Tryz.underlying23 Tryz.underlying5 Tryz.underlying9]
   rfl
  |some ad=>exact key ad (fun j u hj=>by simp[bC] at hj)
 ·exact key ⟨b,off,none⟩ (fun j u hj=>by
   have:=hc j u hj
   rw[←this]
   rw[add_plain])
theorem stp_block_ne {p:Nat} {c c1:Cfg} {a:List Bool} (h:Stp p c a c1) (hc:c.st= .block):a≠[]:=by
 cases h with
 |stored f T v pad hv hp=>
  intro e
  have:=congrArg List.length e
  rw[List.length_append,lsb_len] at this
  simp at this
 |fixed f T v hv=>
  intro e
  have:=congrArg List.length e
  rw[lsb_len] at this
  simp at this
 |dyn f T v hv=>
  intro e
  have:=congrArg List.length e
  rw[lsb_len] at this
  simp at this
 |_=>cases hc
theorem chn_ne {p:Nat} {c c2:Cfg} {a:List Bool} (h:Chn p c a c2) (hc:c.st= .block) (h2:c2.st= .ended):a≠[]:=by
 cases h with
 |nil=>
  rw[hc] at h2
  cases h2
 |cons hs t=>
  intro e
  exact stp_block_ne hs hc (List.append_eq_nil_iff.1 e).1
structure Lsp (w0 w:World) (L:List (List Nat)):Prop where
 sep:Sep L w.heap.size
 new: ∀i k,k∈L.getD i []→w0.heap.size≤k
 bel:Below w0.heap.size w0 w
theorem Lsp.set {w0 w w':World} {L:List (List Nat)} (h:Lsp w0 w L) (i:Nat) (F':List Nat) (hf:Fr (L.getD i []) w w') (hN: ∀k∈F',k<w'.heap.size∧(k∈L.getD i []∨w.heap.size≤k)):Lsp w0 w' (L.set i F'):=by
 refine⟨h.sep.set hf.size i F' hN,fun j k hk=> ?_,h.bel.trans (hf.below h.bel.size (fun k hk=>h.new i k hk))⟩
 rcases getD_set_nil L i j F' hk with ⟨_,h1⟩|⟨_,h1⟩
 ·rcases (hN k h1).2 with h2|h2
  ·exact h.new i k h2
  ·exact Nat.le_trans h.bel.size h2
 ·exact h.new j k h1
structure Lq (w0 w:World) (cb lv mb ab ob:Nat) (F1 F2:List Nat) (vt vo:Value) (Dc:List Nat) (fr:Nat) (S:List Bool) (en:Bool) (c:Cfg) (R:List Bool) (O Dt Do Da Db:List Nat):Prop where
 cm:Cm F1 w cb lv Dc fr S en
 ma:Ma F2 w mb c R O
 tx:Row 0 5 1 w vt Dt.length (bC Dt)
 ou:Row 0 5 1 w vo Do.length (bC Do)
 da:Dg w ab Da
 db:Dg w ob Db
 ls:Lsp w0 w [F1,F2,obk vt,obk vo,[ab],[ob]]
section
variable {w0 w w':World} {cb lv mb ab ob fr fr':Nat} {F1 F2 F':List Nat} {vt vo v':Value} {Dc Dc' Dt Do Da Db O O' D':List Nat} {S R S' R':List Bool} {en en':Bool} {c c':Cfg}
theorem Lq.sepd (h:Lq w0 w cb lv mb ab ob F1 F2 vt vo Dc fr S en c R O Dt Do Da Db): ∀i j k,i≠j→k∈[F1,F2,obk vt,obk vo,[ab],[ob]].getD i []→k ∉ [F1,F2,obk vt,obk vo,[ab],[ob]].getD j []:=h.ls.sep.2
theorem Lq.lta (h:Lq w0 w cb lv mb ab ob F1 F2 vt vo Dc fr S en c R O Dt Do Da Db):ab<w.heap.size∧ob<w.heap.size:=⟨h.ls.sep.1 4 ab (by simp),h.ls.sep.1 5 ob (by simp)⟩
theorem Lq.setC (h:Lq w0 w cb lv mb ab ob F1 F2 vt vo Dc fr S en c R O Dt Do Da Db) (hm:Mv F1 w F' w') (hc:Cm F' w' cb lv Dc' fr' S' en'):Lq w0 w' cb lv mb ab ob F' F2 vt vo Dc' fr' S' en' c R O Dt Do Da Db:=
 ⟨hc,h.ma.fr hm.1 (fun k hk=>h.sepd 1 0 k (by decide) hk),h.tx.fr hm.1 (fun k hk=>h.sepd 2 0 k (by decide) hk),h.ou.fr hm.1 (fun k hk=>h.sepd 3 0 k (by decide) hk),Own.fr h.da hm.1 h.lta.1 (h.sepd 4 0 ab (by decide) (by simp)),Own.fr h.db hm.1 h.lta.2 (h.sepd 5 0 ob (by decide) (by simp)),h.ls.set 0 F' hm.1 (fun k hk=>⟨hc.lt k hk,hm.2 k hk⟩)⟩
theorem Lq.setM (h:Lq w0 w cb lv mb ab ob F1 F2 vt vo Dc fr S en c R O Dt Do Da Db) (hm:Mv F2 w F' w') (hc:Ma F' w' mb c' R' O'):Lq w0 w' cb lv mb ab ob F1 F' vt vo Dc fr S en c' R' O' Dt Do Da Db:=
 ⟨h.cm.fr hm.1 (fun k hk=>h.sepd 0 1 k (by decide) hk),hc,h.tx.fr hm.1 (fun k hk=>h.sepd 2 1 k (by decide) hk),h.ou.fr hm.1 (fun k hk=>h.sepd 3 1 k (by decide) hk),Own.fr h.da hm.1 h.lta.1 (h.sepd 4 1 ab (by decide) (by simp)),Own.fr h.db hm.1 h.lta.2 (h.sepd 5 1 ob (by decide) (by simp)),h.ls.set 1 F' hm.1 (fun k hk=>⟨hc.lt k hk,hm.2 k hk⟩)⟩
theorem Lq.setT (h:Lq w0 w cb lv mb ab ob F1 F2 vt vo Dc fr S en c R O Dt Do Da Db) (hf:Fr (obk vt) w w') (hr:Row 0 5 1 w' v' D'.length (bC D')) (hn: ∀k∈obk v',k∈obk vt∨w.heap.size≤k):Lq w0 w' cb lv mb ab ob F1 F2 v' vo Dc fr S en c R O D' Do Da Db:=
 ⟨h.cm.fr hf (fun k hk=>h.sepd 0 2 k (by decide) hk),h.ma.fr hf (fun k hk=>h.sepd 1 2 k (by decide) hk),hr,h.ou.fr hf (fun k hk=>h.sepd 3 2 k (by decide) hk),Own.fr h.da hf h.lta.1 (h.sepd 4 2 ab (by decide) (by simp)),Own.fr h.db hf h.lta.2 (h.sepd 5 2 ob (by decide) (by simp)),h.ls.set 2 (obk v') hf (fun k hk=>⟨(hr.lt k (mem_obk.1 hk)).2,hn k hk⟩)⟩
theorem Lq.setO (h:Lq w0 w cb lv mb ab ob F1 F2 vt vo Dc fr S en c R O Dt Do Da Db) (hf:Fr (obk vo) w w') (hr:Row 0 5 1 w' v' D'.length (bC D')) (hn: ∀k∈obk v',k∈obk vo∨w.heap.size≤k):Lq w0 w' cb lv mb ab ob F1 F2 vt v' Dc fr S en c R O Dt D' Da Db:=
 ⟨h.cm.fr hf (fun k hk=>h.sepd 0 3 k (by decide) hk),h.ma.fr hf (fun k hk=>h.sepd 1 3 k (by decide) hk),h.tx.fr hf (fun k hk=>h.sepd 2 3 k (by decide) hk),hr,Own.fr h.da hf h.lta.1 (h.sepd 4 3 ab (by decide) (by simp)),Own.fr h.db hf h.lta.2 (h.sepd 5 3 ob (by decide) (by simp)),h.ls.set 3 (obk v') hf (fun k hk=>⟨(hr.lt k (mem_obk.1 hk)).2,hn k hk⟩)⟩
theorem Lq.setA (h:Lq w0 w cb lv mb ab ob F1 F2 vt vo Dc fr S en c R O Dt Do Da Db) (hf:Fr [ab] w w') (hd:Dg w' ab D'):Lq w0 w' cb lv mb ab ob F1 F2 vt vo Dc fr S en c R O Dt Do D' Db:=
 ⟨h.cm.fr hf (fun k hk=>h.sepd 0 4 k (by decide) hk),h.ma.fr hf (fun k hk=>h.sepd 1 4 k (by decide) hk),h.tx.fr hf (fun k hk=>h.sepd 2 4 k (by decide) hk),h.ou.fr hf (fun k hk=>h.sepd 3 4 k (by decide) hk),hd,Own.fr h.db hf h.lta.2 (h.sepd 5 4 ob (by decide) (by simp)),h.ls.set 4 [ab] hf (fun k hk=>⟨by rw[List.mem_singleton.1 hk];exact Nat.lt_of_lt_of_le h.lta.1 hf.size,.inl hk⟩)⟩
theorem Lq.setB (h:Lq w0 w cb lv mb ab ob F1 F2 vt vo Dc fr S en c R O Dt Do Da Db) (hf:Fr [ob] w w') (hd:Dg w' ob D'):Lq w0 w' cb lv mb ab ob F1 F2 vt vo Dc fr S en c R O Dt Do Da D':=
 ⟨h.cm.fr hf (fun k hk=>h.sepd 0 5 k (by decide) hk),h.ma.fr hf (fun k hk=>h.sepd 1 5 k (by decide) hk),h.tx.fr hf (fun k hk=>h.sepd 2 5 k (by decide) hk),h.ou.fr hf (fun k hk=>h.sepd 3 5 k (by decide) hk),Own.fr h.da hf h.lta.1 (h.sepd 4 5 ab (by decide) (by simp)),hd,h.ls.set 5 [ob] hf (fun k hk=>⟨by rw[List.mem_singleton.1 hk];exact Nat.lt_of_lt_of_le h.lta.2 hf.size,.inl hk⟩)⟩
theorem Lq.below (h:Lq w0 w cb lv mb ab ob F1 F2 vt vo Dc fr S en c R O Dt Do Da Db) (hb:Below w.heap.size w w'):Lq w0 w' cb lv mb ab ob F1 F2 vt vo Dc fr S en c R O Dt Do Da Db:=
 h.setA (Fr.of_below hb) (Own.below h.da hb h.lta.1)
theorem Lq.gl (h:Lq w0 w cb lv mb ab ob F1 F2 vt vo Dc fr S en c R O Dt Do Da Db) (hG:Gl w0):Gl w:=hG.fr (Fr.of_below (F:=[]) h.ls.bel) (fun _ h=>by cases h)
end
end Go.Proofs.YtmdgeoalamancaaGreatDoor
namespace Go.Proofs.YtmdgeoalamancaaGreatDoor
open Go.RowKit Go.Maps Go.WideMaps
open Bt Can Mc
def Emp (w:World) (b:Nat):Prop:=w.heap[b]? =some (.map #[] 0)
section
variable {w w':World} {b:Nat}
theorem Emp.new (w:World):Emp (w.alloc (.map #[] 0)) w.heap.size:=heap_alloc_new _ _
theorem Emp.lt (h:Emp w b):b<w.heap.size:=(Array.getElem?_eq_some_iff.1 h).1
theorem Emp.fr {F:List Nat} (h:Emp w b) (hf:Fr F w w') (hn:b ∉ F):Emp w' b:=(hf.block b h.lt hn).trans h
theorem Emp.below (h:Emp w b) (hb:Below w.heap.size w w'):Emp w' b:=h.fr (Fr.of_below (F:=[]) hb) (fun h=>by cases h)
theorem Emp.owns {H:Type} (h:Emp w b) (k:TypeId) (R:Value→Option (DataW H × List MemPlace)):w.ownsMap Tryz.prog k R b 0 (.map []):=⟨#[],0,h,⟨by simp,Go.MapKept.stamped_empty 0,by simp⟩,Nat.le_refl _,rfl⟩
open Classical in
theorem Emp.look {t k e:TypeId} (h:Emp w b) (K:Keyed Tryz.prog k) (ht:Tryz.prog.underlying t=some (.map k e)) {z:Value} (hz:(zeroValue e).run Tryz.prog w= .ok z w) {key:Value} {kl:Lit} (hkey:keyOf Tryz.prog k key=some kl):(Instr.lookup t (.map (some b)) key false).run Tryz.prog w= .ok z w∧(Instr.lookup t (.map (some b)) key true).run Tryz.prog w= .ok (.tuple #[z,.bool false]) w:=by
 have ho:=h.owns (H:=Unit) k (fun v=>if v=z then some (.lit (.bool true),[]) else none)
 have hR:(fun v=>if v=z then some ((DataW.lit (.bool true):DataW Unit),([]:List MemPlace)) else none) z=some (.lit (.bool true),[]):=by simp
 obtain⟨v,ps,h1,h2⟩:=ho.lookup K ht hz hR hkey
 obtain⟨v',ps',h3,h4⟩:=ho.look_ok K ht hz hR hkey
 have e1:v=z:=by
  by_cases e:v=z
  ·exact e
  ·simp[e] at h2
 have e2:v'=z:=by
  by_cases e:v'=z
  ·exact e
  ·simp[e] at h4
 subst e1
 subst e2
 exact⟨h1,h3⟩
theorem Emp.put {t k e:TypeId} (h:Emp w b) (K:Keyed Tryz.prog k) (ht:Tryz.prog.underlying t=some (.map k e)) {key:Value} {kl:Lit} (hkey:keyOf Tryz.prog k key=some kl) (val:Value): ∃w',(Instr.mapUpdate t (.map (some b)) key val).run Tryz.prog w= .ok () w'∧w'.ownsMap (H:=Unit) Tryz.prog k (fun _=>some (.lit (.bool true),[])) b 1 ((DataW.map []).put kl (.lit (.bool true)))∧Fr [b] w w':=by
 have ho:=h.owns (H:=Unit) k (fun _=>some (.lit (.bool true),[]))
 obtain⟨w',h1,h2,h3⟩:=ho.update K ht (by unfold maxLen;omega) hkey (val:=val) (d:= .lit (.bool true)) (ps:=[]) rfl
 exact⟨w',h1,h2,(Fr.refl [b] w).grown h3 (fun k hk _=>by injection hk with hk;simp[hk])⟩
end
theorem lawI:Keyed Tryz.prog 3:=int_keyed Tryz.underlying3
theorem lawS:Keyed Tryz.prog 9:=string_keyed Tryz.underlying9
def NewC (w:World) (e:Ending) (w':World):Prop:= ∃b,e= .returned (.tuple #[.pointer (some ⟨b,0,none⟩),.int .i64 0])∧Below w.heap.size w w'
set_option maxHeartbeats 1000000 in
theorem devn_any (w:World):Calls Tryz.prog 64 #[.int .i64 100] w (NewC w):=by
 obtain⟨zs,hzs⟩: ∃z:Array Value,z=(bC (List.replicate 100 0)).toArray:=⟨_,rfl⟩
 have hmk: ∀W,(Instr.makeSlice 23 (.int .i64 100) (.int .i64 100)).run Tryz.prog W= .ok (.slice (some ⟨W.heap.size,0,none⟩) 100 100) (W.alloc (.cells zs 5)):=fun W=>by rw[hzs];exact hmkB 100 W (by omega)
 clear hzs
 have HS:Hid (∀W,Calls Tryz.prog 108 #[.int .i64 100] W fun e w'=>e= .returned (.bool true)∧w'=W):=Lib.hid (fun W=>by
  go_enter Tryz.func108,Tryz.ntmps108
  go_wp2_with (fail)
  go_ret
  exact⟨by rfl,rfl⟩)
 go_enter Tryz.func64,Tryz.ntmps64
 go_wp2_with (fail)
 refine (HS.out w).mono ?_
 rintro e w1 ⟨rfl,rfl⟩
 go_wp2_with (fail)
 go_ret2
 exact⟨_,rfl,((Below.refl _ _).alloc (Nat.le_refl _) _).alloc (by simp) _⟩
set_option maxHeartbeats 1000000 in
theorem spansn_any (w:World):Calls Tryz.prog 65 #[.int .i64 100] w (NewC w):=by
 have HS:Hid (∀W,Calls Tryz.prog 109 #[.int .i64 100] W fun e w'=>e= .returned (.bool true)∧w'=W):=Lib.hid (fun W=>by
  go_enter Tryz.func109,Tryz.ntmps109
  go_wp2_with (fail)
  go_ret
  exact⟨by rfl,rfl⟩)
 go_enter Tryz.func65,Tryz.ntmps65
 go_wp2_with (fail)
 refine (HS.out w).mono ?_
 rintro e w1 ⟨rfl,rfl⟩
 go_wp2_with (fail)
 go_ret2
 exact⟨_,rfl,((Below.refl _ _).alloc (Nat.le_refl _) _).alloc (by simp) _⟩
set_option maxHeartbeats 1000000 in
theorem qright_any (w:World):Calls Tryz.prog 35 #[.agg #[.int .i64 9,.int .i64 9]] w fun e w'=>e= .returned (.bool true)∧Below w.heap.size w w':=by
 go_enter Tryz.func35,Tryz.ntmps35
 go_wp2_with (fail)
 go_ret
 exact⟨by rfl,(Below.refl _ _).alloc (Nat.le_refl _) _⟩
set_option maxHeartbeats 1000000 in
theorem quotan_any (w:World):Calls Tryz.prog 69 #[.agg #[.int .i64 9,.int .i64 9]] w (NewC w):=by
 have HQ:=Lib.hid (fun W=>qright_any W)
 have HO:=Lib.hid (Own.new_at w [.int .i64 9,.int .i64 9] 47 _ rfl)
 go_enter Tryz.func69,Tryz.ntmps69
 go_wp2_with (fail)
 refine (HQ.out _).mono ?_
 rintro e w1 ⟨rfl,hb1⟩
 have HO1:=Lib.hid (HO.out.below hb1 (by simp))
 have HB1:Hid (Below w.heap.size w w1):=Lib.hid (((Below.refl _ _).alloc (Nat.le_refl _) _).trans (hb1.mono (by simp)))
 clear hb1 HQ HO
 have m0:=HO1.out.1 0 _ rfl
 have m1:=HO1.out.1 1 _ rfl
 go_wp2_with (fail)
 go_ret2
 exact⟨_,rfl,HB1.out.alloc HB1.out.size _⟩
def StoP (w:World) (e:Ending) (w':World):Prop:= ∃sb mb db sp,e= .returned (.tuple #[.pointer (some ⟨sb,0,none⟩),.int .i64 0])∧Own w' sb [.pointer (some ⟨db,0,none⟩),.pointer (some ⟨sp,0,none⟩),.map (some mb),.int .i64 0]∧Emp w' mb∧mb<sb∧w.heap.size≤mb∧sb<w'.heap.size∧Below w.heap.size w w'
set_option maxHeartbeats 1000000 in
theorem storen_any (w:World):Calls Tryz.prog 36 #[.int .i64 100] w (StoP w):=by
 have hmm:= @run_makeMap Tryz.prog
 have HD:=Lib.hid (fun W=>devn_any W)
 have HS:=Lib.hid (fun W=>spansn_any W)
 go_enter Tryz.func36,Tryz.ntmps36
 go_wp2_with (fail)
 refine (HD.out _).mono ?_
 rintro e w1 ⟨db,rfl,hb1⟩
 have HB1:=Lib.hid hb1
 clear hb1 HD
 go_wp2_with (fail)
 refine (HS.out _).mono ?_
 rintro e w2 ⟨sp,rfl,hb2⟩
 have HB2:=Lib.hid (HB1.out.trans (hb2.mono HB1.out.size))
 clear hb2 HS HB1
 go_wp2_with (fail)
 go_ret2
 obtain⟨w3,hw3⟩: ∃z,z=w2.alloc (.map #[] 0):=⟨_,rfl⟩
 have h3:Emp w3 w2.heap.size:=by rw[hw3];exact Emp.new w2
 have hs3:w3.heap.size=w2.heap.size+1:=by rw[hw3];simp
 have hb3:Below w2.heap.size w2 w3:=by rw[hw3];exact (Below.refl _ _).alloc (Nat.le_refl _) _
 obtain⟨cs,hcs⟩: ∃z:List Value,z=[.pointer (some ⟨db,0,none⟩),.pointer (some ⟨sp,0,none⟩),.map (some w2.heap.size),.int .i64 0]:=⟨_,rfl⟩
 obtain⟨w4,hw4⟩: ∃z,z=w3.alloc (.cells cs.toArray 134):=⟨_,rfl⟩
 have hs4:w4.heap.size=w2.heap.size+2:=by rw[hw4];simp[hs3]
 have hb4:Below w3.heap.size w3 w4:=by rw[hw4];exact (Below.refl _ _).alloc (Nat.le_refl _) _
 have ho:Own w4 (w2.heap.size+1) cs:=by rw[hw4];exact Own.new_at w3 _ _ _ hs3.symm
 rw[hcs] at hw4 ho
 rw[←hw3,←hw4]
 exact⟨w2.heap.size+1,w2.heap.size,db,sp,rfl,ho,h3.below hb4,by omega,HB2.out.size,by omega,HB2.out.trans ((hb3.trans (hb4.mono (by omega))).mono HB2.out.size)⟩
def TabP (w:World) (e:Ending) (w':World):Prop:= ∃tb m1 m2,e= .returned (.pointer (some ⟨tb,0,none⟩))∧Own w' tb [.slice none 0 0,.map (some m1),.map (some m2)]∧Emp w' m1∧Emp w' m2∧m1<m2∧m2<tb∧w.heap.size≤m1∧tb<w'.heap.size∧Below w.heap.size w w'
set_option maxHeartbeats 1000000 in
theorem tablen_any (w:World):Calls Tryz.prog 37 #[] w (TabP w):=by
 have hmm:= @run_makeMap Tryz.prog
 go_enter Tryz.func37,Tryz.ntmps37
 go_wp2_with (fail)
 go_ret
 obtain⟨w1,hw1⟩: ∃z,z=w.alloc (.map #[] 0):=⟨_,rfl⟩
 have h1:Emp w1 w.heap.size:=by rw[hw1];exact Emp.new w
 have hs1:w1.heap.size=w.heap.size+1:=by rw[hw1];simp
 have hb1:Below w.heap.size w w1:=by rw[hw1];exact (Below.refl _ _).alloc (Nat.le_refl _) _
 obtain⟨w2,hw2⟩: ∃z,z=w1.alloc (.map #[] 0):=⟨_,rfl⟩
 have h2:Emp w2 (w.heap.size+1):=by rw[hw2,←hs1];exact Emp.new w1
 have hs2:w2.heap.size=w.heap.size+2:=by rw[hw2];simp[hs1]
 have hb2:Below w1.heap.size w1 w2:=by rw[hw2];exact (Below.refl _ _).alloc (Nat.le_refl _) _
 obtain⟨cs,hcs⟩: ∃z:List Value,z=[.slice none 0 0,.map (some w.heap.size),.map (some (w.heap.size+1))]:=⟨_,rfl⟩
 obtain⟨w3,hw3⟩: ∃z,z=w2.alloc (.cells cs.toArray 138):=⟨_,rfl⟩
 have hs3:w3.heap.size=w.heap.size+3:=by rw[hw3];simp[hs2]
 have hb3:Below w2.heap.size w2 w3:=by rw[hw3];exact (Below.refl _ _).alloc (Nat.le_refl _) _
 have ho:Own w3 (w.heap.size+2) cs:=by rw[hw3];exact Own.new_at w2 _ _ _ hs2.symm
 have hb:=hb1.trans ((hb2.trans (hb3.mono (by omega))).mono (by omega))
 have h1':=(h1.below hb2).below hb3
 have h2':=h2.below hb3
 rw[hcs] at hw3 ho
 rw[←hw1,←hw2,←hw3]
 exact⟨w.heap.size+2,w.heap.size,w.heap.size+1,rfl,ho,h1',h2',by omega,by omega,Nat.le_refl _,by omega,hb⟩
def RngP (w:World) (e:Ending) (w':World):Prop:= ∃rb r1 r2,e= .returned (.pointer (some ⟨rb,0,none⟩))∧Own w' rb [.slice none 0 0,.map (some r1),.map (some r2),.int .i64 0]∧Emp w' r1∧r1<rb∧w.heap.size≤r1∧rb<w'.heap.size∧Below w.heap.size w w'
set_option maxHeartbeats 1000000 in
theorem turnsn_any (w:World):Calls Tryz.prog 38 #[] w (RngP w):=by
 have hmm:= @run_makeMap Tryz.prog
 go_enter Tryz.func38,Tryz.ntmps38
 go_wp2_with (fail)
 go_ret
 obtain⟨w1,hw1⟩: ∃z,z=w.alloc (.map #[] 0):=⟨_,rfl⟩
 have h1:Emp w1 w.heap.size:=by rw[hw1];exact Emp.new w
 have hs1:w1.heap.size=w.heap.size+1:=by rw[hw1];simp
 have hb1:Below w.heap.size w w1:=by rw[hw1];exact (Below.refl _ _).alloc (Nat.le_refl _) _
 obtain⟨w2,hw2⟩: ∃z,z=w1.alloc (.map #[] 0):=⟨_,rfl⟩
 have h2:Emp w2 (w.heap.size+1):=by rw[hw2,←hs1];exact Emp.new w1
 have hs2:w2.heap.size=w.heap.size+2:=by rw[hw2];simp[hs1]
 have hb2:Below w1.heap.size w1 w2:=by rw[hw2];exact (Below.refl _ _).alloc (Nat.le_refl _) _
 obtain⟨cs,hcs⟩: ∃z:List Value,z=[.slice none 0 0,.map (some w.heap.size),.map (some (w.heap.size+1)),.int .i64 0]:=⟨_,rfl⟩
 obtain⟨w3,hw3⟩: ∃z,z=w2.alloc (.cells cs.toArray 142):=⟨_,rfl⟩
 have hs3:w3.heap.size=w.heap.size+3:=by rw[hw3];simp[hs2]
 have hb3:Below w2.heap.size w2 w3:=by rw[hw3];exact (Below.refl _ _).alloc (Nat.le_refl _) _
 have ho:Own w3 (w.heap.size+2) cs:=by rw[hw3];exact Own.new_at w2 _ _ _ hs2.symm
 have hb:=hb1.trans ((hb2.trans (hb3.mono (by omega))).mono (by omega))
 have h1':=(h1.below hb2).below hb3
 have h2':=h2.below hb3
 rw[hcs] at hw3 ho
 rw[←hw1,←hw2,←hw3]
 exact⟨w.heap.size+2,w.heap.size,w.heap.size+1,rfl,ho,h1',by omega,Nat.le_refl _,by omega,hb⟩
end Go.Proofs.YtmdgeoalamancaaGreatDoor
namespace Go.Proofs.YtmdgeoalamancaaGreatDoor
open Go.RowKit Go.Maps Go.WideMaps
open Bt Can Mc
def sA:ByteArray:=⟨#[97]⟩
set_option maxHeartbeats 1000000 in
theorem dec_a (w:World):Calls Tryz.prog 174 #[.string sA] w fun e w'=>e= .returned (.tuple #[.int .i32 97,.int .i64 1])∧ ∃n,w'=w.drewN n:=by
 unfold sA
 go_enter Tryz.func174,Tryz.ntmps174
 go_wp2_with (fail)
 go_ret2
 exact⟨by rfl,0,rfl⟩
set_option maxHeartbeats 1000000 in
theorem rune_a (w:World):Calls Tryz.prog 140 #[.string sA] w fun e w'=>e= .returned (.tuple #[.int .i32 97,.int .i64 1,.bool true])∧ ∃n,w'=w.drewN n:=by
 have HD:=Lib.hid (fun W=>dec_a W)
 go_enter Tryz.func140,Tryz.ntmps140
 go_wp2_with (fail)
 refine (HD.out _).mono ?_
 rintro e w1 ⟨rfl,n,rfl⟩
 go_wp2_with (fail)
 go_ret3
 exact⟨by rfl,n,rfl⟩
set_option maxHeartbeats 1000000 in
theorem utf_a (w:World):Calls Tryz.prog 110 #[.string sA] w fun e w'=>e= .returned (.bool true)∧ ∃n,w'=w.drewN n:=by
 have HD:=Lib.hid (fun W=>rune_a W)
 have hE:sA.size=1:=rfl
 go_enter Tryz.func110,Tryz.ntmps110
 go_wp2_with (fail)
 refine wp_loop_rounds 2 ?_
 rw[rounds_succ]
 go_wp2_with (fail)
 refine (HD.out _).mono ?_
 rintro e w1 ⟨rfl,n,rfl⟩
 go_wp2_with (fail)
 rw[rounds_succ]
 go_wp2_with (fail)
 go_ret
 exact⟨by rfl,n,rfl⟩
set_option maxHeartbeats 1000000 in
theorem count_a (w:World):Calls Tryz.prog 192 #[.string sA,.string ⟨#[47]⟩] w fun e w'=>e= .returned (.int .i64 0)∧ ∃n,w'=w.drewN n:=by
 go_enter Tryz.func192,Tryz.ntmps192
 go_wp2_with (fail)
 rw[run_callFunc_extern Tryz.func206 (by kernel_rfl) (by kernel_rfl) (by kernel_rfl) (e:=Extern.BytealgCount.count) (by kernel_rfl),Lib.run_countString]
 simp only[Result.andThen]
 rw[Oper.upon_value]
 go_wp2_with (fail)
 go_ret
 exact⟨by rfl,0,rfl⟩
theorem info_st:(Tryz.prog.info? 9).map (fun i=>(i.zero,i.size,i.bytes))=some (some (.string ⟨#[]⟩),1,16):=by kernel_rfl
theorem hmkS1 (W:World):(Instr.makeSlice 196 (.int .i64 1) (.int .i64 1)).run Tryz.prog W= .ok (.slice (some ⟨W.heap.size,0,none⟩) 1 1) (W.alloc (.cells #[.string ⟨#[]⟩] 9)):=by
 obtain⟨i0,hi,hz0,hz1,hz2⟩:=info_parts info_st
 have:=run_makeSlice (P:=Tryz.prog) W 196 9 i0 (.string ⟨#[]⟩) Tryz.underlying196 hi hz0 .i64 .i64 ((1:Nat):Int) ((1:Nat):Int) (by omega) (Int.le_refl _) (by rw[hz1];omega) (by rw[hz2];omega) (by omega)
 rw[hz1,made_one 1 _ rfl] at this
 exact this
def StrA (w:World) (v:Value):Prop:= ∃b cap,v= .slice (some ⟨b,0,none⟩) 1 cap∧w.cell? ⟨b,0,none⟩=some (.string sA)∧b<w.heap.size
set_option maxHeartbeats 1000000 in
theorem gen_a (w:World):Calls Tryz.prog 175 #[.string sA,.string ⟨#[47]⟩,.int .i64 0,.int .i64 (-1)] w fun e w'=> ∃v,e= .returned v∧StrA w' v∧Below w.heap.size w w':=by
 have HC:=Lib.hid (fun W=>count_a W)
 have hE:sA.size=1:=rfl
 have hmk:=hmkS1
 go_enter Tryz.func175,Tryz.ntmps175
 go_wp2_with (fail)
 refine (HC.out _).mono ?_
 rintro e w1 ⟨rfl,n,rfl⟩
 have HB:Hid (Below w.heap.size w (w.drewN n)):=Lib.hid (below_drewN (Below.refl _ _) n)
 generalize w.drewN n=w1 at*
 go_wp2_with (fail)
 refine wp_loop_rounds 1 ?_
 rw[rounds_succ]
 go_wp2_with (fail)
 go_ret
 obtain⟨w2,hw2⟩: ∃z:World,z=w1.alloc (.cells #[.string sA] 9):=⟨_,rfl⟩
 have hb2:Below w1.heap.size w1 w2:=by rw[hw2];exact (Below.refl _ _).alloc (Nat.le_refl _) _
 have hk2:w2.cell? ⟨w1.heap.size,0,none⟩=some (.string sA):=by rw[hw2,World.cell?_alloc_at _ _ _ _ rfl];rfl
 have hs2:w1.heap.size<w2.heap.size:=by rw[hw2];simp
 have hE2: ∀x:World,x=w1.alloc (.cells #[.string sA] 9)→x=w2:=fun x h=>h.trans hw2.symm
 clear hw2
 refine⟨_,rfl,?_,?_⟩
 ·rw[hE2 _ rfl]
  exact⟨_,_,rfl,hk2,hs2⟩
 ·rw[hE2 _ rfl]
  exact HB.out.trans (hb2.mono HB.out.size)
def CkA (w:World) (e:Ending) (w':World):Prop:=e= .returned (.int .i64 0)∧Below w.heap.size w w'
set_option maxHeartbeats 1000000 in
theorem parts_a (w:World):Calls Tryz.prog 111 #[.string sA] w fun e w'=> ∃v,e= .returned v∧StrA w' v∧Below w.heap.size w w':=by
 have HG:=Lib.hid (fun W=>gen_a W)
 have HS:Hid (∀W:World,Calls Tryz.prog 141 #[.string sA,.string ⟨#[47]⟩] W fun e w'=> ∃v,e= .returned v∧StrA w' v∧Below W.heap.size W w'):=Lib.hid (fun W=>by
  go_enter Tryz.func141,Tryz.ntmps141
  go_wp2_with (fail)
  refine (HG.out _).mono ?_
  rintro e w1 ⟨v,rfl,hv,hb⟩
  have HX:=Lib.hid (And.intro hv hb)
  clear hv hb
  go_wp2_with (fail)
  go_ret
  exact⟨_,rfl,HX.out⟩)
 clear HG
 go_enter Tryz.func111,Tryz.ntmps111
 go_wp2_with (fail)
 refine (HS.out _).mono ?_
 rintro e w1 ⟨v,rfl,hv,hb⟩
 have HX:=Lib.hid (And.intro hv hb)
 clear hv hb
 go_wp2_with (fail)
 go_ret
 exact⟨_,rfl,HX.out⟩
set_option maxHeartbeats 4000000 in
theorem check_a (w:World):Calls Tryz.prog 68 #[.string sA] w (CkA w):=by
 have HU:=Lib.hid (fun W=>utf_a W)
 have HP:=Lib.hid (fun W=>parts_a W)
 have hE:sA.size=1:=rfl
 have m0:sA.toList=[97]:=by kernel_rfl
 have hb:(sA[0]'(by decide)).toNat=97:=by kernel_rfl
 go_enter Tryz.func68,Tryz.ntmps68
 go_wp2_with (fail)
 refine (HU.out _).mono ?_
 rintro e w1 ⟨rfl,n,rfl⟩
 have HB:Hid (Below w.heap.size w (w.drewN n)):=Lib.hid (below_drewN (Below.refl _ _) n)
 generalize w.drewN n=w1 at*
 go_wp2_with (fail)
 refine wp_loop_rounds 2 ?_
 rw[rounds_succ]
 go_wp2_with (fail)
 rw[rounds_succ]
 go_wp2_with (fail)
 refine (HP.out _).mono ?_
 rintro e w2 ⟨v,rfl,⟨b,cap,rfl,k0,hlt⟩,hb2⟩
 have HB2:=Lib.hid (HB.out.trans (hb2.mono HB.out.size))
 clear hb2 HB HU HP
 go_wp2_with (fail)
 refine wp_loop_rounds 2 ?_
 rw[rounds_succ]
 go_wp2_with (fail)
 rw[rounds_succ]
 go_wp2_with (fail)
 go_ret
 exact⟨by rfl,HB2.out⟩
end Go.Proofs.YtmdgeoalamancaaGreatDoor
