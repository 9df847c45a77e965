/- The machine: runs of lengths, and the codes that they make. -/
import Derived.Test.YtmdgeoalamancaaGreatDoorZAL
set_option maxRecDepth 100000
set_option linter.unusedVariables false
set_option linter.unusedSimpArgs false
namespace Go.Proofs.YtmdgeoalamancaaGreatDoor
open Go.RowKit
open Bt Can Mc
theorem ext_le (s:Nat):Rn.ext s≤7:=by
 unfold Rn.ext
 split
 ·omega
 split
 ·omega
 split<;>omega
theorem row_partI {w:World} {base g n cap off m:Nat} {xs ys:List Nat} (h:Row base 3 1 w (.slice (some ⟨g,0,none⟩) n cap) n (iC xs)) (hn:n=xs.length) (hy:ys.length=m) (hm:off+m≤n) (hxy: ∀j x:Nat,ys[j]? =some x→xs[off+j]? =some x):Sl w w.heap.size 1 (.slice (some ⟨g,off,none⟩) m (cap-off)) m (iC ys):=by
 have hlt:=h.lt g rfl
 obtain⟨_,cap',hv,hc⟩:=h.form
 injection hv with _ _ hv
 subst hv
 refine⟨by rw[iC_len,hy,Nat.mul_one],_,_,rfl,by omega,.inr ⟨g,off,rfl,hlt.2,fun j u hj=> ?_⟩⟩
 have hj2:j<m:=by
  have:=(List.getElem?_eq_some_iff.1 hj).1
  rw[iC_len] at this
  omega
 obtain⟨x,hx⟩: ∃x,ys[j]? =some x:=⟨_,List.getElem?_eq_getElem (by omega)⟩
 have:=sl_same h.sl (by omega) (off+j) _ (iC_get (hxy j x hx))
 rw[iC_get hx] at hj
 injection hj with hj
 rw[←hj]
 rw[Nat.zero_add] at this
 exact this
section
variable {mb rb wb:Nat} {RF S:List Nat} {vo:Value} {q:Qv} {f:Bool} {T:List Nat} {R:List Bool} {O:List Nat}
set_option maxHeartbeats 8000000 in
theorem codes_yes (nl nd s:Nat) (tb ls:List Nat) (w:World) (h:Maq w mb rb wb RF S vo q ⟨f,T,.runX nl nd tb ls s⟩ R O) (h1:257≤nl) (hnd:1≤nd) (hlen:ls.length=nl+nd) (hend:len ls 256≠0) (hL:May (ls.take nl) 1) (hD:May (ls.drop nl) 2):Calls Tryz.prog 102 #[.pointer (some ⟨mb,0,none⟩)] w (Yes (mb::(RF++wb::(obk vo++S))) mb ⟨f,T,.sym (ls.take nl) (ls.drop nl)⟩ R O w):=by
 obtain⟨e0,e1,e2,⟨t0,F0,e3,e3',e3''⟩,e4,e5,e6,e7,e8⟩:=h.st
 obtain⟨c,hg⟩: ∃c g,q.lens= .slice (some ⟨g,0,none⟩) ls.length c:=by
  rcases row_form e4 with ⟨_,h0,_⟩|⟨g,cap,hv,_⟩
  ·omega
  ·exact⟨cap,g,hv⟩
 obtain⟨g,hg⟩:=hg
 obtain⟨n,hn⟩: ∃z,ls.length=z:=⟨_,rfl⟩
 rw[hn] at hg hlen e5
 rw[hg,hn] at e4
 have hcap:n≤c:=by
  obtain⟨_,c',hv,hc⟩:=e4.form
  injection hv with _ _ hv
  omega
 have HROW:=Lib.hid e4
 have HM:=Lib.hid h
 have HLN:=Lib.hid hn
 have hgS:g∈S:=e3'' g (by rw[List.mem_append];exact .inr (by rw[hg];exact mem_obk.2 rfl))
 have hmg:mb≠g:=fun e=>h.sep.2 0 4 mb (by decide) (by simp) (by show mb∈S;rw[e];exact hgS)
 have k14:=h.own.1 14 (.slice (some ⟨g,0,none⟩) n c) (by rw[←hg];rfl)
 have k8:=h.own.1 8 (.int .i64 (nl:Nat)) (by rw[←e1];rfl)
 have hi1:(nl:Int)≤(n:Int):=by omega
 have hi2:(nl:Int)≤(c:Int):=by omega
 have hi3:nl≤n:=by omega
 have hi4:nl≤c:=by omega
 have hi5: ¬(c=nl):=by omega
 have hi6:(256:Int)<(nl:Int):=by omega
 have hx:ls[256]? =some (len ls 256):=by
  unfold len
  rw[List.getD_eq_getElem?_getD,List.getElem?_eq_getElem (by omega)]
  rfl
 obtain⟨X,hX⟩: ∃z,len ls 256=z:=⟨_,rfl⟩
 rw[hX] at hx hend
 have d1:((X:Int)==0)=false:=by rw[beq_eq_false_iff_ne];omega
 have d1':(X==0)=false:=by rw[beq_eq_false_iff_ne];exact hend
 have HX:=Lib.hid hx
 have HQ:=Lib.hid e0
 have hnn:n-nl=nd:=by omega
 have HNN:=Lib.hid hlen
 have HCAP:=Lib.hid hcap
 clear h e0 e1 e2 e3 e3' e3'' e4 e5 e8 hg hX hx hn hlen hcap
 go_enter Tryz.func102,Tryz.ntmps102
 go_upto_region 1 with (fail)
 go_quiet (fail)
 have HM1:=Lib.hid (HM.out.below (below_drewN (Below.refl _ _) nq))
 have HR1:=Lib.hid (HROW.out.below (below_drewN (Below.refl _ _) nq))
 have HF1:=Lib.hid ((Fr.refl (mb::(RF++wb::(obk vo++S))) w).drewN nq)
 clear k14 k8 hi1 hi2 hi5
 generalize w.drewN nq=w1 at*
 have k256:=sl_same HR1.out.sl (by omega) 256 _ (iC_get HX.out)
 rw[Nat.zero_add] at k256
 have HN1:=Lib.hid (new_any (ls.take nl) nl 1 (.slice (some ⟨g,0,none⟩) nl c) w1.heap.size w1 (by
  have:=row_partI (off:=0) (m:=nl) (ys:=ls.take nl) HR1.out HLN.out.symm (by rw[List.length_take,HLN.out];omega) (by omega) (fun j x hj=>by
   rw[Nat.zero_add]
   have hj2:=(List.getElem?_eq_some_iff.1 hj).1
   rw[List.length_take] at hj2
   rw[List.getElem?_take,if_pos (by omega)] at hj
   exact hj)
  exact this) (Nat.le_refl _) (by rw[List.length_take,HLN.out];omega) (by omega) hL (by decide))
 go_wp2_with (fail)
 refine HN1.out.mono ?_
 rintro e w2 ⟨t1,F1,rfl,ht1,hn1,hb2⟩
 have HM2:=Lib.hid (HM1.out.grow (F1:=F1) hb2 (fun k hk=>⟨hn1 k hk,ht1.lt k hk⟩))
 have HF2:=Lib.hid (HF1.out.trans (Fr.of_below (F:=[]) hb2) (fun x hx _=>by cases hx))
 have HT2:=Lib.hid ht1
 have HR2:=Lib.hid (HR1.out.below hb2)
 have HNN1:=Lib.hid (fun k hk=>Nat.le_trans HF1.out.size (hn1 k hk))
 clear ht1 hn1 hb2 HN1 HM1 HF1 HR1 k256 hi6 hi4 hi3 d1 d1'
 have k15:=HM2.out.own.1 15 _ rfl
 have f15:=HM2.out.own.2 15
 go_upto_region 8 with (fail)
 have hf3:Fr [mb] w2 (w2.setCell ⟨mb,15,none⟩ (.pointer (some ⟨t1,0,none⟩))):=(Fr.refl _ _).setCell (p:=⟨mb,15,none⟩) (.inl (by simp)) _
 have hnm: ∀k∈F1,k ∉ [mb]:=fun k hk hg=>by
  rw[List.mem_singleton.1 hg] at hk
  exact HM2.out.sep.2 4 0 mb (by decide) (by simp[hk]) (by simp)
 have HT3:=Lib.hid (HT2.out.fr hf3 hnm)
 have HR3:=Lib.hid (HR2.out.fr hf3 (fun k hk=>by rw[mem_obk] at hk;simp[Value.ownBlock] at hk;subst hk;simpa using fun e=>hmg e.symm))
 have HF3:=Lib.hid (HF2.out.trans hf3 (fun x hx _=>by simp[List.mem_singleton.1 hx]))
 have HM3:=Lib.hid (HM2.out.set (q':={q with lits:= .pointer (some ⟨t1,0,none⟩)}) (f':=f) (st':= .runX nl nd tb ls s) 15 (.pointer (some ⟨t1,0,none⟩)) rfl (by decide) HM2.out.st)
 clear k15 f15 HM2 HF2 HT2 HR2 hf3 hnm
 generalize w2.setCell ⟨mb,15,none⟩ (.pointer (some ⟨t1,0,none⟩))=w3 at*
 have HN3:=Lib.hid (new_any (ls.drop nl) nd 2 (.slice (some ⟨g,nl,none⟩) nd (c-nl)) w3.heap.size w3 (row_partI (off:=nl) (m:=nd) (ys:=ls.drop nl) HR3.out HLN.out.symm (by rw[List.length_drop,HLN.out];exact hnn) (by have:=HNN.out;omega) (fun j x hj=>by rw[List.getElem?_drop] at hj;exact hj)) (Nat.le_refl _) (by rw[List.length_drop,HLN.out];exact hnn.symm) (by omega) hD (by decide))
 go_wp2_with (fail)
 refine HN3.out.mono ?_
 rintro e w4 ⟨t2,F2,rfl,ht2,hn2,hb4⟩
 have HM4:=Lib.hid (HM3.out.grow (F1:=F2) hb4 (fun k hk=>⟨hn2 k hk,ht2.lt k hk⟩))
 have HF4:=Lib.hid (HF3.out.trans (Fr.of_below (F:=[]) hb4) (fun x hx _=>by cases hx))
 have HT4:=Lib.hid (HT3.out.below hb4)
 have HU4:=Lib.hid ht2
 have HNN2:=Lib.hid (fun k hk=>Nat.le_trans HF3.out.size (hn2 k hk))
 clear ht2 hn2 hb4 HN3 HM3 HF3 HR3 HT3
 have k16:=HM4.out.own.1 16 _ rfl
 have f16:=HM4.out.own.2 16
 go_upto_region 11 with (fail)
 have hf5:Fr [mb] w4 (w4.setCell ⟨mb,16,none⟩ (.pointer (some ⟨t2,0,none⟩))):=(Fr.refl _ _).setCell (p:=⟨mb,16,none⟩) (.inl (by simp)) _
 have hnm: ∀k∈F1++F2,k ∉ [mb]:=fun k hk hg=>by
  rw[List.mem_singleton.1 hg] at hk
  exact HM4.out.sep.2 4 0 mb (by decide) (by rcases List.mem_append.1 hk with hk|hk<;>simp[hk]) (by simp)
 have HNM:=Lib.hid hnm
 have HT5:=Lib.hid (HT4.out.fr hf5 (fun k hk=>hnm k (by simp[hk])))
 have HU5:=Lib.hid (HU4.out.fr hf5 (fun k hk=>hnm k (by simp[hk])))
 have HF5:=Lib.hid (HF4.out.trans hf5 (fun x hx _=>by simp[List.mem_singleton.1 hx]))
 have HM5:=Lib.hid (HM4.out.set (q':={q with lits:= .pointer (some ⟨t1,0,none⟩),dists:= .pointer (some ⟨t2,0,none⟩)}) (f':=f) (st':= .runX nl nd tb ls s) 16 (.pointer (some ⟨t2,0,none⟩)) rfl (by decide) HM4.out.st)
 clear k16 f16 HM4 HF4 HT4 HU4 hf5 hnm
 generalize w4.setCell ⟨mb,16,none⟩ (.pointer (some ⟨t2,0,none⟩))=w5 at*
 have k8:=HM5.out.own.1 8 _ rfl
 have k9:=HM5.out.own.1 9 _ rfl
 have k10:=HM5.out.own.1 10 _ rfl
 have k11:=HM5.out.own.1 11 _ rfl
 have k12:=HM5.out.own.1 12 _ rfl
 have k13:=HM5.out.own.1 13 _ rfl
 have k14:=HM5.out.own.1 14 _ rfl
 have f8:=HM5.out.own.2 8
 have f9:=HM5.out.own.2 9
 have f10:=HM5.out.own.2 10
 have f11:=HM5.out.own.2 11
 have f12:=HM5.out.own.2 12
 have f13:=HM5.out.own.2 13
 have f14:=HM5.out.own.2 14
 go_upto_region 12 with (fail)
 have hf6:Fr [mb] w5 (((((((w5.setCell ⟨mb,8,none⟩ (.int .i64 0)).setCell ⟨mb,9,none⟩ (.int .i64 0)).setCell ⟨mb,10,none⟩ (.int .i64 0)).setCell ⟨mb,11,none⟩ (.int .i64 0)).setCell ⟨mb,12,none⟩ (.slice none 0 0)).setCell ⟨mb,13,none⟩ (.pointer none)).setCell ⟨mb,14,none⟩ (.slice none 0 0)):=
  (((((((Fr.refl _ _).setCell (p:=⟨mb,8,none⟩) (.inl (by simp)) _).setCell (p:=⟨mb,9,none⟩) (.inl (by simp)) _).setCell (p:=⟨mb,10,none⟩) (.inl (by simp)) _).setCell (p:=⟨mb,11,none⟩) (.inl (by simp)) _).setCell (p:=⟨mb,12,none⟩) (.inl (by simp)) _).setCell (p:=⟨mb,13,none⟩) (.inl (by simp)) _).setCell (p:=⟨mb,14,none⟩) (.inl (by simp)) _
 have ho6:=((((((HM5.out.own.set 8 (.int .i64 0) (by simp[mcs])).set 9 (.int .i64 0) (by simp[mcs])).set 10 (.int .i64 0) (by simp[mcs])).set 11 (.int .i64 0) (by simp[mcs])).set 12 (.slice none 0 0) (by simp[mcs])).set 13 (.pointer none) (by simp[mcs])).set 14 (.slice none 0 0) (by simp[mcs])
 have HF6:=Lib.hid hf6
 have HO6:=Lib.hid ho6
 clear k8 k9 k10 k11 k12 k13 k14 f8 f9 f10 f11 f12 f13 f14 hf6 ho6
 generalize (((((((w5.setCell ⟨mb,8,none⟩ (.int .i64 0)).setCell ⟨mb,9,none⟩ (.int .i64 0)).setCell ⟨mb,10,none⟩ (.int .i64 0)).setCell ⟨mb,11,none⟩ (.int .i64 0)).setCell ⟨mb,12,none⟩ (.slice none 0 0)).setCell ⟨mb,13,none⟩ (.pointer none)).setCell ⟨mb,14,none⟩ (.slice none 0 0))=w6 at*
 have HG:=Lib.hid (goOn_any 7 _ w6 HO6.out rfl)
 go_wp2_with (fail)
 refine HG.out.mono ?_
 rintro e w7 ⟨rfl,rfl⟩
 go_wp2_with (fail)
 go_ret
 have hf7:Fr [mb] w5 (w6.setCell ⟨mb,5,none⟩ (.int .i64 7)):=HF6.out.setCell (p:=⟨mb,5,none⟩) (.inl (by simp)) _
 refine Yes.of (S':=F2++(F1++S)) (HM5.out.cells (q':={q with stage:= .int .i64 7,hl:= .int .i64 0,hd:= .int .i64 0,many:= .int .i64 0,told:= .int .i64 0,sh:= .slice none 0 0,tbl:= .pointer none,lens:= .slice none 0 0,lits:= .pointer (some ⟨t1,0,none⟩),dists:= .pointer (some ⟨t2,0,none⟩)}) (f':=f) (st':= .sym (ls.take nl) (ls.drop nl)) hf7 (fun k hk=> .inl (List.mem_singleton.1 hk)) (HO6.out.set 5 _ (by simp[mcs])) ⟨rfl,t1,F1,t2,F2,rfl,rfl,HT5.out.fr hf7 (fun k hk=>HNM.out k (by simp[hk])),HU5.out.fr hf7 (fun k hk=>HNM.out k (by simp[hk])),fun k hk=>by rcases List.mem_append.1 hk with hk|hk<;>simp[hk]⟩ (fun k hk=>⟨Nat.lt_of_lt_of_le (HM5.out.sep.1 4 k hk) hf7.size,.inl hk⟩)) ⟨HF5.out.trans hf7 (fun x hx _=>by simp[List.mem_singleton.1 hx]),New.stage (fun k hk=> ?_)⟩
 rcases List.mem_append.1 hk with hk|hk
 ·exact .inr (HNN2.out k hk)
 rcases List.mem_append.1 hk with hk|hk
 ·exact .inr (HNN1.out k hk)
 ·exact .inl hk
set_option maxHeartbeats 4000000 in
theorem run_no (nl nd s:Nat) (tb ls:List Nat) (w:World) (h:Maq w mb rb wb RF S vo q ⟨f,T,.runX nl nd tb ls s⟩ R O) (hs:s≤18) (hR:R.length<Rn.ext s):Calls Tryz.prog 59 #[.pointer (some ⟨mb,0,none⟩)] w (No (mb::(RF++wb::(obk vo++S))) mb ⟨f,T,.runX nl nd tb ls s⟩ R O w):=by
 have k1:=h.own.1 1 _ rfl
 have k17:=h.own.1 17 (.int .i64 (s:Nat)) (by rw[←h.st.2.2.2.2.2.2.2.2];rfl)
 have h7:Rn.ext s≤7:=ext_le s
 have HRB:=Lib.hid (fun W=>rbits_any s hs W)
 obtain⟨X,hX⟩: ∃z,Rn.ext s=z:=⟨_,rfl⟩
 rw[hX] at hR h7 HRB
 have HB:=Lib.hid (fun (W:World) (hW:Below w.heap.size w W)=>bits_no RF rb R X W (h.rd.below hW) (by omega) hR)
 have HM:=Lib.hid h
 clear h hX
 go_enter Tryz.func59,Tryz.ntmps59
 go_upto_region 1 with (fail)
 go_region_with ((first
  |(go_at_call 100
    refine (HRB.out _).mono ?_
    rintro x w3 ⟨rfl,rfl⟩)
  |(go_at_call 86
    refine (HB.out _ (Below.refl _ _).drew).mono ?_
    rintro x w4 ⟨rfl,hb4⟩
    have HB4:=Lib.hid ((Below.refl w.heap.size w).drew.trans hb4)
    clear hb4 k1 k17)))
 all_goals
  go_wp2_with (fail)
  go_ret
  exact⟨by rfl,(HM.out.below HB4.out).ma,Fr.of_below HB4.out⟩
def RunP (F:List Nat) (mb nl nd:Nat) (f:Bool) (T tb L2:List Nat) (R':List Bool) (O':List Nat) (w:World) (x:Ending) (w':World):Prop:=(L2.length<nl+nd→Yes F mb ⟨f,T,.run nl nd tb L2⟩ R' O' w x w')∧(L2.length=nl+nd→Yes F mb ⟨f,T,.sym (L2.take nl) (L2.drop nl)⟩ R' O' w x w')
theorem Yes.pre {F F1:List Nat} {c':Cfg} {R':List Bool} {O':List Nat} {w w1 w2:World} {x:Ending} (h:Mv F w F1 w1) (k:Yes F1 mb c' R' O' w1 x w2):Yes F mb c' R' O' w x w2:=by
 obtain⟨h1,F2,h2,h3⟩:=k
 exact⟨h1,F2,h2,h.trans h3⟩
set_option maxHeartbeats 8000000 in
theorem run_yes (nl nd s e:Nat) (tb ls:List Nat) (w:World) (h:Maq w mb rb wb RF S vo q ⟨f,T,.runX nl nd tb ls s⟩ R O) (hs:s≤18) (hR:Rn.ext s≤R.length) (he:e<2^Rn.ext s) (hv:val (R.take (Rn.ext s))=e) (h16:s=16→ls≠[]) (hl:(Rn.add ls (s,e)).length≤nl+nd) (hcase:(Rn.add ls (s,e)).length=nl+nd→257≤nl∧1≤nd∧len (Rn.add ls (s,e)) 256≠0∧May ((Rn.add ls (s,e)).take nl) 1∧May ((Rn.add ls (s,e)).drop nl) 2):Calls Tryz.prog 59 #[.pointer (some ⟨mb,0,none⟩)] w (RunP (mb::(RF++wb::(obk vo++S))) mb nl nd f T tb (Rn.add ls (s,e)) (R.drop (Rn.ext s)) O w):=by
 obtain⟨e0,e1,e2,⟨t0,F0,e3,e3',e3''⟩,e4,e5,e6,e7,e8⟩:=h.st
 have k1:=h.own.1 1 _ rfl
 have k17:=h.own.1 17 (.int .i64 (s:Nat)) (by rw[←e8];rfl)
 have h7:Rn.ext s≤7:=ext_le s
 have h256:e<4294967296:=by have:=Nat.pow_le_pow_right (show 0<2 by decide) h7;omega
 have HRB:=Lib.hid (fun W=>rbits_any s hs W)
 have HL:=Lib.hid hl
 have hl316:nl+nd≤316:=by omega
 have HHE:=Lib.hid he
 obtain⟨X,hX⟩: ∃z,Rn.ext s=z:=⟨_,rfl⟩
 have HXX:=Lib.hid hX
 rw[hX] at hR h7 HRB hv ⊢
 have HCS:=Lib.hid hcase
 have hB:=fun (W:World) (hW:Below w.heap.size w W)=>bits_yes RF rb R X W (h.rd.below hW) (by omega) hR
 rw[hv] at hB
 have HB:=Lib.hid hB
 have HM0:=Lib.hid h
 have y1:IntKind.i64.wrap (e:Int)=(e:Int):=IntWalk.i64_in _ (by omega)
 have y2:IntKind.i64.wrap ((nl:Int)+(nd:Int))=((nl+nd:Nat):Int):=by rw[IntWalk.i64_in _ (by omega)];omega
 have H16:=Lib.hid h16
 have HE:=Lib.hid (show q.hl= .int .i64 (nl:Nat)∧q.hd= .int .i64 (nd:Nat)∧q.sym= .int .i64 (s:Nat) from⟨e1,e2,e8⟩)
 have hM1000:nl+nd≤1000:=by omega
 have H316:=Lib.hid hl316
 clear h hv hX hB e0 e1 e2 e3 e3' e3'' e4 e5 e6 e7 e8 h7 he hl h16 hcase hl316
 go_enter Tryz.func59,Tryz.ntmps59
 go_upto_region 1 with (fail)
 go_region_with ((first
  |(go_at_call 100
    refine (HRB.out _).mono ?_
    rintro x w3 ⟨rfl,rfl⟩)
  |(go_at_call 86
    refine (HB.out _ (Below.refl _ _).drew).mono ?_
    rintro x w4 ⟨rfl,hr4,hf4⟩
    have HM4:=Lib.hid ((HM0.out.below (Below.refl _ _).drew).read1 hr4 hf4)
    have HF4:=Lib.hid (((Fr.refl (mb::(RF++wb::(obk vo++S))) w).drew).trans hf4 (fun x hx _=>by rw[List.mem_singleton.1 hx];exact HM0.out.foot.2.1))
    clear hr4 hf4 k1 k17)))
 all_goals
  obtain⟨MX,hMX⟩: ∃z,nl+nd=z:=⟨_,rfl⟩
  rw[hMX] at y2 hM1000
  have HMX:=Lib.hid hMX
  clear hMX
  have k8:=HM4.out.own.1 8 (.int .i64 (nl:Nat)) (by rw[←HE.out.1];rfl)
  have k9:=HM4.out.own.1 9 (.int .i64 (nd:Nat)) (by rw[←HE.out.2.1];rfl)
  go_upto_region 4 with (fail)
  go_quiet (fail)
  have HM5:=Lib.hid (HM4.out.below (below_drewN (Below.refl _ _) nq))
  have HF5:=Lib.hid (HF4.out.drewN nq)
  clear k8 k9 HM4 HF4
  generalize w4.drewN nq=w5 at*
  have k17:=HM5.out.own.1 17 (.int .i64 (s:Nat)) (by rw[←HE.out.2.2];rfl)
  obtain⟨la,lc,hlv,_⟩:=HM5.out.st.2.2.2.2.1.form
  have HLV:=Lib.hid hlv
  have k14:=HM5.out.own.1 14 (.slice la ls.length lc) (by rw[←hlv];rfl)
  have hRW:=HM5.out.st.2.2.2.2.1
  rw[hlv] at hRW
  have HAD:=Lib.hid (fun (W:World) (hW:Below w5.heap.size w5 W)=>add_any ls s e MX _ ls.length _ W (hRW.sl.below hW) hW.size rfl hs HHE.out H16.out (by have:=HL.out;rw[←HMX.out];omega) hM1000)
  obtain⟨L0,hL0⟩: ∃z,ls.length=z:=⟨_,rfl⟩
  rw[hL0] at k14 HAD
  clear hlv hRW hL0
  go_upto_region 5 with (fail)
  go_region_with ((go_at_call 101
                   refine (HAD.out _ (Below.refl _ _).drew).mono ?_
                   rintro x w6 ⟨v6,rfl,hr6,hb6⟩
                   have HR6:Hid (Row w5.heap.size 3 1 w6 v6 (Rn.add ls (s,e)).length (iC (Rn.add ls (s,e)))):=Lib.hid hr6
                   have HB6:=Lib.hid ((Below.refl w5.heap.size w5).drew.trans hb6)
                   clear hr6 hb6 k14 k17))
  all_goals
   obtain⟨la2,hla2⟩: ∃z,Rn.add ls (s,e)=z:=⟨_,rfl⟩
   have HCS2:=HCS
   rw[hla2] at HR6 HCS2
   have HL2:=Lib.hid HL.out
   rw[hla2] at HL2
   obtain⟨N,hN⟩: ∃z,la2.length=z:=⟨_,rfl⟩
   have HN:=Lib.hid hN
   rw[hN] at HR6 HL2
   obtain⟨a6,c6,rfl,_⟩:=HR6.out.form
   have hN316:N≤316:=by have:=HL2.out;have:=H316.out;omega
   have HM6:=Lib.hid (HM5.out.grow (F1:=obk (Value.slice a6 N c6)) HB6.out (fun k hk=>HR6.out.lt k (mem_obk.1 hk)))
   have HF6:=Lib.hid (HF5.out.trans (Fr.of_below (F:=[]) HB6.out) (fun x hx _=>by cases hx))
   have HNW:=Lib.hid (fun k hk=>Nat.le_trans HF5.out.size (HR6.out.lt k (mem_obk.1 hk)).1)
   have HS6:Hid (Stt w6 (obk (Value.slice a6 N c6)++S) {q with lens:= .slice a6 N c6} (.runX nl nd tb la2 s)):=Lib.hid (by
    obtain⟨a0,a1,a2,⟨t,F,a3,a4,a5⟩,a6',a7,a8,a9,a10⟩:=HM6.out.st
    refine⟨a0,a1,a2,⟨t,F,a3,a4,fun k hk=> ?_⟩,by rw[HN.out];exact HR6.out.mono (Nat.zero_le _),by rw[HN.out];exact hN316,a8,a9,a10⟩
    rcases List.mem_append.1 hk with hk|hk
    ·exact a5 k (by simp[hk])
    ·exact List.mem_append_left _ hk)
   have HLA2:=Lib.hid hla2
   clear hla2 hN HM5 HF5 HB6 HAD
   have k14:=HM6.out.own.1 14 _ rfl
   have f14:=HM6.out.own.2 14
   go_upto_region 9 with (fail)
   have HM7:=Lib.hid (HM6.out.set (q':={q with lens:= .slice a6 N c6}) (f':=f) (st':= .runX nl nd tb la2 s) 14 (.slice a6 N c6) rfl (by decide) HS6.out)
   have HF7:=Lib.hid (HF6.out.setCell (p:=⟨mb,14,none⟩) (.inl (by simp)) (.slice a6 N c6))
   have hMV:Mv (mb::(RF++wb::(obk vo++S))) w (mb::(RF++wb::(obk vo++(obk (Value.slice a6 N c6)++S)))) (w6.setCell ⟨mb,14,none⟩ (.slice a6 N c6)):=⟨HF7.out,New.stage (fun k hk=>by
    rcases List.mem_append.1 hk with hk|hk
    ·exact .inr (HNW.out k hk)
    ·exact .inl hk)⟩
   have HMV:=Lib.hid hMV
   clear k14 f14 HM6 HF6 HS6 hMV HR6 HNW
   generalize w6.setCell ⟨mb,14,none⟩ (.slice a6 N c6)=w7 at*
   by_cases hlt:N<MX
   ·have HLT:=Lib.hid (show la2.length<nl+nd by rw[HMX.out,HN.out];exact hlt)
    have d1:decide (N<MX)=true:=decide_eq_true hlt
    have d1':decide ((N:Int)<(MX:Int))=true:=decide_eq_true (by omega)
    have HG:=Lib.hid (goOn_any 5 _ w7 HM7.out.own rfl)
    clear HCS2 HCS HL HL2
    go_wp2_with (fail)
    refine HG.out.mono ?_
    rintro x w8 ⟨rfl,rfl⟩
    go_wp2_with (fail)
    go_ret
    rw[HLA2.out]
    refine⟨fun _=> ?_,fun h=>absurd h (Nat.ne_of_lt HLT.out)⟩
    refine (Yes.pre HMV.out (Yes.of (HM7.out.set (q':={q with stage:= .int .i64 5,lens:= .slice a6 N c6}) (f':=f) (st':= .run nl nd tb la2) 5 _ rfl (by decide) ?_) ⟨(Fr.refl _ _).setCell (p:=⟨mb,5,none⟩) (.inl (by simp)) _,New.refl _ _⟩))
    obtain⟨a0,a1,a2,a3,a4,a5,a8,a9,a10⟩:=HM7.out.st
    exact⟨rfl,a1,a2,a3,a4,a5,a8,a9⟩
   ·have heq:N=MX:=by have:=HL2.out;have:=HMX.out;omega
    obtain⟨c3,c4,c5,c6',c7⟩:=HCS2.out (by rw[HMX.out,HN.out];exact heq)
    have c1:la2.length=nl+nd:=by rw[HMX.out,HN.out];exact heq
    have HNL:=Lib.hid c1
    have d1:decide (N<MX)=false:=decide_eq_false (by omega)
    have d1':decide ((N:Int)<(MX:Int))=false:=decide_eq_false (by omega)
    have HC:=Lib.hid (codes_yes nl nd s tb la2 w7 HM7.out c3 c4 c1 c5 c6' c7)
    have HEQ:=Lib.hid heq
    clear c1 c3 c4 c5 c6' c7 HCS2 HCS HL HL2 heq
    go_wp2_with (fail)
    refine HC.out.mono ?_
    rintro x w8 ⟨rfl,F8,hm8,hv8⟩
    have HM8:=Lib.hid hm8
    have HV8:=Lib.hid hv8
    clear hm8 hv8 HC
    go_wp2_with (fail)
    go_ret
    rw[HLA2.out]
    exact⟨fun h=>absurd HNL.out (Nat.ne_of_lt h),fun _=>Yes.pre HMV.out ⟨rfl,F8,HM8.out,HV8.out⟩⟩
end
end Go.Proofs.YtmdgeoalamancaaGreatDoor
