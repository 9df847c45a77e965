/- The machine: symbols and matches. The machine: which element is read. The machine: one element more, whichever it is. The machine: Write. -/
import Derived.Test.YtmdgeoalamancaaGreatDoorZAL
import Derived.Test.YtmdgeoalamancaaGreatDoorZAM
set_option maxRecDepth 100000
set_option linter.unusedVariables false
set_option linter.unusedSimpArgs false
namespace Go.Proofs.YtmdgeoalamancaaGreatDoor
open Go.RowKit
open Bt Can Mc
section
variable {mb rb wb:Nat} {RF S:List Nat} {vo:Value} {q:Qv} {c:Cfg} {f:Bool} {T:List Nat} {R:List Bool} {O:List Nat}
theorem Maq.window {T':List Nat} {w w':World} (h:Maq w mb rb wb RF S vo q c R O) (hw:Wi w' wb T') (hf:Fr [wb] w w') (hl:T'.length≤30000):Maq w' mb rb wb RF S vo q ⟨c.fin,T',c.st⟩ R O:=by
 have hd: ∀i k,i≠2→k∈[[mb],RF,[wb],obk vo,S].getD i []→k ∉ [wb]:=fun i k h0 hk hg=>by
  rw[List.mem_singleton.1 hg] at hk
  exact h.sep.2 i 2 wb h0 hk (by simp)
 exact⟨h.own.fr hf h.lt (hd 0 mb (by decide) (by simp)),h.rd.fr hf (fun k hk=>hd 1 k (by decide) hk),hw,h.out.fr hf (fun k hk=>hd 3 k (by decide) hk),h.sep.up hf.size,h.st.fr hf (fun k hk=>hd 4 k (by decide) hk),hl,h.olen⟩
theorem Maq.outrow {vo':Value} {O':List Nat} {w w1:World} (h:Maq w mb rb wb RF S vo q c R O) (hf:Fr (obk vo) w w1) (hr:Row 0 5 1 w1 vo' O'.length (bC O')) (hnv: ∀k∈obk vo',k∈obk vo∨w.heap.size≤k) (hlO:O'.length≤30000):Maq (w1.setCell ⟨mb,3,none⟩ vo') mb rb wb RF S vo' q c R O'∧Mv (mb::(RF++wb::(obk vo++S))) w (mb::(RF++wb::(obk vo'++S))) (w1.setCell ⟨mb,3,none⟩ vo'):=by
 have hf8:Fr [mb] w1 (w1.setCell ⟨mb,3,none⟩ vo'):=(Fr.refl _ _).setCell (p:=⟨mb,3,none⟩) (.inl (by simp)) _
 have hd7: ∀i k,i≠3→k∈[[mb],RF,[wb],obk vo,S].getD i []→k ∉ obk vo:=fun i k h0 hk hg=>h.sep.2 i 3 k h0 hk hg
 have hd8: ∀i k,i≠0→k∈[[mb],RF,[wb],obk vo,S].getD i []→k ∉ [mb]:=fun i k h0 hk hg=>by
  rw[List.mem_singleton.1 hg] at hk
  exact h.sep.2 i 0 mb h0 hk (by simp)
 have hlv: ∀k∈obk vo',k<w1.heap.size:=fun k hk=>(hr.lt k (mem_obk.1 hk)).2
 have hz:=hf.size
 have hmv: ∀k∈obk vo',k ∉ [mb]:=fun k hk hg=>by
  rw[List.mem_singleton.1 hg] at hk
  rcases hnv mb hk with e|e
  ·exact h.sep.2 0 3 mb (by decide) (by simp) e
  ·have:=h.lt;omega
 refine⟨⟨(h.own.fr hf h.lt (hd7 0 mb (by decide) (by simp))).set 3 _ (by simp[mcs]),(h.rd.fr hf (fun k hk=>hd7 1 k (by decide) hk)).fr hf8 (fun k hk=>hd8 1 k (by decide) hk),(h.win.fr hf (hd7 2 wb (by decide) (by simp))).fr hf8 (hd8 2 wb (by decide) (by simp)),hr.fr hf8 hmv,?_,(h.st.fr hf (fun k hk=>hd7 4 k (by decide) hk)).fr hf8 (fun k hk=>hd8 4 k (by decide) hk),h.len,hlO⟩,?_,?_⟩
 ·exact h.sep.set (by have:=hf8.size;omega) 3 _ (fun k hk=>⟨by have:=hlv k hk;simpa using this,hnv k hk⟩)
 ·exact (hf.weak (G:=mb::(RF++wb::(obk vo++S))) (fun x hx _=>by simp[hx])).trans hf8 (fun x hx _=>by simp[List.mem_singleton.1 hx])
 ·intro k hk
  rcases List.mem_cons.1 hk with rfl|hk
  ·exact .inl (by simp)
  rcases List.mem_append.1 hk with hk|hk
  ·exact .inl (by simp[hk])
  rcases List.mem_cons.1 hk with rfl|hk
  ·exact .inl (by simp)
  rcases List.mem_append.1 hk with hk|hk
  ·rcases hnv k hk with e|e
   ·exact .inl (by simp[e])
   ·exact .inr e
  ·exact .inl (by simp[hk])
set_option maxHeartbeats 4000000 in
theorem code_yes (t:Nat) (F ls:List Nat) (s next:Nat) (st':St) (w:World) (h:Maq w mb rb wb RF S vo q c R O) (hT:Tb F w t ls) (hF: ∀k∈F,k∈S) (hs:Has ls s) (hl:len ls s≤R.length) (hc: ∀j,j<len ls s→j<R.length→R[j]? =(cb ls s)[j]?) (h10:next=10→s<30) (hn:next≤20) (hst: ∀W,(∀k∈S,k≠mb)→Stt W S q c.st→Fr [mb,rb] w W→Stt W S {q with stage:= .int .i64 (next:Nat),sym:= .int .i64 (s:Nat)} st'):Calls Tryz.prog 58 #[.pointer (some ⟨mb,0,none⟩),.pointer (some ⟨t,0,none⟩),.int .i64 (next:Nat)] w fun e w'=>e= .returned (.bool true)∧Maq w' mb rb wb RF S vo {q with stage:= .int .i64 (next:Nat),sym:= .int .i64 (s:Nat)} ⟨c.fin,c.T,st'⟩ (R.drop (len ls s)) O∧Fr [mb,rb] w w':=by
 have k1:=h.own.1 1 _ rfl
 have HN:=Lib.hid (next_any F RF t rb ls s R w hT h.rd hs hc (fun k hk e=>h.sep.2 4 1 k (by decide) (hF k hk) (by rw[e];exact h.rbIn)))
 have HM:=Lib.hid h
 have HL:=Lib.hid hl
 have HST:=Lib.hid hst
 have hs1000:s<1000:=by
  obtain⟨_,_,_,_,_,_,_,_,_,_,_,h1000⟩:=hT
  have:=hs.1
  omega
 have H10:=Lib.hid h10
 have HSM:Hid (∀k∈S,k≠mb):=Lib.hid (fun k hk e=>h.sep.2 4 0 k (by decide) hk (by rw[e];simp))
 clear h hT hF hs hl hc hst h10
 go_enter Tryz.func58,Tryz.ntmps58
 go_wp2_with (fail)
 refine HN.out.mono ?_
 rintro e w1 ⟨h1,_⟩
 obtain⟨rfl,hr1,hf1⟩:=h1 HL.out
 have HM1:=Lib.hid (HM.out.read1 hr1 hf1)
 have HF1:=Lib.hid (hf1.weak (G:=[mb,rb]) (fun x hx _=>by simp[List.mem_singleton.1 hx]))
 clear hr1 hf1 k1 HN h1
 have k17:=HM1.out.own.1 17 _ rfl
 have f17:=HM1.out.own.2 17
 have HG:=Lib.hid (fun (W:World) (cs:List Value) (hO:Own W mb cs) (hl:cs.length=19)=>goOn_any (next:Nat) cs W hO hl)
 by_cases hnx:next=10
 ·have hs30:=H10.out hnx
  subst hnx
  have d1:decide ((30:Int)≤(s:Int))=false:=decide_eq_false (by omega)
  have d1':decide (30≤s)=false:=decide_eq_false (by omega)
  go_upto_region 7 with (fail)
  have HO2:=Lib.hid (HM1.out.own.set 17 (.int .i64 (s:Nat)) (by simp[mcs]))
  have HF2:=Lib.hid ((Fr.refl [mb] w1).setCell (p:=⟨mb,17,none⟩) (.inl (by simp)) (.int .i64 (s:Nat)))
  clear k17 f17
  generalize w1.setCell ⟨mb,17,none⟩ (.int .i64 (s:Nat))=w2 at*
  have HG2:=Lib.hid (HG.out w2 _ HO2.out rfl)
  go_wp2_with (fail)
  refine HG2.out.mono ?_
  rintro e w3 ⟨rfl,rfl⟩
  go_wp2_with (fail)
  go_ret
  have hf3:Fr [mb] w1 (w2.setCell ⟨mb,5,none⟩ (.int .i64 ((10:Nat):Int))):=HF2.out.setCell (p:=⟨mb,5,none⟩) (.inl (by simp)) _
  have hf4:=HF1.out.trans hf3 (fun x hx _=>by simp[List.mem_singleton.1 hx])
  exact⟨by rfl,HM1.out.cells hf3 (fun k hk=> .inl (List.mem_singleton.1 hk)) (HO2.out.set 5 _ (by simp[mcs])) (HST.out _ HSM.out (HM1.out.st.fr hf3 (fun k hk=>by rw[List.mem_singleton];exact HSM.out k hk)) hf4) (fun k hk=>⟨Nat.lt_of_lt_of_le (HM1.out.sep.1 4 k hk) hf3.size,.inl hk⟩),hf4⟩
 ·have d1:((next:Int)==10)=false:=by rw[beq_eq_false_iff_ne];omega
  have d1':(next==10)=false:=by rw[beq_eq_false_iff_ne];exact hnx
  go_upto_region 7 with (fail)
  have HO2:=Lib.hid (HM1.out.own.set 17 (.int .i64 (s:Nat)) (by simp[mcs]))
  have HF2:=Lib.hid ((Fr.refl [mb] w1).setCell (p:=⟨mb,17,none⟩) (.inl (by simp)) (.int .i64 (s:Nat)))
  clear k17 f17
  generalize w1.setCell ⟨mb,17,none⟩ (.int .i64 (s:Nat))=w2 at*
  have HG2:=Lib.hid (HG.out w2 _ HO2.out rfl)
  go_wp2_with (fail)
  refine HG2.out.mono ?_
  rintro e w3 ⟨rfl,rfl⟩
  go_wp2_with (fail)
  go_ret
  have hf3:Fr [mb] w1 (w2.setCell ⟨mb,5,none⟩ (.int .i64 (next:Nat))):=HF2.out.setCell (p:=⟨mb,5,none⟩) (.inl (by simp)) _
  have hf4:=HF1.out.trans hf3 (fun x hx _=>by simp[List.mem_singleton.1 hx])
  exact⟨by rfl,HM1.out.cells hf3 (fun k hk=> .inl (List.mem_singleton.1 hk)) (HO2.out.set 5 _ (by simp[mcs])) (HST.out _ HSM.out (HM1.out.st.fr hf3 (fun k hk=>by rw[List.mem_singleton];exact HSM.out k hk)) hf4) (fun k hk=>⟨Nat.lt_of_lt_of_le (HM1.out.sep.1 4 k hk) hf3.size,.inl hk⟩),hf4⟩
theorem code_no (t:Nat) (F ls:List Nat) (s next:Nat) (w:World) (h:Maq w mb rb wb RF S vo q c R O) (hT:Tb F w t ls) (hF: ∀k∈F,k∈S) (hs:Has ls s) (hl:R.length<len ls s) (hc: ∀j,j<len ls s→j<R.length→R[j]? =(cb ls s)[j]?):Calls Tryz.prog 58 #[.pointer (some ⟨mb,0,none⟩),.pointer (some ⟨t,0,none⟩),.int .i64 (next:Nat)] w fun e w'=>e= .returned (.bool false)∧Below w.heap.size w w':=by
 have k1:=h.own.1 1 _ rfl
 have HN:=Lib.hid (next_any F RF t rb ls s R w hT h.rd hs hc (fun k hk e=>h.sep.2 4 1 k (by decide) (hF k hk) (by rw[e];exact h.rbIn)))
 have HL:=Lib.hid hl
 clear h hT hF hs hl hc
 go_enter Tryz.func58,Tryz.ntmps58
 go_wp2_with (fail)
 refine HN.out.mono ?_
 rintro e w1 ⟨_,h1⟩
 obtain⟨rfl,hb1⟩:=h1 HL.out
 have HB1:=Lib.hid hb1
 clear hb1 h1 k1
 go_wp2_with (fail)
 go_ret
 exact⟨by rfl,HB1.out⟩
theorem Stt.sym_upd {w:World} {L D:List Nat} {s:Nat} (h:Stt w S q (.sym L D)):Stt w S {q with stage:= .int .i64 7,sym:= .int .i64 (s:Nat)} (.sym L D):=⟨rfl,h.2⟩
theorem symbol_no (L D:List Nat) (s:Nat) (w:World) (h:Maq w mb rb wb RF S vo q ⟨f,T,.sym L D⟩ R O) (hs:Has L s) (hl:R.length<len L s) (hc: ∀j,j<len L s→j<R.length→R[j]? =(cb L s)[j]?):Calls Tryz.prog 60 #[.pointer (some ⟨mb,0,none⟩)] w (No (mb::(RF++wb::(obk vo++S))) mb ⟨f,T,.sym L D⟩ R O w):=by
 obtain⟨e0,t1,F1,t2,F2,e1,e2,e3,e4,e5⟩:=h.st
 have k15:=h.own.1 15 (.pointer (some ⟨t1,0,none⟩)) (by rw[←e1];rfl)
 have HC:=Lib.hid (code_no t1 F1 L s 7 w h e3 (fun k hk=>e5 k (by simp[hk])) hs hl hc)
 have HM:=Lib.hid h
 clear h e0 e1 e2 e3 e4 e5 hs hl hc
 go_enter Tryz.func60,Tryz.ntmps60
 go_wp2_with (fail)
 refine HC.out.mono ?_
 rintro e w1 ⟨rfl,hb1⟩
 have HB1:=Lib.hid hb1
 clear hb1
 go_wp2_with (fail)
 go_ret
 exact⟨by rfl,(HM.out.below HB1.out).ma,Fr.of_below HB1.out⟩
set_option maxHeartbeats 4000000 in
theorem symbol_lit (L D:List Nat) (s:Nat) (w:World) (h:Maq w mb rb wb RF S vo q ⟨f,T,.sym L D⟩ R O) (hs:Has L s) (hl:len L s≤R.length) (hc: ∀j,j<len L s→j<R.length→R[j]? =(cb L s)[j]?) (hlt:s<256) (hT1:T.length+1≤30000) (hO1:O.length+1≤30000):Calls Tryz.prog 60 #[.pointer (some ⟨mb,0,none⟩)] w (Yes (mb::(RF++wb::(obk vo++S))) mb ⟨f,T++[s],.sym L D⟩ (R.drop (len L s)) (O++[s]) w):=by
 obtain⟨e0,t1,F1,t2,F2,e1,e2,e3,e4,e5⟩:=h.st
 have k15:=h.own.1 15 (.pointer (some ⟨t1,0,none⟩)) (by rw[←e1];rfl)
 have HC:=Lib.hid (code_yes t1 F1 L s 7 (.sym L D) w h e3 (fun k hk=>e5 k (by simp[hk])) hs hl hc (by omega) (by omega) (fun W _ hS _=>hS.sym_upd))
 have HF:=Lib.hid h.foot
 clear h e0 e1 e2 e3 e4 e5 hs hl hc
 go_enter Tryz.func60,Tryz.ntmps60
 go_wp2_with (fail)
 refine HC.out.mono ?_
 rintro e w1 ⟨rfl,hm1,hf1⟩
 have HM1:=Lib.hid hm1
 have HMV1:=Lib.hid (Mv.sub hf1 (fun k hk=>by
  rcases List.mem_cons.1 hk with h1|h1
  ·rw[h1];exact HF.out.1
  ·rw[List.mem_singleton.1 h1];exact HF.out.2.1) (New.refl (mb::(RF++wb::(obk vo++S))) w.heap.size))
 clear hm1 hf1 HC k15
 have d1:decide ((s:Int)<256)=true:=decide_eq_true (by omega)
 have d1':decide (s<256)=true:=decide_eq_true hlt
 have k17:=HM1.out.own.1 17 (.int .i64 (s:Nat)) rfl
 have HR:=Lib.hid (room_any w1 HM1.out)
 have HTL:=Lib.hid (show T.length≤30000 from HM1.out.len)
 have z1:IntKind.u8.wrap (s:Int)=(s:Int):=by simp[IntKind.wrap,IntKind.signed,IntKind.bits];omega
 go_wp2_with (fail)
 refine HR.out.mono ?_
 rintro e w2 ⟨rfl,n2,hw2⟩
 have hb2:Below w1.heap.size w1 w2:=by rw[hw2];exact below_drewN (Below.refl _ _) n2
 have HM2:=Lib.hid (HM1.out.below hb2)
 have HMV2:=Lib.hid (HMV1.out.trans (Mv.below _ hb2))
 clear hb2 hw2 HR k17 HM1 HMV1
 have d2:((((1048576-T.length:Nat):Int))==0)=false:=by rw[beq_eq_false_iff_ne];have:=HTL.out;omega
 have d2':(1048576-T.length==0)=false:=by rw[beq_eq_false_iff_ne];have:=HTL.out;omega
 have d2'':(((1048576:Int)-(T.length:Int))==0)=false:=by rw[beq_eq_false_iff_ne];have:=HTL.out;omega
 have k17:=HM2.out.own.1 17 (.int .i64 (s:Nat)) rfl
 have hA:=(Below.refl w2.heap.size w2).alloc (Nat.le_refl _) (.cells #[.int .u8 (s:Nat)] 5)
 obtain⟨wa,hwa⟩: ∃z:World,z=w2.alloc (.cells #[.int .u8 (s:Nat)] 5):=⟨_,rfl⟩
 have HO:Hid (Own wa w2.heap.size [.int .u8 (s:Nat)]):=Lib.hid (by rw[hwa];exact Own.new_at w2 _ _ _ rfl)
 have HM3:=Lib.hid (HM2.out.below (w':=wa) (by rw[hwa];exact hA))
 have HMV3:=Lib.hid (HMV2.out.trans (Mv.below _ (w':=wa) (by rw[hwa];exact hA)))
 have hza:w2.heap.size<wa.heap.size:=by rw[hwa];simp
 have HPU:=Lib.hid (mput_any [s] 1 (.slice (some ⟨w2.heap.size,0,none⟩) 1 1) wa HM3.out (fun W hW=>by
  have ho:=HO.out.fr hW hza (fun hk=>by
   rcases List.mem_cons.1 hk with h1|hk
   ·have:=HM2.out.lt;omega
   rcases List.mem_cons.1 hk with h1|hk
   ·have:=HM2.out.win.lt;omega
   ·have:=HM2.out.sep.1 3 _ hk;omega)
  refine⟨rfl,_,_,rfl,Nat.le_refl _,.inr ⟨w2.heap.size,0,rfl,Nat.lt_of_lt_of_le hza hW.size,fun j u hj=> ?_⟩⟩
  have:=ho.1 j u hj
  rw[Nat.zero_add]
  exact this) rfl (by show T.length+1≤30000;exact hT1) (by show O.length+1≤30000;exact hO1))
 have HWA:=Lib.hid hwa
 clear hA HM2 HMV2 HO hwa
 go_wp2_with (fail)
 rw[←HWA.out]
 refine HPU.out.mono ?_
 rintro e w6 ⟨rfl,vo',hm6,hv6⟩
 have HM6:=Lib.hid hm6
 have HV6:=Lib.hid hv6
 clear hm6 hv6 HPU
 go_wp2_with (fail)
 go_ret
 exact Yes.of HM6.out (Mv.trans HMV3.out HV6.out)
set_option maxHeartbeats 4000000 in
theorem symbol_eob (L D:List Nat) (w:World) (h:Maq w mb rb wb RF S vo q ⟨f,T,.sym L D⟩ R O) (hs:Has L 256) (hl:len L 256≤R.length) (hc: ∀j,j<len L 256→j<R.length→R[j]? =(cb L 256)[j]?):Calls Tryz.prog 60 #[.pointer (some ⟨mb,0,none⟩)] w (Yes (mb::(RF++wb::(obk vo++S))) mb ⟨f,T,if f then .ended else .block⟩ (if f then (R.drop (len L 256)).drop ((R.drop (len L 256)).length%8) else R.drop (len L 256)) O w):=by
 obtain⟨e0,t1,F1,t2,F2,e1,e2,e3,e4,e5⟩:=h.st
 have k15:=h.own.1 15 (.pointer (some ⟨t1,0,none⟩)) (by rw[←e1];rfl)
 have HC:=Lib.hid (code_yes t1 F1 L 256 7 (.sym L D) w h e3 (fun k hk=>e5 k (by simp[hk])) hs hl hc (by omega) (by omega) (fun W _ hS _=>hS.sym_upd))
 have HF:=Lib.hid h.foot
 obtain⟨st2,hst2⟩: ∃z,(if f then St.ended else St.block)=z:=⟨_,rfl⟩
 obtain⟨R2,hR2⟩: ∃z,(if f then (R.drop (len L 256)).drop ((R.drop (len L 256)).length%8) else R.drop (len L 256))=z:=⟨_,rfl⟩
 rw[hst2,hR2]
 have HST:=Lib.hid hst2
 have HR2:=Lib.hid hR2
 clear hst2 hR2
 clear h e0 e1 e2 e3 e4 e5 hs hl hc
 go_enter Tryz.func60,Tryz.ntmps60
 go_wp2_with (fail)
 refine HC.out.mono ?_
 rintro e w1 ⟨rfl,hm1,hf1⟩
 have HM1:=Lib.hid hm1
 have HMV1:=Lib.hid (Mv.sub hf1 (fun k hk=>by
  rcases List.mem_cons.1 hk with h1|h1
  ·rw[h1];exact HF.out.1
  ·rw[List.mem_singleton.1 h1];exact HF.out.2.1) (New.refl (mb::(RF++wb::(obk vo++S))) w.heap.size))
 clear hm1 hf1 HC k15
 have d1:decide ((256:Int)<256)=false:=by decide
 have k17:=HM1.out.own.1 17 (.int .i64 256) rfl
 have HE:=Lib.hid (endB_any w1 HM1.out)
 go_wp2_with (fail)
 refine HE.out.mono ?_
 rintro e w2 ⟨rfl,⟨q1,hm2⟩,hf2⟩
 have HM2:=Lib.hid hm2
 have HF2:=Lib.hid hf2
 clear hm2 hf2 HE
 go_wp2_with (fail)
 go_ret
 rw[←HST.out,←HR2.out]
 exact Yes.of HM2.out (HMV1.out.trans (Mv.sub HF2.out (fun k hk=>by
  rcases List.mem_cons.1 hk with h1|h1
  ·rw[h1];exact HF.out.1
  ·rw[List.mem_singleton.1 h1];exact HF.out.2.1) (New.refl _ _)))
set_option maxHeartbeats 4000000 in
theorem symbol_len (L D:List Nat) (s:Nat) (w:World) (h:Maq w mb rb wb RF S vo q ⟨f,T,.sym L D⟩ R O) (hs:Has L s) (hl:len L s≤R.length) (hc: ∀j,j<len L s→j<R.length→R[j]? =(cb L s)[j]?) (h1:257≤s) (h2:s<286):Calls Tryz.prog 60 #[.pointer (some ⟨mb,0,none⟩)] w (Yes (mb::(RF++wb::(obk vo++S))) mb ⟨f,T,.lenX L D s⟩ (R.drop (len L s)) O w):=by
 obtain⟨e0,t1,F1,t2,F2,e1,e2,e3,e4,e5⟩:=h.st
 have k15:=h.own.1 15 (.pointer (some ⟨t1,0,none⟩)) (by rw[←e1];rfl)
 have HC:=Lib.hid (code_yes t1 F1 L s 7 (.sym L D) w h e3 (fun k hk=>e5 k (by simp[hk])) hs hl hc (by omega) (by omega) (fun W _ hS _=>hS.sym_upd))
 have HF:=Lib.hid h.foot
 clear h e0 e1 e2 e3 e4 e5 hs hl hc
 go_enter Tryz.func60,Tryz.ntmps60
 go_wp2_with (fail)
 refine HC.out.mono ?_
 rintro e w1 ⟨rfl,hm1,hf1⟩
 have HM1:=Lib.hid hm1
 have HMV1:=Lib.hid (Mv.sub hf1 (fun k hk=>by
  rcases List.mem_cons.1 hk with h1|h1
  ·rw[h1];exact HF.out.1
  ·rw[List.mem_singleton.1 h1];exact HF.out.2.1) (New.refl (mb::(RF++wb::(obk vo++S))) w.heap.size))
 clear hm1 hf1 HC k15
 have d1:decide ((s:Int)<256)=false:=decide_eq_false (by omega)
 have d1':decide (s<256)=false:=decide_eq_false (by omega)
 have d2:((s:Int)==256)=false:=by rw[beq_eq_false_iff_ne];omega
 have d2':(s==256)=false:=by rw[beq_eq_false_iff_ne];omega
 have d3:decide ((286:Int)≤(s:Int))=false:=decide_eq_false (by omega)
 have d3':decide (286≤s)=false:=decide_eq_false (by omega)
 have k17:=HM1.out.own.1 17 (.int .i64 (s:Nat)) rfl
 have HG:=Lib.hid (goOn_any 8 _ w1 HM1.out.own rfl)
 go_wp2_with (fail)
 refine HG.out.mono ?_
 rintro e w2 ⟨rfl,rfl⟩
 go_wp2_with (fail)
 go_ret
 exact Yes.of (HM1.out.set (q':={q with stage:= .int .i64 8,sym:= .int .i64 (s:Nat)}) (f':=f) (st':= .lenX L D s) 5 _ rfl (by decide) ⟨rfl,rfl,HM1.out.st.2⟩) (HMV1.out.trans ⟨(Fr.refl _ _).setCell (p:=⟨mb,5,none⟩) (.inl (by simp)) _,New.refl _ _⟩)
theorem lB_le: ∀i,i<29→lB.getD i 0≤258∧lX.getD i 0≤5:=by decide
theorem dB_le: ∀i,i<30→dB.getD i 0≤24577∧dX i≤13:=by decide
set_option maxHeartbeats 4000000 in
theorem length_yes (L D:List Nat) (i e:Nat) (w:World) (h:Maq w mb rb wb RF S vo q ⟨f,T,.lenX L D (257+i)⟩ R O) (hi:i<29) (hR:lX.getD i 0≤R.length) (he:e<2^lX.getD i 0) (hv:val (R.take (lX.getD i 0))=e) (hG:Gl w):Calls Tryz.prog 61 #[.pointer (some ⟨mb,0,none⟩)] w (Yes (mb::(RF++wb::(obk vo++S))) mb ⟨f,T,.dist L D (lB.getD i 0+e)⟩ (R.drop (lX.getD i 0)) O w):=by
 have hLB:=lbase_any i hi w hG
 obtain⟨b1,b2⟩:=lB_le i hi
 have he32:e<32:=by have:=Nat.pow_le_pow_right (show 0<2 by decide) b2;omega
 obtain⟨J,hJ⟩: ∃z,257+i=z:=⟨_,rfl⟩
 obtain⟨X,hX⟩: ∃z,lX.getD i 0=z:=⟨_,rfl⟩
 obtain⟨B,hB⟩: ∃z,lB.getD i 0=z:=⟨_,rfl⟩
 rw[hJ,hX,hB] at hLB
 rw[hJ] at h
 rw[hX] at hR hv b2 ⊢
 rw[hB] at b1 ⊢
 have HLB:=Lib.hid hLB
 have k17:=h.own.1 17 (.int .i64 (J:Nat)) (by rw[←h.st.2.1];rfl)
 have hBI:=fun (W:World) (hW:Below w.heap.size w W)=>bits_yes RF rb R X W (h.rd.below hW) (by omega) hR
 rw[hv] at hBI
 have HBI:=Lib.hid hBI
 have HM:=Lib.hid h
 obtain⟨NS,hNS⟩: ∃z,B+e=z:=⟨_,rfl⟩
 have q1:IntKind.i64.wrap (e:Int)=(e:Int):=IntWalk.i64_in _ (by omega)
 have q2:IntKind.i64.wrap ((B:Int)+(e:Int))=((NS:Nat):Int):=by rw[IntWalk.i64_in _ (by omega)];omega
 have hN300:NS≤300:=by omega
 rw[hNS]
 clear h hX hB hJ hLB hBI hv hR hNS he
 go_enter Tryz.func61,Tryz.ntmps61
 go_wp2_with (fail)
 refine HLB.out.mono ?_
 rintro x w1 ⟨rfl,hb1⟩
 have HM1:=Lib.hid (HM.out.below hb1)
 have HF1:=Lib.hid (Fr.of_below (F:=mb::(RF++wb::(obk vo++S))) hb1)
 have HBI1:=Lib.hid (HBI.out w1 hb1)
 clear hb1 HLB HBI k17
 have k1:=HM1.out.own.1 1 _ rfl
 go_wp2_with (fail)
 refine HBI1.out.mono ?_
 rintro x w2 ⟨rfl,hr2,hf2⟩
 have HM2:=Lib.hid (HM1.out.read1 hr2 hf2)
 have HF2:=Lib.hid (HF1.out.trans hf2 (fun x hx _=>by rw[List.mem_singleton.1 hx];exact HM.out.foot.2.1))
 clear hr2 hf2 HBI1 k1 HM1 HF1
 have k18:=HM2.out.own.1 18 _ rfl
 have f18:=HM2.out.own.2 18
 go_upto_region 6 with (fail)
 have HM3:=Lib.hid (HM2.out.set (q':={q with size:= .int .i64 (NS:Nat)}) (f':=f) (st':= .lenX L D J) 18 (.int .i64 (NS:Nat)) rfl (by decide) HM2.out.st)
 have HF3:=Lib.hid (HF2.out.setCell (p:=⟨mb,18,none⟩) (.inl (by simp)) (.int .i64 (NS:Nat)))
 clear k18 f18 HM2 HF2
 generalize w2.setCell ⟨mb,18,none⟩ (.int .i64 (NS:Nat))=w3 at*
 have HG:=Lib.hid (goOn_any 9 _ w3 HM3.out.own rfl)
 go_wp2_with (fail)
 refine HG.out.mono ?_
 rintro x w4 ⟨rfl,rfl⟩
 go_wp2_with (fail)
 go_ret
 exact Yes.of (HM3.out.set (q':={q with stage:= .int .i64 9,size:= .int .i64 (NS:Nat)}) (f':=f) (st':= .dist L D NS) 5 _ rfl (by decide) ⟨rfl,rfl,hN300,HM3.out.st.2.2⟩) ⟨HF3.out.setCell (p:=⟨mb,5,none⟩) (.inl (by simp)) _,New.refl _ _⟩
set_option maxHeartbeats 4000000 in
theorem length_no (L D:List Nat) (i:Nat) (w:World) (h:Maq w mb rb wb RF S vo q ⟨f,T,.lenX L D (257+i)⟩ R O) (hi:i<29) (hR:R.length<lX.getD i 0) (hG:Gl w):Calls Tryz.prog 61 #[.pointer (some ⟨mb,0,none⟩)] w (No (mb::(RF++wb::(obk vo++S))) mb ⟨f,T,.lenX L D (257+i)⟩ R O w):=by
 have hLB:=lbase_any i hi w hG
 obtain⟨b1,b2⟩:=lB_le i hi
 obtain⟨J,hJ⟩: ∃z,257+i=z:=⟨_,rfl⟩
 obtain⟨X,hX⟩: ∃z,lX.getD i 0=z:=⟨_,rfl⟩
 obtain⟨B,hB⟩: ∃z,lB.getD i 0=z:=⟨_,rfl⟩
 rw[hJ,hX,hB] at hLB
 rw[hJ] at h ⊢
 rw[hX] at hR b2
 have HLB:=Lib.hid hLB
 have k17:=h.own.1 17 (.int .i64 (J:Nat)) (by rw[←h.st.2.1];rfl)
 have HBI:=Lib.hid (fun (W:World) (hW:Below w.heap.size w W)=>bits_no RF rb R X W (h.rd.below hW) (by omega) hR)
 have HM:=Lib.hid h
 clear h hX hB hJ hLB hR
 go_enter Tryz.func61,Tryz.ntmps61
 go_wp2_with (fail)
 refine HLB.out.mono ?_
 rintro x w1 ⟨rfl,hb1⟩
 have HM1:=Lib.hid (HM.out.below hb1)
 have HB1:=Lib.hid hb1
 have HBI1:=Lib.hid (HBI.out w1 hb1)
 clear hb1 HLB HBI k17
 have k1:=HM1.out.own.1 1 _ rfl
 go_wp2_with (fail)
 refine HBI1.out.mono ?_
 rintro x w2 ⟨rfl,hb2⟩
 have HB2:=Lib.hid (HB1.out.trans (hb2.mono HB1.out.size))
 clear hb2 HBI1 k1 HM1 HB1
 go_wp2_with (fail)
 go_ret
 exact⟨by rfl,(HM.out.below HB2.out).ma,Fr.of_below HB2.out⟩
set_option maxHeartbeats 4000000 in
theorem match_no (L D:List Nat) (n s:Nat) (w:World) (h:Maq w mb rb wb RF S vo q ⟨f,T,.distX L D n s⟩ R O) (hs:s<30) (hR:R.length<dX s) (hG:Gl w):Calls Tryz.prog 62 #[.pointer (some ⟨mb,0,none⟩)] w (No (mb::(RF++wb::(obk vo++S))) mb ⟨f,T,.distX L D n s⟩ R O w):=by
 have hDB:=dbase_any s hs w hG
 obtain⟨b1,b2⟩:=dB_le s hs
 obtain⟨X,hX⟩: ∃z,dX s=z:=⟨_,rfl⟩
 obtain⟨B,hB⟩: ∃z,dB.getD s 0=z:=⟨_,rfl⟩
 rw[hX,hB] at hDB
 rw[hX] at hR b2
 have HDB:=Lib.hid hDB
 have k17:=h.own.1 17 (.int .i64 (s:Nat)) (by rw[←h.st.2.2.2.1];rfl)
 have k1:=h.own.1 1 _ rfl
 have HBI:=Lib.hid (bits_no RF rb R X w h.rd (by omega) hR)
 have HM:=Lib.hid h
 clear h hX hB hDB hR
 go_enter Tryz.func62,Tryz.ntmps62
 go_wp2_with (fail)
 refine HDB.out.mono ?_
 rintro x w1 ⟨rfl,rfl⟩
 go_wp2_with (fail)
 refine HBI.out.mono ?_
 rintro x w2 ⟨rfl,hb2⟩
 have HB2:=Lib.hid hb2
 clear hb2 HBI k1
 go_wp2_with (fail)
 go_ret
 exact⟨by rfl,(HM.out.below HB2.out).ma,Fr.of_below HB2.out⟩
set_option maxHeartbeats 8000000 in
theorem match_yes (L D:List Nat) (n s e:Nat) (w:World) (h:Maq w mb rb wb RF S vo q ⟨f,T,.distX L D n s⟩ R O) (hs:s<30) (hR:dX s≤R.length) (he:e<2^dX s) (hv:val (R.take (dX s))=e) (hd:dB.getD s 0+e≤T.length) (hT:T.length+n≤30000) (hO:O.length+n≤30000) (hG:Gl w):Calls Tryz.prog 62 #[.pointer (some ⟨mb,0,none⟩)] w (Yes (mb::(RF++wb::(obk vo++S))) mb ⟨f,Tk.cp T (dB.getD s 0+e) n,.sym L D⟩ (R.drop (dX s)) (O++(Tk.cp T (dB.getD s 0+e) n).drop T.length) w):=by
 have hDB:=dbase_any s hs w hG
 obtain⟨b1,b2⟩:=dB_le s hs
 have hB1:1≤dB.getD s 0:=by
  have: ∀s,s<30→1≤dB.getD s 0:=by decide
  exact this s hs
 obtain⟨X,hX⟩: ∃z,dX s=z:=⟨_,rfl⟩
 obtain⟨B,hB⟩: ∃z,dB.getD s 0=z:=⟨_,rfl⟩
 rw[hX,hB] at hDB
 rw[hX] at hR b2 hv ⊢
 rw[hB] at b1 hd hB1 ⊢
 obtain⟨d,hdd⟩: ∃z,B+e=z:=⟨_,rfl⟩
 rw[hdd] at hd ⊢
 have HDB:=Lib.hid hDB
 have hn300:n≤300:=h.st.2.2.1
 have k17:=h.own.1 17 (.int .i64 (s:Nat)) (by rw[←h.st.2.2.2.1];rfl)
 have k1:=h.own.1 1 _ rfl
 have hBI:=bits_yes RF rb R X w h.rd (by omega) hR
 rw[hv] at hBI
 have HBI:=Lib.hid hBI
 have HM:=Lib.hid h
 have q1:IntKind.i64.wrap (e:Int)=(e:Int):=IntWalk.i64_in _ (by omega)
 have q2:IntKind.i64.wrap ((B:Int)+(e:Int))=((d:Nat):Int):=by rw[IntWalk.i64_in _ (by omega)];omega
 have hd1:1≤d:=by omega
 have HTL:=Lib.hid (show T.length≤30000 from h.len)
 obtain⟨TL,hTL⟩: ∃z,T.length=z:=⟨_,rfl⟩
 have HT0:=Lib.hid hTL
 rw[hTL] at hd hT
 have d1:decide ((TL:Int)<(d:Int))=false:=decide_eq_false (by omega)
 have d1':decide (TL<d)=false:=decide_eq_false (by omega)
 obtain⟨RM,hRM⟩: ∃z,1048576-TL=z:=⟨_,rfl⟩
 have d2:decide ((RM:Int)<(n:Int))=false:=decide_eq_false (by omega)
 have d2':decide (RM<n)=false:=decide_eq_false (by omega)
 have HRM:=Lib.hid hRM
 have HSZ:=Lib.hid h.st.2.1
 clear h hX hB hDB hBI hv hR hdd he hTL hRM
 go_enter Tryz.func62,Tryz.ntmps62
 go_wp2_with (fail)
 refine HDB.out.mono ?_
 rintro x w1 ⟨rfl,rfl⟩
 go_wp2_with (fail)
 refine HBI.out.mono ?_
 rintro x w2 ⟨rfl,hr2,hf2⟩
 have HM2:=Lib.hid (HM.out.read1 hr2 hf2)
 have HF2:=Lib.hid (hf2.weak (G:=mb::(RF++wb::(obk vo++S))) (fun x hx _=>by rw[List.mem_singleton.1 hx];exact HM.out.foot.2.1))
 clear hr2 hf2 HBI k1 k17 HDB
 have k2:=HM2.out.own.1 2 _ rfl
 have hWL:=wlen_any T wb w2 HM2.out.win
 rw[HT0.out] at hWL
 have HWL:=Lib.hid hWL
 clear hWL
 go_wp2_with (fail)
 refine HWL.out.mono ?_
 rintro x w3 ⟨rfl,rfl⟩
 have k18:=HM2.out.own.1 18 (.int .i64 (n:Nat)) (by rw[←HSZ.out];rfl)
 have hRO:=fun m=>room_any (w3.drewN m) (HM2.out.below (below_drewN (Below.refl _ _) m))
 simp only at hRO
 rw[HT0.out,HRM.out] at hRO
 have HRO:=Lib.hid hRO
 clear hRO
 go_upto_region 8 with (fail)
 go_quiet ((go_at_call 95;exact Calls.quiet_of (HRO.out _)))
 have HM4:=Lib.hid (HM2.out.below (below_drewN (Below.refl _ _) nq))
 have HF4:=Lib.hid (HF2.out.drewN nq)
 clear k2 k18 HM2 HF2 HRO HWL
 generalize w3.drewN nq=w4 at*
 have k2:=HM4.out.own.1 2 _ rfl
 have k18:=HM4.out.own.1 18 (.int .i64 (n:Nat)) (by rw[←HSZ.out];rfl)
 have HCP:=Lib.hid (fun (W:World) (hW:Below w4.heap.size w4 W)=>copy_any T d n wb W (HM4.out.win.below hW) hd1 (by rw[HT0.out];exact hd) (by omega) (by rw[HT0.out];omega))
 go_upto_region 10 with (fail)
 go_region_with ((go_at_call 106
                  refine (HCP.out _ (Below.refl _ _).drew).mono ?_
                  rintro x w5 ⟨v5,rfl,hr5,hw5,hf5⟩
                  have HR5:Hid (Row w4.heap.size 5 1 w5 v5 n (bC ((Tk.cp T d n).drop T.length))):=Lib.hid hr5
                  have HF5:Hid (Fr [wb] w4 w5):=Lib.hid (((Fr.refl [wb] w4).drew).trans hf5 (fun x hx _=>hx))
                  have HW5:=Lib.hid hw5
                  clear hr5 hw5 hf5 k2 k18))
 all_goals
  have hcl:(Tk.cp T d n).length=TL+n:=by rw[Tk.cp_len,HT0.out]
  have HM5:=Lib.hid (HM4.out.window HW5.out HF5.out (by rw[hcl];exact hT))
  have HF6:=Lib.hid (HF4.out.trans HF5.out (fun x hx _=>by rw[List.mem_singleton.1 hx];exact HM.out.foot.2.2))
  obtain⟨DR,hDR⟩: ∃z,(Tk.cp T d n).drop T.length=z:=⟨_,rfl⟩
  have HDL:Hid (DR.length=n):=Lib.hid (by rw[←hDR,List.length_drop,hcl,HT0.out];omega)
  have HDR:=Lib.hid hDR
  rw[hDR] at HR5
  clear hDR hcl HM4 HF4 HCP HW5
  obtain⟨a5,c5,rfl,_⟩:=HR5.out.form
  have HOR:=Lib.hid HM5.out.out
  obtain⟨oa,ocap,hov,hocap⟩:=HM5.out.out.form
  obtain⟨OL,hOL⟩: ∃z,O.length=z:=⟨_,rfl⟩
  have HOL:=Lib.hid hOL
  rw[hOL] at HOR hov hO hocap
  rw[hov] at HOR
  have k3:=HM5.out.own.1 3 (.slice oa OL ocap) (by rw[←hov];rfl)
  have HOV:=Lib.hid hov
  clear hOL hov
  go_wp2_with (at_builtin;refine append_rowM (base:=0) (size:=1) (xs:=bC O) Tryz.underlying23 info_u8 rfl (by decide) rfl _ _ rfl rfl HOR.out rfl HR5.out.sl (bC_one _) ?_ ?_ ?_ ?_;omega;omega;exact Nat.zero_le _)
  intro v7 w7 hr7 hb7 hg7 hw7
  have hf7:Fr (obk (Value.slice oa OL ocap)) w5 w7:=(Fr.refl _ w5).grown hg7 (fun k hk _=>mem_obk.2 hk)
  have HF7:=Lib.hid hf7
  have HR7:Hid (Row 0 5 1 w7 v7 (O++DR).length (bC (O++DR))):=Lib.hid (by rw[List.length_append,HOL.out,HDL.out,bC_app];exact hr7)
  have HNV:Hid (∀k∈obk v7,k∈obk vo∨w5.heap.size≤k):=Lib.hid (fun k hk=>by
   rw[HOV.out]
   rcases hw7 with e|e
   ·exact .inl (mem_obk.2 (by rw[←e];exact mem_obk.1 hk))
   ·exact .inr (e k (mem_obk.1 hk)))
  obtain⟨a7,c7,rfl,_⟩:=hr7.form
  have ho7:=HM5.out.own.fr hf7 HM5.out.lt (by rw[←HOV.out];exact HM5.out.sep.2 0 3 mb (by decide) (by simp))
  clear hr7 hb7 hg7 hw7 hf7 k3
  have k3:=ho7.1 3 _ rfl
  have f3:=ho7.2 3
  go_upto_region 12 with (fail)
  obtain⟨hm8,hv8⟩:=HM5.out.outrow (vo':= .slice a7 (OL+n) c7) (O':=O++DR) (w1:=w7) (by rw[HOV.out];exact HF7.out) HR7.out HNV.out (by rw[List.length_append,HOL.out,HDL.out];exact hO)
  have HM8:=Lib.hid hm8
  have HV8:=Lib.hid hv8
  clear hm8 hv8 k3 f3 ho7
  generalize w7.setCell ⟨mb,3,none⟩ (.slice a7 (OL+n) c7)=w8 at*
  have HG:=Lib.hid (goOn_any 7 _ w8 HM8.out.own rfl)
  go_wp2_with (fail)
  refine HG.out.mono ?_
  rintro x w9 ⟨rfl,rfl⟩
  go_wp2_with (fail)
  go_ret
  rw[HDR.out]
  exact Yes.of (HM8.out.set (q':={q with stage:= .int .i64 7}) (f':=f) (st':= .sym L D) 5 _ rfl (by decide) ⟨rfl,HM8.out.st.2.2.2.2⟩) ((Mv.trans ⟨HF6.out,New.refl _ _⟩ HV8.out).trans ⟨(Fr.refl _ _).setCell (p:=⟨mb,5,none⟩) (.inl (by simp)) _,New.refl _ _⟩)
end
end Go.Proofs.YtmdgeoalamancaaGreatDoor
namespace Go.Proofs.YtmdgeoalamancaaGreatDoor
open Go.RowKit
open Bt Can Mc
def Pst (P:Ending→World→Prop) (e:Ending) (w':World):Prop:=P e w'
theorem step_0 (mb:Nat) (cs:List Value) (w:World) (hO:Own w mb cs) (h5:cs[5]? =some (.int .i64 0)) (P:Ending→World→Prop) (hc:Calls Tryz.prog 53 #[.pointer (some ⟨mb,0,none⟩)] w fun e w'=> ∃b,e= .returned (.bool b)∧P (.returned (.bool b)) w'):Calls Tryz.prog 29 #[.pointer (some ⟨mb,0,none⟩)] w (Pst P):=by
 have k5:=hO.1 5 _ h5
 have HC:=Lib.hid hc
 clear hO h5 hc
 go_enter Tryz.func29,Tryz.ntmps29
 go_wp2_with (fail)
 refine HC.out.mono ?_
 rintro e w1 ⟨b,rfl,hp⟩
 have HP:=Lib.hid hp
 clear hp k5 HC
 go_wp2_with (fail)
 go_ret
 exact HP.out
theorem step_1 (mb:Nat) (cs:List Value) (w:World) (hO:Own w mb cs) (h5:cs[5]? =some (.int .i64 1)) (P:Ending→World→Prop) (hc:Calls Tryz.prog 54 #[.pointer (some ⟨mb,0,none⟩)] w fun e w'=> ∃b,e= .returned (.bool b)∧P (.returned (.bool b)) w'):Calls Tryz.prog 29 #[.pointer (some ⟨mb,0,none⟩)] w (Pst P):=by
 have k5:=hO.1 5 _ h5
 have HC:=Lib.hid hc
 clear hO h5 hc
 go_enter Tryz.func29,Tryz.ntmps29
 go_wp2_with (fail)
 refine HC.out.mono ?_
 rintro e w1 ⟨b,rfl,hp⟩
 have HP:=Lib.hid hp
 clear hp k5 HC
 go_wp2_with (fail)
 go_ret
 exact HP.out
theorem step_2 (mb:Nat) (cs:List Value) (w:World) (hO:Own w mb cs) (h5:cs[5]? =some (.int .i64 2)) (P:Ending→World→Prop) (hc:Calls Tryz.prog 55 #[.pointer (some ⟨mb,0,none⟩)] w fun e w'=> ∃b,e= .returned (.bool b)∧P (.returned (.bool b)) w'):Calls Tryz.prog 29 #[.pointer (some ⟨mb,0,none⟩)] w (Pst P):=by
 have k5:=hO.1 5 _ h5
 have HC:=Lib.hid hc
 clear hO h5 hc
 go_enter Tryz.func29,Tryz.ntmps29
 go_wp2_with (fail)
 refine HC.out.mono ?_
 rintro e w1 ⟨b,rfl,hp⟩
 have HP:=Lib.hid hp
 clear hp k5 HC
 go_wp2_with (fail)
 go_ret
 exact HP.out
theorem step_3 (mb:Nat) (cs:List Value) (w:World) (hO:Own w mb cs) (h5:cs[5]? =some (.int .i64 3)) (P:Ending→World→Prop) (hc:Calls Tryz.prog 56 #[.pointer (some ⟨mb,0,none⟩)] w fun e w'=> ∃b,e= .returned (.bool b)∧P (.returned (.bool b)) w'):Calls Tryz.prog 29 #[.pointer (some ⟨mb,0,none⟩)] w (Pst P):=by
 have k5:=hO.1 5 _ h5
 have HC:=Lib.hid hc
 clear hO h5 hc
 go_enter Tryz.func29,Tryz.ntmps29
 go_wp2_with (fail)
 refine HC.out.mono ?_
 rintro e w1 ⟨b,rfl,hp⟩
 have HP:=Lib.hid hp
 clear hp k5 HC
 go_wp2_with (fail)
 go_ret
 exact HP.out
theorem step_4 (mb:Nat) (cs:List Value) (w:World) (hO:Own w mb cs) (h5:cs[5]? =some (.int .i64 4)) (P:Ending→World→Prop) (hc:Calls Tryz.prog 57 #[.pointer (some ⟨mb,0,none⟩)] w fun e w'=> ∃b,e= .returned (.bool b)∧P (.returned (.bool b)) w'):Calls Tryz.prog 29 #[.pointer (some ⟨mb,0,none⟩)] w (Pst P):=by
 have k5:=hO.1 5 _ h5
 have HC:=Lib.hid hc
 clear hO h5 hc
 go_enter Tryz.func29,Tryz.ntmps29
 go_wp2_with (fail)
 refine HC.out.mono ?_
 rintro e w1 ⟨b,rfl,hp⟩
 have HP:=Lib.hid hp
 clear hp k5 HC
 go_wp2_with (fail)
 go_ret
 exact HP.out
theorem step_6 (mb:Nat) (cs:List Value) (w:World) (hO:Own w mb cs) (h5:cs[5]? =some (.int .i64 6)) (P:Ending→World→Prop) (hc:Calls Tryz.prog 59 #[.pointer (some ⟨mb,0,none⟩)] w fun e w'=> ∃b,e= .returned (.bool b)∧P (.returned (.bool b)) w'):Calls Tryz.prog 29 #[.pointer (some ⟨mb,0,none⟩)] w (Pst P):=by
 have k5:=hO.1 5 _ h5
 have HC:=Lib.hid hc
 clear hO h5 hc
 go_enter Tryz.func29,Tryz.ntmps29
 go_wp2_with (fail)
 refine HC.out.mono ?_
 rintro e w1 ⟨b,rfl,hp⟩
 have HP:=Lib.hid hp
 clear hp k5 HC
 go_wp2_with (fail)
 go_ret
 exact HP.out
theorem step_7 (mb:Nat) (cs:List Value) (w:World) (hO:Own w mb cs) (h5:cs[5]? =some (.int .i64 7)) (P:Ending→World→Prop) (hc:Calls Tryz.prog 60 #[.pointer (some ⟨mb,0,none⟩)] w fun e w'=> ∃b,e= .returned (.bool b)∧P (.returned (.bool b)) w'):Calls Tryz.prog 29 #[.pointer (some ⟨mb,0,none⟩)] w (Pst P):=by
 have k5:=hO.1 5 _ h5
 have HC:=Lib.hid hc
 clear hO h5 hc
 go_enter Tryz.func29,Tryz.ntmps29
 go_wp2_with (fail)
 refine HC.out.mono ?_
 rintro e w1 ⟨b,rfl,hp⟩
 have HP:=Lib.hid hp
 clear hp k5 HC
 go_wp2_with (fail)
 go_ret
 exact HP.out
theorem step_8 (mb:Nat) (cs:List Value) (w:World) (hO:Own w mb cs) (h5:cs[5]? =some (.int .i64 8)) (P:Ending→World→Prop) (hc:Calls Tryz.prog 61 #[.pointer (some ⟨mb,0,none⟩)] w fun e w'=> ∃b,e= .returned (.bool b)∧P (.returned (.bool b)) w'):Calls Tryz.prog 29 #[.pointer (some ⟨mb,0,none⟩)] w (Pst P):=by
 have k5:=hO.1 5 _ h5
 have HC:=Lib.hid hc
 clear hO h5 hc
 go_enter Tryz.func29,Tryz.ntmps29
 go_wp2_with (fail)
 refine HC.out.mono ?_
 rintro e w1 ⟨b,rfl,hp⟩
 have HP:=Lib.hid hp
 clear hp k5 HC
 go_wp2_with (fail)
 go_ret
 exact HP.out
theorem step_10 (mb:Nat) (cs:List Value) (w:World) (hO:Own w mb cs) (h5:cs[5]? =some (.int .i64 10)) (P:Ending→World→Prop) (hc:Calls Tryz.prog 62 #[.pointer (some ⟨mb,0,none⟩)] w fun e w'=> ∃b,e= .returned (.bool b)∧P (.returned (.bool b)) w'):Calls Tryz.prog 29 #[.pointer (some ⟨mb,0,none⟩)] w (Pst P):=by
 have k5:=hO.1 5 _ h5
 have HC:=Lib.hid hc
 clear hO h5 hc
 go_enter Tryz.func29,Tryz.ntmps29
 go_wp2_with (fail)
 refine HC.out.mono ?_
 rintro e w1 ⟨b,rfl,hp⟩
 have HP:=Lib.hid hp
 clear hp k5 HC
 go_wp2_with (fail)
 go_ret
 exact HP.out
theorem step_5 (mb t:Nat) (cs:List Value) (w:World) (hO:Own w mb cs) (h5:cs[5]? =some (.int .i64 5)) (ht:cs[13]? =some (.pointer (some ⟨t,0,none⟩))) (P:Ending→World→Prop) (hc:Calls Tryz.prog 58 #[.pointer (some ⟨mb,0,none⟩),.pointer (some ⟨t,0,none⟩),.int .i64 6] w fun e w'=> ∃b,e= .returned (.bool b)∧P (.returned (.bool b)) w'):Calls Tryz.prog 29 #[.pointer (some ⟨mb,0,none⟩)] w (Pst P):=by
 have k5:=hO.1 5 _ h5
 have kt:=hO.1 13 _ ht
 have HC:=Lib.hid hc
 clear hO h5 hc ht
 go_enter Tryz.func29,Tryz.ntmps29
 go_wp2_with (fail)
 refine HC.out.mono ?_
 rintro e w1 ⟨b,rfl,hp⟩
 have HP:=Lib.hid hp
 clear hp k5 kt HC
 go_wp2_with (fail)
 go_ret
 exact HP.out
theorem step_9 (mb t:Nat) (cs:List Value) (w:World) (hO:Own w mb cs) (h5:cs[5]? =some (.int .i64 9)) (ht:cs[16]? =some (.pointer (some ⟨t,0,none⟩))) (P:Ending→World→Prop) (hc:Calls Tryz.prog 58 #[.pointer (some ⟨mb,0,none⟩),.pointer (some ⟨t,0,none⟩),.int .i64 10] w fun e w'=> ∃b,e= .returned (.bool b)∧P (.returned (.bool b)) w'):Calls Tryz.prog 29 #[.pointer (some ⟨mb,0,none⟩)] w (Pst P):=by
 have k5:=hO.1 5 _ h5
 have kt:=hO.1 16 _ ht
 have HC:=Lib.hid hc
 clear hO h5 hc ht
 go_enter Tryz.func29,Tryz.ntmps29
 go_wp2_with (fail)
 refine HC.out.mono ?_
 rintro e w1 ⟨b,rfl,hp⟩
 have HP:=Lib.hid hp
 clear hp k5 kt HC
 go_wp2_with (fail)
 go_ret
 exact HP.out
end Go.Proofs.YtmdgeoalamancaaGreatDoor
namespace Go.Proofs.YtmdgeoalamancaaGreatDoor
open Go.RowKit
open Bt Can Mc
def Al (p:Nat):St→Prop
 | .size=>p%8=0
 | .bytes _=>p%8=0
 | .short nl nd _ _ _=>257≤nl∧1≤nd
 | .run nl nd _ _=>257≤nl∧1≤nd
 | .runX nl nd _ _ _=>257≤nl∧1≤nd
 |_=>True
theorem Al.step {p:Nat} {c c1:Cfg} {a:List Bool} (h:Stp p c a c1) (ha:Al p c.st):Al (p+a.length) c1.st:=by
 cases h with
 |stored f T v pad hv hp=>
  show (p+(lsb v 3++pad).length)%8=0
  rw[List.length_append,lsb_len,hp]
  unfold gap
  omega
 |size f T n hn=>
  have ha:p%8=0:=ha
  show (p+(lsb _ 32).length)%8=0
  rw[lsb_len]
  omega
 |byte f T b left hb=>
  have ha:p%8=0:=ha
  show (p+(lsb _ 8).length)%8=0
  rw[lsb_len]
  omega
 |counts f T nl nd many h1 h2 h3=>exact⟨h1.1,h2.1⟩
 |short=>exact ha
 |shortE=>exact ha
 |run=>exact ha
 |runX=>exact ha
 |_=>trivial
def pot (c:Cfg):Nat:=c.T.length+match c.st with| .bytes n=>n|_=>0
theorem pot_step {p:Nat} {c c1:Cfg} {a:List Bool} (h:Stp p c a c1):pot c≤pot c1:=by
 cases h<;>simp[pot,Tk.cp_len]<;>omega
theorem pot_chn {p:Nat} {c c2:Cfg} {a:List Bool} (h:Chn p c a c2):pot c≤pot c2:=by
 induction h with
 |nil=>exact Nat.le_refl _
 |cons h _ ih=>exact Nat.le_trans (pot_step h) ih
def Tml (c:Cfg):Prop:=c.st= .block∨c.st= .ended
theorem Tml.pot {c:Cfg} (h:Tml c):pot c=c.T.length:=by
 obtain⟨f,T,st⟩:=c
 rcases h with h|h<;>(have h:st=_:=h;subst h;rfl)
def rk:St→Nat
 | .bytes _=>1
 | .runX .. =>2
 | .lenX .. =>2
 | .dist .. =>1
 | .distX .. =>1
 |_=>0
theorem stp_pre {p:Nat} {c c1:Cfg} {a:List Bool} (h:Stp p c a c1): ∃l,c1.T=c.T++l:=by
 cases h with
 |byte f T b left hb=>exact⟨_,rfl⟩
 |lit f T L D s hs h=>exact⟨_,rfl⟩
 |distX f T L D n s e h he hd=>exact Tk.cp_pre _ _ _
 |_=>exact⟨[],by simp⟩
theorem lsb_inj {x y n:Nat} (hx:x<2^n) (hy:y<2^n) (h:lsb x n=lsb y n):x=y:=by
 have:=congrArg val h
 rw[val_lsb,val_lsb,Nat.mod_eq_of_lt hx,Nat.mod_eq_of_lt hy] at this
 exact this
theorem chn_bytes (f:Bool) {c2:Cfg} (hf:Tml c2): ∀(l:List Nat) (T:List Nat) (n p:Nat) (rest:List Bool),(∀x∈l,x<256)→l.length≤n→Chn p ⟨f,T,.bytes n⟩ (byts l++rest) c2→Chn (p+8*l.length) ⟨f,T++l,.bytes (n-l.length)⟩ rest c2
 | [],T,n,p,rest,_,_,h=>by simpa[byts_nil] using h
 |x::l,T,n,p,rest,hx,hn,h=>by
  obtain⟨m,rfl⟩: ∃m,n=m+1:=⟨n-1,by simp at hn;omega⟩
  rw[byts_cons,List.append_assoc] at h
  generalize hs:lsb x 8++(byts l++rest)=s at h
  cases h with
  |nil=>rcases hf with h|h<;>cases h
  |cons h t=>
   cases h with
   |byte _ _ b left hb=>
    obtain⟨e1,e2⟩:=List.append_inj hs (by rw[lsb_len,lsb_len])
    have hxb:x=b:=lsb_inj (n:=8) (hx x (by simp)) hb e1
    subst hxb
    rw[←e2,lsb_len] at t
    have ih:=chn_bytes f hf l (T++[x]) m (p+8) rest (fun y hy=>hx y (by simp[hy])) (by simpa using hn) t
    rw[List.append_assoc] at ih
    rw[List.length_cons,show p+8*(l.length+1)=p+8+8*l.length by omega,show m+1-(l.length+1)=m-l.length by omega]
    exact ih
theorem take_eq {R S x y:List Bool} (h:R++S=x++y) (hl:x.length≤R.length):R.take x.length=x:=by
 have:=congrArg (List.take x.length) h
 rw[List.take_append_of_le_length hl,List.take_left] at this
 exact this
theorem drop_eq {R S x y:List Bool} (h:R++S=x++y) (hl:x.length≤R.length):R.drop x.length++S=y:=by
 have:=congrArg (List.drop x.length) h
 rw[List.drop_append_of_le_length hl,List.drop_left] at this
 exact this
theorem get_eq {R S x y:List Bool} (h:R++S=x++y) (j:Nat) (h1:j<x.length) (h2:j<R.length):R[j]? =x[j]? :=by
 have:(R++S)[j]? =(x++y)[j]? :=by rw[h]
 rw[List.getElem?_append_left h2,List.getElem?_append_left h1] at this
 exact this
theorem more_eq {R S x y:List Bool} (h:R++S=x++y) (hl:R.length<x.length):S≠[]:=by
 rintro rfl
 have:=congrArg List.length h
 simp at this
 omega
def StepP (F:List Nat) (mb:Nat) (c:Cfg) (R:List Bool) (O:List Nat) (S:List Bool) (c2:Cfg) (w:World) (e:Ending) (w':World):Prop:=
 (e= .returned (.bool true)∧ ∃F' p' c' R' O',Ma F' w' mb c' R' O'∧Mv F w F' w'∧O'=O++c'.T.drop c.T.length∧Chn p' c' (R'++S) c2∧(p'+R'.length)%8=0∧Al p' c'.st∧(∃l,c'.T=c.T++l)∧8*R'.length+rk c'.st<8*R.length+rk c.st)∨
 (e= .returned (.bool false)∧Ma F w' mb c R O∧Fr F w w'∧(S=[]→c=c2∧R=[]))
section
variable {F:List Nat} {mb p:Nat} {c c1 c2:Cfg} {R S a b:List Bool} {O:List Nat} {w w':World} {e:Ending}
theorem StepP.of {O1:List Nat} {R1:List Bool} (hs:Stp p c a c1) (t:Chn (p+a.length) c1 b c2) (heq:R++S=a++b) (hl:a.length≤R.length) (h8:(p+R.length)%8=0) (hal:Al p c.st) (hrk:rk c1.st<rk c.st+8*a.length) (hy:Yes F mb c1 R1 O1 w e w') (hR1:R1=R.drop a.length) (hO1:O1=O++c1.T.drop c.T.length): ∃x,e= .returned (.bool x)∧StepP F mb c R O S c2 w (.returned (.bool x)) w':=by
 obtain⟨rfl,F',h1,h2⟩:=hy
 subst hR1
 refine⟨true,rfl,.inl ⟨rfl,F',p+a.length,c1,_,O1,h1,h2,hO1,?_,?_,Al.step hs hal,stp_pre hs,?_⟩⟩
 ·rw[drop_eq heq hl];exact t
 ·rw[List.length_drop];omega
 ·rw[List.length_drop];omega
theorem StepP.no (hn:No F mb c R O w e w') (hS:S=[]→c=c2∧R=[]): ∃x,e= .returned (.bool x)∧StepP F mb c R O S c2 w (.returned (.bool x)) w':=by
 obtain⟨rfl,h1,h2⟩:=hn
 exact⟨false,rfl,.inr ⟨rfl,h1,h2,hS⟩⟩
end
theorem drop_same (O:List Nat) (T:List Nat):O=O++T.drop T.length:=by rw[List.drop_length,List.append_nil]
theorem drop_left' (O T l:List Nat):O++l=O++(T++l).drop T.length:=by rw[List.drop_left]
set_option maxHeartbeats 4000000 in
theorem step_any (F:List Nat) (mb p:Nat) (c c2:Cfg) (R S:List Bool) (O:List Nat) (w:World) (h:Ma F w mb c R O) (hch:Chn p c (R++S) c2) (hfin:Tml c2) (hal:Al p c.st) (h8:(p+R.length)%8=0) (hT:c2.T.length≤30000) (hOT:O.length≤c.T.length) (hne:c.st≠ .ended) (hG:Gl w) (hF: ∀k∈F,8≤k):Calls Tryz.prog 29 #[.pointer (some ⟨mb,0,none⟩)] w (Pst (StepP F mb c R O S c2 w)):=by
 have hpot:=pot_chn hch
 rw[hfin.pot] at hpot
 obtain⟨rb,wb,RF,S0,vo,q,rfl,hm⟩:=h
 have hrb8:8≤rb:=hF rb hm.foot.2.1
 have h5:(mcs rb wb vo c.fin q)[5]? =some (.int .i64 (stN c.st:Nat)):=by
  show some q.stage=_
  rw[hm.st.stage]
 generalize hs:R++S=st0 at hch
 cases hch with
 |nil=>
  obtain⟨f,T,st⟩:=c
  obtain⟨hR,hS⟩:=List.append_eq_nil_iff.1 hs
  rcases hfin with hb|hb
  ·have hb:st= .block:=hb
   subst hb hR hS
   exact step_0 mb _ w hm.own h5 _ ((block_no w hm (by decide)).mono fun e w' hn=>StepP.no hn (fun _=>⟨rfl,rfl⟩))
  ·exact absurd hb hne
 |cons hs1 t=>
  rename_i c1 a b
  have hs1':=hs1
  cases hs1 with
  |stored f T v pad hv hp=>
   have hs0:=hs
   rw[List.append_assoc] at hs0
   by_cases h3:3≤R.length
   ·have hval:val (R.take 3)=v:=by
     have:=take_eq hs0 (by rw[lsb_len];exact h3)
     rw[lsb_len] at this
     rw[this,val_lsb,Nat.mod_eq_of_lt (by omega)]
    have hpl:pad.length=(R.drop 3).length%8:=by rw[hp,List.length_drop];unfold gap;omega
    have hal2:(lsb v 3++pad).length≤R.length:=by rw[List.length_append,lsb_len,hpl,List.length_drop];omega
    have hdr:(R.drop 3).drop ((R.drop 3).length%8)=R.drop (lsb v 3++pad).length:=by rw[List.drop_drop,List.length_append,lsb_len,hpl]
    obtain rfl|rfl:v=0∨v=1:=by omega
    ·exact step_0 mb _ w hm.own h5 _ ((block_stored0 w hm h3 hval).mono fun e w' hy=>StepP.of hs1' t hs hal2 h8 hal (by rw[List.length_append,lsb_len];show 0<0+8*(3+pad.length);omega) hy hdr (drop_same O T))
    ·exact step_0 mb _ w hm.own h5 _ ((block_stored1 w hm h3 hval).mono fun e w' hy=>StepP.of hs1' t hs hal2 h8 hal (by rw[List.length_append,lsb_len];show 0<0+8*(3+pad.length);omega) hy hdr (drop_same O T))
   ·exact step_0 mb _ w hm.own h5 _ ((block_no w hm (by omega)).mono fun e w' hn=>StepP.no hn (fun h=>absurd h (more_eq hs0 (by rw[lsb_len];omega))))
  |fixed f T v hv=>
   by_cases h3:3≤R.length
   ·have hval:val (R.take 3)=v+2:=by
     have:=take_eq hs (by rw[lsb_len];exact h3)
     rw[lsb_len] at this
     rw[this,val_lsb,Nat.mod_eq_of_lt (by omega)]
    have hal2:(lsb (v+2) 3).length≤R.length:=by rw[lsb_len];exact h3
    have hdr:R.drop 3=R.drop (lsb (v+2) 3).length:=by rw[lsb_len]
    obtain rfl|rfl:v=0∨v=1:=by omega
    ·exact step_0 mb _ w hm.own h5 _ ((block_fixed0 w hm h3 hval).mono fun e w' hy=>StepP.of hs1' t hs hal2 h8 hal (by rw[lsb_len];simp[rk]) hy hdr (drop_same O T))
    ·exact step_0 mb _ w hm.own h5 _ ((block_fixed1 w hm h3 hval).mono fun e w' hy=>StepP.of hs1' t hs hal2 h8 hal (by rw[lsb_len];simp[rk]) hy hdr (drop_same O T))
   ·exact step_0 mb _ w hm.own h5 _ ((block_no w hm (by omega)).mono fun e w' hn=>StepP.no hn (fun h=>absurd h (more_eq hs (by rw[lsb_len];omega))))
  |dyn f T v hv=>
   by_cases h3:3≤R.length
   ·have hval:val (R.take 3)=v+4:=by
     have:=take_eq hs (by rw[lsb_len];exact h3)
     rw[lsb_len] at this
     rw[this,val_lsb,Nat.mod_eq_of_lt (by omega)]
    have hal2:(lsb (v+4) 3).length≤R.length:=by rw[lsb_len];exact h3
    have hdr:R.drop 3=R.drop (lsb (v+4) 3).length:=by rw[lsb_len]
    obtain rfl|rfl:v=0∨v=1:=by omega
    ·exact step_0 mb _ w hm.own h5 _ ((block_dyn0 w hm h3 hval).mono fun e w' hy=>StepP.of hs1' t hs hal2 h8 hal (by rw[lsb_len];simp[rk]) hy hdr (drop_same O T))
    ·exact step_0 mb _ w hm.own h5 _ ((block_dyn1 w hm h3 hval).mono fun e w' hy=>StepP.of hs1' t hs hal2 h8 hal (by rw[lsb_len];simp[rk]) hy hdr (drop_same O T))
   ·exact step_0 mb _ w hm.own h5 _ ((block_no w hm (by omega)).mono fun e w' hn=>StepP.no hn (fun h=>absurd h (more_eq hs (by rw[lsb_len];omega))))
  |size f T n hn=>
   by_cases h3:32≤R.length
   ·have hval:val (R.take 32)=n+(65535-n)*65536:=by
     have:=take_eq hs (by rw[lsb_len];exact h3)
     rw[lsb_len] at this
     rw[this,val_lsb,Nat.mod_eq_of_lt (by omega)]
    exact step_1 mb _ w hm.own h5 _ ((ssize_yes n w hm h3 hn hval).mono fun e w' hy=>StepP.of hs1' t hs (by rw[lsb_len];exact h3) h8 hal (by rw[lsb_len];simp[rk]) hy (by rw[lsb_len]) (drop_same O T))
   ·exact step_1 mb _ w hm.own h5 _ ((ssize_no w hm (by omega)).mono fun e w' hn=>StepP.no hn (fun h=>absurd h (more_eq hs (by rw[lsb_len];omega))))
  |done0 T=>
   exact step_2 mb _ w hm.own h5 _ ((sbytes_end w hm).mono fun e w' hy=>StepP.of hs1' t hs (Nat.zero_le _) h8 hal (by simp[rk]) hy (by rfl) (drop_same O T))
  |done1 T _ hp=>
   have hp:a.length=gap p:=hp
   have hp8:p%8=0:=hal
   have hpl:a.length=R.length%8:=by rw[hp];unfold gap;omega
   exact step_2 mb _ w hm.own h5 _ ((sbytes_end w hm).mono fun e w' hy=>StepP.of hs1' t hs (by rw[hpl];exact Nat.mod_le _ _) h8 hal (by simp[rk];omega) hy (by rw[hpl];rfl) (drop_same O T))
  |counts f T nl nd many h1 h2 h3'=>
   by_cases h3:14≤R.length
   ·have hval:val (R.take 14)=(nl-257)+32*(nd-1)+1024*(many-4):=by
     have:=take_eq hs (by rw[lsb_len];exact h3)
     rw[lsb_len] at this
     rw[this,val_lsb,Nat.mod_eq_of_lt (by omega)]
    exact step_3 mb _ w hm.own h5 _ ((counts_yes nl nd many w hm h3 h1 h2 h3' hval).mono fun e w' hy=>StepP.of hs1' t hs (by rw[lsb_len];exact h3) h8 hal (by rw[lsb_len];simp[rk]) hy (by rw[lsb_len]) (drop_same O T))
   ·exact step_3 mb _ w hm.own h5 _ ((counts_no w hm (by omega)).mono fun e w' hn=>StepP.no hn (fun h=>absurd h (more_eq hs (by rw[lsb_len];omega))))
  |short f T nl nd many told v sh ht hv=>
   by_cases h3:3≤R.length
   ·have hval:val (R.take 3)=v:=by
     have:=take_eq hs (by rw[lsb_len];exact h3)
     rw[lsb_len] at this
     rw[this,val_lsb,Nat.mod_eq_of_lt (by omega)]
    exact step_4 mb _ w hm.own h5 _ ((short_yes nl nd many told v sh w hm h3 hv hval hG hrb8 ht).mono fun e w' hy=>StepP.of hs1' t hs (by rw[lsb_len];exact h3) h8 hal (by rw[lsb_len];simp[rk]) hy (by rw[lsb_len]) (drop_same O T))
   ·exact step_4 mb _ w hm.own h5 _ ((short_no nl nd many told sh w hm (by omega)).mono fun e w' hn=>StepP.no hn (fun h=>absurd h (more_eq hs (by rw[lsb_len];omega))))
  |shortE f T nl nd many told v sh ht hv hmay=>
   by_cases h3:3≤R.length
   ·have hval:val (R.take 3)=v:=by
     have:=take_eq hs (by rw[lsb_len];exact h3)
     rw[lsb_len] at this
     rw[this,val_lsb,Nat.mod_eq_of_lt (by omega)]
    exact step_4 mb _ w hm.own h5 _ ((short_end nl nd many told v sh w hm h3 hv hval hG hrb8 ht hmay).mono fun e w' hy=>StepP.of hs1' t hs (by rw[lsb_len];exact h3) h8 hal (by rw[lsb_len];simp[rk]) hy (by rw[lsb_len]) (drop_same O T))
   ·exact step_4 mb _ w hm.own h5 _ ((short_no nl nd many told sh w hm (by omega)).mono fun e w' hn=>StepP.no hn (fun h=>absurd h (more_eq hs (by rw[lsb_len];omega))))
  |run f T nl nd tb ls s hhas=>
   obtain⟨e0,e1,e2,⟨t0,F0,e3,e4,e5⟩,e6,e7,e8,e9⟩:=hm.st
   have h13:(mcs rb wb vo f q)[13]? =some (.pointer (some ⟨t0,0,none⟩)):=by show some q.tbl=_;rw[e3]
   have hc:=fun j h1 h2=>get_eq hs j (by rw[cb_len];exact h1) h2
   by_cases hl:len tb s≤R.length
   ·refine step_5 mb t0 _ w hm.own h5 h13 _ ((code_yes t0 F0 tb s 6 (.runX nl nd tb ls s) w hm e4 (fun k hk=>e5 k (by simp[hk])) hhas hl hc (by omega) (by omega) (fun W _ hS _=> ?_)).mono fun e w' hy=>StepP.of (R1:=R.drop (len tb s)) hs1' t hs (by rw[cb_len];exact hl) h8 hal (by rw[cb_len];simp[rk];have:=hhas.2;omega) ?_ (by rw[cb_len]) (drop_same O T))
    ·obtain⟨a0,a1,a2,a3,a4,a5,a6,a7⟩:=hS
     exact⟨rfl,a1,a2,a3,a4,a5,a6,a7,rfl⟩
    ·rw[hy.1]
     exact Yes.of hy.2.1 (Mv.sub hy.2.2 (fun k hk=>by
      rcases List.mem_cons.1 hk with h1|h1
      ·rw[h1];exact hm.foot.1
      ·rw[List.mem_singleton.1 h1];exact hm.foot.2.1) (New.refl _ _))
   ·exact step_5 mb t0 _ w hm.own h5 h13 _ ((code_no t0 F0 tb s 6 w hm e4 (fun k hk=>e5 k (by simp[hk])) hhas (by omega) hc).mono fun e w' hn=>StepP.no ⟨hn.1,(hm.below hn.2).ma,Fr.of_below hn.2⟩ (fun h=>absurd h (more_eq hs (by rw[cb_len];omega))))
  |runX f T nl nd tb ls s x hs18 he h16 hl=>
   by_cases h3:Rn.ext s≤R.length
   ·have hval:val (R.take (Rn.ext s))=x:=by
     have:=take_eq hs (by rw[lsb_len];exact h3)
     rw[lsb_len] at this
     rw[this,val_lsb,Nat.mod_eq_of_lt he]
    exact step_6 mb _ w hm.own h5 _ ((run_yes nl nd s x tb ls w hm hs18 h3 he hval h16 (Nat.le_of_lt hl) (fun h=>absurd h (Nat.ne_of_lt hl))).mono fun e w' hy=>StepP.of hs1' t hs (by rw[lsb_len];exact h3) h8 hal (by simp[rk];try omega) (hy.1 hl) (by rw[lsb_len]) (drop_same O T))
   ·exact step_6 mb _ w hm.own h5 _ ((run_no nl nd s tb ls w hm hs18 (by omega)).mono fun e w' hn=>StepP.no hn (fun h=>absurd h (more_eq hs (by rw[lsb_len];omega))))
  |runE f T nl nd tb ls s x hs18 he h16 hl hend hL hD=>
   by_cases h3:Rn.ext s≤R.length
   ·have hval:val (R.take (Rn.ext s))=x:=by
     have:=take_eq hs (by rw[lsb_len];exact h3)
     rw[lsb_len] at this
     rw[this,val_lsb,Nat.mod_eq_of_lt he]
    have hal2:257≤nl∧1≤nd:=hal
    exact step_6 mb _ w hm.own h5 _ ((run_yes nl nd s x tb ls w hm hs18 h3 he hval h16 (Nat.le_of_eq hl) (fun _=>⟨hal2.1,hal2.2,hend,hL,hD⟩)).mono fun e w' hy=>StepP.of hs1' t hs (by rw[lsb_len];exact h3) h8 hal (by simp[rk];try omega) (hy.2 hl) (by rw[lsb_len]) (drop_same O T))
   ·exact step_6 mb _ w hm.own h5 _ ((run_no nl nd s tb ls w hm hs18 (by omega)).mono fun e w' hn=>StepP.no hn (fun h=>absurd h (more_eq hs (by rw[lsb_len];omega))))
  |lit f T L D s hhas hlt=>
   have hc:=fun j h1 h2=>get_eq hs j (by rw[cb_len];exact h1) h2
   have ht1:=pot_chn t
   rw[hfin.pot] at ht1
   have ht2:T.length+1≤c2.T.length:=by simpa[pot] using ht1
   have hOT':O.length≤T.length:=hOT
   by_cases hl:len L s≤R.length
   ·exact step_7 mb _ w hm.own h5 _ ((symbol_lit L D s w hm hhas hl hc hlt (by omega) (by omega)).mono fun e w' hy=>StepP.of hs1' t hs (by rw[cb_len];exact hl) h8 hal (by rw[cb_len];simp[rk];have:=hhas.2;omega) hy (by rw[cb_len]) (drop_left' O T [s]))
   ·exact step_7 mb _ w hm.own h5 _ ((symbol_no L D s w hm hhas (by omega) hc).mono fun e w' hn=>StepP.no hn (fun h=>absurd h (more_eq hs (by rw[cb_len];omega))))
  |eob0 T L D hhas=>
   have hc:=fun j h1 h2=>get_eq hs j (by rw[cb_len];exact h1) h2
   by_cases hl:len L 256≤R.length
   ·exact step_7 mb _ w hm.own h5 _ ((symbol_eob L D w hm hhas hl hc).mono fun e w' hy=>StepP.of hs1' t hs (by rw[cb_len];exact hl) h8 hal (by rw[cb_len];simp[rk];have:=hhas.2;omega) hy (by rw[cb_len];rfl) (drop_same O T))
   ·exact step_7 mb _ w hm.own h5 _ ((symbol_no L D 256 w hm hhas (by omega) hc).mono fun e w' hn=>StepP.no hn (fun h=>absurd h (more_eq hs (by rw[cb_len];omega))))
  |eob1 T L D pad hhas hp=>
   have hs0:=hs
   rw[List.append_assoc] at hs0
   have hc:=fun j h1 h2=>get_eq hs0 j (by rw[cb_len];exact h1) h2
   by_cases hl:len L 256≤R.length
   ·have hpl:pad.length=(R.drop (len L 256)).length%8:=by rw[hp,List.length_drop];unfold gap;omega
    exact step_7 mb _ w hm.own h5 _ ((symbol_eob L D w hm hhas hl hc).mono fun e w' hy=>StepP.of hs1' t hs (by rw[List.length_append,cb_len,hpl,List.length_drop];omega) h8 hal (by rw[List.length_append,cb_len];simp[rk];have:=hhas.2;omega) hy (by rw[List.length_append,cb_len,hpl,←List.drop_drop];rfl) (drop_same O T))
   ·exact step_7 mb _ w hm.own h5 _ ((symbol_no L D 256 w hm hhas (by omega) hc).mono fun e w' hn=>StepP.no hn (fun h=>absurd h (more_eq hs0 (by rw[cb_len];omega))))
  |lenS f T L D s hhas h1 h2=>
   have hc:=fun j h1 h2=>get_eq hs j (by rw[cb_len];exact h1) h2
   by_cases hl:len L s≤R.length
   ·exact step_7 mb _ w hm.own h5 _ ((symbol_len L D s w hm hhas hl hc h1 h2).mono fun e w' hy=>StepP.of hs1' t hs (by rw[cb_len];exact hl) h8 hal (by rw[cb_len];simp[rk];have:=hhas.2;omega) hy (by rw[cb_len]) (drop_same O T))
   ·exact step_7 mb _ w hm.own h5 _ ((symbol_no L D s w hm hhas (by omega) hc).mono fun e w' hn=>StepP.no hn (fun h=>absurd h (more_eq hs (by rw[cb_len];omega))))
  |lenX f T L D s x h1 h2 he=>
   obtain⟨i,rfl⟩: ∃i,s=257+i:=⟨s-257,by omega⟩
   rw[show 257+i-257=i by omega] at*
   by_cases h3:lX.getD i 0≤R.length
   ·have hval:val (R.take (lX.getD i 0))=x:=by
     have:=take_eq hs (by rw[lsb_len];exact h3)
     rw[lsb_len] at this
     rw[this,val_lsb,Nat.mod_eq_of_lt he]
    exact step_8 mb _ w hm.own h5 _ ((length_yes L D i x w hm (by omega) h3 he hval hG).mono fun e w' hy=>StepP.of hs1' t hs (by rw[lsb_len];exact h3) h8 hal (by simp[rk];try omega) hy (by rw[lsb_len]) (drop_same O T))
   ·exact step_8 mb _ w hm.own h5 _ ((length_no L D i w hm (by omega) (by omega) hG).mono fun e w' hn=>StepP.no hn (fun h=>absurd h (more_eq hs (by rw[lsb_len];omega))))
  |dist f T L D n s hhas hlt=>
   obtain⟨e0,e1,e1',t1,F1,t2,F2,e2,e3,e4,e5,e6⟩:=hm.st
   have h16:(mcs rb wb vo f q)[16]? =some (.pointer (some ⟨t2,0,none⟩)):=by show some q.dists=_;rw[e3]
   have hc:=fun j h1 h2=>get_eq hs j (by rw[cb_len];exact h1) h2
   by_cases hl:len D s≤R.length
   ·refine step_9 mb t2 _ w hm.own h5 h16 _ ((code_yes t2 F2 D s 10 (.distX L D n s) w hm e5 (fun k hk=>e6 k (by simp[hk])) hhas hl hc (fun _=>hlt) (by omega) (fun W _ hS _=> ?_)).mono fun e w' hy=>StepP.of (R1:=R.drop (len D s)) hs1' t hs (by rw[cb_len];exact hl) h8 hal (by rw[cb_len];simp[rk];have:=hhas.2;omega) ?_ (by rw[cb_len]) (drop_same O T))
    ·obtain⟨a0,a1,a2,a3⟩:=hS
     exact⟨rfl,a1,a2,rfl,a3⟩
    ·rw[hy.1]
     exact Yes.of hy.2.1 (Mv.sub hy.2.2 (fun k hk=>by
      rcases List.mem_cons.1 hk with h1|h1
      ·rw[h1];exact hm.foot.1
      ·rw[List.mem_singleton.1 h1];exact hm.foot.2.1) (New.refl _ _))
   ·exact step_9 mb t2 _ w hm.own h5 h16 _ ((code_no t2 F2 D s 10 w hm e5 (fun k hk=>e6 k (by simp[hk])) hhas (by omega) hc).mono fun e w' hn=>StepP.no ⟨hn.1,(hm.below hn.2).ma,Fr.of_below hn.2⟩ (fun h=>absurd h (more_eq hs (by rw[cb_len];omega))))
  |distX f T L D n s x hlt he hd=>
   have ht1:=pot_chn t
   rw[hfin.pot] at ht1
   have ht2:T.length+n≤c2.T.length:=by simpa[pot,Tk.cp_len] using ht1
   have hOT':O.length≤T.length:=hOT
   by_cases h3:dX s≤R.length
   ·have hval:val (R.take (dX s))=x:=by
     have:=take_eq hs (by rw[lsb_len];exact h3)
     rw[lsb_len] at this
     rw[this,val_lsb,Nat.mod_eq_of_lt he]
    exact step_10 mb _ w hm.own h5 _ ((match_yes L D n s x w hm hlt h3 he hval hd (by omega) (by omega) hG).mono fun e w' hy=>StepP.of hs1' t hs (by rw[lsb_len];exact h3) h8 hal (by simp[rk];try omega) hy (by rw[lsb_len]) rfl)
   ·exact step_10 mb _ w hm.own h5 _ ((match_no L D n s w hm hlt (by omega) hG).mono fun e w' hn=>StepP.no hn (fun h=>absurd h (more_eq hs (by rw[lsb_len];omega))))
  |byte f T x left hb=>
   have hp8:p%8=0:=hal
   have hOT':O.length≤T.length:=hOT
   have ht2:T.length+(left+1)≤c2.T.length:=by simpa[pot] using hpot
   by_cases h0:R.length=0
   ·exact step_2 mb _ w hm.own h5 _ ((sbytes_no left w hm h0).mono fun e w' hn=>StepP.no hn (fun h=>absurd h (more_eq hs (by rw[lsb_len];omega))))
   ·refine step_2 mb _ w hm.own h5 _ ((sbytes_yes (left+1) w hm (by omega) (by omega) (by omega) (by omega) (by omega) (by omega)).mono fun e w' hy=> ?_)
    obtain⟨l,R2,hl,hR,hx,rfl,F',h1,h2⟩:=hy
    have hch2:Chn p ⟨f,T,.bytes (left+1)⟩ (byts l++(R2++S)) c2:=by
     rw[←List.append_assoc,←hR,hs]
     exact .cons hs1' t
    have hl0:1≤l.length:=by omega
    have hRl:R.length=8*l.length+R2.length:=by rw[hR,List.length_append,byts_len]
    refine⟨true,rfl,.inl ⟨rfl,F',p+8*l.length,_,R2,_,h1,h2,drop_left' O T l,chn_bytes f hfin l T (left+1) p (R2++S) hx (by omega) hch2,?_,?_,⟨l,rfl⟩,?_⟩⟩
    ·omega
    ·show (p+8*l.length)%8=0
     omega
    ·show 8*R2.length+1<8*R.length+1
     omega
end Go.Proofs.YtmdgeoalamancaaGreatDoor
namespace Go.Proofs.YtmdgeoalamancaaGreatDoor
open Go.RowKit
open Bt Can Mc
def cellN (w:World) (b o:Nat):Nat:=match w.cell? ⟨b,o,none⟩ with|some (.int _ n)=>n.toNat|_=>0
def ptrN (w:World) (b o:Nat):Nat:=match w.cell? ⟨b,o,none⟩ with|some (.pointer (some a))=>a.block|_=>0
def sizN (w:World) (b o:Nat):Nat:=match w.cell? ⟨b,o,none⟩ with|some (.slice _ n _)=>n|_=>0
def rkN (n:Nat):Nat:=if n=2 then 1 else if n=6∨n=8 then 2 else if n=9∨n=10 then 1 else 0
def mu (w:World) (mb:Nat):Nat:=8*(8*sizN w (ptrN w mb 1) 0-cellN w (ptrN w mb 1) 1)+rkN (cellN w mb 5)
theorem rkN_st (st:St):rkN (stN st)=rk st:=by cases st<;>rfl
theorem Ma.mu {F:List Nat} {w:World} {mb:Nat} {c:Cfg} {R:List Bool} {O:List Nat} (h:Ma F w mb c R O):mu w mb=8*R.length+rk c.st:=by
 obtain⟨rb,wb,RF,S,vo,q,rfl,h⟩:=h
 have k1:=h.own.1 1 _ rfl
 have k5:=h.own.1 5 _ rfl
 rw[h.st.stage] at k5
 obtain⟨v,buf,p,gone,_,h1,_,h3,_,_,h6,_⟩:=h.rd
 have r0:=h1.1 0 _ rfl
 have r1:=h1.1 1 _ rfl
 obtain⟨a,cap,rfl,_⟩:=h3.form
 have hR:R.length=8*buf.length-p:=by rw[h6,List.length_drop,byts_len]
 have e1:ptrN w mb 1=rb:=by unfold ptrN;rw[k1]
 have e2:cellN w mb 5=stN c.st:=by unfold cellN;rw[k5];rfl
 have e3:sizN w rb 0=buf.length:=by unfold sizN;rw[r0]
 have e4:cellN w rb 1=p:=by unfold cellN;rw[r1];rfl
 unfold Go.Proofs.YtmdgeoalamancaaGreatDoor.mu
 rw[e1,e2,e3,e4,rkN_st,hR]
def WriteP (F:List Nat) (mb:Nat) (c:Cfg) (n:Nat) (O:List Nat) (S:List Bool) (c2:Cfg) (w:World) (e:Ending) (w':World):Prop:=
 e= .returned (.int .i64 0)∧ ∃F' p' c' R' O',Ma F' w' mb c' R' O'∧Mv F w F' w'∧O'=O++c'.T.drop c.T.length∧Chn p' c' (R'++S) c2∧(p'+R'.length)%8=0∧Al p' c'.st∧(∃l,c'.T=c.T++l)∧R'.length≤n∧(S=[]→c'=c2∧R'=[])
theorem ended_nil {p:Nat} {c c2:Cfg} {a:List Bool} (h:Chn p c a c2) (hc:c.st= .ended):c=c2∧a=[]:=by
 cases h with
 |nil=>exact⟨rfl,rfl⟩
 |cons h t=>cases h<;>cases hc
theorem stN_ended {st:St} (h:stN st=11):st= .ended:=by cases st<;>first|rfl|(simp[stN] at h)
theorem Mv.ge {F F':List Nat} {w w':World} (h:Mv F w F' w') (hF: ∀k∈F,8≤k) (hw:8≤w.heap.size): ∀k∈F',8≤k:=fun k hk=>by
 rcases h.2 k hk with h1|h1
 ·exact hF k h1
 ·omega
set_option maxHeartbeats 4000000 in
theorem mwrite_any (F:List Nat) (mb p m:Nat) (c c2:Cfg) (R S:List Bool) (O l:List Nat) (v:Value) (w:World) (h:Ma F w mb c R O) (hch:Chn p c (R++byts l++S) c2) (hfin:Tml c2) (hal:Al p c.st) (h8:(p+R.length)%8=0) (hT:c2.T.length≤30000) (hOT:O.length≤c.T.length) (hG:Gl w) (hF: ∀k∈F,8≤k) (hsl: ∀W,Fr F w W→Sl W W.heap.size 1 v m (bC l)) (hm:m=l.length) (hml:m≤1000000) (hR:R.length≤8000000) (hb: ∀x∈l,x<256):Calls Tryz.prog 9 #[.pointer (some ⟨mb,0,none⟩),v] w (WriteP F mb c (R.length+8*l.length) O S c2 w):=by
 obtain⟨rb,wb,RF,S0,vo,q,rfl,hq⟩:=h
 have k4:=hq.own.1 4 _ rfl
 have k1:=hq.own.1 1 _ rfl
 have HFD:=Lib.hid (feed_any RF rb R l m v w hq.rd hR (fun W hW=>hsl W (hW.weak (fun x hx _=>by simp[hx]))) hm hml hb)
 have HM:=Lib.hid hq
 obtain⟨va,vc,rfl,_⟩:=(hsl w (Fr.refl _ _)).form
 have HG:=Lib.hid hG
 have HF:=Lib.hid hF
 have HCH:=Lib.hid hch
 have hw8:8≤w.heap.size:=hG.sz
 have HFIN:=Lib.hid hfin
 have HAL:=Lib.hid hal
 have H8:=Lib.hid h8
 have HT:=Lib.hid hT
 have HOT:=Lib.hid hOT
 obtain⟨BN,hBN⟩: ∃z,R.length+8*l.length=z:=⟨_,rfl⟩
 have HBN:=Lib.hid hBN
 rw[hBN]
 clear hq hsl hG hF hch hb hal h8 hT hOT hBN hm
 go_enter Tryz.func9,Tryz.ntmps9
 go_wp2_with (fail)
 refine HFD.out.mono ?_
 rintro e w1 ⟨rfl,RF1,hr1,hf1,hn1⟩
 have hm1:=HM.out.read hr1 hf1 hn1
 have HM1:Hid (Ma (mb::(RF1++wb::(obk vo++S0))) w1 mb c (R++byts l) O):=Lib.hid hm1.ma
 have HV1:Hid (Mv (mb::(RF++wb::(obk vo++S0))) w (mb::(RF1++wb::(obk vo++S0))) w1):=Lib.hid (Mv.sub hf1 (fun k hk=>by simp[hk]) (fun k hk=>by
  rcases List.mem_cons.1 hk with h|hk
  ·exact .inl (by simp[h])
  rcases List.mem_append.1 hk with hk|hk
  ·rcases hn1 k hk with h|h
   ·exact .inl (by simp[h])
   ·exact .inr h
  ·exact .inl (by simp only[List.mem_cons,List.mem_append];exact .inr (.inr (by simpa using hk)))))
 clear hr1 hf1 hn1 hm1 HFD k4 k1
 obtain⟨F0,hF0⟩: ∃z,mb::(RF++wb::(obk vo++S0))=z:=⟨_,rfl⟩
 obtain⟨F1,hF1⟩: ∃z,mb::(RF1++wb::(obk vo++S0))=z:=⟨_,rfl⟩
 have HF00:=Lib.hid hF0
 rw[hF0] at HV1 HF
 rw[hF1] at HM1 HV1
 clear hF0 hF1 HM
 go_wp2_with (fail)
 go_loopw [28] (fun _ wr=> ∃F' p' c' R' O',Hid (Ma F' wr mb c' R' O')∧Hid (Mv F0 w F' wr)∧Hid (O'=O++c'.T.drop c.T.length)∧Hid (Chn p' c' (R'++S) c2)∧Hid ((p'+R'.length)%8=0)∧Hid (Al p' c'.st)∧Hid (∃l,c'.T=c.T++l)∧Hid (R'.length≤BN)) (fun _ wr=>mu wr mb)
 case atStart=>exact⟨F1,p,c,R++byts l,O,HM1,HV1,Lib.hid (drop_same O c.T),HCH,Lib.hid (by rw[List.length_append,byts_len];have:=H8.out;omega),HAL,Lib.hid ⟨[],by simp⟩,Lib.hid (by rw[List.length_append,byts_len,←HBN.out];exact Nat.le_refl _)⟩
 case round=>
  clear HM1 HV1
  obtain⟨F',p',c',R',O',HM,HV,HO,HC,H8',HA,HP,HB⟩:=hrel
  obtain⟨wo,rfl⟩: ∃z:World,z=wr:=⟨_,rfl⟩
  have hq:=HM.out
  obtain⟨rb2,wb2,RF2,S2,vo2,q2,hF2,hm2⟩:=hq
  have k5:=hm2.own.1 5 _ rfl
  rw[hm2.st.stage] at k5
  have k4:=hm2.own.1 4 _ rfl
  obtain⟨st,hst⟩: ∃z,stN c'.st=z:=⟨_,rfl⟩
  rw[hst] at k5
  by_cases he:st=11
  ·subst he
   have hen:c'.st= .ended:=stN_ended hst
   obtain⟨e1,e2⟩:=ended_nil HC.out hen
   have HE1:Hid (S=[]→c'=c2∧R'=[]):=Lib.hid (fun _=>⟨e1,(List.append_eq_nil_iff.1 e2).1⟩)
   clear hst hm2 hF2 hen e1 e2
   go_wp2_with (fail)
   go_ret
   exact⟨by rfl,F',p',c',R',O',HM.out,by rw[HF00.out];exact HV.out,HO.out,HC.out,H8'.out,HA.out,HP.out,HB.out,HE1.out⟩
  ·have d1:((st:Int)==11)=false:=by rw[beq_eq_false_iff_ne];omega
   have d1':(st==11)=false:=by rw[beq_eq_false_iff_ne];exact he
   have d2:((st:Int) != 11)=true:=by rw[bne_iff_ne];omega
   have d2':(st != 11)=true:=by rw[bne_iff_ne];exact he
   have hT':c'.T.length≤c2.T.length:=by
    have:=pot_chn HC.out
    rw[HFIN.out.pot] at this
    unfold pot at this
    omega
   have hOT':O'.length≤c'.T.length:=by
    obtain⟨l',hl'⟩:=HP.out
    rw[HO.out,hl',List.length_append,List.drop_left,List.length_append]
    have:=HOT.out
    omega
   have HSP:=Lib.hid (step_any F' mb p' c' c2 R' S O' wo HM.out HC.out HFIN.out HA.out H8'.out HT.out hOT' (fun h=>he (by rw[←hst,h];rfl)) (HG.out.fr HV.out.1 HF.out) (HV.out.ge HF.out hw8))
   have HMU:=Lib.hid HM.out.mu
   clear hst hm2 hF2 hT' hOT'
   go_wp2_with (fail)
   refine HSP.out.mono ?_
   intro e w5 hp5
   rcases hp5 with ⟨rfl,F5,p5,c5,R5,O5,hm5,hv5,ho5,hc5,h85,ha5,hp5,hrk5⟩|⟨rfl,hm5,hf5,hs5⟩
   ·have HM5:=Lib.hid hm5
    have HV5:=Lib.hid (HV.out.trans hv5)
    have HC5:=Lib.hid hc5
    have H85:=Lib.hid h85
    have HA5:=Lib.hid ha5
    have HRK5:=Lib.hid hrk5
    have HP5:Hid (∃l,c5.T=c.T++l):=Lib.hid (by
     obtain⟨l1,e1⟩:=HP.out
     obtain⟨l2,e2⟩:=hp5
     exact⟨l1++l2,by rw[e2,e1,List.append_assoc]⟩)
    have HO5:Hid (O5=O++c5.T.drop c.T.length):=Lib.hid (by
     obtain⟨l1,e1⟩:=HP.out
     obtain⟨l2,e2⟩:=hp5
     rw[ho5,HO.out,e2,List.drop_left,e1,List.append_assoc,List.drop_left,List.append_assoc,List.drop_left])
    have HB5:Hid (R5.length≤BN):=Lib.hid (by
     have h1:=HB.out
     have h2:rk c'.st≤7:=by cases c'.st<;>simp[rk]
     omega)
    clear hm5 hv5 ho5 hc5 h85 ha5 hp5 hrk5 HSP
    go_wp2_with (fail)
    go_roundw
    case rel=>exact⟨F5,p5,c5,R5,O5,HM5,HV5,HO5,HC5,H85,HA5,HP5,HB5⟩
    case measure=>rw[HM5.out.mu,HMU.out];exact HRK5.out
   ·have HM5:=Lib.hid hm5
    have HV5:=Lib.hid (HV.out.trans ⟨hf5,New.refl _ _⟩)
    have HS5:=Lib.hid hs5
    have hq5:=hm5
    obtain⟨rb3,wb3,RF3,S3,vo3,q3,hF3,hm3⟩:=hq5
    clear k4
    have k4:=hm3.own.1 4 _ rfl
    clear hm5 hf5 hs5 HSP hF3 hm3
    go_wp2_with (fail)
    go_ret
    exact⟨by rfl,F',p',c',R',O',HM5.out,by rw[HF00.out];exact HV5.out,HO.out,HC.out,H8'.out,HA.out,HP.out,HB.out,HS5.out⟩
end Go.Proofs.YtmdgeoalamancaaGreatDoor
