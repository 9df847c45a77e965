/- Clone; the reader of bits: Bytes, Feed. The reader of bits: Feed. A table of codes in memory; Next. -/
import Derived.Test.YtmdgeoalamancaaGreatDoorZAE
import Derived.Laws.CopyOwn
import Derived.Lib.SliceRun
set_option maxRecDepth 100000
set_option linter.unusedVariables false
set_option linter.unusedSimpArgs false
namespace Go.Proofs.YtmdgeoalamancaaGreatDoor
open Go.RowKit
open Bt
theorem row_sub {w:World} {base c L:Nat} {a:Option Addr} {buf:List Nat} (h:Row base 5 1 w (.slice a L c) L (bC buf)) (hL:L=buf.length) {f M:Nat} (hm:f+M≤L):Sl w w.heap.size 1 (.slice (if c=f then a else Option.map (fun x=>x.add f) a) M (c-f)) M (bC ((buf.drop f).take M)):=by
 have hpl:(bC ((buf.drop f).take M)).length=M*1:=by rw[bC_len,List.length_take,List.length_drop];omega
 rcases row_form h with ⟨hv,h0,_⟩|⟨g,c0,hv,hc,_,_⟩
 ·injection hv with hv1 _ hv2
  subst hv1 hv2
  exact⟨hpl,_,_,rfl,by omega,.inl ⟨by omega,fun _=>by omega⟩⟩
 ·injection hv with hv1 _ hv2
  subst hv1 hv2
  by_cases h0:M=0
  ·refine⟨hpl,_,_,rfl,by omega,.inl ⟨h0,fun h=> ?_⟩⟩
   split at h<;>cases h
  ·rw[if_neg (by omega)]
   show Sl w w.heap.size 1 (.slice (some ((⟨g,0,none⟩:Addr).add f)) M (c-f)) M _
   rw[add_plain,Nat.zero_add]
   exact row_part h hL (o:=f) (m:=M) (c':=c-f) (by omega) (by omega)
set_option maxHeartbeats 1000000 in
theorem cloneB_any (l:List Nat) (n:Nat) (v:Value) (B:Nat) (w:World) (h:Sl w B 1 v n (bC l)) (hB:B≤w.heap.size) (hn:n≤100000000):
  Calls Tryz.prog 133 #[v] w fun e w'=> ∃v',e= .returned v'∧Row w.heap.size 5 1 w' v' n (bC l)∧Below w.heap.size w w':=by
 obtain⟨a,c,rfl,hcap⟩:=h.form
 cases a with
 |none=>
  have h0:n=0∧c=0:=by
   obtain⟨_,a',c',hv,_,hor⟩:=h
   injection hv with h1 h2 h3
   subst h1 h3
   rcases hor with ⟨h4,h5⟩|⟨b,off,h4,_⟩
   ·exact⟨h4,h5 rfl⟩
   ·cases h4
  obtain⟨rfl,rfl⟩:=h0
  have hl:bC l=[]:=List.eq_nil_of_length_eq_zero (by have:=h.1;simpa using this)
  rw[hl]
  have heq:=fun W=>Lib.run_eql_slice_nil (P:=Tryz.prog) W 23 5 none 0 0 0 0 rfl
  clear h hl
  go_enter Tryz.func133,Tryz.ntmps133
  go_wp2_with (fail)
  go_ret
  exact⟨_,rfl,Row.nil,Below.refl _ _⟩
 |some ad=>
  have hA1:=(Below.refl w.heap.size w).alloc (Nat.le_refl _) (.cells #[] 5)
  have HRE:=Lib.hid (Row.empty (e:=5) (size:=1) w (Nat.le_refl w.heap.size))
  have HTL:=Lib.hid ((h.mono hB).below hA1)
  have HA:=Lib.hid hA1
  have heq:=fun W=>Lib.run_eql_slice_nil (P:=Tryz.prog) W 23 5 (some ad) n c 0 0 rfl
  clear h hA1
  go_enter Tryz.func133,Tryz.ntmps133
  go_wp2_with (at_builtin;refine append_row Tryz.underlying23 info_u8 rfl (by decide) rfl _ _ rfl rfl HRE.out rfl HTL.out (bC_one _) ?_ ?_ ?_ ?_;omega;omega;(simp))
  intro v6 w6 hr6 hb6
  have HR6:Hid (Row w.heap.size 5 1 w6 v6 n (bC l)):=Lib.hid hr6
  have HB6:=Lib.hid (HA.out.trans hb6)
  clear hr6 hb6
  go_wp2_with (fail)
  go_ret
  exact⟨_,rfl,HR6.out,HB6.out⟩
set_option maxHeartbeats 2000000 in
theorem rbytes_any (F:List Nat) (rb:Nat) (R:List Bool) (n:Nat) (w:World) (h:Rd F w rb R) (hn:n≤1000000000):
  Calls Tryz.prog 96 #[.pointer (some ⟨rb,0,none⟩),.int .i64 (n:Nat)] w fun e w'=> ∃v' l R2,e= .returned v'∧l.length=min n (R.length/8)∧R.drop (R.length%8)=byts l++R2∧Rd F w' rb R2∧Row w.heap.size 5 1 w' v' l.length (bC l)∧(∀x∈l,x<256)∧Fr [rb] w w':=by
 have HAL:=Lib.hid (ralign_any F rb R w h)
 obtain⟨R1,hR1⟩: ∃z,R.drop (R.length%8)=z:=⟨_,rfl⟩
 have hl1:R1.length%8=0∧R1.length/8=R.length/8:=by rw[←hR1,List.length_drop];omega
 rw[hR1] at HAL ⊢
 rw[←hl1.2]
 clear h hR1
 go_enter Tryz.func96,Tryz.ntmps96
 go_wp2_with (fail)
 refine HAL.out.mono ?_
 rintro e w1 ⟨rfl,hrd,hfr⟩
 obtain⟨va,buf,p,gone,rfl,h1,h2,h3,h4,h5,h6,h7⟩:=hrd
 have hRl:R1.length=8*buf.length-p:=by rw[h6,List.length_drop,byts_len]
 obtain⟨f,hf⟩: ∃f,p=8*f:=⟨p/8,by omega⟩
 subst hf
 have hR1b:R1=byts (buf.drop f):=by rw[h6,byts_drop]
 have k0:=h1.1 0 _ rfl
 have k1:=h1.1 1 _ rfl
 have f1:=h1.2 1
 have HO:=Lib.hid h1
 have HRW:=Lib.hid h3
 obtain⟨a,c,rfl,hcap⟩:=h3.form
 obtain⟨L,hL⟩: ∃z,buf.length=z:=⟨_,rfl⟩
 have HL:=Lib.hid hL
 rw[hL] at HRW HO k0 h5 h7 hcap hRl
 obtain⟨k,hk⟩: ∃z,min n (L-f)=z:=⟨_,rfl⟩
 have hmin:min n (R1.length/8)=k:=by rw[hRl];omega
 have t1:((8*f:Nat):Int).tdiv 8=((f:Nat):Int):=by rw[Int.tdiv_eq_ediv_of_nonneg (by omega)];omega
 have q1:IntKind.i64.wrap ((L:Int)-(f:Int))=((L-f:Nat):Int):=by rw[IntWalk.i64_in _ (by omega)];omega
 have HF:=Lib.hid hfr
 have HRB:=Lib.hid hR1b
 have HMIN:=Lib.hid hmin
 have qm:(if L-f<n then ((L-f:Nat):Int) else ((n:Nat):Int))=((k:Nat):Int):=by split<;>omega
 have qz:(if (0:Int)<((k:Nat):Int) then ((k:Nat):Int) else 0)=((k:Nat):Int):=by split<;>omega
 have qz2:(if 0<k then ((k:Nat):Int) else 0)=((k:Nat):Int):=by split<;>omega
 have hkL:f+k≤L:=by omega
 have hf8:8*f<9223372036854775807:=by omega
 obtain⟨PN,hPN⟩: ∃z,8*(f+k)=z:=⟨_,rfl⟩
 have qs:(8*((f:Nat):Int)+8*((k:Nat):Int))=((PN:Nat):Int):=by omega
 have qs2:(8*(((f:Nat):Int)+((k:Nat):Int)))=((PN:Nat):Int):=by omega
 have qt:(((f:Nat):Int)+((k:Nat):Int)).toNat-f=k:=by omega
 have HPN:=Lib.hid hPN
 clear h1 h3 h6 hL hR1b hfr HAL hmin hPN
 go_upto_region 5 with (fail)
 have HO2:=Lib.hid (HO.out.set 1 (.int .i64 (PN:Nat)) (by simp))
 have HR2:=Lib.hid (HRW.out.other (c:=rb) (by omega) 1 (.int .i64 (PN:Nat)))
 have HF2:=Lib.hid (HF.out.setCell (p:=⟨rb,1,none⟩) (.inl (by simp)) (.int .i64 (PN:Nat)))
 have hl2:rb<(w1.setCell ⟨rb,1,none⟩ (.int .i64 (PN:Nat))).heap.size:=by simpa using h2
 clear k0 k1 f1
 generalize w1.setCell ⟨rb,1,none⟩ (.int .i64 (PN:Nat))=w2 at*
 simp only[List.set_cons_succ,List.set_cons_zero] at HO2
 have k0:=HO2.out.1 0 _ rfl
 have hsub:=row_sub HR2.out HL.out.symm hkL
 by_cases hcf:c=f
 ·subst hcf
  rw[if_pos rfl,Nat.sub_self] at hsub
  have HCL:=Lib.hid (cloneB_any ((buf.drop c).take k) k _ w2.heap.size w2 hsub (Nat.le_refl _) (by omega))
  clear hsub
  go_wp2_with (fail)
  refine HCL.out.mono ?_
  rintro e w3 ⟨v3,rfl,hr3,hb3⟩
  have HR3:=Lib.hid hr3
  have HB3:=Lib.hid hb3
  have hlen:((buf.drop c).take k).length=k:=by rw[List.length_take,List.length_drop,HL.out];omega
  clear hr3 hb3 HCL
  go_wp2_with (fail)
  go_ret
  have hz:w.heap.size≤w2.heap.size:=HF2.out.size
  refine⟨_,(buf.drop c).take k,byts ((buf.drop c).drop k),rfl,by rw[hlen];exact HMIN.out.symm,?_,⟨.slice a L c,buf,PN,gone,by rw[HL.out],HO2.out.below HB3.out hl2,Nat.lt_of_lt_of_le hl2 HB3.out.size,by rw[HL.out];exact HR2.out.below HB3.out,h4,by have:=HPN.out;rw[HL.out];omega,?_,by rw[HL.out];exact h7⟩,by rw[hlen];exact HR3.out.mono hz,fun x hx=>h4 x (List.mem_of_mem_drop (List.mem_of_mem_take hx)),HF2.out.trans (Fr.of_below (F:=[]) HB3.out) (fun x hx=>by cases hx)⟩
  ·rw[HRB.out,←byts_app,List.take_append_drop]
  ·rw[List.drop_drop,←byts_drop,HPN.out]
 ·rw[if_neg hcf] at hsub
  have HCL:=Lib.hid (cloneB_any ((buf.drop f).take k) k _ w2.heap.size w2 hsub (Nat.le_refl _) (by omega))
  clear hsub
  go_wp2_with (fail)
  refine HCL.out.mono ?_
  rintro e w3 ⟨v3,rfl,hr3,hb3⟩
  have HR3:=Lib.hid hr3
  have HB3:=Lib.hid hb3
  have hlen:((buf.drop f).take k).length=k:=by rw[List.length_take,List.length_drop,HL.out];omega
  clear hr3 hb3 HCL
  go_wp2_with (fail)
  go_ret
  have hz:w.heap.size≤w2.heap.size:=HF2.out.size
  refine⟨_,(buf.drop f).take k,byts ((buf.drop f).drop k),rfl,by rw[hlen];exact HMIN.out.symm,?_,⟨.slice a L c,buf,PN,gone,by rw[HL.out],HO2.out.below HB3.out hl2,Nat.lt_of_lt_of_le hl2 HB3.out.size,by rw[HL.out];exact HR2.out.below HB3.out,h4,by have:=HPN.out;rw[HL.out];omega,?_,by rw[HL.out];exact h7⟩,by rw[hlen];exact HR3.out.mono hz,fun x hx=>h4 x (List.mem_of_mem_drop (List.mem_of_mem_take hx)),HF2.out.trans (Fr.of_below (F:=[]) HB3.out) (fun x hx=>by cases hx)⟩
  ·rw[HRB.out,←byts_app,List.take_append_drop]
  ·rw[List.drop_drop,←byts_drop,HPN.out]
end Go.Proofs.YtmdgeoalamancaaGreatDoor
namespace Go.Proofs.YtmdgeoalamancaaGreatDoor
open Go.RowKit
open Bt
theorem Fr.setRow {F:List Nat} {a b:World} (h:Fr F a b) {g:Nat} (hg:g∈F∨a.heap.size≤g) (cs:Array Value):Fr F a (b.setRow g cs):=
 ⟨h.os,h.tape,h.output,by simpa[World.setRow] using h.size,fun k hk hn=>(setRow_other b g k cs (by rintro rfl;rcases hg with hg|hg;exact hn hg;omega)).trans (h.block k hk hn)⟩
theorem step_copy_fr {ops:Array Oper} {o:Oper} {a:Act} {w:World} {K:Act→World→Prop} {Q:Exit→Act→World→Prop} {E:Prop} (hgd:o.guard=none) (d s:Operand) (dT sT:TypeId)
  (ho:o.op= .call {callee:= .builtin .copy,args:=#[d,s],argTypes:=#[dT,sT]}) (elem:TypeId) (hu:Tryz.prog.underlying dT=some (.slice elem)) (hsz:(Tryz.prog.info? elem).map (·.size)=some 1)
  (dp sp:Option Addr) (dLen dCap sLen sCap:Nat) (hd:a.eval d= .slice dp dLen dCap) (hs:a.eval s= .slice sp sLen sCap)
  (g off:Nat) (cur:List Value) (t:TypeId) (hg:w.heap[g]? =some (.cells cur.toArray t (0,0))) (cs:List Value) (hn:cs.length=Nat.min sLen dLen)
  (hpos:0<cs.length→dp=some ⟨g,off,none⟩∧ ∃ad,sp=some ad∧ ∀j v,cs[j]? =some v→w.cell? (Addr.add ad j)=some v)
  (hfit:off+cs.length≤cur.length) (h1: ∀v∈cs,v.oneCell'=true)
  (h: ∀w',Hid (w'.heap[g]? =some (.cells (splice cur off cs).toArray t (0,0)))→Fr [g] w w'→K (a.put o.dst (goInt cs.length)) w'):
  if Region.wanted o (yielded ops a.tmps)=true then Oper.wp Tryz.prog o a w K Q else E:=by
 have hw:Region.wanted o (yielded ops a.tmps)=true:=by simp[Region.wanted,hgd]
 rw[if_pos hw]
 by_cases h0:cs.length=0
 ·obtain rfl:cs=[]:=List.eq_nil_of_length_eq_zero h0
  have hrun:=run_copy_none (P:=Tryz.prog) w dT sT o.type elem dp sp dLen dCap sLen sCap hu hsz (by simpa using hn.symm)
  unfold Oper.wp
  simp[execOp,ho,resolve,invoke,builtin,hd,hs,hrun,Result.andThen]
  exact h w (show _=_ by simpa[splice] using hg) (Fr.refl _ _)
 ·obtain⟨rfl,ad,rfl,hsrc⟩:=hpos (by omega)
  have hrun:=run_copy_row (P:=Tryz.prog) w dT sT o.type elem g off dLen dCap ad sLen sCap cur.toArray t cs hu hsz hg hn hsrc (by simpa using hfit) h1
  unfold Oper.wp
  simp[execOp,ho,resolve,invoke,builtin,hd,hs,hrun,Result.andThen]
  exact h _ (show _=_ by simpa[splice] using setRow_heap w g _ _ t _ hg) ((Fr.refl _ w).setRow (.inl (by simp)) _)
set_option maxHeartbeats 2000000 in
theorem feed_any (F:List Nat) (rb:Nat) (R:List Bool) (l:List Nat) (m:Nat) (v:Value) (w:World) (h:Rd F w rb R) (hR:R.length≤8000000) (hsl: ∀W,Fr F w W→Sl W W.heap.size 1 v m (bC l)) (hm:m=l.length) (hl:m≤1000000) (hb: ∀x∈l,x<256):
  Calls Tryz.prog 28 #[.pointer (some ⟨rb,0,none⟩),v] w fun e w'=>e= .returned (.tuple #[])∧ ∃F',Rd F' w' rb (R++byts l)∧Fr F w w'∧New F F' w.heap.size:=by
 obtain⟨va,vc,rfl,_⟩:=(hsl w (Fr.refl _ _)).form
 have HSL:=Lib.hid hsl
 have HM:=Lib.hid hm
 have HB:=Lib.hid hb
 obtain⟨v0,buf,p,gone,rfl,h1,h2,h3,h4,h5,h6,h7⟩:=h
 have hrbF:rb∈rb::obk v0:=by simp
 have hRl:R.length=8*buf.length-p:=by rw[h6,List.length_drop,byts_len]
 have k0:=h1.1 0 _ rfl
 have k1:=h1.1 1 _ rfl
 obtain⟨a,c,rfl,hcap⟩:=h3.form
 have HO:=Lib.hid h1
 have HR0:=Lib.hid h3
 have HE:=Lib.hid h6
 obtain⟨L,hL⟩: ∃z,buf.length=z:=⟨_,rfl⟩
 have HL:=Lib.hid hL
 rw[hL] at HR0 HO k0 h5 h7 hcap hRl HSL hrbF
 have t1:((p:Nat):Int).tdiv 8=((p/8:Nat):Int):=by rw[Int.tdiv_eq_ediv_of_nonneg (by omega)];rfl
 obtain⟨f,hf⟩: ∃z,p/8=z:=⟨_,rfl⟩
 rw[hf] at t1
 have q1:IntKind.i64.wrap ((L:Int)-(f:Int))=((L-f:Nat):Int):=by rw[IntWalk.i64_in _ (by omega)];omega
 have hfL:f≤L:=by omega
 clear h1 h3 h6 hsl hm hb
 rw[hL]
 clear hL
 go_enter Tryz.func28,Tryz.ntmps28
 by_cases hcomp:0<f∧L-f≤f
 rotate_left
 ·as_aux_lemma=>
  have HF5:Hid (Fr (rb::obk (.slice a L c)) w w):=Lib.hid (Fr.refl _ _)
  have HN5:Hid (New (rb::obk (.slice a L c)) (rb::obk (.slice a L c)) w.heap.size):=Lib.hid (New.refl _ _)
  obtain⟨w5,hw5⟩: ∃z,w=z:=⟨_,rfl⟩
  have HO5:Hid (Own w5 rb [.slice a L c,.int .i64 (p:Nat),.int .i64 gone]):=Lib.hid (by rw[←hw5];exact HO.out)
  have HR5:Hid (Row (rb+1) 5 1 w5 (.slice a L c) L (bC buf)):=Lib.hid (by rw[←hw5];exact HR0.out)
  have hl5:rb<w5.heap.size:=by rw[←hw5];exact h2
  subst hw5
  have hbb:L≤4000000:=by
   have: ¬(0<f∧L-f≤f):=hcomp
   omega
  obtain⟨b5,hb5⟩: ∃z,buf=z:=⟨_,rfl⟩
  rw[hb5] at HR5
  have HL5:Hid (b5.length=L):=Lib.hid (by rw[←hb5];exact HL.out)
  have HY5:Hid (∀x∈b5,x<256):=Lib.hid (by rw[←hb5];exact h4)
  have HE5:Hid (R=(byts b5).drop p):=Lib.hid (by rw[←hb5];exact HE.out)
  have hp5:p≤8*L:=h5
  clear hb5
  have d1:(0<f)=True∨(0<f)=False:=by by_cases h:0<f<;>simp[h]
  by_cases h0:0<f
  ·have d2:decide ((0:Int)<(f:Int))=true:=decide_eq_true (by omega)
   have d3:decide (0<f)=true:=decide_eq_true h0
   have d4:decide (L-f≤f)=false:=decide_eq_false (by omega)
   have d6:decide (L≤f+f)=false:=decide_eq_false (by omega)
   have d5:decide (((L-f:Nat):Int)≤(f:Int))=false:=decide_eq_false (by omega)
   clear d1 hcomp
   have HS5:=Lib.hid (HSL.out w HF5.out)
   have hz5:rb+1≤w.heap.size:=hl5
   have k0:=HO5.out.1 0 _ rfl
   go_wp2_with (at_builtin;refine append_rowM (base:=rb+1) (size:=1) (xs:=bC b5) Tryz.underlying23 info_u8 rfl (by decide) rfl _ _ rfl rfl HR5.out rfl HS5.out (bC_one _) ?_ ?_ ?_ ?_;omega;omega;exact hz5)
   intro v7 w7 hr7 hb7 hg7 hw7
   obtain⟨a7,c7,rfl,_⟩:=hr7.form
   have HO7:=Lib.hid (HO5.out.grown2 hg7 (fun e=>by have:=(HR5.out.lt rb e.symm).1;omega) (by omega))
   have HR7:=Lib.hid hr7
   have HF7:=Lib.hid (HF5.out.grown hg7 (fun x hx hlt=>by
    rcases HN5.out x (List.mem_cons_of_mem _ (mem_obk.2 hx)) with h|h
    ·exact h
    ·omega))
   have HN7:=Lib.hid (HN5.out.row hw7 HF5.out.size)
   have hl7:rb<w7.heap.size:=by have:=hb7.size;omega
   clear k0
   have k0:=HO7.out.1 0 _ rfl
   have f0:=HO7.out.2 0
   clear hr7 hb7 hg7 hw7
   go_wp2_with (fail)
   go_end0
   refine⟨rfl,_,⟨_,b5++l,p,gone,rfl,HO7.out.set 0 _ (by simp),by simpa using hl7,?_,?_,?_,?_,?_⟩,HF7.out.setCell (p:=⟨rb,0,none⟩) (.inl hrbF) _,HN7.out⟩
   ·rw[List.length_append,bC_app,HL5.out,←HM.out]
    try rw[Nat.zero_add]
    exact HR7.out.other (c:=rb) (by omega) 0 _
   ·intro x hx
    rcases List.mem_append.1 hx with hx|hx
    ·exact HY5.out x hx
    ·exact HB.out x hx
   ·rw[List.length_append,HL5.out];omega
   ·rw[byts_app,List.drop_append_of_le_length (by rw[byts_len,HL5.out];exact hp5),←HE5.out]
   ·rw[List.length_append,HL5.out,←HM.out];omega
  ·have d2:decide ((0:Int)<(f:Int))=false:=decide_eq_false (by omega)
   have d3:decide (0<f)=false:=decide_eq_false h0
   clear d1 hcomp
   have HS5:=Lib.hid (HSL.out w HF5.out)
   have hz5:rb+1≤w.heap.size:=hl5
   have k0:=HO5.out.1 0 _ rfl
   go_wp2_with (at_builtin;refine append_rowM (base:=rb+1) (size:=1) (xs:=bC b5) Tryz.underlying23 info_u8 rfl (by decide) rfl _ _ rfl rfl HR5.out rfl HS5.out (bC_one _) ?_ ?_ ?_ ?_;omega;omega;exact hz5)
   intro v7 w7 hr7 hb7 hg7 hw7
   obtain⟨a7,c7,rfl,_⟩:=hr7.form
   have HO7:=Lib.hid (HO5.out.grown2 hg7 (fun e=>by have:=(HR5.out.lt rb e.symm).1;omega) (by omega))
   have HR7:=Lib.hid hr7
   have HF7:=Lib.hid (HF5.out.grown hg7 (fun x hx hlt=>by
    rcases HN5.out x (List.mem_cons_of_mem _ (mem_obk.2 hx)) with h|h
    ·exact h
    ·omega))
   have HN7:=Lib.hid (HN5.out.row hw7 HF5.out.size)
   have hl7:rb<w7.heap.size:=by have:=hb7.size;omega
   clear k0
   have k0:=HO7.out.1 0 _ rfl
   have f0:=HO7.out.2 0
   clear hr7 hb7 hg7 hw7
   go_wp2_with (fail)
   go_end0
   refine⟨rfl,_,⟨_,b5++l,p,gone,rfl,HO7.out.set 0 _ (by simp),by simpa using hl7,?_,?_,?_,?_,?_⟩,HF7.out.setCell (p:=⟨rb,0,none⟩) (.inl hrbF) _,HN7.out⟩
   ·rw[List.length_append,bC_app,HL5.out,←HM.out]
    try rw[Nat.zero_add]
    exact HR7.out.other (c:=rb) (by omega) 0 _
   ·intro x hx
    rcases List.mem_append.1 hx with hx|hx
    ·exact HY5.out x hx
    ·exact HB.out x hx
   ·rw[List.length_append,HL5.out];omega
   ·rw[byts_app,List.drop_append_of_le_length (by rw[byts_len,HL5.out];exact hp5),←HE5.out]
   ·rw[List.length_append,HL5.out,←HM.out];omega
 ·obtain⟨h0,hc2⟩:=hcomp
  have d2:decide ((0:Int)<(f:Int))=true:=decide_eq_true (by omega)
  have d3:decide (0<f)=true:=decide_eq_true h0
  have d4:decide (L-f≤f)=true:=decide_eq_true (by omega)
  have d6:decide (L≤f+f)=true:=decide_eq_true (by omega)
  have d5:decide (((L-f:Nat):Int)≤(f:Int))=true:=decide_eq_true (by omega)
  rcases HR0.out.2 with ⟨hv,hn⟩|⟨g,cap,cur,hv,hgb,hblk,hLc,hcm,hcs,htk⟩
  ·omega
  injection hv with hv1 _ hv2
  subst hv1 hv2
  have HCS:Hid (cur.size=c):=Lib.hid (by rw[hcs,Nat.mul_one])
  have HTK:=Lib.hid htk
  have hgrb:rb+1≤g:=hgb
  have HBLK:Hid (w.drew.heap[g]? =some (.cells cur.toList.toArray 5 (0,0))):=Lib.hid (by rw[Array.toArray_toList];exact hblk)
  have HPOS:Hid (0<(bC (buf.drop f)).length→(some (⟨g,0,none⟩:Addr)=some ⟨g,0,none⟩∧ ∃ad,(if c=f then some (⟨g,0,none⟩:Addr) else some ⟨g,f,none⟩)=some ad∧ ∀(j:Nat) (v:Value),(bC (buf.drop f))[j]? =some v→w.drew.cell? (Addr.add ad j)=some v)):=Lib.hid (fun hpos=>⟨rfl,by
   rw[bC_len,List.length_drop,HL.out] at hpos
   rw[if_neg (by omega)]
   refine⟨_,rfl,fun j v hj=> ?_⟩
   rw[add_plain]
   rw[←bC_drop,List.getElem?_drop] at hj
   have h9:=sl_same HR0.out.sl (by omega) _ _ hj
   rw[Nat.zero_add] at h9
   exact h9⟩)
  have HMAX:=Lib.hid hcm
  clear hblk hcs htk hcm hc2
  have HFIT:Hid (0+(bC (buf.drop f)).length≤cur.toList.length):=Lib.hid (by rw[bC_len,List.length_drop,HL.out,Array.length_toList,HCS.out];omega)
  have HLEN:Hid ((bC (buf.drop f)).length=L-f):=Lib.hid (by rw[bC_len,List.length_drop,HL.out])
  have HMIN:Hid ((bC (buf.drop f)).length=Nat.min (L-f) L):=Lib.hid (by rw[HLEN.out];exact (Nat.min_eq_left (by omega)).symm)
  by_cases hcf:c=f
  ·obtain rfl:L=f:=by omega
   subst hcf
   have hnil:buf.drop c=[]:=List.drop_of_length_le (by rw[HL.out];exact Nat.le_refl _)
   rw[if_pos rfl,hnil] at HPOS
   rw[hnil] at HFIT HLEN HMIN
   rw[Nat.sub_self] at HLEN HMIN
   have HNIL:=Lib.hid hnil
   clear hnil
   go_upto_region 2 with (fail)
   go_region_law (first
    |(refine step_copy_fr rfl (.tmp 27) (.tmp 33) 23 23 rfl 5 Tryz.underlying23 (by kernel_rfl) (some ⟨g,0,none⟩) (some ⟨g,0,none⟩) c c (0) 0 rfl rfl g 0 cur.toList 5 HBLK.out (bC []) HMIN.out HPOS.out HFIT.out (bC_one _) ?_
      intro w3 hg3 hf3
      have HG3:=Lib.hid hg3.out
      have HF3:=Lib.hid (((Fr.refl (rb::obk (.slice (some ⟨g,0,none⟩) c c)) w).drew).trans hf3 (fun x hx _=>by rw[List.mem_singleton.1 hx];simp[obk,Value.ownBlock]))
      have HO3:=Lib.hid ((show Own w.drew rb _ from HO.out).fr hf3 h2 (by simp;omega))
      clear hg3 hf3))
   all_goals
    have HR3:Hid (Row (rb+1) 5 1 w3 (.slice (some ⟨g,0,none⟩) (0) c) (0) (bC [])):=Lib.hid ⟨by rw[HLEN.out,Nat.mul_one],.inr ⟨g,c,(splice cur.toList 0 (bC [])).toArray,rfl,hgrb,HG3.out,by omega,HMAX.out,by
     rw[List.size_toArray,length_splice _ _ _ HFIT.out,Array.length_toList,HCS.out,Nat.mul_one],by
     first
      |rfl
      |(rw[Nat.mul_one]
        unfold splice
        rw[List.take_zero,List.nil_append,List.take_append_of_le_length (by rw[HLEN.out];exact Nat.le_refl _),List.take_of_length_le (by rw[HLEN.out];exact Nat.le_refl _)])⟩⟩
    have hl3:rb<w3.heap.size:=Nat.lt_of_lt_of_le h2 HF3.out.size
    have hlen:(bC []).length=0:=HLEN.out
    clear HG3 k0 k1
    have k0:=HO3.out.1 0 _ rfl
    have f0:=HO3.out.2 0
    have q40:(((0:Nat):Int)).toNat=0:=Int.toNat_natCast _
    go_upto_region 4 with (fail)
    have HO4:=Lib.hid (HO3.out.set 0 (.slice (some ⟨g,0,none⟩) (0) c) (by simp))
    have HR4:=Lib.hid (HR3.out.other (c:=rb) (by omega) 0 (.slice (some ⟨g,0,none⟩) (0) c))
    have HF4:=Lib.hid (HF3.out.setCell (p:=⟨rb,0,none⟩) (.inl (by simp)) (.slice (some ⟨g,0,none⟩) (0) c))
    have hl4:rb<(w3.setCell ⟨rb,0,none⟩ (.slice (some ⟨g,0,none⟩) (0) c)).heap.size:=by simpa using hl3
    clear k0 f0
    generalize w3.setCell ⟨rb,0,none⟩ (.slice (some ⟨g,0,none⟩) (0) c)=w4 at*
    simp only[List.set_cons_succ,List.set_cons_zero] at HO4
    obtain⟨P2,hP2⟩: ∃z,p-8*c=z:=⟨_,rfl⟩
    have q41:IntKind.i64.wrap (8*((c:Nat):Int))=8*((c:Nat):Int):=IntWalk.i64_in _ (by omega)
    have q42:((p:Nat):Int)-8*((c:Nat):Int)=((P2:Nat):Int):=by omega
    have q43:IntKind.i64.wrap (((p:Nat):Int)-8*((c:Nat):Int))=((P2:Nat):Int):=by rw[q42,IntWalk.i64_in _ (by omega)]
    have k1:=HO4.out.1 1 _ rfl
    have f1:=HO4.out.2 1
    go_upto_region 5 with (fail)
    have HO6:=Lib.hid (HO4.out.set 1 (.int .i64 (P2:Nat)) (by simp))
    have HR6:=Lib.hid (HR4.out.other (c:=rb) (by omega) 1 (.int .i64 (P2:Nat)))
    have HF6:=Lib.hid (HF4.out.setCell (p:=⟨rb,1,none⟩) (.inl (by simp)) (.int .i64 (P2:Nat)))
    have hl6:rb<(w4.setCell ⟨rb,1,none⟩ (.int .i64 (P2:Nat))).heap.size:=by simpa using hl4
    clear k1 f1
    generalize w4.setCell ⟨rb,1,none⟩ (.int .i64 (P2:Nat))=w6 at*
    simp only[List.set_cons_succ,List.set_cons_zero] at HO6
    have k2:=HO6.out.1 2 _ rfl
    have f2:=HO6.out.2 2
    obtain⟨gn,hgn⟩: ∃z,IntKind.i64.wrap (gone+((c:Nat):Int))=z:=⟨_,rfl⟩
    go_upto_region 6 with (fail)
    have HO8:=fun x:Value=>HO6.out.set 2 x (by simp)
    simp only[List.set_cons_succ,List.set_cons_zero] at HO8
    have HR8:=fun x:Value=>HR6.out.other (c:=rb) (by omega) 2 x
    have HF8:=fun x:Value=>HF6.out.setCell (p:=⟨rb,2,none⟩) (.inl (by simp)) x
    have HO5:=Lib.hid (HO8 (.int .i64 gn))
    have HR5:=Lib.hid (HR8 (.int .i64 gn))
    have HF5:=Lib.hid (HF8 (.int .i64 gn))
    have hl5:rb<(w6.setCell ⟨rb,2,none⟩ (.int .i64 gn)).heap.size:=by simpa using hl6
    have HN5:Hid (New (rb::obk (.slice (some ⟨g,0,none⟩) c c)) (rb::obk (.slice (some ⟨g,0,none⟩) (0) c)) w.heap.size):=Lib.hid (fun x hx=> .inl (by simpa[obk,Value.ownBlock] using hx))
    clear HO8 HR8 HF8 k2 f2 hgn
    generalize w6.setCell ⟨rb,2,none⟩ (.int .i64 gn)=w5 at*
    have HE5:Hid (R=(byts ([]:List Nat)).drop P2):=Lib.hid (by
     rw[HE.out]
     have e:byts ([]:List Nat)=(byts buf).drop (8*c):=by rw[byts_drop,HNIL.out]
     rw[e,List.drop_drop]
     congr 1
     omega)
    have HY5:Hid (∀x∈([]:List Nat),x<256):=Lib.hid (fun x hx=>by cases hx)
    have HL5:Hid ((([]:List Nat):List Nat).length=0):=Lib.hid (rfl)
    have hp5:P2≤8*(0):=by omega
    obtain⟨b5,hb5⟩: ∃z,([]:List Nat)=z:=⟨_,rfl⟩
    rw[hb5] at HE5 HY5 HL5 HR5
    clear hb5
    have HS5:=Lib.hid (HSL.out w5 HF5.out)
    have hz5:rb+1≤w5.heap.size:=hl5
    have k0:=HO5.out.1 0 _ rfl
    go_wp2_with (at_builtin;refine append_rowM (base:=rb+1) (size:=1) (xs:=bC b5) Tryz.underlying23 info_u8 rfl (by decide) rfl _ _ rfl rfl HR5.out rfl HS5.out (bC_one _) ?_ ?_ ?_ ?_;omega;omega;exact hz5)
    intro v7 w7 hr7 hb7 hg7 hw7
    obtain⟨a7,c7,rfl,_⟩:=hr7.form
    have HO7:=Lib.hid (HO5.out.grown2 hg7 (fun e=>by have:=(HR5.out.lt rb e.symm).1;omega) (by omega))
    have HR7:=Lib.hid hr7
    have HF7:=Lib.hid (HF5.out.grown hg7 (fun x hx hlt=>by
     rcases HN5.out x (List.mem_cons_of_mem _ (mem_obk.2 hx)) with h|h
     ·exact h
     ·omega))
    have HN7:=Lib.hid (HN5.out.row hw7 HF5.out.size)
    have hl7:rb<w7.heap.size:=by have:=hb7.size;omega
    clear k0
    have k0:=HO7.out.1 0 _ rfl
    have f0:=HO7.out.2 0
    clear hr7 hb7 hg7 hw7
    go_wp2_with (fail)
    go_end0
    refine⟨rfl,_,⟨_,b5++l,P2,gn,rfl,HO7.out.set 0 _ (by simp),by simpa using hl7,?_,?_,?_,?_,?_⟩,HF7.out.setCell (p:=⟨rb,0,none⟩) (.inl hrbF) _,HN7.out⟩
    ·rw[List.length_append,bC_app,HL5.out,←HM.out]
     try rw[Nat.zero_add]
     exact HR7.out.other (c:=rb) (by omega) 0 _
    ·intro x hx
     rcases List.mem_append.1 hx with hx|hx
     ·exact HY5.out x hx
     ·exact HB.out x hx
    ·rw[List.length_append,HL5.out];omega
    ·rw[byts_app,List.drop_append_of_le_length (by rw[byts_len,HL5.out];exact hp5),←HE5.out]
    ·rw[List.length_append,HL5.out,←HM.out];omega
  ·rw[if_neg hcf] at HPOS
   go_upto_region 2 with (fail)
   go_region_law (first
    |(refine step_copy_fr rfl (.tmp 27) (.tmp 33) 23 23 rfl 5 Tryz.underlying23 (by kernel_rfl) (some ⟨g,0,none⟩) (some ⟨g,f,none⟩) L c (L-f) (c-f) rfl rfl g 0 cur.toList 5 HBLK.out (bC (buf.drop f)) HMIN.out HPOS.out HFIT.out (bC_one _) ?_
      intro w3 hg3 hf3
      have HG3:=Lib.hid hg3.out
      have HF3:=Lib.hid (((Fr.refl (rb::obk (.slice (some ⟨g,0,none⟩) L c)) w).drew).trans hf3 (fun x hx _=>by rw[List.mem_singleton.1 hx];simp[obk,Value.ownBlock]))
      have HO3:=Lib.hid ((show Own w.drew rb _ from HO.out).fr hf3 h2 (by simp;omega))
      clear hg3 hf3))
   all_goals
    have HR3:Hid (Row (rb+1) 5 1 w3 (.slice (some ⟨g,0,none⟩) (L-f) c) (L-f) (bC (buf.drop f))):=Lib.hid ⟨by rw[HLEN.out,Nat.mul_one],.inr ⟨g,c,(splice cur.toList 0 (bC (buf.drop f))).toArray,rfl,hgrb,HG3.out,by omega,HMAX.out,by
     rw[List.size_toArray,length_splice _ _ _ HFIT.out,Array.length_toList,HCS.out,Nat.mul_one],by
     first
      |rfl
      |(rw[Nat.mul_one]
        unfold splice
        rw[List.take_zero,List.nil_append,List.take_append_of_le_length (by rw[HLEN.out];exact Nat.le_refl _),List.take_of_length_le (by rw[HLEN.out];exact Nat.le_refl _)])⟩⟩
    have hl3:rb<w3.heap.size:=Nat.lt_of_lt_of_le h2 HF3.out.size
    have hlen:(bC (buf.drop f)).length=L-f:=HLEN.out
    clear HG3 k0 k1
    have k0:=HO3.out.1 0 _ rfl
    have f0:=HO3.out.2 0
    have q40:(((L-f:Nat):Int)).toNat=L-f:=Int.toNat_natCast _
    go_upto_region 4 with (fail)
    have HO4:=Lib.hid (HO3.out.set 0 (.slice (some ⟨g,0,none⟩) (L-f) c) (by simp))
    have HR4:=Lib.hid (HR3.out.other (c:=rb) (by omega) 0 (.slice (some ⟨g,0,none⟩) (L-f) c))
    have HF4:=Lib.hid (HF3.out.setCell (p:=⟨rb,0,none⟩) (.inl (by simp)) (.slice (some ⟨g,0,none⟩) (L-f) c))
    have hl4:rb<(w3.setCell ⟨rb,0,none⟩ (.slice (some ⟨g,0,none⟩) (L-f) c)).heap.size:=by simpa using hl3
    clear k0 f0
    generalize w3.setCell ⟨rb,0,none⟩ (.slice (some ⟨g,0,none⟩) (L-f) c)=w4 at*
    simp only[List.set_cons_succ,List.set_cons_zero] at HO4
    obtain⟨P2,hP2⟩: ∃z,p-8*f=z:=⟨_,rfl⟩
    have q41:IntKind.i64.wrap (8*((f:Nat):Int))=8*((f:Nat):Int):=IntWalk.i64_in _ (by omega)
    have q42:((p:Nat):Int)-8*((f:Nat):Int)=((P2:Nat):Int):=by omega
    have q43:IntKind.i64.wrap (((p:Nat):Int)-8*((f:Nat):Int))=((P2:Nat):Int):=by rw[q42,IntWalk.i64_in _ (by omega)]
    have k1:=HO4.out.1 1 _ rfl
    have f1:=HO4.out.2 1
    go_upto_region 5 with (fail)
    have HO6:=Lib.hid (HO4.out.set 1 (.int .i64 (P2:Nat)) (by simp))
    have HR6:=Lib.hid (HR4.out.other (c:=rb) (by omega) 1 (.int .i64 (P2:Nat)))
    have HF6:=Lib.hid (HF4.out.setCell (p:=⟨rb,1,none⟩) (.inl (by simp)) (.int .i64 (P2:Nat)))
    have hl6:rb<(w4.setCell ⟨rb,1,none⟩ (.int .i64 (P2:Nat))).heap.size:=by simpa using hl4
    clear k1 f1
    generalize w4.setCell ⟨rb,1,none⟩ (.int .i64 (P2:Nat))=w6 at*
    simp only[List.set_cons_succ,List.set_cons_zero] at HO6
    have k2:=HO6.out.1 2 _ rfl
    have f2:=HO6.out.2 2
    obtain⟨gn,hgn⟩: ∃z,IntKind.i64.wrap (gone+((f:Nat):Int))=z:=⟨_,rfl⟩
    go_upto_region 6 with (fail)
    have HO8:=fun x:Value=>HO6.out.set 2 x (by simp)
    simp only[List.set_cons_succ,List.set_cons_zero] at HO8
    have HR8:=fun x:Value=>HR6.out.other (c:=rb) (by omega) 2 x
    have HF8:=fun x:Value=>HF6.out.setCell (p:=⟨rb,2,none⟩) (.inl (by simp)) x
    have HO5:=Lib.hid (HO8 (.int .i64 gn))
    have HR5:=Lib.hid (HR8 (.int .i64 gn))
    have HF5:=Lib.hid (HF8 (.int .i64 gn))
    have hl5:rb<(w6.setCell ⟨rb,2,none⟩ (.int .i64 gn)).heap.size:=by simpa using hl6
    have HN5:Hid (New (rb::obk (.slice (some ⟨g,0,none⟩) L c)) (rb::obk (.slice (some ⟨g,0,none⟩) (L-f) c)) w.heap.size):=Lib.hid (fun x hx=> .inl (by simpa[obk,Value.ownBlock] using hx))
    clear HO8 HR8 HF8 k2 f2 hgn
    generalize w6.setCell ⟨rb,2,none⟩ (.int .i64 gn)=w5 at*
    have HE5:Hid (R=(byts (buf.drop f)).drop P2):=Lib.hid (by
     rw[HE.out]
     have e:byts (buf.drop f)=(byts buf).drop (8*f):=by rw[byts_drop]
     rw[e,List.drop_drop]
     congr 1
     omega)
    have HY5:Hid (∀x∈(buf.drop f),x<256):=Lib.hid (fun x hx=>h4 x (List.mem_of_mem_drop hx))
    have HL5:Hid (((buf.drop f):List Nat).length=L-f):=Lib.hid (by rw[List.length_drop,HL.out])
    have hp5:P2≤8*(L-f):=by omega
    obtain⟨b5,hb5⟩: ∃z,(buf.drop f)=z:=⟨_,rfl⟩
    rw[hb5] at HE5 HY5 HL5 HR5
    obtain⟨N5,hN5⟩: ∃z,L-f=z:=⟨_,rfl⟩
    rw[hN5] at HL5 hp5 HR5 HO5 HN5 ⊢
    have hbb:N5≤4000000:=by omega
    clear hb5 hN5
    have HS5:=Lib.hid (HSL.out w5 HF5.out)
    have hz5:rb+1≤w5.heap.size:=hl5
    have k0:=HO5.out.1 0 _ rfl
    go_wp2_with (at_builtin;refine append_rowM (base:=rb+1) (size:=1) (xs:=bC b5) Tryz.underlying23 info_u8 rfl (by decide) rfl _ _ rfl rfl HR5.out rfl HS5.out (bC_one _) ?_ ?_ ?_ ?_;omega;omega;exact hz5)
    intro v7 w7 hr7 hb7 hg7 hw7
    obtain⟨a7,c7,rfl,_⟩:=hr7.form
    have HO7:=Lib.hid (HO5.out.grown2 hg7 (fun e=>by have:=(HR5.out.lt rb e.symm).1;omega) (by omega))
    have HR7:=Lib.hid hr7
    have HF7:=Lib.hid (HF5.out.grown hg7 (fun x hx hlt=>by
     rcases HN5.out x (List.mem_cons_of_mem _ (mem_obk.2 hx)) with h|h
     ·exact h
     ·omega))
    have HN7:=Lib.hid (HN5.out.row hw7 HF5.out.size)
    have hl7:rb<w7.heap.size:=by have:=hb7.size;omega
    clear k0
    have k0:=HO7.out.1 0 _ rfl
    have f0:=HO7.out.2 0
    clear hr7 hb7 hg7 hw7
    go_wp2_with (fail)
    go_end0
    refine⟨rfl,_,⟨_,b5++l,P2,gn,rfl,HO7.out.set 0 _ (by simp),by simpa using hl7,?_,?_,?_,?_,?_⟩,HF7.out.setCell (p:=⟨rb,0,none⟩) (.inl hrbF) _,HN7.out⟩
    ·rw[List.length_append,bC_app,HL5.out,←HM.out]
     try rw[Nat.zero_add]
     exact HR7.out.other (c:=rb) (by omega) 0 _
    ·intro x hx
     rcases List.mem_append.1 hx with hx|hx
     ·exact HY5.out x hx
     ·exact HB.out x hx
    ·rw[List.length_append,HL5.out];omega
    ·rw[byts_app,List.drop_append_of_le_length (by rw[byts_len,HL5.out];exact hp5),←HE5.out]
    ·rw[List.length_append,HL5.out,←HM.out];omega
end Go.Proofs.YtmdgeoalamancaaGreatDoor
namespace Go.Proofs.YtmdgeoalamancaaGreatDoor
open Go.RowKit
open Bt Can Mc
theorem step_ge (ls:List Nat) {s n:Nat} (h1:1≤n) (hn:n<len ls s):fst ls n+mny ls n≤cod ls s/2^(len ls s-n):=by
 have hfar:=fst_far ls (n:=n) h1 (len ls s-n) (by omega)
 rw[show n+(len ls s-n)=len ls s by omega] at hfar
 rw[Nat.le_div_iff_mul_le (Nat.two_pow_pos _)]
 unfold cod
 omega
theorem step_lt (ls:List Nat) {s:Nat} (h:s<ls.length):cod ls s<fst ls (len ls s)+mny ls (len ls s):=by
 have:=rnk_lt ls h
 unfold cod
 omega
theorem msb_get (c:Nat): ∀(n j:Nat),j<n→(msb c n)[j]? =some (c/2^(n-1-j)%2==1)
 |n+1,0,_=>by unfold msb;simp
 |n+1,j+1,h=>by
  unfold msb
  rw[List.getElem?_cons_succ,msb_get c n j (by omega)]
  congr 5
  omega
theorem val_bit (l:List Bool) {j:Nat} {b:Bool} (h:l[j]? =some b):val l/2^j%2=b2n b:=by
 rw[←val_drop]
 have hj:=(List.getElem?_eq_some_iff.1 h).1
 rw[List.drop_eq_getElem_cons hj]
 have:l[j]=b:=(List.getElem?_eq_some_iff.1 h).2
 rw[this]
 unfold val
 cases b<;>simp[b2n]<;>omega
theorem and1_u32 (x:Nat) (h:x<4294967296):bits .and .u32 (x:Int) 1=((x%2:Nat):Int):=by
 unfold bits
 have e1:(BitVec.ofInt 32 (x:Int)&&& BitVec.ofInt 32 1).toNat=x%2:=by
  rw[BitVec.toNat_and]
  have:(BitVec.ofInt 32 1).toNat=1:=by decide
  rw[this,Nat.and_one_is_mod,BitVec.ofInt_natCast,BitVec.toNat_ofNat,show x%2^32=x from Nat.mod_eq_of_lt h]
 show IntKind.u32.wrap (((BitVec.ofInt 32 (x:Int)&&& BitVec.ofInt 32 1).toNat:Nat):Int)=_
 rw[e1,u32_wrap _ (by omega)]
theorem or1_i64 (a b:Nat) (ha:a≤1000000) (hb:b≤1):bits .or .i64 ((a:Int)*2) (b:Int)=((2*a+b:Nat):Int):=by
 unfold bits
 have e1:(BitVec.ofInt 64 ((a:Int)*2) |||BitVec.ofInt 64 (b:Int)).toNat=2*a+b:=by
  rw[show ((a:Int)*2)=((2*a:Nat):Int) by omega,BitVec.toNat_or,BitVec.ofInt_natCast,BitVec.ofInt_natCast,BitVec.toNat_ofNat,BitVec.toNat_ofNat,Nat.mod_eq_of_lt (show 2*a<2^64 by omega),Nat.mod_eq_of_lt (show b<2^64 by omega)]
  have:=Nat.two_pow_add_eq_or_of_lt (i:=1) (b:=b) (by omega) a
  rw[Nat.pow_one] at this
  omega
 show IntKind.i64.wrap (((BitVec.ofInt 64 ((a:Int)*2) |||BitVec.ofInt 64 (b:Int)).toNat:Nat):Int)=_
 rw[e1,IntWalk.i64_in _ (by omega)]
def mcl (ls:List Nat):List Value:=(List.range 16).map fun n=> .int .i64 ((if n=0 then 0 else mny ls n:Nat):Int)
theorem mcl_len (ls:List Nat):(mcl ls).length=16:=by unfold mcl;simp
theorem mcl_get (ls:List Nat) {n:Nat} (h1:1≤n) (h2:n<16):(mcl ls)[n]? =some (.int .i64 (mny ls n:Nat)):=by
 unfold mcl
 rw[List.getElem?_map,List.getElem?_range h2]
 simp only[Option.map_some]
 rw[if_neg (by omega)]
def Tb (F:List Nat) (w:World) (tb:Nat) (ls:List Nat):Prop:=
 ∃(v:Value) (sy:List Nat) (most:Nat),F=tb::obk v∧Own w tb (mcl ls++[v,.int .i64 (most:Nat)])∧tb<w.heap.size∧Row 0 3 1 w v sy.length (iC sy)∧most≤15∧(∀a∈ls,a≤most)∧(∀s,Has ls s→sy[idx ls (len ls s)+rnk ls s]? =some s)∧krf ls 15≤2^15∧ls.length≤1000
theorem Tb.fr {F G:List Nat} {w w':World} {tb:Nat} {ls:List Nat} (h:Tb F w tb ls) (hf:Fr G w w') (hd: ∀k∈F,k ∉ G):Tb F w' tb ls:=by
 obtain⟨v,sy,most,rfl,h1,h2,h3,h4⟩:=h
 exact⟨v,sy,most,rfl,h1.fr hf h2 (hd tb (by simp)),Nat.lt_of_lt_of_le h2 hf.size,h3.fr hf (fun k hk=>hd k (by simp[hk])),h4⟩
theorem Tb.below {F:List Nat} {w w':World} {tb:Nat} {ls:List Nat} (h:Tb F w tb ls) (hb:Below w.heap.size w w'):Tb F w' tb ls:=h.fr (Fr.of_below (F:=[]) hb) (fun _ _ h=>by cases h)
theorem idx_le (ls:List Nat): ∀n,idx ls n≤ls.length*n
 |0=>Nat.le_refl _
 |1=>Nat.zero_le _
 |n+2=>by
  have h1:=idx_le ls (n+1)
  have h2:mny ls (n+1)≤ls.length:=List.count_le_length
  show idx ls (n+1)+mny ls (n+1)≤ls.length*(n+2)
  rw[show n+2=(n+1)+1 by omega,Nat.mul_succ]
  omega
def Next_p (G:List Nat) (rb:Nat) (ls:List Nat) (s:Nat) (R:List Bool) (w:World) (e:Ending) (w':World):Prop:=
 (len ls s≤R.length→e= .returned (.tuple #[.int .i64 (s:Nat),.int .i64 0])∧Rd G w' rb (R.drop (len ls s))∧Fr [rb] w w')∧(R.length<len ls s→e= .returned (.tuple #[.int .i64 0,.int .i64 4])∧Below w.heap.size w w')
set_option maxHeartbeats 4000000 in
theorem next_any (F G:List Nat) (tb rb:Nat) (ls:List Nat) (s:Nat) (R:List Bool) (w:World) (h:Tb F w tb ls) (hr:Rd G w rb R) (hs:Has ls s) (hc: ∀j,j<len ls s→j<R.length→R[j]? =(cb ls s)[j]?) (hF: ∀k∈F,k≠rb):
  Calls Tryz.prog 99 #[.pointer (some ⟨tb,0,none⟩),.pointer (some ⟨rb,0,none⟩)] w (Next_p G rb ls s R w):=by
 have HTB:=Lib.hid (fun (W:World) (hW:Below w.heap.size w W)=>h.below hW)
 have HRD:=Lib.hid (fun (W:World) (hW:Below w.heap.size w W)=>hr.below hW)
 obtain⟨hs1,hs2⟩:=hs
 obtain⟨v,sy,most,rfl,h1,h2,h3,h4,h5,h6,h7,h8⟩:=h
 have hlm:len ls s≤most:=by
  have:len ls s=ls[s]:=by unfold len;rw[List.getD_eq_getElem?_getD,List.getElem?_eq_getElem hs1];rfl
  rw[this]
  exact h5 _ (List.getElem_mem hs1)
 have HPK:=Lib.hid (fun (W:World) (hW:Below w.heap.size w W)=>peek_any G rb R most W (hr.below hW) (by omega))
 have HLE:=Lib.hid (fun (W:World) (hW:Below w.heap.size w W)=>left_any G rb R W (hr.below hW))
 have HOW:=Lib.hid (fun (W:World) (hW:Below w.heap.size w W)=>h1.below hW h2)
 have HRW:=Lib.hid (fun (W:World) (hW:Below w.heap.size w W)=>h3.below hW)
 have HSY:=Lib.hid (h6 s ⟨hs1,hs2⟩)
 have HC:=Lib.hid hc
 have HKR:=Lib.hid (fun (n:Nat) (a:1≤n) (b:n≤15)=>fst_le ls h7 a b)
 have HLT:=Lib.hid (step_lt ls hs1)
 have HCL:=Lib.hid (cod_lt ls h7 hs1 hs2 (by omega))
 have HRK:=Lib.hid (rnk_lt ls hs1)
 obtain⟨ya,yc,rfl,_⟩:=h3.form
 have hmost:=h1.1 17 (.int .i64 (most:Nat)) (by rw[List.getElem?_append_right (by rw[mcl_len];omega),mcl_len];rfl)
 have HVT:Hid (val (R.take most)<4294967296):=Lib.hid (by
  have h9:=val_lt (R.take most)
  refine Nat.lt_of_lt_of_le h9 (Nat.le_trans (Nat.pow_le_pow_right (by decide) (show (R.take most).length≤15 by rw[List.length_take];omega)) (by decide)))
 clear hr h1 h3 h6 hc
 go_enter Tryz.func99,Tryz.ntmps99
 go_wp2_with (fail)
 refine (HPK.out w (Below.refl _ _)).mono ?_
 rintro e w1 ⟨rfl,hb1⟩
 have HLE1:=Lib.hid (HLE.out w1 hb1)
 have HB1:=Lib.hid hb1
 clear hb1 hmost
 go_wp2_with (fail)
 refine HLE1.out.mono ?_
 rintro e w2 ⟨rfl,hb2⟩
 have HB2:=Lib.hid (HB1.out.trans (hb2.mono HB1.out.size))
 clear hb2 HLE1 HB1
 obtain⟨X,hX⟩: ∃z,val (R.take most)=z:=⟨_,rfl⟩
 have HX:=Lib.hid hX
 rw[hX] at HVT ⊢
 clear hX
 go_wp2_with (fail)
 go_loopw [6,9,10,11,12] (fun x c f i n wr=> ∃j:Nat,n= .int .i64 ((j:Int)+1)∧j<len ls s∧j≤R.length∧x= .int .u32 ((X/2^j:Nat):Int)∧c= .int .i64 ((cod ls s/2^(len ls s-j):Nat):Int)∧f= .int .i64 (fst ls (j+1):Nat)∧i= .int .i64 (idx ls (j+1):Nat)∧Hid (Below w.heap.size w wr)) (fun _ _ _ _ n _=>17-(intOf n).toNat)
 case atStart=>exact⟨0,rfl,by omega,Nat.zero_le _,by rw[Nat.pow_zero,Nat.div_one],by rw[Nat.sub_zero,Nat.div_eq_of_lt HCL.out];rfl,rfl,rfl,HB2⟩
 case round=>
  obtain⟨j,rfl,hj,hjR,rfl,rfl,rfl,rfl,HB⟩:=hrel
  obtain⟨wo,rfl⟩: ∃z:World,z=wr:=⟨_,rfl⟩
  have d1:decide ((j:Int)+1≤(most:Int))=true:=decide_eq_true (by omega)
  have d1':decide (j+1≤most)=true:=decide_eq_true (by omega)
  have d1'':decide (j<most)=true:=decide_eq_true (by omega)
  have q1:IntKind.i64.wrap ((j:Int)+1+1)=((j+1:Nat):Int)+1:=by rw[IntWalk.i64_in _ (by omega)];omega
  have hmo:=(HOW.out wo HB.out).1 17 (.int .i64 (most:Nat)) (by rw[List.getElem?_append_right (by rw[mcl_len];omega),mcl_len];rfl)
  by_cases hleft:j<R.length
  rotate_left
  ·have d2:decide ((R.length:Int)<(j:Int)+1)=true:=decide_eq_true (by omega)
   have d2':decide (R.length<j+1)=true:=decide_eq_true (by omega)
   have d2'':decide (R.length≤j)=true:=decide_eq_true (by omega)
   go_wp2_with (fail)
   go_ret2
   exact⟨fun h=>by omega,fun _=>⟨by rfl,HB.out⟩⟩
  have d2:decide ((R.length:Int)<(j:Int)+1)=false:=decide_eq_false (by omega)
  have d2':decide (R.length<j+1)=false:=decide_eq_false (by omega)
  have d2'':decide (R.length≤j)=false:=decide_eq_false (by omega)
  have hbit:(R.take most)[j]? =some (cod ls s/2^(len ls s-1-j)%2==1):=by
   rw[List.getElem?_take,if_pos (by omega),HC.out j hj hleft]
   exact msb_get _ _ _ hj
  have hvb:=val_bit _ hbit
  rw[HX.out] at hvb
  have hb2:b2n (cod ls s/2^(len ls s-1-j)%2==1)≤1:=by unfold b2n;split<;>omega
  have hdb:=div_bit (cod ls s) (len ls s-1-j)
  rw[show len ls s-1-j+1=len ls s-j by omega,show len ls s-1-j=len ls s-(j+1) by omega] at hdb
  rw[show len ls s-1-j=len ls s-(j+1) by omega] at hvb hb2
  have hXj:X/2^j≤X:=Nat.div_le_self _ _
  have x1:=and1_u32 (X/2^j) (by have:=HVT.out;omega)
  rw[hvb] at x1
  have hX2:X/2^j/2=X/2^(j+1):=by rw[Nat.div_div_eq_div_mul,←Nat.pow_succ]
  have hCle:cod ls s/2^(len ls s-j)≤32768:=Nat.le_trans (Nat.div_le_self _ _) (by have:=HCL.out;have:=Nat.pow_le_pow_right (show 0<2 by decide) (show len ls s≤15 by omega);omega)
  obtain⟨B,hB⟩: ∃z,b2n (cod ls s/2^(len ls s-(j+1))%2==1)=z:=⟨_,rfl⟩
  rw[hB] at x1 hb2 hdb
  obtain⟨C,hC⟩: ∃z,cod ls s/2^(len ls s-j)=z:=⟨_,rfl⟩
  rw[hC] at hdb hCle ⊢
  have x2:=or1_i64 C B (by omega) hb2
  rw[hdb] at x2
  obtain⟨Y,hY⟩: ∃z,X/2^j=z:=⟨_,rfl⟩
  rw[hY] at x1 hX2 hXj ⊢
  have x3:((Y:Nat):Int)/(2:Int)=((Y/2:Nat):Int):=by omega
  rw[hX2] at x3
  have hkr:=HKR.out (j+1) (by omega) (by omega)
  have hpw:2^(j+1)≤32768:=Nat.le_trans (Nat.pow_le_pow_right (by decide) (show j+1≤15 by omega)) (by decide)
  have hmc:=(HOW.out wo HB.out).1 (j+1) (.int .i64 (mny ls (j+1):Nat)) (by rw[List.getElem?_append_left (by rw[mcl_len];omega)];exact mcl_get ls (by omega) (by omega))
  have hix:=idx_le ls (j+1)
  have hix2:ls.length*(j+1)≤1000*16:=Nat.mul_le_mul h8 (by omega)
  have hmn:mny ls (j+1)≤32768:=by omega
  have HFS:=Lib.hid (fst_step ls (n:=j+1) (by omega))
  have HIS:=Lib.hid (idx_step ls (n:=j+1) (by omega))
  by_cases hend:j+1=len ls s
  rotate_left
  ·have hge:=step_ge ls (s:=s) (n:=j+1) (by omega) (by omega)
   obtain⟨C2,hC2⟩: ∃z,cod ls s/2^(len ls s-(j+1))=z:=⟨_,rfl⟩
   rw[hC2] at x2 hge
   obtain⟨Mn,hMn⟩: ∃z,mny ls (j+1)=z:=⟨_,rfl⟩
   obtain⟨Fs,hFs⟩: ∃z,fst ls (j+1)=z:=⟨_,rfl⟩
   obtain⟨Ix,hIx⟩: ∃z,idx ls (j+1)=z:=⟨_,rfl⟩
   rw[hMn] at hge hmc hmn hkr HFS HIS
   rw[hFs] at hge hkr HFS ⊢
   rw[hIx] at hix HIS ⊢
   have HC2:=Lib.hid hC2
   have d3:decide ((C2:Int)<(Fs:Int)+(Mn:Int))=false:=decide_eq_false (by omega)
   have d3':decide (C2<Fs+Mn)=false:=decide_eq_false (by omega)
   have x5:IntKind.i64.wrap ((((Fs:Nat):Int)+((Mn:Nat):Int))*2)=((2*(Fs+Mn):Nat):Int):=by rw[IntWalk.i64_in _ (by omega)];omega
   have x6:IntKind.i64.wrap (((Ix:Nat):Int)+((Mn:Nat):Int))=((Ix+Mn:Nat):Int):=by rw[IntWalk.i64_in _ (by omega)];omega
   obtain⟨Y2,hY2⟩: ∃z,X/2^(j+1)=z:=⟨_,rfl⟩
   rw[hY2] at x3
   have HY2:=Lib.hid hY2
   clear hbit hvb hdb hX2 hB hC hY hC2 hMn hFs hIx hY2
   go_wp2_with (fail)
   go_roundw
   case rel=>exact⟨j+1,by first|rfl|exact congrArg (Value.int .i64) (by omega),by omega,by omega,by rw[HY2.out],by rw[HC2.out],by rw[HFS.out];first|rfl|exact congrArg (Value.int .i64) (by omega),by rw[HIS.out];first|rfl|exact congrArg (Value.int .i64) (by omega),HB⟩
   case measure=>simp[intOf]<;>omega
  ·have hlt:=HLT.out
   rw[hend,Nat.sub_self,Nat.pow_zero,Nat.div_one] at x2
   rw[show mny ls (j+1)=mny ls (len ls s) by rw[hend]] at hmc
   rw[hend] at hmn hkr hix hix2 hpw x3
   have hSK:=skip_any G rb R (len ls s) wo (HRD.out wo HB.out) (by omega)
   have hcs:cod ls s=fst ls (len ls s)+rnk ls s:=rfl
   have hrk:=HRK.out
   obtain⟨C2,hC2⟩: ∃z,cod ls s=z:=⟨_,rfl⟩
   rw[hC2] at x2 hlt hcs
   rw[show fst ls (j+1)=fst ls (len ls s) by rw[hend],show idx ls (j+1)=idx ls (len ls s) by rw[hend]]
   obtain⟨Mn,hMn⟩: ∃z,mny ls (len ls s)=z:=⟨_,rfl⟩
   obtain⟨Fs,hFs⟩: ∃z,fst ls (len ls s)=z:=⟨_,rfl⟩
   obtain⟨Ix,hIx⟩: ∃z,idx ls (len ls s)=z:=⟨_,rfl⟩
   obtain⟨Rk,hRk⟩: ∃z,rnk ls s=z:=⟨_,rfl⟩
   rw[hMn] at hlt hmc hmn hkr hrk
   rw[hFs] at hlt hkr hcs ⊢
   rw[hIx] at hix ⊢
   rw[hRk] at hcs hrk
   have hsy:=HSY.out
   rw[hIx,hRk] at hsy
   have hyl:=(List.getElem?_eq_some_iff.1 hsy).1
   have hlj:((len ls s:Nat):Int)=(j:Int)+1:=by omega
   rw[hlj] at hSK
   have HSK:=Lib.hid hSK
   have HSYX:=Lib.hid hsy
   have d3:decide ((C2:Int)<(Fs:Int)+(Mn:Int))=true:=decide_eq_true (by omega)
   have d3':decide (C2<Fs+Mn)=true:=decide_eq_true (by omega)
   obtain⟨IC,hIC⟩: ∃z,Ix+C2=z:=⟨_,rfl⟩
   obtain⟨IR,hIR⟩: ∃z,Ix+Rk=z:=⟨_,rfl⟩
   rw[hIR] at HSYX hyl
   have x7:IntKind.i64.wrap (((Ix:Nat):Int)+((C2:Nat):Int))=((IC:Nat):Int):=by rw[IntWalk.i64_in _ (by omega)];omega
   have x8:IntKind.i64.wrap (((IC:Nat):Int)-((Fs:Nat):Int))=((IR:Nat):Int):=by rw[IntWalk.i64_in _ (by omega)];omega
   have HL:=Lib.hid hend
   clear hbit hvb hdb hX2 hB hC hY hC2 hMn hFs hIx hRk hSK hsy hlj hcs hrk hix hix2 hend hIC hIR
   go_wp2_with (fail)
   refine HSK.out.mono ?_
   rintro e w3 ⟨rfl,hrd3,hfr3⟩
   have HRD3:=Lib.hid hrd3
   have HFR3:=Lib.hid ((Fr.of_below (F:=[rb]) HB.out).trans hfr3 (fun x hx _=>hx))
   have ho3:=(HOW.out wo HB.out).fr hfr3 (Nat.lt_of_lt_of_le h2 HB.out.size) (by simp;exact hF tb (by simp))
   have hr3:=(HRW.out wo HB.out).fr hfr3 (fun k hk=>by simp;exact hF k (by simp[hk]))
   have k16:=ho3.1 16 (.slice ya sy.length yc) (by rw[List.getElem?_append_right (by rw[mcl_len];omega),mcl_len];rfl)
   obtain⟨yb,yo,rfl,_⟩:=sl_cells hr3.sl (by omega)
   have ks:=sl_same hr3.sl (by omega) IR _ (iC_get HSYX.out)
   have hxi:((IR:Nat):Int)<(sy.length:Int):=by omega
   clear hrd3 hfr3 ho3 hr3 HSK
   go_wp2_with (fail)
   go_ret2
   exact⟨fun _=>⟨by rfl,HRD3.out,HFR3.out⟩,fun h=>by have:=HL.out;omega⟩
end Go.Proofs.YtmdgeoalamancaaGreatDoor
