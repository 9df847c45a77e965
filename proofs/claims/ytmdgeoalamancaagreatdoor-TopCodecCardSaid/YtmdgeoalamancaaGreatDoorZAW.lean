/- A head's lengths and bits; costs. What blocks cost. Tokens are written: putPart. Tokens are written: putTokens, PutFixed. -/
import Derived.Test.YtmdgeoalamancaaGreatDoorZAV
import Derived.Test.YtmdgeoalamancaaGreatDoorZAL
import Derived.Test.YtmdgeoalamancaaGreatDoorZAO
import Derived.Test.YtmdgeoalamancaaGreatDoorZAJ
set_option maxRecDepth 100000
set_option linter.unusedVariables false
set_option linter.unusedSimpArgs false
namespace Go.Proofs.YtmdgeoalamancaaGreatDoor
open Go.RowKit
open Bt Can Mc Pk
def bld (sh:List Nat):Nat→List Nat
 |0=>List.replicate 19 0
 |j+1=>(bld sh j).set (odr.getD j 0) (sh.getD j 0)
theorem bld_len (sh:List Nat): ∀k,(bld sh k).length=19
 |0=>by unfold bld;simp
 |k+1=>by unfold bld;rw[List.length_set];exact bld_len sh k
theorem odr_inj: ∀i j,i<19→j<19→odr.getD i 0=odr.getD j 0→i=j:=by
 have h: ∀i,i<19→ ∀j,j<19→odr.getD i 0=odr.getD j 0→i=j:=by decide
 exact fun i j hi hj=>h i hi j hj
theorem odr_all: ∀s,s<19→ ∃i,i<19∧odr.getD i 0=s:=by decide
theorem bld_at (sh:List Nat) {i:Nat} (hi:i<19): ∀k,k≤19→(bld sh k).getD (odr.getD i 0) 0=if i<k then sh.getD i 0 else 0
 |0,_=>by rw[if_neg (by omega)];exact rep_getD _ _
 |k+1,hk=>by
  have ih:=bld_at sh hi k (by omega)
  show ((bld sh k).set (odr.getD k 0) (sh.getD k 0)).getD (odr.getD i 0) 0=_
  rw[getD_set _ _ _ _ (by rw[bld_len];exact odr_l19 k (by omega))]
  by_cases e:i=k
  ·subst e
   rw[if_pos rfl,if_pos (by omega)]
  ·rw[if_neg (fun h=>e (odr_inj i k hi (by omega) h)),ih]
   by_cases h2:i<k
   ·rw[if_pos h2,if_pos (by omega)]
   ·rw[if_neg h2,if_neg (by omega)]
theorem list_getD {a b:List Nat} {n:Nat} (ha:a.length=n) (hb:b.length=n) (h: ∀s,s<n→a.getD s 0=b.getD s 0):a=b:=by
 refine List.ext_getElem? fun s=> ?_
 by_cases hs:s<n
 ·rw[getD_some (by omega),getD_some (by omega),h s hs]
 ·rw[List.getElem?_eq_none (by omega),List.getElem?_eq_none (by omega)]
theorem Sht.bld {rs:List Rn.R} {tb sh:List Nat} {k:Nat} (h:Sht rs tb sh k):Go.Proofs.YtmdgeoalamancaaGreatDoor.bld sh k=tb:=by
 refine list_getD (bld_len _ _) h.len fun s hs=> ?_
 obtain⟨i,hi,rfl⟩:=odr_all s hs
 have h19:=h.k19
 rw[bld_at sh hi k h19]
 have hg:=getD_of (shl_get tb 19 hi)
 rw[if_pos hi] at hg
 by_cases hik:i<k
 ·rw[if_pos hik,h.sh,List.getD_eq_getElem?_getD,List.getElem?_take,if_pos hik,←List.getD_eq_getElem?_getD,hg]
 ·rw[if_neg hik,←hg]
  exact (h.zero i (by omega)).symm
theorem Sht.shlen {rs:List Rn.R} {tb sh:List Nat} {k:Nat} (h:Sht rs tb sh k):sh.length=k:=by
 have:=h.k19
 rw[h.sh,List.length_take,shl_len]
 omega
set_option maxHeartbeats 8000000 in
theorem hlens_any (rs:List Rn.R) (tb sh:List Nat) (k B:Nat) (v0 v1 v2 v3:Value) (w:World) (hst:Sht rs tb sh k) (h:Sl w B 1 v3 k (iC sh)) (hB:B≤w.heap.size) (hG:Gl w):Calls Tryz.prog 170 #[.agg #[v0,v1,v2,v3]] w fun e w'=> ∃v',e= .returned v'∧Row w.heap.size 3 1 w' v' 19 (iC tb)∧Below w.heap.size w w':=by
 have hk1:=hst.k4
 have hk2:=hst.k19
 obtain⟨bb,off,cap,rfl,hcap,hbb,HK⟩:=h.kept hB (by omega)
 have HSL:=Lib.hid hst.shlen
 have HTB:Hid (bld sh k=tb):=Lib.hid hst.bld
 have HG:=Lib.hid hG
 obtain⟨wa,hwa⟩: ∃z:World,z=w.alloc (.cells #[v0,v1,v2,.slice (some ⟨bb,off,none⟩) k cap] 233):=⟨_,rfl⟩
 have HO:Hid (Own wa w.heap.size [v0,v1,v2,.slice (some ⟨bb,off,none⟩) k cap]):=Lib.hid (by rw[hwa];exact Own.new_at w _ _ _ rfl)
 have HB0:Hid (Below w.heap.size w wa):=Lib.hid (by rw[hwa];exact (Below.refl _ _).alloc (Nat.le_refl _) _)
 have hza:w.heap.size<wa.heap.size:=by rw[hwa];simp
 have hmk:=hmkI 19 wa (by omega)
 obtain⟨wb,hwb⟩: ∃z:World,z=wa.alloc (.cells (iC (List.replicate 19 0)).toArray 3):=⟨_,rfl⟩
 have HR0:Hid (Row wa.heap.size 3 1 wb (.slice (some ⟨wa.heap.size,0,none⟩) 19 19) 19 (iC (bld sh 0))):=Lib.hid (by
  rw[hwb]
  exact Row.lit wa _ (Nat.le_refl _) (by omega) (by rw[iC_len];simp))
 have HBB:Hid (Below wa.heap.size wa wb):=Lib.hid (by rw[hwb];exact (Below.refl _ _).alloc (Nat.le_refl _) _)
 obtain⟨ZZ,hzz⟩: ∃z,(iC (List.replicate 19 0))=z:=⟨_,rfl⟩
 rw[hzz] at hmk hwb
 clear hzz h hst hG
 have hmk2:(Instr.makeSlice 55 (.int .i64 19) (.int .i64 19)).run Tryz.prog wa= .ok (.slice (some ⟨wa.heap.size,0,none⟩) 19 19) (wa.alloc (.cells ZZ.toArray 3)):=hmk
 clear hmk
 go_enter Tryz.func170,Tryz.ntmps170
 go_upto_region 1 with (fail)
 rw[←hwa]
 clear hwa
 go_upto_region 2 with (fail)
 rw[←hwb]
 clear hwb hmk2
 obtain⟨hb,hhb⟩: ∃z,w.heap.size=z:=⟨_,rfl⟩
 have HHB:=Lib.hid hhb
 rw[hhb] at HO hza ⊢
 clear hhb
 obtain⟨lb,hlb⟩: ∃z,wa.heap.size=z:=⟨_,rfl⟩
 have HLB:=Lib.hid hlb
 rw[hlb] at HR0 HBB hza ⊢
 clear hlb
 have m3:=(HO.out.below HBB.out hza).1 3 _ rfl
 go_upto_region 3 with (fail)
 clear m3
 go_loopw [11] (fun u wr=> ∃i:Nat,u= .int .i64 (i:Nat)∧i≤k∧Hid (Row lb 3 1 wr (.slice (some ⟨lb,0,none⟩) 19 19) 19 (iC (bld sh i)))∧Hid (Below lb wa wr)) (fun u _=>k-(intOf u).toNat)
 case atStart=>exact⟨0,rfl,Nat.zero_le _,HR0,HBB⟩
 case round=>
  clear HR0 HBB
  obtain⟨i,rfl,hi,HR,HB⟩:=hrel
  obtain⟨wo,rfl⟩: ∃z:World,z=wr:=⟨_,rfl⟩
  have hbw:Below w.heap.size w wo:=HB0.out.trans (HB.out.mono (by have:=HHB.out;omega))
  by_cases hlt:i<k
  ·as_aux_lemma=>
   have e1:decide (i<k)=true:=decide_eq_true hlt
   have e1':decide ((i:Int)<(k:Int))=true:=decide_eq_true (by omega)
   obtain⟨x,hx⟩: ∃x,sh[i]? =some x:=⟨_,List.getElem?_eq_getElem (by have:=HSL.out;omega)⟩
   have ca:=HK.out wo hbw i x hx
   have hli:(i:Int)<(k:Int):=by omega
   have p3:IntKind.i64.wrap ((i:Int)+1)=((i+1:Nat):Int):=by rw[IntWalk.i64_in _ (by omega)];omega
   have hi19:i<19:=by omega
   have HOD:=Lib.hid (order_any i hi19 wo (HG.out.fr (Fr.of_below (F:=[]) hbw) (fun _ h=>by cases h)))
   have hol:=odr_l19 i hi19
   have hst:bld sh (i+1)=(bld sh i).set (odr.getD i 0) x:=by show (bld sh i).set _ (sh.getD i 0)=_;rw[getD_of hx]
   have HST:=Lib.hid hst
   have hbg:=getD_some (l:=bld sh i) (s:=odr.getD i 0) (by rw[bld_len];exact hol)
   have kp:=sl_same HR.out.sl (by omega) (odr.getD i 0) _ (iC_get hbg)
   rw[Nat.zero_add] at kp
   have fp:=HR.out.frozenAt (odr.getD i 0)
   obtain⟨s,hs⟩: ∃z,odr.getD i 0=z:=⟨_,rfl⟩
   rw[hs] at HOD hol HST kp fp
   obtain⟨y,hy⟩: ∃z,(bld sh i).getD s 0=z:=⟨_,rfl⟩
   rw[hy] at kp
   have hsi:(s:Int)<19:=by omega
   have hs0:decide ((0:Int)≤(s:Int))=true:=decide_eq_true (by omega)
   have HR9:Hid (Row lb 3 1 (wo.setCell ⟨lb,s,none⟩ (.int .i64 (x:Nat))) (.slice (some ⟨lb,0,none⟩) 19 19) 19 (iC (bld sh (i+1)))):=Lib.hid (by
    rw[HST.out,←iC_set]
    exact (World.ownsRow.stored HR.out s (.int .i64 (x:Nat))).1)
   have HB9:Hid (Below lb wa (wo.setCell ⟨lb,s,none⟩ (.int .i64 (x:Nat)))):=Lib.hid (HB.out.setCell (p:=⟨lb,s,none⟩) (Nat.le_refl _) _)
   clear hx hbw hst hbg hs hy HST
   go_wp2_with (fail)
   refine HOD.out.mono ?_
   rintro e w7 ⟨rfl,hw7⟩
   subst hw7
   go_wp2_with (fail)
   go_roundw
   case rel=>exact⟨i+1,rfl,hlt,HR9,HB9⟩
   case measure=>simp[intOf]<;>omega
  ·have e1:decide (i<k)=false:=decide_eq_false hlt
   have e1':decide ((i:Int)<(k:Int))=false:=decide_eq_false (by omega)
   have hik:i=k:=by omega
   rw[hik,HTB.out] at HR
   have HBW:=Lib.hid hbw
   clear hik hbw
   go_wp2_with (fail)
   go_ret
   exact⟨_,rfl,HR.out.mono (by have:=HHB.out;omega),HBW.out⟩
set_option maxHeartbeats 8000000 in
theorem hbits_any (rs:List Rn.R) (tb sh:List Nat) (n k B:Nat) (v0 v1 v2 v3:Value) (w:World) (hst:Sht rs tb sh k) (h:Sl w B 1 v3 k (iC sh)) (h2:Sl w B 2 v2 n (runC rs)) (hB:B≤w.heap.size) (hn:n=rs.length) (hnl:n≤100000) (hok: ∀r∈rs,r.1≤18) (hG:Gl w):Calls Tryz.prog 162 #[.agg #[v0,v1,v2,v3]] w fun e w'=>(∃x:Int,e= .returned (.int .i64 x))∧Below w.heap.size w w':=by
 obtain⟨a3,c3,rfl,_⟩:=h.form
 obtain⟨a2,c2,rfl,_⟩:=h2.form
 have HS2:=Lib.hid (fun (W:World) (hW:Below w.heap.size w W)=>h2.below (hW.mono hB))
 have HLN:=Lib.hid (fun (W:World) (hW:Below w.heap.size w W)=>hlens_any rs tb sh k B v0 v1 (.slice a2 n c2) (.slice a3 k c3) W hst (h.below (hW.mono hB)) (Nat.le_trans hB hW.size) (hG.fr (Fr.of_below (F:=[]) hW) (fun _ h=>by cases h)))
 have HN:=Lib.hid hn
 have HO:=Lib.hid hok
 have HTL:=Lib.hid hst.len
 obtain⟨wa,hwa⟩: ∃z:World,z=w.alloc (.cells #[v0,v1,.slice a2 n c2,.slice a3 k c3] 233):=⟨_,rfl⟩
 have HOH:Hid (Own wa w.heap.size [v0,v1,.slice a2 n c2,.slice a3 k c3]):=Lib.hid (by rw[hwa];exact Own.new_at w _ _ _ rfl)
 have HB0:Hid (Below w.heap.size w wa):=Lib.hid (by rw[hwa];exact (Below.refl _ _).alloc (Nat.le_refl _) _)
 have hza:w.heap.size<wa.heap.size:=by rw[hwa];simp
 clear h h2 hst hn hok hG
 go_enter Tryz.func162,Tryz.ntmps162
 go_upto_region 1 with (fail)
 rw[←hwa]
 clear hwa
 obtain⟨hb,hhb⟩: ∃z,w.heap.size=z:=⟨_,rfl⟩
 rw[hhb] at HOH hza ⊢
 clear hhb
 have m0:=HOH.out.1 0 _ rfl
 have m1:=HOH.out.1 1 _ rfl
 have m2:=HOH.out.1 2 _ rfl
 have m3:=HOH.out.1 3 _ rfl
 go_wp2_with (fail)
 refine (HLN.out wa HB0.out).mono ?_
 rintro e w2 ⟨v2,rfl,hr2,hb2⟩
 obtain⟨ta,tc,rfl,_⟩:=hr2.form
 have HR2:=Lib.hid hr2.sl
 have HB2:=Lib.hid (HB0.out.trans (hb2.mono HB0.out.size))
 have HO2:=Lib.hid (HOH.out.below hb2 hza)
 clear hr2 hb2 m0 m1 m2 m3 HLN
 have m2:=HO2.out.1 2 _ rfl
 have m3:=HO2.out.1 3 _ rfl
 go_upto_region 4 with (fail)
 clear m2 m3
 go_loopw [18,4] (fun u s wr=> ∃(i:Nat) (x:Int),u= .int .i64 (i:Nat)∧s= .int .i64 x∧i≤n∧Hid (Below w2.heap.size w2 wr)) (fun u _ _=>n-(intOf u).toNat)
 case atStart=>exact⟨0,_,rfl,rfl,Nat.zero_le _,Lib.hid (Below.refl _ _)⟩
 case round=>
  obtain⟨i,sx,rfl,rfl,hi,HB⟩:=hrel
  obtain⟨wo,rfl⟩: ∃z:World,z=wr:=⟨_,rfl⟩
  have hbw:=HB2.out.trans (HB.out.mono HB2.out.size)
  by_cases hlt:i<n
  ·as_aux_lemma=>
   have d1:decide (i<n)=true:=decide_eq_true hlt
   have d2:decide ((i:Int)<(n:Int))=true:=decide_eq_true (by omega)
   have q1:IntKind.i64.wrap ((i:Int)+1)=((i+1:Nat):Int):=by rw[IntWalk.i64_in _ (by omega)];omega
   have hji:(i:Int)<(n:Int):=by omega
   obtain⟨t,ht⟩: ∃t,rs[i]? =some t:=⟨_,List.getElem?_eq_getElem (by have:=HN.out;omega)⟩
   have hok:=HO.out t (List.mem_of_getElem? ht)
   obtain⟨b,off,rfl,k0,k1⟩:=sl_run (HS2.out wo hbw) HN.out ht
   obtain⟨s,e⟩:=t
   dsimp only at k0 k1 hok
   have HBT:=Lib.hid (fun W=>rbits_any s hok W)
   obtain⟨w3,hw3⟩: ∃q:World,q=wo.alloc (.cells #[.int .i64 (s:Nat),.int .i64 (e:Nat)] 182):=⟨_,rfl⟩
   have hb3:Below wo.heap.size wo w3:=by rw[hw3];exact (Below.refl _ _).alloc (Nat.le_refl _) _
   have HOT:Hid (Own w3 wo.heap.size [.int .i64 (s:Nat),.int .i64 (e:Nat)]):=Lib.hid (by rw[hw3];exact Own.new_at wo _ _ _ rfl)
   have hb23:=HB.out.trans (hb3.mono HB.out.size)
   have HB3:=Lib.hid hb23
   obtain⟨tb2,tof,rfl,hc⟩:=sl_cells (HR2.out.below hb23) (by omega)
   have kt:=hc s _ (iC_get (getD_some (l:=tb) (s:=s) (by rw[HTL.out];omega)))
   obtain⟨y,hy⟩: ∃z,tb.getD s 0=z:=⟨_,rfl⟩
   rw[hy] at kt
   have hsi:(s:Int)<19:=by omega
   have hsn:s<19:=by omega
   obtain⟨X,hX⟩: ∃z,Rn.ext s=z:=⟨_,rfl⟩
   rw[hX] at HBT
   have hx0:decide ((0:Int)≤(X:Int))=true:=decide_eq_true (by omega)
   clear ht hc hy hX hbw hb3 hb23 hok
   go_upto_region 6 with (fail)
   rw[←hw3]
   clear hw3 k0 k1
   obtain⟨tk,htk⟩: ∃z,wo.heap.size=z:=⟨_,rfl⟩
   rw[htk] at HOT ⊢
   clear htk
   have k0:=HOT.out.1 0 _ rfl
   go_wp2_with (fail)
   refine (HBT.out w3).mono ?_
   rintro e w7 ⟨rfl,hw7⟩
   subst hw7
   go_wp2_with (fail)
   go_roundw
   case rel=>exact⟨i+1,_,rfl,rfl,hlt,HB3⟩
   case measure=>simp[intOf]<;>omega
  ·have d1:decide (i<n)=false:=decide_eq_false hlt
   have d2:decide ((i:Int)<(n:Int))=false:=decide_eq_false (by omega)
   have HBW:=Lib.hid hbw
   clear hbw
   go_wp2_with (fail)
   go_ret
   exact⟨⟨_,rfl⟩,HBW.out⟩
set_option maxHeartbeats 2000000 in
theorem sbits_any (n:Nat) (hn:n≤1000000) (w:World):Calls Tryz.prog 160 #[.int .i64 (n:Nat)] w fun e w'=>(∃x:Int,e= .returned (.int .i64 x))∧w'=w:=by
 have q0:(if (n:Int)<0 then (0:Int) else (n:Int))=(n:Int):=by rw[if_neg (by omega)]
 have q0':(if (0:Int)<(n:Int) then (n:Int) else 0)=(n:Int):=by split<;>omega
 have q0'':max (n:Int) 0=(n:Int):=by omega
 go_enter Tryz.func160,Tryz.ntmps160
 go_wp2_with (fail)
 all_goals
  go_ret
  exact⟨⟨_,rfl⟩,rfl⟩
end Go.Proofs.YtmdgeoalamancaaGreatDoor
namespace Go.Proofs.YtmdgeoalamancaaGreatDoor
open Go.RowKit
open Bt Can Mc Pk
theorem run_load_tab {o:Oper} {a:Act} {W:World} {t:Tmp} {b bt:Nat} {cs:List Value} (ho:o.op= .load 219 (.tmp t)) (he:a.tmps[t]? =some (.pointer (some ⟨b,0,none⟩))) (hb:Bk W b bt cs) (hl:cs.length=317):(execOp a.eval o).run Tryz.prog W= .ok (.value (.agg cs.toArray)) W:=by
 have hx:a.eval (.tmp t)= .pointer (some ⟨b,0,none⟩):=by simp[Act.eval,he]
 unfold execOp
 simp only[ho,hx,Instr.loadAt,Instr.sureAddr,Sem.run_bind,Sem.run_pure,Result.andThen_ok,run_loadVar_row W b bt 219 cs.toArray (0,0) _ hb Tryz.underlying219 rfl (by rw[List.size_toArray,hl];exact tab_isz)]
set_option maxHeartbeats 8000000 in
theorem costsOf_any (L D:List Nat) (E:Int) (m s:Nat) (w:World) (h:Tbl m L D) (hm:m≤1000000) (hs:s≤1000000) (hG:Gl w):Calls Tryz.prog 124 #[.agg (tbC L D E).toArray,.int .i64 (s:Nat)] w fun e w'=> ∃a b c:Int,e= .returned (.agg #[.int .i64 a,.int .i64 b,.int .i64 c])∧Below w.heap.size w w':=by
 have HT:=Lib.hid h
 have hlen:=tbC_len (E:=E) h
 have HLE:=Lib.hid (fun W=>lens_any L D E m W h hm)
 have HFX:=Lib.hid (fun W=>fixed_any L D E m W h)
 have HDY:=Lib.hid (fun W=>dynamic_any L D E m W h hm)
 have HSB:=Lib.hid (fun W=>sbits_any s hs W)
 have HG:=Lib.hid hG
 obtain⟨ca,hca⟩: ∃q,tbC L D E=q:=⟨_,rfl⟩
 rw[hca] at HLE HFX HDY hlen ⊢
 obtain⟨wa,hwa⟩: ∃q:World,q=(w.alloc (.cells ca.toArray 219)).alloc (.cells #[.int .i64 0,.int .i64 0,.int .i64 0] 59):=⟨_,rfl⟩
 have HTA0:Hid (Bk wa w.heap.size 219 ca):=Lib.hid (by rw[hwa];exact (Bk.new w _ ca).below ((Below.refl _ _).alloc (Nat.le_refl _) _))
 have HRA0:Hid (Own wa (w.heap.size+1) [.int .i64 0,.int .i64 0,.int .i64 0]):=Lib.hid (by
  rw[hwa]
  have:=Own.new_at (w.alloc (.cells ca.toArray 219)) [.int .i64 0,.int .i64 0,.int .i64 0] 59 _ rfl
  simpa using this)
 have HB0:Hid (Below w.heap.size w wa):=Lib.hid (by rw[hwa];exact ((Below.refl _ _).alloc (Nat.le_refl _) _).alloc (by simp) _)
 have hza:w.heap.size+2≤wa.heap.size:=by rw[hwa];simp
 clear hca h hG
 go_enter Tryz.func124,Tryz.ntmps124
 go_upto_region 1 with (fail)
 rw[←hwa]
 clear hwa
 obtain⟨tb,htb⟩: ∃z,w.heap.size=z:=⟨_,rfl⟩
 have HTB:=Lib.hid htb
 rw[htb] at HTA0 HRA0 hza ⊢
 obtain⟨rb,hrb⟩: ∃z,tb+1=z:=⟨_,rfl⟩
 rw[hrb] at HRA0 ⊢
 have htr:tb<rb:=by omega
 have hza2:rb<wa.heap.size:=by omega
 clear htb hrb hza
 go_wp2_with (with_reducible refine stop_tab ?_)
 refine load_tab HTA0.out rfl hlen ?_
 go_wp2_with (fail)
 refine (HLE.out wa).mono ?_
 rintro e w2 ⟨vl,vd,ls,ds,rfl,hr1,hr2,hb2,hm1,hm2⟩
 have HB2:=Lib.hid (HB0.out.trans (hb2.mono HB0.out.size))
 have HTA2:=Lib.hid (HTA0.out.below hb2)
 have HRA2:=Lib.hid (HRA0.out.below hb2 hza2)
 have hz2:rb<w2.heap.size:=Nat.lt_of_lt_of_le hza2 hb2.size
 have HHO:=Lib.hid (headOf_any ls ds vl vd w2.heap.size w2 hr1.sl hr2.sl (Nat.le_refl _) (by rw[hm1.len,HT.out.l]) (by rw[hm2.len,HT.out.d]) hm1.le hm2.le (HG.out.fr (Fr.of_below (F:=[]) HB2.out) (fun _ h=>by cases h)))
 obtain⟨la,lc,rfl,_⟩:=hr1.form
 obtain⟨da,dc,rfl,_⟩:=hr2.form
 clear hr1 hr2 hb2 hm1 hm2 HLE HTA0 HRA0
 go_wp2_with (fail)
 refine HHO.out.mono ?_
 rintro e w3 ⟨v0,v1,v2,v3,rs,kl,kd,k,tbl,sh,rfl,hd⟩
 obtain⟨w4,hw4⟩: ∃z:World,z=w3.alloc (.cells #[v0,v1,v2,v3] 233):=⟨_,rfl⟩
 have hb34:Below w3.heap.size w3 w4:=by rw[hw4];exact (Below.refl _ _).alloc (Nat.le_refl _) _
 have hb24:=hd.b.trans (hb34.mono hd.b.size)
 have HD4:=Lib.hid (hd.below hb34)
 have HB4:=Lib.hid (HB2.out.trans (hb24.mono HB2.out.size))
 have HTA:=Lib.hid (HTA2.out.below hb24)
 have HRA:=Lib.hid (HRA2.out.below hb24 hz2)
 have HOH:Hid (Own w4 w3.heap.size [v0,v1,v2,v3]):=Lib.hid (by rw[hw4];exact Own.new_at w3 _ _ _ rfl)
 have hzh:w3.heap.size<w4.heap.size:=by rw[hw4];simp
 have hz4:rb<w4.heap.size:=Nat.lt_of_lt_of_le hz2 hb24.size
 have HBI:=Lib.hid (fun (W:World) (hW:Below w4.heap.size w4 W)=>hbits_any rs tbl sh rs.length k w4.heap.size v0 v1 v2 v3 W HD4.out.st (HD4.out.r3.sl.below hW) (HD4.out.r2.sl.below hW) hW.size rfl (by have:=HD4.out.rl;omega) (pkd_syms HD4.out.pk) (HG.out.fr (Fr.of_below (F:=[]) (HB4.out.trans (hW.mono HB4.out.size))) (fun _ h=>by cases h)))
 obtain⟨a0,c0,rfl,_⟩:=hd.r0.form
 obtain⟨a1,c1,rfl,_⟩:=hd.r1.form
 obtain⟨a2,c2,rfl,_⟩:=hd.r2.form
 obtain⟨a3,c3,rfl,_⟩:=hd.r3.form
 clear hd hb34 hb24 HHO HTA2 HRA2
 go_upto_region 2 with (fail)
 rw[←hw4]
 clear hw4
 obtain⟨hb,hhb⟩: ∃z,w3.heap.size=z:=⟨_,rfl⟩
 rw[hhb] at HOH hzh ⊢
 clear hhb
 refine Mono.region_tail 12 (by kernel_rfl) (by kernel_rfl) (by kernel_rfl) (by kernel_rfl) ?_
 simp only[List.take_succ_cons,List.take_zero]
 refine Mono.hgl_val (v:= ?v0) rfl Mono.rr (fun ρ a W hR hd hf=> ?h0) ?_
 case h0=>
  have e1:=Mono.init_get hf (t:=1) (by kernel_rfl)
  clear hd hf
  (go_simp;try with_reducible rfl)
 refine Mono.hgl_call (fun x _=> ∃z:Int,x= .int .i64 z) rfl Mono.rr (fun _ _ _ h _=>h) (fun ρ a W hR hd hf=> ?h1) ?_
 case h1=>
  have e15:=Mono.dep_val hd hf (t:=15) (k:=0) (by kernel_rfl) rfl
  clear hd hf
  refine⟨_,_,by go_simp;first|rfl|exact⟨rfl,rfl⟩,?_⟩
  exact (HSB.out W).mono (fun e W' ⟨⟨z,he⟩,hw⟩=>⟨_,he,by rw[hw];exact Below.refl _ _,z,rfl⟩)
 refine Mono.hgl_val (v:= .agg ca.toArray) rfl Mono.rr (fun ρ a W hR hd hf=> ?h2) ?_
 case h2=>
  have e2:=Mono.init_get hf (t:=2) (by kernel_rfl)
  clear hd hf
  exact run_load_tab rfl e2 (HTA.out.below hR) hlen
 refine Mono.hgl_call (fun x _=> ∃z:Int,x= .int .i64 z) rfl Mono.rr (fun _ _ _ h _=>h) (fun ρ a W hR hd hf=> ?h3) ?_
 case h3=>
  have e17:=Mono.dep_val hd hf (t:=17) (k:=2) (by kernel_rfl) rfl
  clear hd hf
  refine⟨_,_,by go_simp;first|rfl|exact⟨rfl,rfl⟩,?_⟩
  exact (HFX.out W).mono (fun e W' ⟨⟨z,he⟩,hb⟩=>⟨_,he,hb,z,rfl⟩)
 refine Mono.hgl_pred (fun x _=> ∃z:Int,x= .int .i64 z) rfl (fun _ _ _ h _=>h) (fun ρ a W hR hd hf=> ?h4) ?_
 case h4=>
  obtain⟨e18,d3⟩:=Mono.dep_get hd hf (t:=18) (k:=3) (by kernel_rfl)
  replace d3:(fun x _=> ∃z:Int,x= .int .i64 z) (ρ 3) W:=d3
  obtain⟨z,hz⟩:=d3
  rw[hz] at e18
  clear hd hf
  exact⟨.int .i64 (IntKind.i64.wrap (3+z)),W,by (go_simp<;>rfl),Mono.rr W,_,rfl⟩
 refine Mono.hgl_val (v:= .agg #[.slice a0 kl c0,.slice a1 kd c1,.slice a2 rs.length c2,.slice a3 k c3]) rfl Mono.rr (fun ρ a W hR hd hf=> ?h5) ?_
 case h5=>
  have e5:=Mono.init_get hf (t:=5) (by kernel_rfl)
  have m0:=(HOH.out.below hR hzh).1 0 _ rfl
  have m1:=(HOH.out.below hR hzh).1 1 _ rfl
  have m2:=(HOH.out.below hR hzh).1 2 _ rfl
  have m3:=(HOH.out.below hR hzh).1 3 _ rfl
  clear hd hf
  (go_simp;try with_reducible rfl)
 refine Mono.hgl_call (fun x _=> ∃z:Int,x= .int .i64 z) rfl Mono.rr (fun _ _ _ h _=>h) (fun ρ a W hR hd hf=> ?h6) ?_
 case h6=>
  have e20:=Mono.dep_val hd hf (t:=20) (k:=5) (by kernel_rfl) rfl
  clear hd hf
  refine⟨_,_,by go_simp;first|rfl|exact⟨rfl,rfl⟩,?_⟩
  exact (HBI.out W hR).mono (fun e W' ⟨⟨z,he⟩,hb⟩=>⟨_,he,hb,z,rfl⟩)
 refine Mono.hgl_pred (fun x _=> ∃z:Int,x= .int .i64 z) rfl (fun _ _ _ h _=>h) (fun ρ a W hR hd hf=> ?h7) ?_
 case h7=>
  obtain⟨e21,d6⟩:=Mono.dep_get hd hf (t:=21) (k:=6) (by kernel_rfl)
  replace d6:(fun x _=> ∃z:Int,x= .int .i64 z) (ρ 6) W:=d6
  obtain⟨z,hz⟩:=d6
  rw[hz] at e21
  clear hd hf
  exact⟨.int .i64 (IntKind.i64.wrap (3+z)),W,by (go_simp<;>rfl),Mono.rr W,_,rfl⟩
 refine Mono.hgl_val (v:= .agg ca.toArray) rfl Mono.rr (fun ρ a W hR hd hf=> ?h8) ?_
 case h8=>
  have e2:=Mono.init_get hf (t:=2) (by kernel_rfl)
  clear hd hf
  exact run_load_tab rfl e2 (HTA.out.below hR) hlen
 refine Mono.hgl_call (fun x _=> ∃z:Int,x= .int .i64 z) rfl Mono.rr (fun _ _ _ h _=>h) (fun ρ a W hR hd hf=> ?h9) ?_
 case h9=>
  have e23:=Mono.dep_val hd hf (t:=23) (k:=8) (by kernel_rfl) rfl
  clear hd hf
  refine⟨_,_,by go_simp;first|rfl|exact⟨rfl,rfl⟩,?_⟩
  exact (HDY.out W).mono (fun e W' ⟨⟨z,he⟩,hb⟩=>⟨_,he,hb,z,rfl⟩)
 refine Mono.hgl_pred (fun x _=> ∃z:Int,x= .int .i64 z) rfl (fun _ _ _ h _=>h) (fun ρ a W hR hd hf=> ?h10) ?_
 case h10=>
  obtain⟨e22,d7⟩:=Mono.dep_get hd hf (t:=22) (k:=7) (by kernel_rfl)
  replace d7:(fun x _=> ∃z:Int,x= .int .i64 z) (ρ 7) W:=d7
  obtain⟨e24,d9⟩:=Mono.dep_get hd hf (t:=24) (k:=9) (by kernel_rfl)
  replace d9:(fun x _=> ∃z:Int,x= .int .i64 z) (ρ 9) W:=d9
  obtain⟨z,hz⟩:=d7
  obtain⟨y,hy⟩:=d9
  rw[hz] at e22
  rw[hy] at e24
  clear hd hf
  exact⟨.int .i64 (IntKind.i64.wrap (z+y)),W,by (go_simp<;>rfl),Mono.rr W,_,rfl⟩
 refine Mono.hgl_pred (fun x _=> ∃a b c:Int,x= .agg #[.int .i64 a,.int .i64 b,.int .i64 c]) rfl (fun _ _ _ h _=>h) (fun ρ a W hR hd hf=> ?h11) ?_
 case h11=>
  obtain⟨e16,d1⟩:=Mono.dep_get hd hf (t:=16) (k:=1) (by kernel_rfl)
  replace d1:(fun x _=> ∃z:Int,x= .int .i64 z) (ρ 1) W:=d1
  obtain⟨e19,d4⟩:=Mono.dep_get hd hf (t:=19) (k:=4) (by kernel_rfl)
  replace d4:(fun x _=> ∃z:Int,x= .int .i64 z) (ρ 4) W:=d4
  obtain⟨e25,d10⟩:=Mono.dep_get hd hf (t:=25) (k:=10) (by kernel_rfl)
  replace d10:(fun x _=> ∃z:Int,x= .int .i64 z) (ρ 10) W:=d10
  obtain⟨z0,h0⟩:=d1
  obtain⟨z1,h1⟩:=d4
  obtain⟨z2,h2⟩:=d10
  rw[h0] at e16
  rw[h1] at e19
  rw[h2] at e25
  clear hd hf
  exact⟨.agg #[.int .i64 z0,.int .i64 z1,.int .i64 z2],W,by (go_simp<;>rfl),Mono.rr W,z0,z1,z2,rfl⟩
 refine Mono.hgl_done rfl (by decide) (fun ρ W hR ht=> ?_)
 simp only[List.take_succ_cons,List.take_zero,List.drop_succ_cons,List.drop_zero]
 obtain⟨d11,d10,d9,d8,d7,d6,d5,d4,d3,d2,d1,d0,_⟩:=ht
 replace d1:(fun x _=> ∃z:Int,x= .int .i64 z) (ρ 1) W:=d1
 replace d3:(fun x _=> ∃z:Int,x= .int .i64 z) (ρ 3) W:=d3
 replace d4:(fun x _=> ∃z:Int,x= .int .i64 z) (ρ 4) W:=d4
 replace d6:(fun x _=> ∃z:Int,x= .int .i64 z) (ρ 6) W:=d6
 replace d7:(fun x _=> ∃z:Int,x= .int .i64 z) (ρ 7) W:=d7
 replace d9:(fun x _=> ∃z:Int,x= .int .i64 z) (ρ 9) W:=d9
 replace d10:(fun x _=> ∃z:Int,x= .int .i64 z) (ρ 10) W:=d10
 replace d11:(fun x _=> ∃a b c:Int,x= .agg #[.int .i64 a,.int .i64 b,.int .i64 c]) (ρ 11) W:=d11
 simp only[List.length_cons,List.length_nil,Nat.reduceAdd] at d0 d2 d5 d8
 simp only[Mono.putAll,Nat.reduceAdd,d0,d2,d5,d8,Act.put,List.setIfInBounds_toArray,List.set_cons_zero,List.set_cons_succ]
 clear d0 d2 d5 d8
 generalize ρ 1=r1 at*
 generalize ρ 3=r3 at*
 generalize ρ 4=r4 at*
 generalize ρ 6=r6 at*
 generalize ρ 7=r7 at*
 generalize ρ 9=r9 at*
 generalize ρ 10=r10 at*
 generalize ρ 11=r11 at*
 obtain⟨x0,x1,x2,rfl⟩:=d11
 have HRW:=Lib.hid (HRA.out.below hR hz4)
 have g0:=HRW.out.1 0 _ rfl
 have g1:=HRW.out.1 1 _ rfl
 have g2:=HRW.out.1 2 _ rfl
 have f0:=HRW.out.2 0
 have f1:=HRW.out.2 1
 have f2:=HRW.out.2 2
 have HBW:=Lib.hid (HB4.out.trans (hR.mono HB4.out.size))
 have HOF:=Lib.hid (((HRW.out.set 0 (.int .i64 x0) (by simp)).set 1 (.int .i64 x1) (by simp)).set 2 (.int .i64 x2) (by simp))
 have HBF:Hid (Below w.heap.size w (((W.setCell ⟨rb,0,none⟩ (.int .i64 x0)).setCell ⟨rb,1,none⟩ (.int .i64 x1)).setCell ⟨rb,2,none⟩ (.int .i64 x2))):=Lib.hid (by
  have e:=HTB.out
  exact ((HBW.out.setCell (p:=⟨rb,0,none⟩) (by show w.heap.size≤rb;omega) _).setCell (p:=⟨rb,1,none⟩) (by show w.heap.size≤rb;omega) _).setCell (p:=⟨rb,2,none⟩) (by show w.heap.size≤rb;omega) _)
 clear d1 d3 d4 d6 d7 d9 d10
 go_wp2_with (fail)
 clear g0 g1 g2 f0 f1 f2
 generalize ((W.setCell ⟨rb,0,none⟩ (.int .i64 x0)).setCell ⟨rb,1,none⟩ (.int .i64 x1)).setCell ⟨rb,2,none⟩ (.int .i64 x2)=wF at*
 have g0:=HOF.out.1 0 _ rfl
 have g1:=HOF.out.1 1 _ rfl
 have g2:=HOF.out.1 2 _ rfl
 refine bodyPost_ret (v:= .agg #[.int .i64 x0,.int .i64 x1,.int .i64 x2]) (by simp[results,Tryz.results124,go_sem,g0,g1,g2]) rfl ?_
 exact⟨x0,x1,x2,rfl,HBF.out⟩
set_option maxHeartbeats 8000000 in
theorem costs_any (ts:List Tk.T) (n B:Nat) (v:Value) (w:World) (h:Sl w B 3 v n (kC ts)) (hB:B≤w.heap.size) (hn:n=ts.length) (hl:n≤1000) (ho: ∀t∈ts,Tk.Ok t) (hG:Gl w):Calls Tryz.prog 82 #[v] w fun e w'=> ∃a b c:Int,e= .returned (.tuple #[.agg #[.int .i64 a,.int .i64 b,.int .i64 c],.int .i64 0])∧Below w.heap.size w w':=by
 obtain⟨a,cap,rfl,hcap⟩:=h.form
 have hsz:=sizN'_le ts ho
 have hgl: ∀W,Below w.heap.size w W→Gl W:=fun W hW=>hG.fr (Fr.of_below (F:=[]) hW) (fun _ h=>by cases h)
 have HOF:=Lib.hid (fun (W:World) (hW:Below w.heap.size w W)=>of_any ts n B (.slice a n cap) W (h.below (hW.mono hB)) (Nat.le_trans hB hW.size) hn (by omega) ho (hgl W hW))
 have HSZ:=Lib.hid (fun (W:World) (hW:Below w.heap.size w W)=>sizes_any ts n B (.slice a n cap) W (h.below (hW.mono hB)) (Nat.le_trans hB hW.size) hn (by omega) ho)
 have HCC:=Lib.hid (fun (L D:List Nat) (E:Int) (ht:Tbl n L D) (W:World) (hW:Below w.heap.size w W)=>costsOf_any L D E n (sizN' ts) W ht (by omega) (by omega) (hgl W hW))
 obtain⟨wa,hwa⟩: ∃q:World,q=w.alloc (.cells #[.int .i64 0,.int .i64 0,.int .i64 0] 59):=⟨_,rfl⟩
 have HRA0:Hid (Own wa w.heap.size [.int .i64 0,.int .i64 0,.int .i64 0]):=Lib.hid (by rw[hwa];exact Own.new_at w [.int .i64 0,.int .i64 0,.int .i64 0] 59 _ rfl)
 have HB0:Hid (Below w.heap.size w wa):=Lib.hid (by rw[hwa];exact (Below.refl _ _).alloc (Nat.le_refl _) _)
 have hza:w.heap.size<wa.heap.size:=by rw[hwa];simp
 obtain⟨SZ,hSZ⟩: ∃z,sizN' ts=z:=⟨_,rfl⟩
 rw[hSZ] at HSZ HCC
 clear h hn ho hG hgl hsz hSZ
 go_enter Tryz.func82,Tryz.ntmps82
 go_upto_region 1 with (fail)
 rw[←hwa]
 clear hwa
 obtain⟨rb,hrb⟩: ∃z,w.heap.size=z:=⟨_,rfl⟩
 have HRB:=Lib.hid hrb
 rw[hrb] at HRA0 hza ⊢
 clear hrb
 go_wp2_with (fail)
 refine (HOF.out wa HB0.out).mono ?_
 rintro e w1 ⟨L,D,E,rfl,ht,_,hb1⟩
 have hlen:=tbC_len (E:=E) ht
 have HCO0:=Lib.hid (HCC.out L D E ht)
 obtain⟨ca,hca⟩: ∃q,tbC L D E=q:=⟨_,rfl⟩
 rw[hca] at hlen HCO0
 rw[hca]
 have HCO:=HCO0
 obtain⟨z,hz⟩: ∃z:List Value,z=tbC (List.replicate 286 0) (List.replicate 30 0) 0:=⟨_,rfl⟩
 have hzc:Tryz.zeroCells219=z.toArray:=by rw[hz];exact tab_zero
 have HZL:Hid (z.length=317):=Lib.hid (by rw[hz,tbC,List.length_append,List.length_append,iC_len,iC_len,List.length_replicate,List.length_replicate];rfl)
 clear hz
 obtain⟨wz,hwz⟩: ∃q:World,q=w1.alloc (.cells z.toArray 219):=⟨_,rfl⟩
 have hb1z:Below w1.heap.size w1 wz:=by rw[hwz];exact (Below.refl _ _).alloc (Nat.le_refl _) _
 have HBZ:Hid (Bk wz w1.heap.size 219 z):=Lib.hid (by rw[hwz];exact Bk.new w1 _ z)
 have hb0z:=hb1.trans (hb1z.mono hb1.size)
 have HB0Z:=Lib.hid (HB0.out.trans (hb0z.mono HB0.out.size))
 have HRAZ:=Lib.hid (HRA0.out.below hb0z hza)
 have hz2:rb<w1.heap.size:=Nat.lt_of_lt_of_le hza hb1.size
 have hz3:w1.heap.size<wz.heap.size:=by rw[hwz];simp
 have HCB:Hid (∀u∈ca,u.oneCell'=true):=Lib.hid (by rw[←hca];exact tbC_one _ _ _)
 clear hca ht hb1 hb1z hb0z HCC HCO0 HRA0
 go_wp2_with (with_reducible refine stop_tabS ?_)
 rw[←hwz]
 clear hwz hzc
 obtain⟨tb,htb⟩: ∃z,w1.heap.size=z:=⟨_,rfl⟩
 rw[htb] at HBZ hz2 hz3 ⊢
 clear htb
 refine store_tab HBZ.out rfl rfl HZL.out hlen HCB.out ?_
 intro w2 hr2 hf2
 have HTA:=Lib.hid hr2
 have HRA:=Lib.hid (HRAZ.out.fr hf2 (by omega) (by simp;omega))
 have HB2:Hid (Below w.heap.size w w2):=Lib.hid (HB0Z.out.trans (hf2.below HB0Z.out.size (fun k hk=>by rw[List.mem_singleton.1 hk];have:=HRB.out;omega)))
 have hz4:rb<w2.heap.size:=by have:=hf2.size;omega
 clear hr2 hf2 HBZ HRAZ HB0Z
 go_upto_region 4 with (fail)
 refine Mono.region_tail 4 (by kernel_rfl) (by kernel_rfl) (by kernel_rfl) (by kernel_rfl) ?_
 simp only[List.take_succ_cons,List.take_zero]
 refine Mono.hgl_val (v:= .agg ca.toArray) rfl Mono.rr (fun ρ a W hR hd hf=> ?h0) ?_
 case h0=>
  have e4:=Mono.init_get hf (t:=4) (by kernel_rfl)
  clear hd hf
  exact run_load_tab rfl e4 (HTA.out.below hR) hlen
 refine Mono.hgl_val (v:= ?v1) rfl Mono.rr (fun ρ a W hR hd hf=> ?h1) ?_
 case h1=>
  have e0:=Mono.init_get hf (t:=0) (by kernel_rfl)
  clear hd hf
  (go_simp;try with_reducible rfl)
 refine Mono.hgl_call (fun x _=>x= .int .i64 (SZ:Nat)) rfl Mono.rr (fun _ _ _ h _=>h) (fun ρ a W hR hd hf=> ?h2) ?_
 case h2=>
  have e16:=Mono.dep_val hd hf (t:=16) (k:=1) (by kernel_rfl) rfl
  clear hd hf
  refine⟨_,_,by go_simp;first|rfl|exact⟨rfl,rfl⟩,?_⟩
  exact (HSZ.out W (HB2.out.trans (hR.mono HB2.out.size))).mono (fun e W' ⟨he,hb⟩=>⟨_,he,hb,rfl⟩)
 refine Mono.hgl_call (fun x _=> ∃a b c:Int,x= .agg #[.int .i64 a,.int .i64 b,.int .i64 c]) rfl Mono.rr (fun _ _ _ h _=>h) (fun ρ a W hR hd hf=> ?h3) ?_
 case h3=>
  have e15:=Mono.dep_val hd hf (t:=15) (k:=0) (by kernel_rfl) rfl
  have e17:=Mono.dep_val hd hf (t:=17) (k:=2) (by kernel_rfl) rfl
  clear hd hf
  refine⟨_,_,by go_simp;first|rfl|exact⟨rfl,rfl⟩,?_⟩
  exact (HCO.out W (HB2.out.trans (hR.mono HB2.out.size))).mono (fun e W' ⟨a,b,c,he,hb⟩=>⟨_,he,hb,a,b,c,rfl⟩)
 refine Mono.hgl_done rfl (by decide) (fun ρ W hR ht=> ?_)
 simp only[List.take_succ_cons,List.take_zero,List.drop_succ_cons,List.drop_zero]
 obtain⟨d3,d2,d1,d0,_⟩:=ht
 replace d3:(fun x _=> ∃a b c:Int,x= .agg #[.int .i64 a,.int .i64 b,.int .i64 c]) (ρ 3) W:=d3
 simp only[List.length_cons,List.length_nil,Nat.reduceAdd] at d0 d1 d2
 simp only[Mono.putAll,Nat.reduceAdd,d0,d1,d2,Act.put,List.setIfInBounds_toArray,List.set_cons_zero,List.set_cons_succ]
 clear d0 d1 d2
 generalize ρ 3=r3 at*
 obtain⟨x0,x1,x2,rfl⟩:=d3
 have HRW:=Lib.hid (HRA.out.below hR hz4)
 have g0:=HRW.out.1 0 _ rfl
 have g1:=HRW.out.1 1 _ rfl
 have g2:=HRW.out.1 2 _ rfl
 have f0:=HRW.out.2 0
 have f1:=HRW.out.2 1
 have f2:=HRW.out.2 2
 have HBW:=Lib.hid (HB2.out.trans (hR.mono HB2.out.size))
 have HOF:=Lib.hid (((HRW.out.set 0 (.int .i64 x0) (by simp)).set 1 (.int .i64 x1) (by simp)).set 2 (.int .i64 x2) (by simp))
 have HBF:Hid (Below w.heap.size w (((W.setCell ⟨rb,0,none⟩ (.int .i64 x0)).setCell ⟨rb,1,none⟩ (.int .i64 x1)).setCell ⟨rb,2,none⟩ (.int .i64 x2))):=Lib.hid (by
  have e:=HRB.out
  exact ((HBW.out.setCell (p:=⟨rb,0,none⟩) (by show w.heap.size≤rb;omega) _).setCell (p:=⟨rb,1,none⟩) (by show w.heap.size≤rb;omega) _).setCell (p:=⟨rb,2,none⟩) (by show w.heap.size≤rb;omega) _)
 go_wp2_with (fail)
 clear g0 g1 g2 f0 f1 f2
 generalize ((W.setCell ⟨rb,0,none⟩ (.int .i64 x0)).setCell ⟨rb,1,none⟩ (.int .i64 x1)).setCell ⟨rb,2,none⟩ (.int .i64 x2)=wF at*
 have g0:=HOF.out.1 0 _ rfl
 have g1:=HOF.out.1 1 _ rfl
 have g2:=HOF.out.1 2 _ rfl
 refine bodyPost_ret (v:= .tuple #[.agg #[.int .i64 x0,.int .i64 x1,.int .i64 x2],.int .i64 0]) (by simp[results,Tryz.results82,go_sem,g0,g1,g2]) rfl ?_
 exact⟨x0,x1,x2,rfl,HBF.out⟩
theorem ix3 (a b c:Int) (i:Nat) (x:Int) (hi:i<3) (hx:[a,b,c].getD i 0=x) (W:World):(Instr.index 59 (.agg #[.int .i64 a,.int .i64 b,.int .i64 c]) (.int .i64 (i:Nat))).run Tryz.prog W= .ok (.int .i64 x) W:=by
 have w1:IntKind.i64.wrap (i:Int)=(i:Int):=IntWalk.i64_in _ (by omega)
 have h1:(i:Int)<3:=by omega
 have h2: ¬3≤i:=by omega
 subst hx
 obtain rfl|rfl|rfl:i=0∨i=1∨i=2:=by omega
 all_goals simp[Instr.index,asIntOf,run_underlying Tryz.underlying59,part,sz_int,ag_int]
set_option maxHeartbeats 4000000 in
theorem cheapest_any (a b c:Int) (w:World):Calls Tryz.prog 83 #[.agg #[.int .i64 a,.int .i64 b,.int .i64 c]] w fun e w'=> ∃k:Nat,k≤2∧e= .returned (.int .i64 (k:Nat))∧Below w.heap.size w w':=by
 obtain⟨wa,hwa⟩: ∃q:World,q=w.alloc (.cells #[.int .i64 a,.int .i64 b,.int .i64 c] 59):=⟨_,rfl⟩
 have HO:Hid (Own wa w.heap.size [.int .i64 a,.int .i64 b,.int .i64 c]):=Lib.hid (by rw[hwa];exact Own.new_at w _ _ _ rfl)
 have HB0:Hid (Below w.heap.size w wa):=Lib.hid (by rw[hwa];exact (Below.refl _ _).alloc (Nat.le_refl _) _)
 go_enter Tryz.func83,Tryz.ntmps83
 go_upto_region 1 with (fail)
 rw[←hwa]
 clear hwa
 obtain⟨hb,hhb⟩: ∃z,w.heap.size=z:=⟨_,rfl⟩
 rw[hhb] at HO ⊢
 clear hhb
 have k0:=HO.out.1 0 _ rfl
 have k1:=HO.out.1 1 _ rfl
 have k2:=HO.out.1 2 _ rfl
 have HIX:=Lib.hid (fun i x h1 h2 W=>ix3 a b c i x h1 h2 W)
 go_upto_region 3 with (fail)
 go_loopw [7,3] (fun u s wr=> ∃i k:Nat,u= .int .i64 (i:Nat)∧s= .int .i64 (k:Nat)∧i≤3∧k≤2∧wr=wa) (fun u _ _=>3-(intOf u).toNat)
 case atStart=>exact⟨0,0,rfl,rfl,by omega,by omega,rfl⟩
 case round=>
  obtain⟨i,k,rfl,rfl,hi,hk,rfl⟩:=hrel
  by_cases hlt:i<3
  ·as_aux_lemma=>
   have d1:decide (i<3)=true:=decide_eq_true hlt
   have d1':decide ((i:Int)<3)=true:=decide_eq_true (by omega)
   have q1:IntKind.i64.wrap ((i:Int)+1)=((i+1:Nat):Int):=by rw[IntWalk.i64_in _ (by omega)];omega
   obtain⟨x,hx⟩: ∃z,[a,b,c].getD i 0=z:=⟨_,rfl⟩
   have hix:=HIX.out i x hlt hx
   obtain⟨y,hy⟩: ∃z,[a,b,c].getD k 0=z:=⟨_,rfl⟩
   have kc:wr.cell? ⟨hb,k,none⟩=some (.int .i64 y):=by
    rw[←hy]
    obtain rfl|rfl|rfl:k=0∨k=1∨k=2:=by omega
    ·exact k0
    ·exact k1
    ·exact k2
   have hki:(k:Int)<3:=by omega
   have hkn:k<3:=by omega
   clear hx hy k0 k1 k2
   by_cases hxy:x<y
   ·have e1:decide (x<y)=true:=decide_eq_true hxy
    go_wp2_with (fail)
    go_roundw
    case rel=>exact⟨i+1,i,rfl,rfl,by omega,by omega,trivial⟩
    case measure=>simp[intOf]<;>omega
   ·have e1:decide (x<y)=false:=decide_eq_false hxy
    go_wp2_with (fail)
    go_roundw
    case rel=>exact⟨i+1,k,rfl,rfl,by omega,by omega,trivial⟩
    case measure=>simp[intOf]<;>omega
  ·have d1:decide (i<3)=false:=decide_eq_false hlt
   have d1':decide ((i:Int)<3)=false:=decide_eq_false (by omega)
   go_wp2_with (fail)
   go_ret
   exact⟨k,hk,rfl,HB0.out⟩
end Go.Proofs.YtmdgeoalamancaaGreatDoor
namespace Go.Proofs.YtmdgeoalamancaaGreatDoor
open Go.RowKit
open Bt Can Mc Pk
def LC (F:List Nat) (w:World) (L:List Nat) (n:Nat) (vL vC:Value):Prop:= ∀W,Fr F w W→Sl W W.heap.size 1 vL n (iC L)∧Sl W W.heap.size 1 vC n (uC (cdl L n))
theorem LC.step {F F':List Nat} {w w':World} {L:List Nat} {n:Nat} {vL vC:Value} (h:LC F w L n vL vC) (hf:Fr F w w') (hn:New F F' w.heap.size):LC F' w' L n vL vC:=fun W hW=>h W (Wr.step hf hn hW)
theorem LC.cells {F:List Nat} {w:World} {L:List Nat} {n s:Nat} {vL vC:Value} (h:LC F w L n vL vC) (hn:n=L.length) (hs:Has L s): ∃lb lo lc cb2 co cc,vL= .slice (some ⟨lb,lo,none⟩) n lc∧vC= .slice (some ⟨cb2,co,none⟩) n cc∧ ∀W,Fr F w W→W.cell? ⟨lb,lo+s,none⟩=some (.int .i64 (Can.len L s:Nat))∧W.cell? ⟨cb2,co+s,none⟩=some (.int .u32 (cdv L s:Nat)):=by
 have h0:=hs.1
 obtain⟨l1,c1⟩:=h w (Fr.refl _ _)
 obtain⟨la,lc,rfl,_⟩:=l1.form
 obtain⟨ca,cc,rfl,_⟩:=c1.form
 obtain⟨lb,lo,rfl,_⟩:=sl_cells l1 (by omega)
 obtain⟨cb2,co,rfl,_⟩:=sl_cells c1 (by omega)
 refine⟨lb,lo,lc,cb2,co,cc,rfl,rfl,fun W hW=> ?_⟩
 obtain⟨l2,c2⟩:=h W hW
 refine⟨sl_same l2 (by omega) s _ (iC_get (getD_some h0)),sl_same c2 (by omega) s _ ?_⟩
 unfold uC
 rw[List.getElem?_map,hn,cdl_end L h0]
 rfl
def PutP (F:List Nat) (w:World) (wb:Nat) (X:List Bool) (e:Ending) (w':World):Prop:=e= .returned (.tuple #[])∧ ∃F',Wr F' w' wb X∧Fr F w w'∧New F F' w.heap.size
set_option maxHeartbeats 4000000 in
theorem putPart_any (F:List Nat) (wb n s X Y:Nat) (S:List Bool) (L:List Nat) (vL vC:Value) (w:World) (h:Wr F w wb S) (hS:S.length≤900000000) (hlc:LC F w L n vL vC) (hn:n=L.length) (hl:n≤1000) (hs:Has L s) (h15:Can.len L s≤15) (hX:X≤32) (hY:Y<4294967296):Calls Tryz.prog 165 #[.pointer (some ⟨wb,0,none⟩),.agg #[.int .i64 (s:Nat),.int .i64 (X:Nat),.int .i64 (Y:Nat)],vL,vC] w (PutP F w wb (S++(cb L s++lsb Y X))):=by
 obtain⟨lb,lo,lc,cb2,co,cc,rfl,rfl,hk⟩:=hlc.cells hn hs
 have HK:=Lib.hid hk
 have hsn:s<n:=by rw[hn];exact hs.1
 have hsi:(s:Int)<(n:Int):=by omega
 have hcd:=cdv_lt L h15
 have hcb:=cdv_bits L hs.2
 have hcl:=cb_len L s
 obtain⟨wa,hwa⟩: ∃z:World,z=w.alloc (.cells #[.int .i64 (s:Nat),.int .i64 (X:Nat),.int .i64 (Y:Nat)] 272):=⟨_,rfl⟩
 have HO:Hid (Own wa w.heap.size [.int .i64 (s:Nat),.int .i64 (X:Nat),.int .i64 (Y:Nat)]):=Lib.hid (by rw[hwa];exact Own.new_at w _ _ _ rfl)
 have hba:Below w.heap.size w wa:=by rw[hwa];exact (Below.refl _ _).alloc (Nat.le_refl _) _
 have hza:w.heap.size<wa.heap.size:=by rw[hwa];simp
 obtain⟨l,hll⟩: ∃z,Can.len L s=z:=⟨_,rfl⟩
 obtain⟨c,hc⟩: ∃z,cdv L s=z:=⟨_,rfl⟩
 rw[hll,hc] at HK hcb
 rw[hc] at hcd
 rw[hll] at hcl
 have hPU: ∀W,Below wa.heap.size wa W→Calls Tryz.prog 51 #[.pointer (some ⟨wb,0,none⟩),.int .u32 (c:Nat),.int .i64 (l:Nat)] W fun e w'=>e= .returned (.bool true)∧ ∃F',Wr F' w' wb (S++cb L s)∧Fr F W w'∧New F F' W.heap.size:=fun W hW=>by
  have:=put_any F wb S c l W (h.fr (Fr.of_below (F:=[]) (hba.trans (hW.mono hba.size))) (fun _ _ hm=>by cases hm)) (by omega) (by omega) (by omega)
  rw[hcb] at this
  exact this
 have HPU:=Lib.hid hPU
 have HBA:=Lib.hid hba
 have HLT:=Lib.hid h.lt
 have HCL:Hid ((S++cb L s).length≤900000100):=Lib.hid (by rw[List.length_append,hcl];omega)
 have y1:IntKind.u32.wrap (Y:Int)=(Y:Int):=u32_wrap Y hY
 clear h hlc hs hn hk hcb hcl hPU hba hc hll
 go_enter Tryz.func165,Tryz.ntmps165
 go_upto_region 1 with (fail)
 rw[←hwa]
 clear hwa
 obtain⟨pb,hpb⟩: ∃z,w.heap.size=z:=⟨_,rfl⟩
 have HPB:=Lib.hid hpb
 rw[hpb] at HO hza ⊢
 clear hpb
 have m0:=HO.out.1 0 _ rfl
 have hkk:=HK.out wa (Fr.of_below HBA.out)
 have k1:=hkk.1
 have k2:=hkk.2
 clear hkk
 go_region_with (go_at_call 51
                 refine (HPU.out _ (Below.refl _ _).drew).mono ?_
                 rintro e w3 ⟨rfl,F3,hw3,hf3,hn3⟩
                 have HW3:=Lib.hid hw3
                 have HF3:Hid (Fr F w w3):=Lib.hid ((Fr.of_below HBA.out).trans ((Fr.of_below (F:=F) ((Below.refl wa.heap.size wa).drew)).trans hf3 (fun x hx _=>hx)) (fun x hx _=>hx))
                 have HN3:Hid (New F F3 w.heap.size):=Lib.hid (fun k hk=>(hn3 k hk).imp id (fun h=>Nat.le_trans HBA.out.size h))
                 have HO3:=Lib.hid (HO.out.fr ((Fr.of_below (F:=F) ((Below.refl wa.heap.size wa).drew)).trans hf3 (fun x hx _=>hx)) hza (fun hm=>by have h1:=(HLT.out pb hm).2;have h2:=HPB.out;omega))
                 clear hw3 hf3 hn3 m0 k1 k2)
 all_goals
  have m1:=HO3.out.1 1 _ rfl
  have m2:=HO3.out.1 2 _ rfl
  have HP2:=Lib.hid (put_any F3 wb (S++cb L s) Y X w3 HW3.out hY hX (by have:=HCL.out;omega))
  go_wp2_with (fail)
  refine HP2.out.mono ?_
  rintro e w4 ⟨rfl,F4,hw4,hf4,hn4⟩
  rw[List.append_assoc] at hw4
  have HW4:=Lib.hid hw4
  have HF4:=Lib.hid (Wr.step HF3.out HN3.out hf4)
  have HN4:=Lib.hid (HN3.out.trans hn4 HF3.out.size)
  clear hw4 hf4 hn4 m1 m2
  go_wp2_with (fail)
  go_end0
  exact⟨rfl,F4,HW4.out,HF4.out,HN4.out⟩
end Go.Proofs.YtmdgeoalamancaaGreatDoor
namespace Go.Proofs.YtmdgeoalamancaaGreatDoor
open Go.RowKit
open Bt Can Mc Pk
theorem lX_le: ∀i,lX.getD i 0≤5:=fun i=>by
 by_cases h:i<29
 ·have: ∀i,i<29→lX.getD i 0≤5:=by decide
  exact this i h
 ·rw[List.getD_eq_getElem?_getD,List.getElem?_eq_none (by show 29≤i;omega)]
  exact Nat.zero_le _
theorem tokB_len {L D:List Nat} (hL: ∀x∈L,x≤15) (hD: ∀x∈D,x≤15) {t:Tk.T} (ho:Tk.Ok t):(tokB L D t).length≤60:=by
 have hl:=fun s=>len_le (s:=s) hL
 have hd:=fun s=>len_le (s:=s) hD
 unfold tokB
 split
 ·rw[cb_len];have:=hl t.c;omega
 ·rename_i h0
  have hdp:plc dB t.d<30:=by
   rcases ho with ⟨a,_⟩|⟨_,_,_,a,b⟩
   ·exact absurd a h0
   ·exact (dist_part t.d a b).1
  rw[List.length_append,List.length_append,List.length_append,cb_len,cb_len,lsb_len,lsb_len]
  have h1:=hl (257+plc lB t.l)
  have h2:=hd (plc dB t.d)
  have h3:=lX_le (plc lB t.l)
  have h4:dX (plc dB t.d)≤14:=by unfold dX;omega
  omega
theorem toksB_len {L D:List Nat} (hL: ∀x∈L,x≤15) (hD: ∀x∈D,x≤15): ∀ts:List Tk.T,(∀t∈ts,Tk.Ok t)→(toksB L D ts).length≤60*ts.length
 | [],_=>Nat.le_refl _
 |t::ts,h=>by
  have h1:=tokB_len hL hD (h t (by simp))
  have h2:=toksB_len hL hD ts (fun x hx=>h x (by simp[hx]))
  unfold toksB at h2 ⊢
  rw[List.flatMap_cons,List.length_append,List.length_cons]
  omega
theorem toksB_snoc (L D:List Nat) {ts:List Tk.T} {i:Nat} {t:Tk.T} (h:ts[i]? =some t):toksB L D (ts.take (i+1))=toksB L D (ts.take i)++tokB L D t:=by
 unfold toksB
 rw[List.take_add_one,h,List.flatMap_append]
 simp
def TkB (F:List Nat) (w:World) (ts:List Tk.T) (n:Nat) (v:Value):Prop:= ∀W,Fr F w W→Sl W W.heap.size 3 v n (kC ts)
theorem TkB.step {F F':List Nat} {w w':World} {ts:List Tk.T} {n:Nat} {v:Value} (h:TkB F w ts n v) (hf:Fr F w w') (hn:New F F' w.heap.size):TkB F' w' ts n v:=fun W hW=>h W (Wr.step hf hn hW)
def LnB (F:List Nat) (w:World) (L:List Nat) (n:Nat) (v:Value):Prop:= ∀W,Fr F w W→Sl W W.heap.size 1 v n (iC L)
theorem LnB.step {F F':List Nat} {w w':World} {L:List Nat} {n:Nat} {v:Value} (h:LnB F w L n v) (hf:Fr F w w') (hn:New F F' w.heap.size):LnB F' w' L n v:=fun W hW=>h W (Wr.step hf hn hW)
theorem row_keep {F:List Nat} {w w1 w2:World} {b e n:Nat} {v:Value} {cs:List Value} (hF: ∀k∈F,k<w.heap.size) (hr:Row b e 1 w1 v n cs) (hb:w.heap.size≤b) (hf:Fr F w1 w2):Sl w2 w2.heap.size 1 v n cs:=
 (hr.fr hf (fun k hk hm=>by have h1:=hF k hm;have h2:=(hr.lt k (mem_obk.1 hk)).1;omega)).sl
set_option maxHeartbeats 8000000 in
theorem putTokens_any (F:List Nat) (wb n nl nd:Nat) (S:List Bool) (ts:List Tk.T) (L D:List Nat) (vt vL vD:Value) (w:World) (h:Wr F w wb S) (hS:S.length≤800000000) (ht:TkB F w ts n vt) (hn:n=ts.length) (hl:n≤1000) (ho: ∀t∈ts,Tk.Ok t) (hfit: ∀t∈ts,Fit L D t) (hend:Has L 256)
  (hL:LnB F w L nl vL) (hnl:nl=L.length) (hnl2:nl≤1000) (hL15: ∀x∈L,x≤15) (hLk:krf L 15≤2^15) (hD:LnB F w D nd vD) (hnd:nd=D.length) (hnd2:nd≤1000) (hD15: ∀x∈D,x≤15) (hDk:krf D 15≤2^15) (hG:Gl w) (hF8: ∀k∈F,8≤k):Calls Tryz.prog 126 #[.pointer (some ⟨wb,0,none⟩),vt,vL,vD] w (PutP F w wb (S++(toksB L D ts++cb L 256))):=by
 have hlt:=h.lt
 have hCL:=fun (W:World) (hW:Below w.heap.size w W)=>codes_any L nl vL W.heap.size W (hL W (Fr.of_below hW)) (Nat.le_refl _) hnl hnl2 hL15 hLk
 have hCD:=fun (W:World) (hW:Below w.heap.size w W)=>codes_any D nd vD W.heap.size W (hD W (Fr.of_below hW)) (Nat.le_refl _) hnd hnd2 hD15 hDk
 have HCL:=Lib.hid hCL
 have HCD:=Lib.hid hCD
 obtain⟨ta,tc,rfl,_⟩:=(ht w (Fr.refl _ _)).form
 obtain⟨la,lc,rfl,_⟩:=(hL w (Fr.refl _ _)).form
 obtain⟨da,dc,rfl,_⟩:=(hD w (Fr.refl _ _)).form
 have HW:=Lib.hid h
 have HT:=Lib.hid ht
 have HL:=Lib.hid hL
 have HD:=Lib.hid hD
 have HP:=Lib.hid (And.intro hnl (And.intro hnd (And.intro hL15 hD15)))
 have HO:=Lib.hid (And.intro hn (And.intro ho hfit))
 have HE:=Lib.hid hend
 have HLT:=Lib.hid (And.intro hlt hF8)
 have HG:=Lib.hid hG
 clear h hlt hCL hCD ht hL hD hnl hnd hL15 hD15 hn ho hfit hend hG hF8
 go_enter Tryz.func126,Tryz.ntmps126
 go_wp2_with (fail)
 refine (HCL.out w (Below.refl _ _)).mono ?_
 rintro e w1 ⟨v1,rfl,hr1,hb1⟩
 obtain⟨ca,cc,rfl,_⟩:=hr1.form
 have HR1:=Lib.hid hr1
 have HB1:=Lib.hid hb1
 clear hr1 hb1 HCL
 go_wp2_with (fail)
 refine (HCD.out w1 HB1.out).mono ?_
 rintro e w2 ⟨v2,rfl,hr2,hb2⟩
 obtain⟨ea,ec,rfl,_⟩:=hr2.form
 have hb02:=HB1.out.trans (hb2.mono HB1.out.size)
 have hf02:Fr F w w2:=Fr.of_below hb02
 have HF02:=Lib.hid hf02
 have HW2:=Lib.hid (HW.out.fr (Fr.of_below (F:=[]) hb02) (fun _ _ hm=>by cases hm))
 have HLC:Hid (LC F w2 L nl (.slice la nl lc) (.slice ca nl cc)):=Lib.hid (fun W hW=>⟨HL.out W (hf02.trans hW (fun x hx _=>hx)),row_keep (fun k hk=>(HLT.out.1 k hk).2) (HR1.out.below hb2) (Nat.le_refl _) hW⟩)
 have HDC:Hid (LC F w2 D nd (.slice da nd dc) (.slice ea nd ec)):=Lib.hid (fun W hW=>⟨HD.out W (hf02.trans hW (fun x hx _=>hx)),row_keep (fun k hk=>(HLT.out.1 k hk).2) hr2 HB1.out.size hW⟩)
 have HT2:Hid (TkB F w2 ts n (.slice ta n tc)):=Lib.hid (fun W hW=>HT.out W (hf02.trans hW (fun x hx _=>hx)))
 have HG2:Hid (∀W,Fr F w2 W→Gl W):=Lib.hid (fun W hW=>HG.out.fr (hf02.trans hW (fun x hx _=>hx)) HLT.out.2)
 clear hr2 hb2 hb02 hf02 HCD HR1 HB1 HL HD HT HG HW
 go_upto_region 3 with (fail)
 go_loopw [30] (fun u wr=> ∃(i:Nat) (F1:List Nat),u= .int .i64 (i:Nat)∧i≤n∧Hid (Wr F1 wr wb (S++toksB L D (ts.take i)))∧Hid (Fr F w2 wr)∧Hid (New F F1 w2.heap.size)) (fun u _=>n-(intOf u).toNat)
 case atStart=>exact⟨0,F,rfl,Nat.zero_le _,Lib.hid (by rw[List.take_zero];show Wr F w2 wb (S++[]);rw[List.append_nil];exact HW2.out),Lib.hid (Fr.refl _ _),Lib.hid (New.refl _ _)⟩
 case round=>
  clear HW2
  obtain⟨i,F1,rfl,hi,HW,HF,HN⟩:=hrel
  obtain⟨wo,rfl⟩: ∃z:World,z=wr:=⟨_,rfl⟩
  have hlen:(S++toksB L D (ts.take i)).length≤800060000:=by
   rw[List.length_append]
   have:=toksB_len HP.out.2.2.1 HP.out.2.2.2 (ts.take i) (fun t ht=>HO.out.2.1 t (List.mem_of_mem_take ht))
   rw[List.length_take] at this
   omega
  by_cases hlt:i<n
  ·have d1:decide (i<n)=true:=decide_eq_true hlt
   have d2:decide ((i:Int)<(n:Int))=true:=decide_eq_true (by omega)
   have q1:IntKind.i64.wrap ((i:Int)+1)=((i+1:Nat):Int):=by rw[IntWalk.i64_in _ (by omega)];omega
   have hji:(i:Int)<(n:Int):=by omega
   obtain⟨t,ht⟩: ∃t,ts[i]? =some t:=⟨_,List.getElem?_eq_getElem (by have:=HO.out.1;omega)⟩
   have hok:=HO.out.2.1 t (List.mem_of_getElem? ht)
   have hft:=HO.out.2.2 t (List.mem_of_getElem? ht)
   have HSN:=Lib.hid (toksB_snoc L D ht)
   obtain⟨b,off,rfl,k0,k1,k2⟩:=sl_tok (HT2.out wo HF.out) HO.out.1 ht
   have HLC1:=Lib.hid (HLC.out.step HF.out HN.out)
   have HDC1:=Lib.hid (HDC.out.step HF.out HN.out)
   have HG1:Hid (∀W,Fr F1 wo W→Gl W):=Lib.hid (fun W hW=>HG2.out W (Wr.step HF.out HN.out hW))
   have HLEN:=Lib.hid hlen
   clear ht hlen
   obtain⟨S1,hS1⟩: ∃z,S++toksB L D (ts.take i)=z:=⟨_,rfl⟩
   have HS1:=Lib.hid hS1
   rw[hS1] at HW HLEN
   clear hS1
   obtain⟨c,l,d⟩:=t
   dsimp only at k0 k1 k2
   obtain⟨w3,hw3⟩: ∃q:World,q=wo.alloc (.cells #[.int .u8 (c:Nat),.int .i64 (l:Nat),.int .i64 (d:Nat)] 162):=⟨_,rfl⟩
   have hb3:Below wo.heap.size wo w3:=by rw[hw3];exact (Below.refl _ _).alloc (Nat.le_refl _) _
   have HOT:Hid (Own w3 wo.heap.size [.int .u8 (c:Nat),.int .i64 (l:Nat),.int .i64 (d:Nat)]):=Lib.hid (by rw[hw3];exact Own.new_at wo _ _ _ rfl)
   have hz3:wo.heap.size<w3.heap.size:=by rw[hw3];simp
   have HB3:=Lib.hid hb3
   have HW3:=Lib.hid (HW.out.fr (Fr.of_below (F:=[]) hb3) (fun _ _ hm=>by cases hm))
   have HFB:=Lib.hid (HW.out.lt)
   go_upto_region 5 with (fail)
   rw[←hw3]
   clear hw3 k0 k1 k2
   obtain⟨tk,htk⟩: ∃z,wo.heap.size=z:=⟨_,rfl⟩
   have HTK:=Lib.hid htk
   rw[htk] at HOT hz3 ⊢
   clear htk hb3
   have k0:=HOT.out.1 0 _ rfl
   have k1:=HOT.out.1 1 _ rfl
   have k2:=HOT.out.1 2 _ rfl
   by_cases h0:l=0
   ·subst h0
    have hhas:Has L c:=by
     have:(if (0:Nat)=0 then Has L c else _):=hft
     exact this
    obtain⟨lb,lo,lc2,cb2,co,cc2,hv1,hv2,hk⟩:=HLC1.out.cells HP.out.1 hhas
    injection hv1 with hv1a _ hv1c
    injection hv2 with hv2a _ hv2c
    subst hv1a hv1c hv2a hv2c
    have hkk:=hk w3 (Fr.of_below HB3.out)
    have hcd:=cdv_lt L (s:=c) (len_le HP.out.2.2.1)
    have hcb:=cdv_bits L hhas.2
    have hll:=len_le (s:=c) HP.out.2.2.1
    have hcn:c<nl:=by rw[HP.out.1];exact hhas.1
    have hci:(c:Int)<(nl:Int):=by omega
    obtain⟨x,hx⟩: ∃z,Can.len L c=z:=⟨_,rfl⟩
    obtain⟨y,hy⟩: ∃z,cdv L c=z:=⟨_,rfl⟩
    rw[hx,hy] at hkk hcb
    rw[hx] at hll
    rw[hy] at hcd
    have HST:Hid (toksB L D (ts.take (i+1))=toksB L D (ts.take i)++cb L c):=Lib.hid (by rw[HSN.out];rfl)
    have hPU: ∀W,Below w3.heap.size w3 W→Calls Tryz.prog 51 #[.pointer (some ⟨wb,0,none⟩),.int .u32 (y:Nat),.int .i64 (x:Nat)] W fun e w'=>e= .returned (.bool true)∧ ∃F',Wr F' w' wb (S++toksB L D (ts.take (i+1)))∧Fr F1 W w'∧New F1 F' W.heap.size:=fun W hW=>by
     have:=put_any F1 wb S1 y x W (HW3.out.fr (Fr.of_below (F:=[]) hW) (fun _ _ hm=>by cases hm)) (by omega) (by omega) (by have:=HLEN.out;omega)
     rw[hcb,←HS1.out,List.append_assoc,←HST.out] at this
     exact this
    have HPU:=Lib.hid hPU
    have g1:=hkk.1
    have g2:=hkk.2
    clear hft hok hk hkk hcd hcb hll hhas hPU hx hy k2
    go_upto_region 6 with (fail)
    clear k1
    go_region_with (go_at_call 51
                    refine (HPU.out _ (Below.refl _ _).drew).mono ?_
                    rintro e w4 ⟨rfl,F4,hw4,hf4,hn4⟩
                    have HW4:=Lib.hid hw4
                    have hf:Fr F1 wo w4:=(Fr.of_below (F:=F1) (HB3.out.drew)).trans hf4 (fun x hx _=>hx)
                    have HF4:=Lib.hid (Wr.step HF.out HN.out hf)
                    have HN4:Hid (New F F4 w2.heap.size):=Lib.hid (HN.out.trans (show New F1 F4 wo.heap.size from fun k hk=>(hn4 k hk).imp id (fun h=>Nat.le_trans (HB3.out.drew).size h)) HF.out.size)
                    clear hw4 hf4 hn4 hf k0 g1 g2)
    all_goals
     go_wp2_with (fail)
     go_roundw
     case rel=>exact⟨i+1,F4,rfl,hlt,HW4,HF4,HN4⟩
     case measure=>simp[intOf]<;>omega
   ·have e0:((l:Int)==0)=false:=by rw[beq_eq_false_iff_ne];omega
    have e0':(l==0)=false:=by rw[beq_eq_false_iff_ne];omega
    have e0'':decide ((l:Int)=0)=false:=decide_eq_false (by omega)
    have hpar:3≤l∧l≤258∧1≤d∧d≤32768:=by
     rcases hok with ⟨a,_⟩|⟨_,a,b,c,d⟩
     ·exact absurd a h0
     ·exact⟨a,b,c,d⟩
    have hf2:Has L (257+plc lB l)∧Has D (plc dB d):=by
     have:(if l=0 then Has L c else Has L (257+plc lB l)∧Has D (plc dB d)):=hft
     rw[if_neg h0] at this
     exact this
    have hlen:=fun W hW=>length_any l hpar.1 hpar.2.1 W (HG1.out W hW)
    have hdis:=fun W hW=>dist_any d hpar.2.2.1 hpar.2.2.2 W (HG1.out W hW)
    have hlp:=len_part l (by omega) hpar.1
    have hdp:=dist_part d hpar.2.2.1 hpar.2.2.2
    have htb:toksB L D (ts.take (i+1))=toksB L D (ts.take i)++((cb L (257+plc lB l)++lsb (l-lB.getD (plc lB l) 0) (lX.getD (plc lB l) 0))++(cb D (plc dB d)++lsb (d-dB.getD (plc dB d) 0) (dX (plc dB d)))):=by
     rw[HSN.out]
     unfold tokB
     rw[if_neg h0,List.append_assoc]
    have hlx:=lX_le (plc lB l)
    have hdx:dX (plc dB d)≤14:=by unfold dX;omega
    obtain⟨s,hs⟩: ∃z,257+plc lB l=z:=⟨_,rfl⟩
    obtain⟨q,hq⟩: ∃z,plc dB d=z:=⟨_,rfl⟩
    obtain⟨X,hX⟩: ∃z,lX.getD (plc lB l) 0=z:=⟨_,rfl⟩
    obtain⟨Y,hY⟩: ∃z,l-lB.getD (plc lB l) 0=z:=⟨_,rfl⟩
    rw[hs,hX,hY] at hlen htb
    rw[hs] at hf2
    rw[hX] at hlx
    rw[hq] at hdis hdp htb hf2 hdx
    obtain⟨X2,hX2⟩: ∃z,dX q=z:=⟨_,rfl⟩
    obtain⟨Y2,hY2⟩: ∃z,d-dB.getD q 0=z:=⟨_,rfl⟩
    rw[hX2,hY2] at hdis htb
    rw[hX2] at hdx
    have hYl:Y<4294967296:=by omega
    have hY2l:Y2<4294967296:=by omega
    have HTB:=Lib.hid htb
    have HF2:=Lib.hid hf2
    have HLN:=Lib.hid hlen
    have HDS:=Lib.hid hdis
    have hll:=len_le (s:=s) HP.out.2.2.1
    have hdl:=len_le (s:=q) HP.out.2.2.2
    have HL15:=Lib.hid (And.intro hll hdl)
    have hf13:Fr F1 wo w3:=Fr.of_below HB3.out
    have HF13:=Lib.hid hf13
    clear hlen hdis hs hq hX hY hX2 hY2 hlp hdp htb hf2 hpar hft hok hll hdl hf13
    go_upto_region 7 with (fail)
    go_wp2_with (fail)
    refine (HLN.out w3 HF13.out).mono ?_
    rintro e w4 ⟨rfl,hb4⟩
    obtain⟨w5,hw5⟩: ∃z:World,z=w4.alloc (.cells #[.int .i64 (s:Nat),.int .i64 (X:Nat),.int .i64 (Y:Nat)] 272):=⟨_,rfl⟩
    have hb45:Below w4.heap.size w4 w5:=by rw[hw5];exact (Below.refl _ _).alloc (Nat.le_refl _) _
    have hb35:=hb4.trans (hb45.mono hb4.size)
    have hb05:=HB3.out.trans (hb35.mono HB3.out.size)
    have HOP:Hid (Own w5 w4.heap.size [.int .i64 (s:Nat),.int .i64 (X:Nat),.int .i64 (Y:Nat)]):=Lib.hid (by rw[hw5];exact Own.new_at w4 _ _ _ rfl)
    have HOT5:=Lib.hid (HOT.out.below hb35 hz3)
    have hz5:tk<w5.heap.size:=Nat.lt_of_lt_of_le hz3 hb35.size
    have hf05:Fr F1 wo w5:=Fr.of_below hb05
    have HF05:=Lib.hid hf05
    have HB05:=Lib.hid hb05
    have HW5:=Lib.hid (HW.out.fr (Fr.of_below (F:=[]) hb05) (fun _ _ hm=>by cases hm))
    have HLC5:Hid (LC F1 w5 L nl (.slice la nl lc) (.slice ca nl cc)):=Lib.hid (fun W hW=>HLC1.out W (hf05.trans hW (fun x hx _=>hx)))
    have HPP:=Lib.hid (putPart_any F1 wb nl s X Y S1 L (.slice la nl lc) (.slice ca nl cc) w5 HW5.out (by have:=HLEN.out;omega) HLC5.out HP.out.1 hnl2 HF2.out.1 HL15.out.1 (by omega) hYl)
    clear k0 k1 k2 hb4 hb45 hb35 hb05 hf05 HLN HOT
    go_upto_region 8 with (fail)
    rw[←hw5]
    clear hw5
    obtain⟨pl,hpl⟩: ∃z,w4.heap.size=z:=⟨_,rfl⟩
    rw[hpl] at HOP ⊢
    clear hpl
    have m0:=HOP.out.1 0 _ rfl
    have m1:=HOP.out.1 1 _ rfl
    have m2:=HOP.out.1 2 _ rfl
    go_wp2_with (fail)
    refine HPP.out.mono ?_
    rintro e w6 ⟨rfl,F6,hw6,hf6,hn6⟩
    have hf06:Fr F1 wo w6:=HF05.out.trans hf6 (fun x hx _=>hx)
    have HF06:=Lib.hid hf06
    have HN06:Hid (New F1 F6 wo.heap.size):=Lib.hid (fun k hk=>(hn6 k hk).imp id (fun h=>Nat.le_trans HB05.out.size h))
    have HW6:=Lib.hid hw6
    have hntk:tk ∉ F1:=fun hm=>by have h1:=(HFB.out tk hm).2;have h2:=HTK.out;omega
    have HOT6:=Lib.hid (HOT5.out.fr hf6 hz5 hntk)
    have hz6:w5.heap.size≤w6.heap.size:=hf6.size
    clear hw6 hf6 hn6 hf06 hntk m0 m1 m2 HPP HW5
    have k2:=HOT6.out.1 2 _ rfl
    go_upto_region 9 with (fail)
    go_wp2_with (fail)
    refine (HDS.out w6 HF06.out).mono ?_
    rintro e w7 ⟨rfl,hb7⟩
    obtain⟨w8,hw8⟩: ∃z:World,z=w7.alloc (.cells #[.int .i64 (q:Nat),.int .i64 (X2:Nat),.int .i64 (Y2:Nat)] 272):=⟨_,rfl⟩
    have hb78:Below w7.heap.size w7 w8:=by rw[hw8];exact (Below.refl _ _).alloc (Nat.le_refl _) _
    have hb68:=hb7.trans (hb78.mono hb7.size)
    have HOQ:Hid (Own w8 w7.heap.size [.int .i64 (q:Nat),.int .i64 (X2:Nat),.int .i64 (Y2:Nat)]):=Lib.hid (by rw[hw8];exact Own.new_at w7 _ _ _ rfl)
    have hf08:Fr F1 wo w8:=HF06.out.trans (Fr.of_below (F:=F1) hb68) (fun x hx _=>hx)
    have HF08:=Lib.hid hf08
    have HN08:Hid (New F1 F6 wo.heap.size):=HN06
    have HW8:=Lib.hid (HW6.out.fr (Fr.of_below (F:=[]) hb68) (fun _ _ hm=>by cases hm))
    have HDC8:Hid (LC F6 w8 D nd (.slice da nd dc) (.slice ea nd ec)):=Lib.hid (fun W hW=>HDC1.out W (Wr.step hf08 HN08.out hW))
    have hS6:(S1++(cb L s++lsb Y X)).length≤800060100:=by
     rw[List.length_append,List.length_append,cb_len,lsb_len]
     have h1:=HLEN.out
     have h2:=HL15.out.1
     omega
    have HPP:=Lib.hid (putPart_any F6 wb nd q X2 Y2 (S1++(cb L s++lsb Y X)) D (.slice da nd dc) (.slice ea nd ec) w8 HW8.out (by omega) HDC8.out HP.out.2.1 hnd2 HF2.out.2 HL15.out.2 (by omega) hY2l)
    clear k2 hb7 hb78 hb68 hf08 hS6 HDS
    go_upto_region 10 with (fail)
    rw[←hw8]
    clear hw8
    obtain⟨pd,hpd⟩: ∃z,w7.heap.size=z:=⟨_,rfl⟩
    rw[hpd] at HOQ ⊢
    clear hpd
    have m0:=HOQ.out.1 0 _ rfl
    have m1:=HOQ.out.1 1 _ rfl
    have m2:=HOQ.out.1 2 _ rfl
    go_wp2_with (fail)
    refine HPP.out.mono ?_
    rintro e w9 ⟨rfl,F9,hw9,hf9,hn9⟩
    have HW9:Hid (Wr F9 w9 wb (S++toksB L D (ts.take (i+1)))):=Lib.hid (by
     rw[←HS1.out] at hw9
     rw[HTB.out]
     simp only[List.append_assoc] at hw9 ⊢
     exact hw9)
    have hf09:Fr F1 wo w9:=Wr.step HF08.out HN08.out hf9
    have HF9:=Lib.hid (Wr.step HF.out HN.out hf09)
    have HN9:Hid (New F F9 w2.heap.size):=Lib.hid (HN.out.trans (HN08.out.trans hn9 HF08.out.size) HF.out.size)
    clear hw9 hf9 hn9 hf09 m0 m1 m2 HPP HW8
    go_wp2_with (fail)
    go_roundw
    case rel=>exact⟨i+1,F9,rfl,hlt,HW9,HF9,HN9⟩
    case measure=>simp[intOf]<;>omega
  ·have d1:decide (i<n)=false:=decide_eq_false hlt
   have d2:decide ((i:Int)<(n:Int))=false:=decide_eq_false (by omega)
   obtain rfl:i=n:=by omega
   rw[show ts.take i=ts from by rw[HO.out.1,List.take_length]] at HW hlen
   have HLC1:=Lib.hid (HLC.out.step HF.out HN.out)
   obtain⟨lb,lo,lc2,cb2,co,cc2,hv1,hv2,hk⟩:=HLC1.out.cells HP.out.1 HE.out
   injection hv1 with hv1a _ hv1c
   injection hv2 with hv2a _ hv2c
   subst hv1a hv1c hv2a hv2c
   have hkk:=hk wo (Fr.refl _ _)
   have hcd:=cdv_lt L (s:=256) (len_le HP.out.2.2.1)
   have hcb:=cdv_bits L HE.out.2
   have hll:=len_le (s:=256) HP.out.2.2.1
   have hcn:256<nl:=by rw[HP.out.1];exact HE.out.1
   have hci:(256:Int)<(nl:Int):=by omega
   obtain⟨x,hx⟩: ∃z,Can.len L 256=z:=⟨_,rfl⟩
   obtain⟨y,hy⟩: ∃z,cdv L 256=z:=⟨_,rfl⟩
   rw[hx,hy] at hkk hcb
   rw[hx] at hll
   rw[hy] at hcd
   have hPU: ∀W,Below wo.heap.size wo W→Calls Tryz.prog 51 #[.pointer (some ⟨wb,0,none⟩),.int .u32 (y:Nat),.int .i64 (x:Nat)] W fun e w'=>e= .returned (.bool true)∧ ∃F',Wr F' w' wb (S++(toksB L D ts++cb L 256))∧Fr F1 W w'∧New F1 F' W.heap.size:=fun W hW=>by
    have:=put_any F1 wb (S++toksB L D ts) y x W (HW.out.fr (Fr.of_below (F:=[]) hW) (fun _ _ hm=>by cases hm)) (by omega) (by omega) (by omega)
    rw[hcb,List.append_assoc] at this
    exact this
   have HPU:=Lib.hid hPU
   have g1:=hkk.1
   have g2:=hkk.2
   clear hk hkk hcd hcb hll hPU hx hy hlen
   go_upto_region 12 with (fail)
   go_region_with (go_at_call 51
                   refine (HPU.out _ (Below.refl _ _).drew).mono ?_
                   rintro e w4 ⟨rfl,F4,hw4,hf4,hn4⟩
                   have HW4:=Lib.hid hw4
                   have hf:Fr F1 wo w4:=(Fr.of_below (F:=F1) ((Below.refl wo.heap.size wo).drew)).trans hf4 (fun x hx _=>hx)
                   have HF4:=Lib.hid (HF02.out.trans (Wr.step HF.out HN.out hf) (fun x hx _=>hx))
                   have HN4:Hid (New F F4 w.heap.size):=Lib.hid (fun k hk=>((HN.out.trans (show New F1 F4 wo.heap.size from hn4) HF.out.size) k hk).imp id (fun h=>Nat.le_trans HF02.out.size h))
                   clear hw4 hf4 hn4 hf g1 g2)
   all_goals
    go_wp2_with (fail)
    go_end0
    exact⟨rfl,F4,HW4.out,HF4.out,HN4.out⟩
end Go.Proofs.YtmdgeoalamancaaGreatDoor
