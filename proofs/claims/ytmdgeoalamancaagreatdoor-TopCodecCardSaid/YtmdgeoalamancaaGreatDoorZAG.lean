/- How many codes there are of each length. -/
import Derived.Test.YtmdgeoalamancaaGreatDoorZAF
set_option maxRecDepth 100000
set_option linter.unusedVariables false
set_option linter.unusedSimpArgs false
namespace Go.Proofs.YtmdgeoalamancaaGreatDoor
open Go.RowKit
open Bt Can Mc
def tC (l:List Nat):List Value:=(List.range 16).map fun n=> .int .i64 (l.count n:Nat)
theorem tC_len (l:List Nat):(tC l).length=16:=by unfold tC;simp
theorem tC_get (l:List Nat) {n:Nat} (h:n<16):(tC l)[n]? =some (.int .i64 (l.count n:Nat)):=by
 unfold tC
 rw[List.getElem?_map,List.getElem?_range h]
 rfl
theorem tC_snoc (l:List Nat) {x:Nat} (hx:x<16):(tC l).set x (.int .i64 ((l.count x+1:Nat):Int))=tC (l++[x]):=by
 refine List.ext_getElem? fun k=> ?_
 by_cases hk:k<16
 ·rw[tC_get _ hk,List.count_append]
  by_cases e:x=k
  ·subst e
   rw[List.getElem?_set_self (by rw[tC_len];exact hx)]
   simp
  ·rw[List.getElem?_set_ne e,tC_get _ hk]
   simp[List.count_cons,e]
 ·rw[List.getElem?_eq_none (by rw[List.length_set,tC_len];omega),List.getElem?_eq_none (by rw[tC_len];omega)]
set_option maxHeartbeats 4000000 in
theorem tally_any (ls:List Nat) (n:Nat) (v:Value) (B:Nat) (w:World) (h:Sl w B 1 v n (iC ls)) (hB:B≤w.heap.size) (hn:n=ls.length) (hl:n≤1000000) (h15: ∀x∈ls,x≤15):
  Calls Tryz.prog 172 #[v] w fun e w'=>e= .returned (.tuple #[.agg (tC ls).toArray,.bool true])∧Below w.heap.size w w':=by
 obtain⟨a,cap,rfl,hcap⟩:=h.form
 have HS:=Lib.hid (fun (W:World) (hW:Below w.heap.size w W)=>h.below (hW.mono hB))
 have HN:=Lib.hid hn
 have H15:=Lib.hid h15
 clear h hn h15
 obtain⟨wa,hwa⟩: ∃z:World,z=(w.alloc (.cells #[.int .i64 0,.int .i64 0,.int .i64 0,.int .i64 0,.int .i64 0,.int .i64 0,.int .i64 0,.int .i64 0,.int .i64 0,.int .i64 0,.int .i64 0,.int .i64 0,.int .i64 0,.int .i64 0,.int .i64 0,.int .i64 0] 239)).alloc (.cells #[.int .i64 0,.int .i64 0,.int .i64 0,.int .i64 0,.int .i64 0,.int .i64 0,.int .i64 0,.int .i64 0,.int .i64 0,.int .i64 0,.int .i64 0,.int .i64 0,.int .i64 0,.int .i64 0,.int .i64 0,.int .i64 0] 239):=⟨_,rfl⟩
 have HO2:Hid (Own wa w.heap.size (tC [])):=Lib.hid (by rw[hwa];exact (Own.new_at w (tC []) _ _ rfl).below ((Below.refl _ _).alloc (Nat.le_refl _) _) (by simp))
 have HO4:Hid (Own wa (w.heap.size+1) (tC [])):=Lib.hid (by rw[hwa];exact Own.new_at _ (tC []) _ _ (by simp))
 have HBA:Hid (Below w.heap.size w wa):=Lib.hid (by rw[hwa];exact ((Below.refl _ _).alloc (Nat.le_refl _) _).alloc (by simp) _)
 have hza:w.heap.size+2≤wa.heap.size:=by rw[hwa];simp
 go_enter Tryz.func172,Tryz.ntmps172
 go_upto_region 3 with (fail)
 rw[←hwa]
 clear hwa
 obtain⟨rb,hrb⟩: ∃z,w.heap.size=z:=⟨_,rfl⟩
 rw[hrb] at HO2 HO4 HBA hza HS ⊢
 have HRB:=Lib.hid hrb
 clear hrb
 go_wp2_with (fail)
 go_loopw [5,10] (fun r i wr=> ∃j:Nat,i= .int .i64 j∧r= .bool true∧j≤n∧Hid (Own wr rb (tC []))∧Hid (Own wr (rb+1) (tC (ls.take j)))∧Hid (Below rb w wr)∧rb+2≤wr.heap.size) (fun _ i _=>n-(intOf i).toNat)
 case atStart=>exact⟨0,rfl,rfl,Nat.zero_le _,HO2,HO4,HBA,hza⟩
 case round=>
  clear HO2 HO4 HBA hza
  obtain⟨j,rfl,rfl,hj,HO2,HO4,HB,hz⟩:=hrel
  obtain⟨wo,rfl⟩: ∃z:World,z=wr:=⟨_,rfl⟩
  by_cases hlt:j<n
  ·have d1:decide (j<n)=true:=decide_eq_true hlt
   have d2:decide ((j:Int)<(n:Int))=true:=decide_eq_true (by omega)
   have q1:IntKind.i64.wrap ((j:Int)+1)=(j:Int)+1:=IntWalk.i64_in _ (by omega)
   have hji:(j:Int)<(n:Int):=by omega
   obtain⟨b,off,rfl,_⟩:=sl_cells (HS.out wo HB.out) (by omega)
   obtain⟨x,hx⟩: ∃x,ls[j]? =some x:=⟨_,List.getElem?_eq_getElem (by have:=HN.out;omega)⟩
   have k0:=sl_same (HS.out wo HB.out) (by omega) j _ (iC_get hx)
   have hx15:=H15.out x (List.mem_of_getElem? hx)
   have HNX:Hid (ls.take (j+1)=ls.take j++[x]):=Lib.hid (by rw[List.take_add_one,hx];rfl)
   have d3:decide ((0:Int)≤(x:Int))=true:=decide_eq_true (by omega)
   have d4:decide ((x:Int)≤15)=true:=decide_eq_true (by omega)
   have d5:decide (x≤15)=true:=decide_eq_true (by omega)
   have hxi:(x:Int)<16:=by omega
   have kx:=HO4.out.1 x _ (tC_get (ls.take j) (by omega))
   have fx:=HO4.out.2 x
   have hcl:(ls.take j).count x≤1000000:=Nat.le_trans List.count_le_length (by rw[List.length_take];omega)
   have HSN:=Lib.hid (tC_snoc (ls.take j) (show x<16 by omega))
   obtain⟨K,hK⟩: ∃z,(ls.take j).count x=z:=⟨_,rfl⟩
   rw[hK] at kx hcl HSN
   have q2:IntKind.i64.wrap ((K:Int)+1)=((K+1:Nat):Int):=by rw[IntWalk.i64_in _ (by omega)];omega
   obtain⟨K1,hK1⟩: ∃z,K+1=z:=⟨_,rfl⟩
   rw[hK1] at q2 HSN
   clear hx hK hK1
   go_wp2_with (fail)
   go_roundw
   case rel=>exact⟨j+1,rfl,rfl,hlt,Lib.hid (HO2.out.other (c:=rb+1) (by omega) x _),Lib.hid (by rw[HNX.out,←HSN.out];exact HO4.out.set x _ (by rw[tC_len];omega)),Lib.hid (HB.out.setCell (p:=⟨rb+1,x,none⟩) (by show rb≤rb+1;omega) _),by simpa using hz⟩
   case measure=>simp[intOf]<;>omega
  ·have d1:decide (j<n)=false:=decide_eq_false hlt
   have d2:decide ((j:Int)<(n:Int))=false:=decide_eq_false (by omega)
   obtain rfl:j=n:=by omega
   have e:ls.take j=ls:=List.take_of_length_le (by rw[←HN.out];exact Nat.le_refl _)
   rw[e] at HO4
   have c0:=HO4.out.1 0 _ (tC_get ls (n:=0) (by decide))
   have g0:=HO2.out.2 0
   have z0:wo.cell? ⟨rb,0,none⟩=some (.int .i64 0):=HO2.out.1 0 _ rfl
   have c1:=HO4.out.1 1 _ (tC_get ls (n:=1) (by decide))
   have g1:=HO2.out.2 1
   have z1:wo.cell? ⟨rb,1,none⟩=some (.int .i64 0):=HO2.out.1 1 _ rfl
   have c2:=HO4.out.1 2 _ (tC_get ls (n:=2) (by decide))
   have g2:=HO2.out.2 2
   have z2:wo.cell? ⟨rb,2,none⟩=some (.int .i64 0):=HO2.out.1 2 _ rfl
   have c3:=HO4.out.1 3 _ (tC_get ls (n:=3) (by decide))
   have g3:=HO2.out.2 3
   have z3:wo.cell? ⟨rb,3,none⟩=some (.int .i64 0):=HO2.out.1 3 _ rfl
   have c4:=HO4.out.1 4 _ (tC_get ls (n:=4) (by decide))
   have g4:=HO2.out.2 4
   have z4:wo.cell? ⟨rb,4,none⟩=some (.int .i64 0):=HO2.out.1 4 _ rfl
   have c5:=HO4.out.1 5 _ (tC_get ls (n:=5) (by decide))
   have g5:=HO2.out.2 5
   have z5:wo.cell? ⟨rb,5,none⟩=some (.int .i64 0):=HO2.out.1 5 _ rfl
   have c6:=HO4.out.1 6 _ (tC_get ls (n:=6) (by decide))
   have g6:=HO2.out.2 6
   have z6:wo.cell? ⟨rb,6,none⟩=some (.int .i64 0):=HO2.out.1 6 _ rfl
   have c7:=HO4.out.1 7 _ (tC_get ls (n:=7) (by decide))
   have g7:=HO2.out.2 7
   have z7:wo.cell? ⟨rb,7,none⟩=some (.int .i64 0):=HO2.out.1 7 _ rfl
   have c8:=HO4.out.1 8 _ (tC_get ls (n:=8) (by decide))
   have g8:=HO2.out.2 8
   have z8:wo.cell? ⟨rb,8,none⟩=some (.int .i64 0):=HO2.out.1 8 _ rfl
   have c9:=HO4.out.1 9 _ (tC_get ls (n:=9) (by decide))
   have g9:=HO2.out.2 9
   have z9:wo.cell? ⟨rb,9,none⟩=some (.int .i64 0):=HO2.out.1 9 _ rfl
   have c10:=HO4.out.1 10 _ (tC_get ls (n:=10) (by decide))
   have g10:=HO2.out.2 10
   have z10:wo.cell? ⟨rb,10,none⟩=some (.int .i64 0):=HO2.out.1 10 _ rfl
   have c11:=HO4.out.1 11 _ (tC_get ls (n:=11) (by decide))
   have g11:=HO2.out.2 11
   have z11:wo.cell? ⟨rb,11,none⟩=some (.int .i64 0):=HO2.out.1 11 _ rfl
   have c12:=HO4.out.1 12 _ (tC_get ls (n:=12) (by decide))
   have g12:=HO2.out.2 12
   have z12:wo.cell? ⟨rb,12,none⟩=some (.int .i64 0):=HO2.out.1 12 _ rfl
   have c13:=HO4.out.1 13 _ (tC_get ls (n:=13) (by decide))
   have g13:=HO2.out.2 13
   have z13:wo.cell? ⟨rb,13,none⟩=some (.int .i64 0):=HO2.out.1 13 _ rfl
   have c14:=HO4.out.1 14 _ (tC_get ls (n:=14) (by decide))
   have g14:=HO2.out.2 14
   have z14:wo.cell? ⟨rb,14,none⟩=some (.int .i64 0):=HO2.out.1 14 _ rfl
   have c15:=HO4.out.1 15 _ (tC_get ls (n:=15) (by decide))
   have g15:=HO2.out.2 15
   have z15:wo.cell? ⟨rb,15,none⟩=some (.int .i64 0):=HO2.out.1 15 _ rfl
   clear e
   go_wp2_with (fail)
   have HOF:Hid (Own ((((((((((((((((wo.setCell ⟨rb,0,none⟩ (.int .i64 (ls.count 0:Nat))).setCell ⟨rb,1,none⟩ (.int .i64 (ls.count 1:Nat))).setCell ⟨rb,2,none⟩ (.int .i64 (ls.count 2:Nat))).setCell ⟨rb,3,none⟩ (.int .i64 (ls.count 3:Nat))).setCell ⟨rb,4,none⟩ (.int .i64 (ls.count 4:Nat))).setCell ⟨rb,5,none⟩ (.int .i64 (ls.count 5:Nat))).setCell ⟨rb,6,none⟩ (.int .i64 (ls.count 6:Nat))).setCell ⟨rb,7,none⟩ (.int .i64 (ls.count 7:Nat))).setCell ⟨rb,8,none⟩ (.int .i64 (ls.count 8:Nat))).setCell ⟨rb,9,none⟩ (.int .i64 (ls.count 9:Nat))).setCell ⟨rb,10,none⟩ (.int .i64 (ls.count 10:Nat))).setCell ⟨rb,11,none⟩ (.int .i64 (ls.count 11:Nat))).setCell ⟨rb,12,none⟩ (.int .i64 (ls.count 12:Nat))).setCell ⟨rb,13,none⟩ (.int .i64 (ls.count 13:Nat))).setCell ⟨rb,14,none⟩ (.int .i64 (ls.count 14:Nat))).setCell ⟨rb,15,none⟩ (.int .i64 (ls.count 15:Nat))) rb (tC ls)):=Lib.hid ((((((((((((((((HO2.out.set 0 (.int .i64 (ls.count 0:Nat)) (by simp[tC])).set 1 (.int .i64 (ls.count 1:Nat)) (by simp[tC])).set 2 (.int .i64 (ls.count 2:Nat)) (by simp[tC])).set 3 (.int .i64 (ls.count 3:Nat)) (by simp[tC])).set 4 (.int .i64 (ls.count 4:Nat)) (by simp[tC])).set 5 (.int .i64 (ls.count 5:Nat)) (by simp[tC])).set 6 (.int .i64 (ls.count 6:Nat)) (by simp[tC])).set 7 (.int .i64 (ls.count 7:Nat)) (by simp[tC])).set 8 (.int .i64 (ls.count 8:Nat)) (by simp[tC])).set 9 (.int .i64 (ls.count 9:Nat)) (by simp[tC])).set 10 (.int .i64 (ls.count 10:Nat)) (by simp[tC])).set 11 (.int .i64 (ls.count 11:Nat)) (by simp[tC])).set 12 (.int .i64 (ls.count 12:Nat)) (by simp[tC])).set 13 (.int .i64 (ls.count 13:Nat)) (by simp[tC])).set 14 (.int .i64 (ls.count 14:Nat)) (by simp[tC])).set 15 (.int .i64 (ls.count 15:Nat)) (by simp[tC]))
   have HBF:Hid (Below rb w ((((((((((((((((wo.setCell ⟨rb,0,none⟩ (.int .i64 (ls.count 0:Nat))).setCell ⟨rb,1,none⟩ (.int .i64 (ls.count 1:Nat))).setCell ⟨rb,2,none⟩ (.int .i64 (ls.count 2:Nat))).setCell ⟨rb,3,none⟩ (.int .i64 (ls.count 3:Nat))).setCell ⟨rb,4,none⟩ (.int .i64 (ls.count 4:Nat))).setCell ⟨rb,5,none⟩ (.int .i64 (ls.count 5:Nat))).setCell ⟨rb,6,none⟩ (.int .i64 (ls.count 6:Nat))).setCell ⟨rb,7,none⟩ (.int .i64 (ls.count 7:Nat))).setCell ⟨rb,8,none⟩ (.int .i64 (ls.count 8:Nat))).setCell ⟨rb,9,none⟩ (.int .i64 (ls.count 9:Nat))).setCell ⟨rb,10,none⟩ (.int .i64 (ls.count 10:Nat))).setCell ⟨rb,11,none⟩ (.int .i64 (ls.count 11:Nat))).setCell ⟨rb,12,none⟩ (.int .i64 (ls.count 12:Nat))).setCell ⟨rb,13,none⟩ (.int .i64 (ls.count 13:Nat))).setCell ⟨rb,14,none⟩ (.int .i64 (ls.count 14:Nat))).setCell ⟨rb,15,none⟩ (.int .i64 (ls.count 15:Nat)))):=Lib.hid (Below.setCell (Below.setCell (Below.setCell (Below.setCell (Below.setCell (Below.setCell (Below.setCell (Below.setCell (Below.setCell (Below.setCell (Below.setCell (Below.setCell (Below.setCell (Below.setCell (Below.setCell (Below.setCell HB.out (p:=⟨rb,0,none⟩) (Nat.le_refl _) (.int .i64 (ls.count 0:Nat))) (p:=⟨rb,1,none⟩) (Nat.le_refl _) (.int .i64 (ls.count 1:Nat))) (p:=⟨rb,2,none⟩) (Nat.le_refl _) (.int .i64 (ls.count 2:Nat))) (p:=⟨rb,3,none⟩) (Nat.le_refl _) (.int .i64 (ls.count 3:Nat))) (p:=⟨rb,4,none⟩) (Nat.le_refl _) (.int .i64 (ls.count 4:Nat))) (p:=⟨rb,5,none⟩) (Nat.le_refl _) (.int .i64 (ls.count 5:Nat))) (p:=⟨rb,6,none⟩) (Nat.le_refl _) (.int .i64 (ls.count 6:Nat))) (p:=⟨rb,7,none⟩) (Nat.le_refl _) (.int .i64 (ls.count 7:Nat))) (p:=⟨rb,8,none⟩) (Nat.le_refl _) (.int .i64 (ls.count 8:Nat))) (p:=⟨rb,9,none⟩) (Nat.le_refl _) (.int .i64 (ls.count 9:Nat))) (p:=⟨rb,10,none⟩) (Nat.le_refl _) (.int .i64 (ls.count 10:Nat))) (p:=⟨rb,11,none⟩) (Nat.le_refl _) (.int .i64 (ls.count 11:Nat))) (p:=⟨rb,12,none⟩) (Nat.le_refl _) (.int .i64 (ls.count 12:Nat))) (p:=⟨rb,13,none⟩) (Nat.le_refl _) (.int .i64 (ls.count 13:Nat))) (p:=⟨rb,14,none⟩) (Nat.le_refl _) (.int .i64 (ls.count 14:Nat))) (p:=⟨rb,15,none⟩) (Nat.le_refl _) (.int .i64 (ls.count 15:Nat)))
   clear c0 g0 z0 c1 g1 z1 c2 g2 z2 c3 g3 z3 c4 g4 z4 c5 g5 z5 c6 g6 z6 c7 g7 z7 c8 g8 z8 c9 g9 z9 c10 g10 z10 c11 g11 z11 c12 g12 z12 c13 g13 z13 c14 g14 z14 c15 g15 z15
   generalize ((((((((((((((((wo.setCell ⟨rb,0,none⟩ (.int .i64 (ls.count 0:Nat))).setCell ⟨rb,1,none⟩ (.int .i64 (ls.count 1:Nat))).setCell ⟨rb,2,none⟩ (.int .i64 (ls.count 2:Nat))).setCell ⟨rb,3,none⟩ (.int .i64 (ls.count 3:Nat))).setCell ⟨rb,4,none⟩ (.int .i64 (ls.count 4:Nat))).setCell ⟨rb,5,none⟩ (.int .i64 (ls.count 5:Nat))).setCell ⟨rb,6,none⟩ (.int .i64 (ls.count 6:Nat))).setCell ⟨rb,7,none⟩ (.int .i64 (ls.count 7:Nat))).setCell ⟨rb,8,none⟩ (.int .i64 (ls.count 8:Nat))).setCell ⟨rb,9,none⟩ (.int .i64 (ls.count 9:Nat))).setCell ⟨rb,10,none⟩ (.int .i64 (ls.count 10:Nat))).setCell ⟨rb,11,none⟩ (.int .i64 (ls.count 11:Nat))).setCell ⟨rb,12,none⟩ (.int .i64 (ls.count 12:Nat))).setCell ⟨rb,13,none⟩ (.int .i64 (ls.count 13:Nat))).setCell ⟨rb,14,none⟩ (.int .i64 (ls.count 14:Nat))).setCell ⟨rb,15,none⟩ (.int .i64 (ls.count 15:Nat)))=wF at*
   have c0:=HOF.out.1 0 _ (tC_get ls (n:=0) (by decide))
   have c1:=HOF.out.1 1 _ (tC_get ls (n:=1) (by decide))
   have c2:=HOF.out.1 2 _ (tC_get ls (n:=2) (by decide))
   have c3:=HOF.out.1 3 _ (tC_get ls (n:=3) (by decide))
   have c4:=HOF.out.1 4 _ (tC_get ls (n:=4) (by decide))
   have c5:=HOF.out.1 5 _ (tC_get ls (n:=5) (by decide))
   have c6:=HOF.out.1 6 _ (tC_get ls (n:=6) (by decide))
   have c7:=HOF.out.1 7 _ (tC_get ls (n:=7) (by decide))
   have c8:=HOF.out.1 8 _ (tC_get ls (n:=8) (by decide))
   have c9:=HOF.out.1 9 _ (tC_get ls (n:=9) (by decide))
   have c10:=HOF.out.1 10 _ (tC_get ls (n:=10) (by decide))
   have c11:=HOF.out.1 11 _ (tC_get ls (n:=11) (by decide))
   have c12:=HOF.out.1 12 _ (tC_get ls (n:=12) (by decide))
   have c13:=HOF.out.1 13 _ (tC_get ls (n:=13) (by decide))
   have c14:=HOF.out.1 14 _ (tC_get ls (n:=14) (by decide))
   have c15:=HOF.out.1 15 _ (tC_get ls (n:=15) (by decide))
   have hag:(tC ls).toArray=#[.int .i64 (ls.count 0:Nat),.int .i64 (ls.count 1:Nat),.int .i64 (ls.count 2:Nat),.int .i64 (ls.count 3:Nat),.int .i64 (ls.count 4:Nat),.int .i64 (ls.count 5:Nat),.int .i64 (ls.count 6:Nat),.int .i64 (ls.count 7:Nat),.int .i64 (ls.count 8:Nat),.int .i64 (ls.count 9:Nat),.int .i64 (ls.count 10:Nat),.int .i64 (ls.count 11:Nat),.int .i64 (ls.count 12:Nat),.int .i64 (ls.count 13:Nat),.int .i64 (ls.count 14:Nat),.int .i64 (ls.count 15:Nat)]:=rfl
   rw[HRB.out,hag]
   refine bodyPost_ret (v:= .tuple #[.agg #[.int .i64 (ls.count 0:Nat),.int .i64 (ls.count 1:Nat),.int .i64 (ls.count 2:Nat),.int .i64 (ls.count 3:Nat),.int .i64 (ls.count 4:Nat),.int .i64 (ls.count 5:Nat),.int .i64 (ls.count 6:Nat),.int .i64 (ls.count 7:Nat),.int .i64 (ls.count 8:Nat),.int .i64 (ls.count 9:Nat),.int .i64 (ls.count 10:Nat),.int .i64 (ls.count 11:Nat),.int .i64 (ls.count 12:Nat),.int .i64 (ls.count 13:Nat),.int .i64 (ls.count 14:Nat),.int .i64 (ls.count 15:Nat)],.bool true]) (by simp[results,Tryz.results172,go_sem,c0,c1,c2,c3,c4,c5,c6,c7,c8,c9,c10,c11,c12,c13,c14,c15]) rfl ⟨rfl,HBF.out⟩
end Go.Proofs.YtmdgeoalamancaaGreatDoor
