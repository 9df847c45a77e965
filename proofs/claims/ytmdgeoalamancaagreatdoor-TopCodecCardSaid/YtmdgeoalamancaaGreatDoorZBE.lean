/- split.Split. -/
import Derived.Test.YtmdgeoalamancaaGreatDoorZBD
set_option maxRecDepth 100000
set_option linter.unusedVariables false
set_option linter.unusedSimpArgs false
namespace Go.Proofs.YtmdgeoalamancaaGreatDoor
open Go.RowKit
open Bt Can Mc Pk
def SplP (n:Nat) (w:World) (e:Ending) (w':World):Prop:= ∃v' ps,e= .returned (.tuple #[v',.int .i64 0])∧Row w.heap.size 116 3 w' v' ps.length (pcC ps)∧Ctg 0 ps n∧ps≠[]∧ps.length≤2∧Below w.heap.size w w'
set_option maxHeartbeats 4000000 in
theorem split_any (ts:List Tk.T) (n B:Nat) (v:Value) (w:World) (h:Sl w B 3 v n (kC ts)) (hB:B≤w.heap.size) (hn:n=ts.length) (hl:n≤1000) (ho: ∀t∈ts,Tk.Ok t) (hG:Gl w):Calls Tryz.prog 47 #[v] w (SplP n w):=by
 obtain⟨a,cap,rfl,hcap⟩:=h.form
 have HS:=Lib.hid (fun (W:World) (hW:Below w.heap.size w W)=>h.below (hW.mono hB))
 have HPC:=Lib.hid (fun (W:World) (hW:Below w.heap.size w W)=>pieces_any ts n B (.slice a n cap) W (h.below (hW.mono hB)) (Nat.le_trans hB hW.size) hn hl ho (hG.fr (Fr.of_below (F:=[]) hW) (fun _ h=>by cases h)))
 have HJN:=Lib.hid (fun (W:World) (hW:Below w.heap.size w W) (vp:Value) (ps:List Pce) (hp:Sl W W.heap.size 3 vp ps.length (pcC ps)) (hct:Ctg 0 ps n) (hne:ps≠[]) (h2:ps.length≤2)=>joins_any ts n W.heap.size (.slice a n cap) vp ps ps.length W ((h.below (hW.mono hB)).mono (Nat.le_trans hB hW.size)) (Nat.le_refl _) hn hl ho hp rfl (by omega) hct hne (hG.fr (Fr.of_below (F:=[]) hW) (fun _ h=>by cases h)))
 have HN:=Lib.hid hn
 have HO:=Lib.hid ho
 clear h hn ho hG
 go_enter Tryz.func47,Tryz.ntmps47
 go_wp2_with (fail)
 go_loopw [8] (fun i wr=> ∃j:Nat,i= .int .i64 j∧j≤n∧Hid (Below w.heap.size w wr)) (fun i _=>n-(intOf i).toNat)
 case atStart=>exact⟨0,rfl,Nat.zero_le _,Lib.hid (Below.refl _ _)⟩
 case round=>
  obtain⟨j,rfl,hj,HB⟩:=hrel
  obtain⟨wo,rfl⟩: ∃z:World,z=wr:=⟨_,rfl⟩
  by_cases hlt:j<n
  ·as_aux_lemma=>
   have d1:decide (j<n)=true:=decide_eq_true hlt
   have d2:decide ((j:Int)<(n:Int))=true:=decide_eq_true (by omega)
   have q1:IntKind.i64.wrap ((j:Int)+1)=((j+1:Nat):Int):=by rw[IntWalk.i64_in _ (by omega)];omega
   have hji:(j:Int)<(n:Int):=by omega
   obtain⟨t,ht⟩: ∃t,ts[j]? =some t:=⟨_,List.getElem?_eq_getElem (by have:=HN.out;omega)⟩
   obtain⟨b,off,rfl,k0,k1,k2⟩:=sl_tok (HS.out wo HB.out) HN.out ht
   have HTS:=Lib.hid (fun W=>right_any t (HO.out t (List.mem_of_getElem? ht)) W)
   have hA:=(Below.refl wo.heap.size wo).alloc (Nat.le_refl _) (.cells #[.int .u8 (t.c:Nat),.int .i64 (t.l:Nat),.int .i64 (t.d:Nat)] 162)
   have HBA:=Lib.hid (HB.out.trans (hA.mono HB.out.size))
   have hzA:w.heap.size≤(wo.alloc (.cells #[.int .u8 (t.c:Nat),.int .i64 (t.l:Nat),.int .i64 (t.d:Nat)] 162)).heap.size:=HBA.out.size
   have HZA:=Lib.hid hzA
   clear hA hzA ht HPC HJN
   go_wp2_with (fail)
   refine (HTS.out _).mono ?_
   rintro e w2 ⟨rfl,hb2⟩
   have HB2:=Lib.hid (HBA.out.trans (hb2.mono HZA.out))
   clear hb2 k0 k1 k2 HBA HZA
   go_wp2_with (fail)
   go_roundw
   case rel=>exact⟨j+1,rfl,hlt,HB2⟩
   case measure=>simp[intOf]<;>omega
  ·have d1:decide (j<n)=false:=decide_eq_false hlt
   have d2:decide ((j:Int)<(n:Int))=false:=decide_eq_false (by omega)
   go_wp2_with (fail)
   refine (HPC.out wo HB.out).mono ?_
   rintro e w1 ⟨vp,ps,rfl,hr1,hct,hne,_,hl2,hb1⟩
   have hB1:=HB.out.trans (hb1.mono HB.out.size)
   have HJ:=Lib.hid (HJN.out w1 hB1 vp ps hr1.sl hct hne hl2)
   have HB1:=Lib.hid hB1
   have HL2:=Lib.hid hl2
   clear hr1 hct hne hl2 hb1 hB1 HPC HJN
   go_wp2_with (fail)
   refine HJ.out.mono ?_
   rintro e w2 ⟨v2,ps2,rfl,hr2,hct2,hne2,hl3,hb2⟩
   have HR2:Hid (∃ps:List Pce,Row w.heap.size 116 3 w2 v2 ps.length (pcC ps)∧Ctg 0 ps n∧ps≠[]∧ps.length≤2∧Below w.heap.size w w2):=Lib.hid ⟨ps2,hr2.mono HB1.out.size,hct2,hne2,by have:=HL2.out;omega,HB1.out.trans (hb2.mono HB1.out.size)⟩
   clear hr2 hct2 hne2 hl3 hb2 HJ
   go_wp2_with (fail)
   go_ret2
   obtain⟨ps3,h1,h2,h3,h4,h5⟩:=HR2.out
   exact⟨v2,ps3,rfl,h1,h2,h3,h4,h5⟩
end Go.Proofs.YtmdgeoalamancaaGreatDoor
