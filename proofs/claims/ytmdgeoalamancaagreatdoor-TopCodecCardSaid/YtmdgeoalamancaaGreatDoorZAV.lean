/- Runs of lengths: Pack. A dynamic block's head: trim, shortOf. A dynamic block's head: shortOf. A dynamic block's head. -/
import Derived.Test.YtmdgeoalamancaaGreatDoorZAU
set_option maxRecDepth 100000
set_option linter.unusedVariables false
set_option linter.unusedSimpArgs false
namespace Go.Proofs.YtmdgeoalamancaaGreatDoor
open Go.RowKit Go.Maps Go.WideMaps
open Bt Can Mc
theorem rest_len (n:Nat): ∀f t,(Rn.rest n f t).length≤t
 |0,_=>Nat.zero_le _
 |_+1,0=>Nat.le_refl _
 |f+1,t+1=>by
  have h1:=rest_len n f (t+1-Rn.prt n (t+1))
  have h2:=Rn.prt_pos (n:=n) (t:=t+1) (by omega)
  show (Rn.rest n f (t+1-Rn.prt n (t+1))).length+1≤t+1
  omega
theorem rep_len (n t:Nat) (ht:1≤t):(Rn.rep n t).length≤t:=by
 unfold Rn.rep
 split
 ·exact rest_len _ _ _
 ·have:=rest_len n (t-1) (t-1)
  rw[List.length_cons]
  omega
theorem repeat_any (rs:List Rn.R) (m n t:Nat) (v:Value) (w:World) (hn:n≤15) (ht:1≤t) (ht2:t≤1000) (hm:m=rs.length) (hm2:m≤100000) (h:Row 0 182 2 w v m (runC rs)):Calls Tryz.prog 189 #[v,.int .i64 (n:Nat),.int .i64 (t:Nat)] w (RepP rs n t v w):=by
 by_cases h0:n=0
 ·subst h0
  exact repeat_zero rs m t v w ht ht2 hm hm2 h
 ·exact repeat_non rs m n t v w h0 hn ht ht2 hm hm2 h
structure Pk2 (l:List Nat) (at_:Nat) (rs:List Rn.R):Prop where
 pk:Rn.Pkd l at_ rs
 fst: ∀r,rs.head?=some r→r.1≠16
theorem Pk2.nil (l:List Nat):Pk2 l 0 []:=⟨Rn.Pkd.nil l,fun r h=>by simp at h⟩
theorem rep_head {n k:Nat} (hn:n≤15) (hk:0<k): ∀r,(Rn.rep n k).head?=some r→r.1≠16:=by
 intro r h
 unfold Rn.rep at h
 split at h
 ·rename_i h0
  subst h0
  obtain⟨j,rfl⟩: ∃j,k=j+1:=⟨k-1,by omega⟩
  have e:(Rn.rest 0 (j+1) (j+1)).head?=some (Rn.sym 0 (j+1),Rn.prt 0 (j+1)-Rn.lst (Rn.sym 0 (j+1))):=rfl
  rw[e] at h
  injection h with h
  subst h
  show Rn.sym 0 (j+1)≠16
  unfold Rn.sym
  rw[if_neg (by omega)]
  split
  ·decide
  ·split<;>decide
 ·simp at h
  subst h
  show n≠16
  omega
theorem Pk2.step {l:List Nat} {at_ k:Nat} {rs:List Rn.R} (h:Pk2 l at_ rs) (hk:0<k) (hle:at_+k≤l.length) (n:Nat) (hn:n≤15) (hs: ∀i,i<k→l[at_+i]? =some n):Pk2 l (at_+k) (rs++Rn.rep n k):=by
 refine⟨h.pk.step hk hle n hn hs,fun r hr=> ?_⟩
 cases hrs:rs with
 |nil=>rw[hrs,List.nil_append] at hr;exact rep_head hn hk r hr
 |cons a q=>rw[hrs] at hr;exact h.fst r (by rw[hrs];simpa using hr)
def PackP (l:List Nat) (n:Nat) (w:World) (e:Ending) (w':World):Prop:= ∃(v':Value) (rs:List Rn.R),e= .returned (.tuple #[v',.int .i64 0])∧Row 0 182 2 w' v' rs.length (runC rs)∧Pk2 l n rs∧rs.length≤n∧Below w.heap.size w w'∧(∀k∈obk v',w.heap.size≤k)
set_option maxHeartbeats 8000000 in
theorem pack_any (l:List Nat) (n B:Nat) (v:Value) (w:World) (h:Sl w B 1 v n (iC l)) (hB:B≤w.heap.size) (hn:n=l.length) (h1:1≤n) (hl:n≤1000) (hx: ∀x∈l,x≤15):Calls Tryz.prog 168 #[v] w (PackP l n w):=by
 obtain⟨bb,off,cap,rfl,hcap,hbb,hcell⟩:=h.pos h1
 have HK:Hid (∀W,Below w.heap.size w W→ ∀j x,l[j]? =some x→W.cell? ⟨bb,off+j,none⟩=some (.int .i64 (x:Nat))):=Lib.hid (fun W hW j x hj=>(hW.cell (p:=⟨bb,off+j,none⟩) (show bb<w.heap.size by omega)).trans (hcell j _ (iC_get hj)))
 have HN:=Lib.hid hn
 have HX:=Lib.hid hx
 clear h hcell hn hx
 go_enter Tryz.func168,Tryz.ntmps168
 go_upto_region 2 with (fail)
 go_loopw [11] (fun u wr=> ∃i:Nat,u= .int .i64 i∧i≤n∧Hid (Below w.heap.size w wr)) (fun u _=>n-(intOf u).toNat)
 case atStart=>exact⟨0,rfl,Nat.zero_le _,Lib.hid (Below.refl _ _)⟩
 case round=>
  obtain⟨i,rfl,hi,HB⟩:=hrel
  obtain⟨wo,rfl⟩: ∃z:World,z=wr:=⟨_,rfl⟩
  by_cases hlt:i<n
  ·as_aux_lemma=>
   have e1:decide (i<n)=true:=decide_eq_true hlt
   have e1':decide ((i:Int)<(n:Int))=true:=decide_eq_true (by omega)
   obtain⟨x,hx⟩: ∃x,l[i]? =some x:=⟨_,List.getElem?_eq_getElem (by have:=HN.out;omega)⟩
   have hx15:=HX.out x (List.mem_of_getElem? hx)
   have ca:=HK.out wo HB.out i x hx
   have d1:decide ((x:Int)<0)=false:=decide_eq_false (by omega)
   have d2:decide ((15:Int)<(x:Int))=false:=decide_eq_false (by omega)
   have d2':decide (15<x)=false:=decide_eq_false (by omega)
   have hli:(i:Int)<(n:Int):=by omega
   have p3:IntKind.i64.wrap ((i:Int)+1)=((i+1:Nat):Int):=by rw[IntWalk.i64_in _ (by omega)];omega
   clear hx hx15
   go_wp2_with (fail)
   go_roundw
   case rel=>exact⟨i+1,rfl,hlt,HB⟩
   case measure=>simp[intOf]<;>omega
  ·have e1:decide (i<n)=false:=decide_eq_false hlt
   have e1':decide ((i:Int)<(n:Int))=false:=decide_eq_false (by omega)
   obtain rfl:i=n:=by omega
   go_upto_region 9 with (fail)
   go_loopw [7,6] (fun u vl wr=> ∃(at_:Nat) (rs:List Rn.R),u= .int .i64 (at_:Nat)∧at_≤i∧Hid (Rp w wr (.slice none 0 0) vl rs)∧Hid (Pk2 l at_ rs)∧rs.length≤at_) (fun u _ _=>i-(intOf u).toNat)
   case atStart=>exact⟨0,[],rfl,Nat.zero_le _,Lib.hid ⟨Row.nil,Fr.of_below HB.out,fun k hk=> .inl hk⟩,Lib.hid (Pk2.nil l),Nat.le_refl _⟩
   case round=>
    obtain⟨at_,rs,rfl,hat,HP,HPK,hlen⟩:=hrel
    obtain⟨la,lc,rfl,_⟩:=HP.out.row.form
    obtain⟨wp,rfl⟩: ∃z:World,z=wr:=⟨_,rfl⟩
    have HBW:Hid (Below w.heap.size w wp):=Lib.hid (HP.out.fr.below (Nat.le_refl _) (fun k hk=>by simp[obk,Value.ownBlock] at hk))
    by_cases hlt2:at_<i
    rotate_left
    ·obtain rfl:at_=i:=by omega
     have f1:decide (at_<at_)=false:=decide_eq_false (by omega)
     go_wp2_with (fail)
     go_ret2
     exact⟨_,rs,rfl,HP.out.row,HPK.out,hlen,HBW.out,fun k hk=>by
      rcases HP.out.nw k hk with h|h
      ·simp[obk,Value.ownBlock] at h
      ·exact h⟩
    have f1:decide (at_<i)=true:=decide_eq_true hlt2
    have f1':decide ((at_:Int)<(i:Int))=true:=decide_eq_true (by omega)
    obtain⟨x,hx⟩: ∃x,l[at_]? =some x:=⟨_,List.getElem?_eq_getElem (by have:=HN.out;omega)⟩
    have hx15:=HX.out x (List.mem_of_getElem? hx)
    have HX0:=Lib.hid hx
    clear hx
    go_upto_region 11 with (fail)
    go_loopw [8] (fun u wr=> ∃same:Nat,u= .int .i64 (same:Nat)∧1≤same∧at_+same≤i∧Hid (∀k,k<same→l[at_+k]? =some x)∧Hid (Below wp.heap.size wp wr)) (fun u _=>i-(intOf u).toNat)
    case atStart=>exact⟨1,rfl,Nat.le_refl _,hlt2,Lib.hid (fun k hk=>by obtain rfl:k=0:=by omega
                                                                       exact HX0.out),Lib.hid (Below.refl _ _)⟩
    case round=>
     obtain⟨same,rfl,hs1,hs2,HS,HBS⟩:=hrel
     obtain⟨wq,rfl⟩: ∃z:World,z=wr:=⟨_,rfl⟩
     have HBQ:=Lib.hid (HBW.out.trans (HBS.out.mono HBW.out.size))
     obtain⟨q,hq⟩: ∃z,at_+same=z:=⟨_,rfl⟩
     have p1:IntKind.i64.wrap ((at_:Int)+(same:Int))=((q:Nat):Int):=by rw[IntWalk.i64_in _ (by omega)];omega
     have p3:IntKind.i64.wrap ((same:Int)+1)=((same+1:Nat):Int):=by rw[IntWalk.i64_in _ (by omega)];omega
     have ca:=HK.out wq HBQ.out at_ x HX0.out
     have l2:(at_:Int)<(i:Int):=by omega
     have HQ:=Lib.hid hq
     have hqi:q≤i:=by omega
     clear hq
     have hend: ∀(_:True),True:=fun _=>trivial
     by_cases hqn:q<i
     ·have g1:decide (q<i)=true:=decide_eq_true hqn
      have g1':decide ((q:Int)<(i:Int))=true:=decide_eq_true (by omega)
      have l1:(q:Int)<(i:Int):=by omega
      obtain⟨y,hy⟩: ∃y,l[q]? =some y:=⟨_,List.getElem?_eq_getElem (by have:=HN.out;omega)⟩
      have cb:=HK.out wq HBQ.out q y hy
      have HY:=Lib.hid hy
      clear hy
      by_cases hxy:y=x
      ·as_aux_lemma=>
       subst hxy
       have t1:((y:Int)==(y:Int))=true:=by rw[beq_iff_eq]
       have t2:(y==y)=true:=by rw[beq_iff_eq]
       have HS2:Hid (∀k,k<same+1→l[at_+k]? =some y):=Lib.hid (fun k hk=>by
        by_cases e:k=same
        ·subst e;rw[HQ.out];exact HY.out
        ·exact HS.out k (by omega))
       go_upto_region 11 with (fail)
       go_quiet (fail)
       have HB3:=Lib.hid (below_drewN HBS.out nq)
       clear ca cb
       generalize wq.drewN nq=w3 at*
       go_wp2_with (fail)
       go_roundw
       case rel=>exact⟨same+1,rfl,by omega,by have:=HQ.out;omega,HS2,HB3⟩
       case measure=>simp[intOf]<;>(have:=HQ.out;omega)
      ·as_aux_lemma=>
       have t1:((y:Int)==(x:Int))=false:=by rw[beq_eq_false_iff_ne];omega
       have t2:(y==x)=false:=by rw[beq_eq_false_iff_ne];exact hxy
       clear hxy
       go_upto_region 11 with (fail)
       go_quiet (fail)
       have hb3:=below_drewN HBS.out nq
       have HB3:=Lib.hid hb3
       clear ca cb
       generalize wq.drewN nq=w3 at*
       have HBV:=Lib.hid (HBW.out.trans (hb3.mono HBW.out.size))
       have HP3:=Lib.hid (HP.out.below hb3)
       clear hb3
       have ca:=HK.out w3 HBV.out at_ x HX0.out
       have HREP:=Lib.hid (repeat_any rs rs.length x same (.slice la rs.length lc) w3 hx15 hs1 (by omega) rfl (by omega) HP3.out.row)
       go_upto_region 13 with (fail)
       go_wp2_with (fail)
       refine HREP.out.mono ?_
       rintro e w4 ⟨v4,rfl,hp4⟩
       have HP4:Hid (Rp w w4 (.slice none 0 0) v4 (rs++Rn.rep x same)):=Lib.hid ⟨hp4.row,HP3.out.fr.trans hp4.fr (fun k hk hlt=>by
        rcases HP3.out.nw k hk with h|h
        ·exact h
        ·omega),fun k hk=>by
        rcases hp4.nw k hk with h|h
        ·exact HP3.out.nw k h
        ·exact .inr (Nat.le_trans HBV.out.size h)⟩
       clear hp4 HREP ca
       have hrl:=rep_len x same hs1
       go_wp2_with (fail)
       go_roundw
       case rel=>exact⟨q,rs++Rn.rep x same,rfl,hqi,HP4,Lib.hid (by rw[←HQ.out];exact HPK.out.step hs1 (by rw[←HN.out];exact hs2) x hx15 HS.out),by rw[List.length_append];have:=HQ.out;omega⟩
       case measure=>simp[intOf]<;>(have:=HQ.out;omega)
     ·as_aux_lemma=>
      have g1:decide (q<i)=false:=decide_eq_false hqn
      have g1':decide ((q:Int)<(i:Int))=false:=decide_eq_false (by omega)
      go_upto_region 11 with (fail)
      go_quiet (fail)
      have hb3:=below_drewN HBS.out nq
      have HB3:=Lib.hid hb3
      clear ca
      generalize wq.drewN nq=w3 at*
      have HBV:=Lib.hid (HBW.out.trans (hb3.mono HBW.out.size))
      have HP3:=Lib.hid (HP.out.below hb3)
      clear hb3
      have ca:=HK.out w3 HBV.out at_ x HX0.out
      have HREP:=Lib.hid (repeat_any rs rs.length x same (.slice la rs.length lc) w3 hx15 hs1 (by omega) rfl (by omega) HP3.out.row)
      go_upto_region 13 with (fail)
      go_wp2_with (fail)
      refine HREP.out.mono ?_
      rintro e w4 ⟨v4,rfl,hp4⟩
      have HP4:Hid (Rp w w4 (.slice none 0 0) v4 (rs++Rn.rep x same)):=Lib.hid ⟨hp4.row,HP3.out.fr.trans hp4.fr (fun k hk hlt=>by
       rcases HP3.out.nw k hk with h|h
       ·exact h
       ·omega),fun k hk=>by
       rcases hp4.nw k hk with h|h
       ·exact HP3.out.nw k h
       ·exact .inr (Nat.le_trans HBV.out.size h)⟩
      clear hp4 HREP ca
      have hrl:=rep_len x same hs1
      go_wp2_with (fail)
      go_roundw
      case rel=>exact⟨q,rs++Rn.rep x same,rfl,hqi,HP4,Lib.hid (by rw[←HQ.out];exact HPK.out.step hs1 (by rw[←HN.out];exact hs2) x hx15 HS.out),by rw[List.length_append];have:=HQ.out;omega⟩
      case measure=>simp[intOf]<;>(have:=HQ.out;omega)
end Go.Proofs.YtmdgeoalamancaaGreatDoor
namespace Go.Proofs.YtmdgeoalamancaaGreatDoor
open Go.RowKit
open Bt Can Mc Pk
def TrmP (l:List Nat) (n q:Nat) (w:World) (e:Ending) (w':World):Prop:= ∃v' k,e= .returned v'∧q≤k∧k≤n∧(∀s,k≤s→l.getD s 0=0)∧Row w.heap.size 3 1 w' v' k (iC (l.take k))∧Below w.heap.size w w'
theorem szI (W:World):(sizeOf (Tryz.prog.elem 55)).run Tryz.prog W= .ok 1 W:=by kernel_rfl
theorem iC_take (l:List Nat) (k:Nat):(iC l).take k=iC (l.take k):=by unfold iC;rw[List.map_take]
set_option maxHeartbeats 4000000 in
theorem trim_any (l:List Nat) (n q B:Nat) (v:Value) (w:World) (h:Sl w B 1 v n (iC l)) (hB:B≤w.heap.size) (hn:n=l.length) (h1:1≤q) (hq:q≤n) (hl:n≤1000):Calls Tryz.prog 167 #[v,.int .i64 (q:Nat)] w (TrmP l n q w):=by
 have HS:=Lib.hid h
 obtain⟨bb,off,cap,rfl,hcap,hbb,HK⟩:=h.kept hB (by omega)
 have HN:=Lib.hid hn
 clear h hn
 go_enter Tryz.func167,Tryz.ntmps167
 go_upto_region 2 with (fail)
 go_loopw [5] (fun u wr=> ∃k:Nat,u= .int .i64 (k:Nat)∧q≤k∧k≤n∧Hid (∀s,k≤s→l.getD s 0=0)∧wr=w) (fun u _=>(intOf u).toNat)
 case atStart=>exact⟨n,rfl,hq,Nat.le_refl _,Lib.hid (fun s hs=>by rw[List.getD_eq_getElem?_getD,List.getElem?_eq_none (by have:=HN.out;omega)];rfl),rfl⟩
 case round=>
  obtain⟨k,rfl,hqk,hkn,HZ,rfl⟩:=hrel
  have fin: ∀(_:True),True:=fun _=>trivial
  by_cases hlt:q<k
  ·have d1:decide (q<k)=true:=decide_eq_true hlt
   have d1':decide ((q:Int)<(k:Int))=true:=decide_eq_true (by omega)
   obtain⟨j,rfl⟩: ∃j,k=j+1:=⟨k-1,by omega⟩
   have p1:IntKind.i64.wrap (((j+1:Nat):Int)-1)=(j:Int):=by rw[IntWalk.i64_in _ (by omega)];omega
   have p2:IntKind.i64.wrap ((j:Int)+1-1)=(j:Int):=by rw[IntWalk.i64_in _ (by omega)];omega
   have p3:IntKind.i64.wrap (j:Int)=(j:Int):=IntWalk.i64_in _ (by omega)
   obtain⟨x,hx⟩: ∃x,l[j]? =some x:=⟨_,List.getElem?_eq_getElem (by have:=HN.out;omega)⟩
   have ca:=HK.out wr (Below.refl _ _) j x hx
   have hji:(j:Int)<(n:Int):=by omega
   have hjn:j<n:=by omega
   by_cases h0:x=0
   ·as_aux_lemma=>
    subst h0
    have HZ2:Hid (∀s,j≤s→l.getD s 0=0):=Lib.hid (fun s hs=>by
     by_cases e:s=j
     ·subst e;exact getD_of hx
     ·exact HZ.out s (by omega))
    clear hx
    go_wp2_with (fail)
    go_roundw
    case rel=>exact⟨j,rfl,by omega,by omega,HZ2,trivial⟩
    case measure=>simp[intOf]<;>omega
   ·have e0:((x:Int)==0)=false:=by rw[beq_eq_false_iff_ne];omega
    have e0':(x==0)=false:=by rw[beq_eq_false_iff_ne];omega
    have e0'':decide ((x:Int)=0)=false:=decide_eq_false (by omega)
    obtain⟨sv,hsv,hssl⟩:=sub_h 55 Tryz.underlying55 szI HS.out (hi:=j+1) (by omega)
    rw[Nat.mul_one,iC_take] at hssl
    obtain⟨sa,sc,rfl,_⟩:=hssl.form
    have HSS:=Lib.hid hssl
    have hk1:j+1≤1000:=by omega
    clear hx hssl
    have hkj:(((j+1:Nat):Int))=(j:Int)+1:=by omega
    have hsv3: ∀W,(Instr.slice 55 (.slice (some ⟨bb,off,none⟩) n cap) none (some (.int .i64 ((j:Int)+1))) none).run Tryz.prog W= .ok (.slice sa (j+1) sc) W:=fun W=>by rw[←hkj];exact hsv W
    clear hkj
    go_upto_region 4 with (fail)
    go_wp2_with (at_builtin;refine append_rowM (base:=wr.heap.size) (size:=1) (xs:=[]) Tryz.underlying55 info_in rfl (by decide) rfl _ _ rfl rfl Row.nil rfl HSS.out (iC_one _) ?_ ?_ ?_ ?_;omega;omega;exact Nat.le_refl _)
    intro v6 w6 hr6 hb6 hg6 hw6
    obtain⟨la6,lc6,rfl,_⟩:=hr6.form
    try simp only[Nat.zero_add,List.nil_append] at hr6
    have HR6:=Lib.hid (And.intro hr6 hb6)
    clear hr6 hb6 hg6 hw6
    go_wp2_with (fail)
    go_ret
    exact⟨_,j+1,rfl,hqk,hkn,HZ.out,HR6.out.1,HR6.out.2⟩
  ·have d1:decide (q<k)=false:=decide_eq_false hlt
   have d1':decide ((q:Int)<(k:Int))=false:=decide_eq_false (by omega)
   obtain rfl:k=q:=by omega
   obtain⟨sv,hsv,hssl⟩:=sub_h 55 Tryz.underlying55 szI HS.out (hi:=k) (by omega)
   rw[Nat.mul_one,iC_take] at hssl
   obtain⟨sa,sc,rfl,_⟩:=hssl.form
   have HSS:=Lib.hid hssl
   clear hssl
   go_upto_region 4 with (fail)
   go_wp2_with (at_builtin;refine append_rowM (base:=wr.heap.size) (size:=1) (xs:=[]) Tryz.underlying55 info_in rfl (by decide) rfl _ _ rfl rfl Row.nil rfl HSS.out (iC_one _) ?_ ?_ ?_ ?_;omega;omega;exact Nat.le_refl _)
   intro v6 w6 hr6 hb6 hg6 hw6
   obtain⟨la6,lc6,rfl,_⟩:=hr6.form
   try simp only[Nat.zero_add,List.nil_append] at hr6
   have HR6:=Lib.hid (And.intro hr6 hb6)
   clear hr6 hb6 hg6 hw6
   go_wp2_with (fail)
   go_ret
   exact⟨_,k,rfl,Nat.le_refl _,hkn,HZ.out,HR6.out.1,HR6.out.2⟩
end Go.Proofs.YtmdgeoalamancaaGreatDoor
namespace Go.Proofs.YtmdgeoalamancaaGreatDoor
open Go.RowKit
open Bt Can Mc Pk
theorem ifc {p q:Prop} [Decidable p] [Decidable q] (h:p↔q):(if p then 1 else 0:Nat)=if q then 1 else 0:=by
 by_cases hp:p
 ·rw[if_pos hp,if_pos (h.1 hp)]
 ·rw[if_neg hp,if_neg (fun hq=>hp (h.2 hq))]
theorem occ_set (l:List Nat) {s x:Nat} (hs:s<l.length) (hx:1≤x): ∀k,(occ (l.set s x) k).length=(occ l k).length+if s<k∧l.getD s 0=0 then 1 else 0
 |0=>by rw[if_neg (by omega)];rfl
 |k+1=>by
  have ih:=occ_set l hs hx k
  have hg:=getD_set l s x k hs
  show (if 1≤(l.set s x).getD k 0 then occ (l.set s x) k++[k] else occ (l.set s x) k).length=(if 1≤l.getD k 0 then occ l k++[k] else occ l k).length+_
  rw[hg]
  by_cases e:k=s
  ·subst e
   rw[if_neg (by omega),Nat.add_zero] at ih
   rw[if_pos rfl,if_pos hx,List.length_append,List.length_singleton,ih]
   by_cases h0:l.getD k 0=0
   ·rw[if_neg (by omega),if_pos ⟨by omega,h0⟩]
   ·rw[if_pos (by omega),if_neg (fun h=>h0 h.2),List.length_append,List.length_singleton,Nat.add_zero]
  ·rw[if_neg e]
   have e2:(s<k+1∧l.getD s 0=0)↔(s<k∧l.getD s 0=0):=⟨fun h=>⟨by omega,h.2⟩,fun h=>⟨by omega,h.2⟩⟩
   rw[ifc e2]
   by_cases h1:1≤l.getD k 0
   ·rw[if_pos h1,if_pos h1,List.length_append,List.length_append,ih,List.length_singleton];omega
   ·rw[if_neg h1,if_neg h1,ih]
theorem occ_rep (n:Nat): ∀k,occ (List.replicate n 0) k=[]
 |0=>rfl
 |k+1=>by
  show (if 1≤(List.replicate n 0).getD k 0 then _ else _)=_
  rw[rep_getD,if_neg (by omega)]
  exact occ_rep n k
theorem occ_all (l:List Nat): ∀k,(∀s,s<k→1≤l.getD s 0)→(occ l k).length=k
 |0,_=>rfl
 |k+1,h=>by
  show (if 1≤l.getD k 0 then occ l k++[k] else occ l k).length=k+1
  rw[if_pos (h k (by omega)),List.length_append,occ_all l k (fun s hs=>h s (by omega))]
  rfl
theorem occ_more (l:List Nat) (k:Nat): ∀d,(occ l k).length≤(occ l (k+d)).length
 |0=>Nat.le_refl _
 |d+1=>by
  have:=occ_more l k d
  show _≤(if 1≤l.getD (k+d) 0 then occ l (k+d)++[k+d] else occ l (k+d)).length
  split
  ·rw[List.length_append];omega
  ·exact this
structure Cs (rs:List Rn.R) (i:Nat) (c:List Nat) (u:Nat):Prop where
 len:c.length=19
 used:u=(occ c 19).length
 le: ∀s,c.getD s 0≤i
 hit: ∀r∈rs.take i,1≤c.getD r.1 0
theorem Cs.start (rs:List Rn.R):Cs rs 0 (List.replicate 19 0) 0:=⟨by simp,by rw[occ_rep];rfl,fun s=>by rw[rep_getD];exact Nat.le_refl _,fun r hr=>by rw[List.take_zero] at hr;cases hr⟩
theorem Cs.step {rs:List Rn.R} {i u:Nat} {c:List Nat} {r:Rn.R} (h:Cs rs i c u) (hr:rs[i]? =some r) (h18:r.1≤18):Cs rs (i+1) (c.set r.1 (c.getD r.1 0+1)) (u+if c.getD r.1 0=0 then 1 else 0):=by
 have hl:=h.len
 have hg:=fun s=>getD_set c r.1 (c.getD r.1 0+1) s (by omega)
 refine⟨by rw[List.length_set];exact hl,?_,fun s=> ?_,fun x hx=> ?_⟩
 ·rw[occ_set c (by omega) (by omega),←h.used,ifc (show (r.1<19∧c.getD r.1 0=0)↔c.getD r.1 0=0 from⟨fun q=>q.2,fun q=>⟨by omega,q⟩⟩)]
 ·rw[hg]
  have:=h.le s
  have:=h.le r.1
  split<;>omega
 ·rw[hg]
  split
  ·omega
  ·rename_i hne
   rw[List.take_add_one,hr,List.mem_append] at hx
   rcases hx with hx|hx
   ·exact h.hit x hx
   ·simp at hx
    subst hx
    exact absurd rfl hne
structure Cs2 (rs:List Rn.R) (k:Nat) (c:List Nat) (u:Nat):Prop where
 len:c.length=19
 used:u=(occ c 19).length
 le: ∀s,c.getD s 0≤1000
 hit: ∀r∈rs,1≤c.getD r.1 0
 low: ∀s,s<k→1≤c.getD s 0
 few:k≤2
theorem Cs2.le2 {rs:List Rn.R} {k u:Nat} {c:List Nat} (h:Cs2 rs k c u):k≤u:=by
 have h1:=occ_all c k h.low
 have h2:=occ_more c k (19-k)
 have:=h.few
 rw[show k+(19-k)=19 by omega] at h2
 have:=h.used
 omega
theorem Cs2.skip {rs:List Rn.R} {k u:Nat} {c:List Nat} (h:Cs2 rs k c u) (hu:u<2) (hk:1≤c.getD k 0):Cs2 rs (k+1) c u:=by
 have:=h.le2
 refine⟨h.len,h.used,h.le,h.hit,fun s hs=> ?_,by omega⟩
 by_cases e:s=k
 ·subst e;exact hk
 ·exact h.low s (by omega)
theorem Cs2.add {rs:List Rn.R} {k u:Nat} {c:List Nat} (h:Cs2 rs k c u) (hu:u<2) (hk:c.getD k 0=0):Cs2 rs (k+1) (c.set k 1) (u+1):=by
 have h2:=h.le2
 have hl:=h.len
 have hg:=fun s=>getD_set c k 1 s (by omega)
 refine⟨by rw[List.length_set];exact hl,?_,fun s=> ?_,fun r hr=> ?_,fun s hs=> ?_,by omega⟩
 ·rw[occ_set c (by omega) (Nat.le_refl 1),←h.used,if_pos ⟨by omega,hk⟩]
 ·rw[hg]
  have:=h.le s
  split<;>omega
 ·rw[hg]
  have:=h.hit r hr
  split<;>omega
 ·rw[hg]
  split
  ·omega
  ·exact h.low s (by omega)
def shl (ls:List Nat) (i:Nat):List Nat:=(List.range 19).map fun j=>if j<i then ls.getD (odr.getD j 0) 0 else 0
theorem shl_len (ls:List Nat) (i:Nat):(shl ls i).length=19:=by unfold shl;simp
theorem shl_get (ls:List Nat) (i:Nat) {j:Nat} (h:j<19):(shl ls i)[j]? =some (if j<i then ls.getD (odr.getD j 0) 0 else 0):=by
 unfold shl
 rw[List.getElem?_map,List.getElem?_range h]
 rfl
theorem shl_zero (ls:List Nat):List.replicate 19 0=shl ls 0:=by
 refine List.ext_getElem? fun k=> ?_
 by_cases h:k<19
 ·rw[shl_get _ _ h,List.getElem?_replicate,if_pos h,if_neg (by omega)]
 ·rw[List.getElem?_eq_none (by simp;omega),List.getElem?_eq_none (by rw[shl_len];omega)]
theorem shl_step (ls:List Nat) {i:Nat} (hi:i<19):(shl ls i).set i (ls.getD (odr.getD i 0) 0)=shl ls (i+1):=by
 refine List.ext_getElem? fun k=> ?_
 by_cases h:k<19
 ·rw[shl_get _ _ h]
  by_cases e:i=k
  ·subst e
   rw[List.getElem?_set_self (by rw[shl_len];exact h),if_pos (by omega)]
  ·rw[List.getElem?_set_ne e,shl_get _ _ h]
   by_cases h2:k<i
   ·rw[if_pos h2,if_pos (by omega)]
   ·rw[if_neg h2,if_neg (by omega)]
 ·rw[List.getElem?_eq_none (by rw[List.length_set,shl_len];omega),List.getElem?_eq_none (by rw[shl_len];omega)]
structure Sht (rs:List Rn.R) (ls sh:List Nat) (k:Nat):Prop where
 len:ls.length=19
 le: ∀x∈ls,x≤7
 kr:krf ls 15=2^15
 hit: ∀r∈rs,1≤Can.len ls r.1
 k4:4≤k
 k19:k≤19
 sh:sh=(shl ls 19).take k
 zero: ∀s,k≤s→(shl ls 19).getD s 0=0
theorem sl_run {w:World} {B n cap:Nat} {a:Option Addr} {ts:List Rn.R} (h:Sl w B 2 (.slice a n cap) n (runC ts)) (hn:n=ts.length) {j:Nat} {t:Rn.R} (hj:ts[j]? =some t): ∃b off,a=some ⟨b,off,none⟩∧w.cell? ⟨b,off+j*2,none⟩=some (.int .i64 (t.1:Nat))∧w.cell? ⟨b,off+j*2+1,none⟩=some (.int .i64 (t.2:Nat)):=by
 have hlt:=(List.getElem?_eq_some_iff.1 hj).1
 obtain⟨b,off,cap',hv,_,_,hc⟩:=h.pos (by omega)
 injection hv with hv
 obtain⟨g1,g2⟩:=runC_get ts j t hj
 exact⟨b,off,hv,hc _ _ g1,by have:=hc _ _ g2;rwa [←Nat.add_assoc] at this⟩
theorem odr_l19: ∀i,i<19→odr.getD i 0<19:=by decide
def ShoP (rs:List Rn.R) (w:World) (e:Ending) (w':World):Prop:= ∃v' ls sh k,e= .returned v'∧Sht rs ls sh k∧Row w.heap.size 3 1 w' v' k (iC sh)∧Below w.heap.size w w'
set_option maxHeartbeats 8000000 in
theorem shortOf_any (rs:List Rn.R) (n B:Nat) (v:Value) (w:World) (h:Sl w B 2 v n (runC rs)) (hB:B≤w.heap.size) (hn:n=rs.length) (hl:n≤900) (hok: ∀r∈rs,r.1≤18) (hG:Gl w):Calls Tryz.prog 169 #[v] w (ShoP rs w):=by
 obtain⟨a,cap,rfl,hcap⟩:=h.form
 have HS:=Lib.hid (fun (W:World) (hW:Below w.heap.size w W)=>h.below (hW.mono hB))
 have HN:=Lib.hid hn
 have HO:=Lib.hid hok
 have HG:=Lib.hid hG
 have hmk:=hmkI 19 w (by omega)
 obtain⟨wa,hwa⟩: ∃z:World,z=w.alloc (.cells (iC (List.replicate 19 0)).toArray 3):=⟨_,rfl⟩
 have HR0:Hid (Row w.heap.size 3 1 wa (.slice (some ⟨w.heap.size,0,none⟩) 19 19) 19 (iC (List.replicate 19 0))):=Lib.hid (by
  rw[hwa]
  exact Row.lit w _ (Nat.le_refl _) (by omega) (by rw[iC_len];simp))
 have HB0:Hid (Below w.heap.size w wa):=Lib.hid (by rw[hwa];exact (Below.refl _ _).alloc (Nat.le_refl _) _)
 clear h hn hok hG
 obtain⟨ZZ,hzz⟩: ∃z,(iC (List.replicate 19 0))=z:=⟨_,rfl⟩
 rw[hzz] at hmk hwa
 clear hzz
 have hmk2:(Instr.makeSlice 55 (.int .i64 19) (.int .i64 19)).run Tryz.prog w= .ok (.slice (some ⟨w.heap.size,0,none⟩) 19 19) (w.alloc (.cells ZZ.toArray 3)):=hmk
 go_enter Tryz.func169,Tryz.ntmps169
 go_upto_region 2 with (fail)
 rw[←hwa]
 clear hwa hmk hmk2
 obtain⟨cb,hcb⟩: ∃z,w.heap.size=z:=⟨_,rfl⟩
 have HCB:=Lib.hid hcb
 rw[hcb] at HR0 ⊢
 clear hcb
 go_upto_region 4 with (fail)
 go_loopw [15,4] (fun u us wr=> ∃(i ud:Nat) (c:List Nat),u= .int .i64 (i:Nat)∧us= .int .i64 (ud:Nat)∧i≤n∧Hid (Cs rs i c ud)∧Hid (Row cb 3 1 wr (.slice (some ⟨cb,0,none⟩) 19 19) 19 (iC c))∧Hid (Below w.heap.size w wr)) (fun u _ _=>n-(intOf u).toNat)
 case atStart=>exact⟨0,0,List.replicate 19 0,rfl,rfl,Nat.zero_le _,Lib.hid (Cs.start rs),HR0,HB0⟩
 case round=>
  clear HR0 HB0
  obtain⟨i,ud,c,rfl,rfl,hi,HC,HR,HB⟩:=hrel
  obtain⟨wo,rfl⟩: ∃z:World,z=wr:=⟨_,rfl⟩
  by_cases hlt:i<n
  ·have d1:decide (i<n)=true:=decide_eq_true hlt
   have d2:decide ((i:Int)<(n:Int))=true:=decide_eq_true (by omega)
   have q1:IntKind.i64.wrap ((i:Int)+1)=((i+1:Nat):Int):=by rw[IntWalk.i64_in _ (by omega)];omega
   have hji:(i:Int)<(n:Int):=by omega
   obtain⟨t,ht⟩: ∃t,rs[i]? =some t:=⟨_,List.getElem?_eq_getElem (by have:=HN.out;omega)⟩
   have hok:=HO.out t (List.mem_of_getElem? ht)
   obtain⟨b,off,rfl,k0,k1⟩:=sl_run (HS.out wo HB.out) HN.out ht
   have HC2:=Lib.hid (HC.out.step ht hok)
   obtain⟨s,e⟩:=t
   dsimp only at k0 k1 hok HC2
   clear ht
   obtain⟨w2,hw2⟩: ∃q:World,q=wo.alloc (.cells #[.int .i64 (s:Nat),.int .i64 (e:Nat)] 182):=⟨_,rfl⟩
   have hb2:Below wo.heap.size wo w2:=by rw[hw2];exact (Below.refl _ _).alloc (Nat.le_refl _) _
   have HOT:Hid (Own w2 wo.heap.size [.int .i64 (s:Nat),.int .i64 (e:Nat)]):=Lib.hid (by rw[hw2];exact Own.new_at wo _ _ _ rfl)
   have HB2:=Lib.hid (HB.out.trans (hb2.mono HB.out.size))
   have HR2:=Lib.hid (HR.out.below hb2)
   have hcbt:cb<wo.heap.size:=(HR.out.lt cb rfl).2
   go_upto_region 6 with (fail)
   rw[←hw2]
   clear hw2 k0 k1 hb2
   obtain⟨tk,htk⟩: ∃z,wo.heap.size=z:=⟨_,rfl⟩
   rw[htk] at HOT hcbt ⊢
   clear htk
   have k0:=HOT.out.1 0 _ rfl
   have hcl:=HC.out.len
   have hcle:=HC.out.le s
   have hus:=HC.out.used
   have hul:=occ_len c 19
   rw[←hus] at hul
   have hcg:=getD_some (l:=c) (s:=s) (by omega)
   obtain⟨x,hx⟩: ∃z,c.getD s 0=z:=⟨_,rfl⟩
   rw[hx] at hcle hcg HC2
   have kc:=sl_same HR2.out.sl (by omega) s _ (iC_get hcg)
   rw[Nat.zero_add] at kc
   have fc:=HR2.out.frozenAt s
   have q2:IntKind.i64.wrap ((x:Int)+1)=((x+1:Nat):Int):=by rw[IntWalk.i64_in _ (by omega)];omega
   have q3:IntKind.i64.wrap ((ud:Int)+1)=((ud+1:Nat):Int):=by rw[IntWalk.i64_in _ (by omega)];omega
   have hsi:(s:Int)<19:=by omega
   have hsn:s<19:=by omega
   obtain⟨X1,hX1⟩: ∃z,x+1=z:=⟨_,rfl⟩
   rw[hX1] at q2 HC2
   have HX1:=Lib.hid hX1
   have HR9:Hid (Row cb 3 1 (w2.setCell ⟨cb,s,none⟩ (.int .i64 (X1:Nat))) (.slice (some ⟨cb,0,none⟩) 19 19) 19 (iC (c.set s X1))):=Lib.hid (by
    rw[←iC_set]
    exact (World.ownsRow.stored HR2.out s (.int .i64 (X1:Nat))).1)
   have HB9:Hid (Below w.heap.size w (w2.setCell ⟨cb,s,none⟩ (.int .i64 (X1:Nat)))):=Lib.hid (HB2.out.setCell (p:=⟨cb,s,none⟩) (by show w.heap.size≤cb;rw[HCB.out];exact Nat.le_refl _) _)
   clear hx hcl hcle hus hcg hX1 hok
   by_cases h0:x=0
   ·as_aux_lemma=>
    subst h0
    obtain rfl:X1=1:=by have:=HX1.out;omega
    rw[if_pos rfl] at HC2
    go_wp2_with (fail)
    go_roundw
    case rel=>exact⟨i+1,ud+1,c.set s 1,rfl,rfl,hlt,HC2,HR9,HB9⟩
    case measure=>simp[intOf]<;>omega
   ·as_aux_lemma=>
    have e0:((x:Int)==0)=false:=by rw[beq_eq_false_iff_ne];omega
    have e0':(x==0)=false:=by rw[beq_eq_false_iff_ne];omega
    have e0'':decide ((x:Int)=0)=false:=decide_eq_false (by omega)
    rw[if_neg h0,Nat.add_zero] at HC2
    go_wp2_with (fail)
    go_roundw
    case rel=>exact⟨i+1,ud,c.set s X1,rfl,rfl,hlt,HC2,HR9,HB9⟩
    case measure=>simp[intOf]<;>omega
  ·have d1:decide (i<n)=false:=decide_eq_false hlt
   have d2:decide ((i:Int)<(n:Int))=false:=decide_eq_false (by omega)
   obtain rfl:i=n:=by omega
   have HC2:Hid (Cs2 rs 0 c ud):=Lib.hid ⟨HC.out.len,HC.out.used,fun s=>by have:=HC.out.le s;omega,fun r hr=>HC.out.hit r (by rw[HN.out,List.take_length];exact hr),fun s hs=>by omega,by omega⟩
   clear HC
   go_upto_region 11 with (fail)
   go_loopw [7,4] (fun u us wr=> ∃(k ud:Nat) (c:List Nat),u= .int .i64 (k:Nat)∧us= .int .i64 (ud:Nat)∧k≤2∧Hid (Cs2 rs k c ud)∧Hid (Row cb 3 1 wr (.slice (some ⟨cb,0,none⟩) 19 19) 19 (iC c))∧Hid (Below w.heap.size w wr)) (fun u _ _=>3-(intOf u).toNat)
   case atStart=>exact⟨0,ud,c,rfl,rfl,by omega,HC2,HR,HB⟩
   case round=>
    clear HC2 HR HB
    obtain⟨k,ud2,c2,rfl,rfl,hk2,HC,HR,HB⟩:=hrel
    obtain⟨w3,rfl⟩: ∃z:World,z=wr:=⟨_,rfl⟩
    by_cases hu:ud2<2
    ·have e1:decide (ud2<2)=true:=decide_eq_true hu
     have e1':decide ((ud2:Int)<2)=true:=decide_eq_true (by omega)
     have hkn:k<19:=by omega
     have hki:(k:Int)<19:=by omega
     have q2:IntKind.i64.wrap ((k:Int)+1)=((k+1:Nat):Int):=by rw[IntWalk.i64_in _ (by omega)];omega
     have q3:IntKind.i64.wrap ((ud2:Int)+1)=((ud2+1:Nat):Int):=by rw[IntWalk.i64_in _ (by omega)];omega
     have hcg:=getD_some (l:=c2) (s:=k) (by rw[HC.out.len];exact hkn)
     have hku:=HC.out.le2
     obtain⟨x,hx⟩: ∃z,c2.getD k 0=z:=⟨_,rfl⟩
     rw[hx] at hcg
     have kc:=sl_same HR.out.sl (by omega) k _ (iC_get hcg)
     rw[Nat.zero_add] at kc
     have fc:=HR.out.frozenAt k
     by_cases h0:x=0
     ·as_aux_lemma=>
      subst h0
      have HC3:=Lib.hid (HC.out.add hu hx)
      have HR9:Hid (Row cb 3 1 (w3.setCell ⟨cb,k,none⟩ (.int .i64 1)) (.slice (some ⟨cb,0,none⟩) 19 19) 19 (iC (c2.set k 1))):=Lib.hid (by
       rw[←iC_set]
       exact (World.ownsRow.stored HR.out k (.int .i64 1)).1)
      have HB9:Hid (Below w.heap.size w (w3.setCell ⟨cb,k,none⟩ (.int .i64 1))):=Lib.hid (HB.out.setCell (p:=⟨cb,k,none⟩) (by show w.heap.size≤cb;rw[HCB.out];exact Nat.le_refl _) _)
      clear hx hcg
      go_wp2_with (fail)
      go_roundw
      case rel=>exact⟨k+1,ud2+1,c2.set k 1,rfl,rfl,by omega,HC3,HR9,HB9⟩
      case measure=>simp[intOf]<;>omega
     ·as_aux_lemma=>
      have e0:((x:Int)==0)=false:=by rw[beq_eq_false_iff_ne];omega
      have e0':(x==0)=false:=by rw[beq_eq_false_iff_ne];omega
      have e0'':decide ((x:Int)=0)=false:=decide_eq_false (by omega)
      have HC3:=Lib.hid (HC.out.skip hu (by rw[hx];omega))
      clear hx hcg
      go_wp2_with (fail)
      go_roundw
      case rel=>exact⟨k+1,ud2,c2,rfl,rfl,by omega,HC3,HR,HB⟩
      case measure=>simp[intOf]<;>omega
    ·have e1:decide (ud2<2)=false:=decide_eq_false hu
     have e1':decide ((ud2:Int)<2)=false:=decide_eq_false (by omega)
     have hcx: ∀x∈c2,x≤1099511627776:=fun x hx=>by
      obtain⟨s,rfl⟩:=mem_getD hx
      have:=HC.out.le s
      omega
     have HMK:=Lib.hid (make_any c2 19 6 7 w3.heap.size (.slice (some ⟨cb,0,none⟩) 19 19) w3 HR.out.sl (Nat.le_refl _) HC.out.len.symm (by omega) (by omega) hcx rfl (by omega) (by have:=occ_len c2 19;omega))
     clear hcx
     go_upto_region 16 with (fail)
     go_wp2_with (fail)
     refine HMK.out.mono ?_
     rintro e w4 ⟨v4,ls,rfl,hr4,hb4,hmd⟩
     have HLL:Hid (ls.length=19∧(∀x∈ls,x≤7)∧krf ls 15=2^15∧ ∀r∈rs,1≤Can.len ls r.1):=Lib.hid ⟨by rw[hmd.len,HC.out.len],hmd.le,hmd.many (by rw[HC.out.len,←HC.out.used];omega),fun r hr=>hmd.pos r.1 (HC.out.hit r hr)⟩
     obtain⟨ma,mc,rfl,_⟩:=hr4.form
     have HM4:=Lib.hid hr4.sl
     have HB4:=Lib.hid (HB.out.trans (hb4.mono HB.out.size))
     clear hr4 hb4 hmd HMK HC HR HB
     have hmk:=hmkI 19 w4 (by omega)
     obtain⟨w5,hw5⟩: ∃z:World,z=w4.alloc (.cells (iC (List.replicate 19 0)).toArray 3):=⟨_,rfl⟩
     have HR5:Hid (Row w4.heap.size 3 1 w5 (.slice (some ⟨w4.heap.size,0,none⟩) 19 19) 19 (iC (shl ls 0))):=Lib.hid (by
      rw[hw5,←shl_zero]
      exact Row.lit w4 _ (Nat.le_refl _) (by omega) (by rw[iC_len];simp))
     have HB5:Hid (Below w4.heap.size w4 w5):=Lib.hid (by rw[hw5];exact (Below.refl _ _).alloc (Nat.le_refl _) _)
     obtain⟨ZZ,hzz⟩: ∃z,(iC (List.replicate 19 0))=z:=⟨_,rfl⟩
     rw[hzz] at hmk hw5
     clear hzz
     have hmk2:(Instr.makeSlice 55 (.int .i64 19) (.int .i64 19)).run Tryz.prog w4= .ok (.slice (some ⟨w4.heap.size,0,none⟩) 19 19) (w4.alloc (.cells ZZ.toArray 3)):=hmk
     go_upto_region 18 with (fail)
     rw[←hw5]
     clear hw5 hmk hmk2
     obtain⟨sb,hsb⟩: ∃z,w4.heap.size=z:=⟨_,rfl⟩
     have HSB:=Lib.hid hsb
     rw[hsb] at HR5 HB5 ⊢
     clear hsb
     go_upto_region 19 with (fail)
     go_loopw [57] (fun u wr=> ∃i:Nat,u= .int .i64 (i:Nat)∧i≤19∧Hid (Row sb 3 1 wr (.slice (some ⟨sb,0,none⟩) 19 19) 19 (iC (shl ls i)))∧Hid (Below sb w4 wr)) (fun u _=>19-(intOf u).toNat)
     case atStart=>exact⟨0,rfl,Nat.zero_le _,HR5,HB5⟩
     case round=>
      clear HR5 HB5
      obtain⟨j,rfl,hj,HR,HB⟩:=hrel
      obtain⟨w6,rfl⟩: ∃z:World,z=wr:=⟨_,rfl⟩
      have hbw:Below w.heap.size w w6:=HB4.out.trans (HB.out.mono (by rw[←HSB.out];exact HB4.out.size))
      by_cases hj9:j<19
      ·as_aux_lemma=>
       have f1:decide (j<19)=true:=decide_eq_true hj9
       have f1':decide ((j:Int)<19)=true:=decide_eq_true (by omega)
       have hji:(j:Int)<19:=by omega
       have q4:IntKind.i64.wrap ((j:Int)+1)=((j+1:Nat):Int):=by rw[IntWalk.i64_in _ (by omega)];omega
       have HOD:=Lib.hid (order_any j hj9 w6 (HG.out.fr (Fr.of_below (F:=[]) hbw) (fun _ h=>by cases h)))
       have hol:=odr_l19 j hj9
       have HST:=Lib.hid (shl_step ls hj9)
       have hsg:=shl_get ls j hj9
       rw[if_neg (Nat.lt_irrefl j)] at hsg
       have kp:=sl_same HR.out.sl (by omega) j _ (iC_get hsg)
       rw[Nat.zero_add] at kp
       have fp:=HR.out.frozenAt j
       obtain⟨mb,mo,rfl,hmc⟩:=sl_cells (HM4.out.below (by rw[HSB.out];exact HB.out)) (by omega)
       have hgl:=getD_some (l:=ls) (s:=odr.getD j 0) (by rw[HLL.out.1];exact hol)
       have km:=hmc _ _ (iC_get hgl)
       obtain⟨s,hs⟩: ∃z,odr.getD j 0=z:=⟨_,rfl⟩
       rw[hs] at HOD hol HST km
       obtain⟨x,hx⟩: ∃z,ls.getD s 0=z:=⟨_,rfl⟩
       rw[hx] at HST km
       have hsi:(s:Int)<19:=by omega
       have HR9:Hid (Row sb 3 1 (w6.setCell ⟨sb,j,none⟩ (.int .i64 (x:Nat))) (.slice (some ⟨sb,0,none⟩) 19 19) 19 (iC (shl ls (j+1)))):=Lib.hid (by
        rw[←HST.out,←iC_set]
        exact (World.ownsRow.stored HR.out j (.int .i64 (x:Nat))).1)
       have HB9:Hid (Below sb w4 (w6.setCell ⟨sb,j,none⟩ (.int .i64 (x:Nat)))):=Lib.hid (HB.out.setCell (p:=⟨sb,j,none⟩) (Nat.le_refl _) _)
       clear hs hx hgl hsg hmc hbw HST
       go_upto_region 21 with (fail)
       go_wp2_with (fail)
       refine HOD.out.mono ?_
       rintro e w7 ⟨rfl,hw7⟩
       subst hw7
       go_wp2_with (fail)
       go_roundw
       case rel=>exact⟨j+1,rfl,hj9,HR9,HB9⟩
       case measure=>simp[intOf]<;>omega
      ·have f1:decide (j<19)=false:=decide_eq_false hj9
       have f1':decide ((j:Int)<19)=false:=decide_eq_false (by omega)
       have hj19:j=19:=by omega
       rw[hj19] at HR
       clear hj19
       have HTR:=Lib.hid (trim_any (shl ls 19) 19 4 w6.heap.size (.slice (some ⟨sb,0,none⟩) 19 19) w6 HR.out.sl (Nat.le_refl _) (by rw[shl_len]) (by omega) (by omega) (by omega))
       have HBW:=Lib.hid hbw
       clear hbw
       go_upto_region 23 with (fail)
       go_wp2_with (fail)
       refine HTR.out.mono ?_
       rintro e w8 ⟨v8,kk,rfl,hk4,hk19,hz,hr8,hb8⟩
       obtain⟨ra,rc,rfl,_⟩:=hr8.form
       have HFI:Hid (ShoP rs w (.returned (.slice ra kk rc)) w8):=Lib.hid ⟨_,ls,(shl ls 19).take kk,kk,rfl,⟨HLL.out.1,HLL.out.2.1,HLL.out.2.2.1,HLL.out.2.2.2,hk4,hk19,rfl,hz⟩,hr8.mono HBW.out.size,HBW.out.trans (hb8.mono HBW.out.size)⟩
       clear hk4 hk19 hz hr8 hb8
       go_wp2_with (fail)
       go_ret
       exact HFI.out
end Go.Proofs.YtmdgeoalamancaaGreatDoor
namespace Go.Proofs.YtmdgeoalamancaaGreatDoor
open Go.RowKit
open Bt Can Mc Pk
theorem Row.up {w:World} {b B e size n:Nat} {v:Value} {xs:List Value} (h:Row b e size w v n xs) (hk: ∀k∈obk v,B≤k):Row B e size w v n xs:=by
 refine⟨h.1,?_⟩
 rcases h.2 with h2|⟨g,cap,cur,hv,hg,hr⟩
 ·exact .inl h2
 ·exact .inr ⟨g,cap,cur,hv,hk g (mem_obk.2 (by rw[hv];rfl)),hr⟩
structure Hd (ls ds:List Nat) (w w':World) (v0 v1 v2 v3:Value) (rs:List Rn.R) (kl kd k:Nat) (tb sh:List Nat):Prop where
 b:Below w.heap.size w w'
 l1:257≤kl
 l2:kl≤286
 lz: ∀s,kl≤s→ls.getD s 0=0
 d1:1≤kd
 d2:kd≤30
 dz: ∀s,kd≤s→ds.getD s 0=0
 r0:Row w.heap.size 3 1 w' v0 kl (iC (ls.take kl))
 r1:Row w.heap.size 3 1 w' v1 kd (iC (ds.take kd))
 pk:Pk2 (ls.take kl++ds.take kd) (kl+kd) rs
 rl:rs.length≤316
 r2:Row w.heap.size 182 2 w' v2 rs.length (runC rs)
 st:Sht rs tb sh k
 r3:Row w.heap.size 3 1 w' v3 k (iC sh)
theorem Hd.below {ls ds:List Nat} {w w' w2:World} {v0 v1 v2 v3:Value} {rs:List Rn.R} {kl kd k:Nat} {tb sh:List Nat} (h:Hd ls ds w w' v0 v1 v2 v3 rs kl kd k tb sh) (hb:Below w'.heap.size w' w2):Hd ls ds w w2 v0 v1 v2 v3 rs kl kd k tb sh:=
 ⟨h.b.trans (hb.mono h.b.size),h.l1,h.l2,h.lz,h.d1,h.d2,h.dz,h.r0.below hb,h.r1.below hb,h.pk,h.rl,h.r2.below hb,h.st,h.r3.below hb⟩
theorem Hd.from {ls ds:List Nat} {w0 w w':World} {v0 v1 v2 v3:Value} {rs:List Rn.R} {kl kd k:Nat} {tb sh:List Nat} (h:Hd ls ds w w' v0 v1 v2 v3 rs kl kd k tb sh) (hb:Below w0.heap.size w0 w):Hd ls ds w0 w' v0 v1 v2 v3 rs kl kd k tb sh:=
 ⟨hb.trans (h.b.mono hb.size),h.l1,h.l2,h.lz,h.d1,h.d2,h.dz,h.r0.mono hb.size,h.r1.mono hb.size,h.pk,h.rl,h.r2.mono hb.size,h.st,h.r3.mono hb.size⟩
def HdP (ls ds:List Nat) (w:World) (e:Ending) (w':World):Prop:= ∃v0 v1 v2 v3 rs kl kd k tb sh,e= .returned (.tuple #[.agg #[v0,v1,v2,v3],.int .i64 0])∧Hd ls ds w w' v0 v1 v2 v3 rs kl kd k tb sh
theorem pkd_syms {l:List Nat} {n:Nat} {rs:List Rn.R} (h:Pk2 l n rs): ∀r∈rs,r.1≤18:=fun r hr=>(h.pk.ok r hr).1
theorem mem_take_le {l:List Nat} {k M:Nat} (h: ∀x∈l,x≤M): ∀x∈l.take k,x≤M:=fun x hx=>h x (List.mem_of_mem_take hx)
set_option maxHeartbeats 16000000 in
theorem headOf_any (ls ds:List Nat) (vl vd:Value) (B:Nat) (w:World) (h:Sl w B 1 vl 286 (iC ls)) (h2:Sl w B 1 vd 30 (iC ds)) (hB:B≤w.heap.size) (hl:ls.length=286) (hd:ds.length=30) (hx: ∀x∈ls,x≤15) (hy: ∀x∈ds,x≤15) (hG:Gl w):Calls Tryz.prog 128 #[vl,vd] w (HdP ls ds w):=by
 obtain⟨la,lc,rfl,_⟩:=h.form
 obtain⟨da,dc,rfl,_⟩:=h2.form
 have HSL:=Lib.hid (fun (W:World) (hW:Below w.heap.size w W)=>h.below (hW.mono hB))
 have HSD:=Lib.hid (fun (W:World) (hW:Below w.heap.size w W)=>h2.below (hW.mono hB))
 have HT1:=Lib.hid (fun (W:World) (hW:Below w.heap.size w W)=>trim_any ls 286 257 B (.slice la 286 lc) W (HSL.out W hW) (Nat.le_trans hB hW.size) hl.symm (by omega) (by omega) (by omega))
 have HT2:=Lib.hid (fun (W:World) (hW:Below w.heap.size w W)=>trim_any ds 30 1 B (.slice da 30 dc) W (HSD.out W hW) (Nat.le_trans hB hW.size) hd.symm (by omega) (by omega) (by omega))
 have HL:=Lib.hid (And.intro hl hd)
 have HX:=Lib.hid (And.intro hx hy)
 have HG:=Lib.hid hG
 obtain⟨wa,hwa⟩: ∃z:World,z=w.alloc (.cells #[.slice none 0 0,.slice none 0 0,.slice none 0 0,.slice none 0 0] 233):=⟨_,rfl⟩
 have HOR:Hid (Own wa w.heap.size [.slice none 0 0,.slice none 0 0,.slice none 0 0,.slice none 0 0]):=Lib.hid (by rw[hwa];exact Own.new_at w _ _ _ rfl)
 have HB0:Hid (Below w.heap.size w wa):=Lib.hid (by rw[hwa];exact (Below.refl _ _).alloc (Nat.le_refl _) _)
 have hza:w.heap.size<wa.heap.size:=by rw[hwa];simp
 clear h h2 hl hd hx hy hG
 go_enter Tryz.func128,Tryz.ntmps128
 go_upto_region 1 with (fail)
 rw[←hwa]
 clear hwa
 obtain⟨rb,hrb⟩: ∃z,w.heap.size=z:=⟨_,rfl⟩
 have HRB:=Lib.hid hrb
 rw[hrb] at HOR hza ⊢
 clear hrb
 go_wp2_with (fail)
 refine (HT1.out wa HB0.out).mono ?_
 rintro e w2 ⟨v2,kl,rfl,hkl1,hkl2,hlz,hr2,hb2⟩
 obtain⟨ra,rc,rfl,_⟩:=hr2.form
 have HR2:=Lib.hid hr2
 have HB2:=Lib.hid (HB0.out.trans (hb2.mono HB0.out.size))
 have HB02:=Lib.hid hb2
 have HLZ:=Lib.hid hlz
 clear hr2 hb2 hlz HT1
 go_wp2_with (fail)
 refine (HT2.out w2 HB2.out).mono ?_
 rintro e w3 ⟨v3,kd,rfl,hkd1,hkd2,hdz,hr3,hb3⟩
 obtain⟨sa,sc,rfl,_⟩:=hr3.form
 obtain⟨w4,hw4⟩: ∃z:World,z=w3.alloc (.cells #[.slice ra kl rc,.slice sa kd sc,.slice none 0 0,.slice none 0 0] 233):=⟨_,rfl⟩
 have hb4:Below w3.heap.size w3 w4:=by rw[hw4];exact (Below.refl _ _).alloc (Nat.le_refl _) _
 have HOH:Hid (Own w4 w3.heap.size [.slice ra kl rc,.slice sa kd sc,.slice none 0 0,.slice none 0 0]):=Lib.hid (by rw[hw4];exact Own.new_at w3 _ _ _ rfl)
 have hz4:w3.heap.size<w4.heap.size:=by rw[hw4];simp
 have hb24:=hb3.trans (hb4.mono hb3.size)
 have HRL:=Lib.hid ((HR2.out.below hb24).mono HB0.out.size)
 have hk0: ∀k∈obk (.slice ra kl rc),rb<k∧k<w3.heap.size:=fun k hk=>⟨Nat.lt_of_lt_of_le hza (HR2.out.lt k (mem_obk.1 hk)).1,Nat.lt_of_lt_of_le (HR2.out.lt k (mem_obk.1 hk)).2 hb3.size⟩
 have hk1: ∀k∈obk (.slice sa kd sc),rb<k∧k<w3.heap.size:=fun k hk=>⟨Nat.lt_of_lt_of_le hza (Nat.le_trans HB02.out.size (hr3.lt k (mem_obk.1 hk)).1),(hr3.lt k (mem_obk.1 hk)).2⟩
 have HRD:=Lib.hid ((hr3.below hb4).mono HB2.out.size)
 have HB4:=Lib.hid (HB2.out.trans (hb24.mono HB2.out.size))
 have HDZ:=Lib.hid hdz
 have HOR4:=Lib.hid (HOR.out.below (HB02.out.trans (hb24.mono HB02.out.size)) hza)
 have hrh:rb<w3.heap.size:=Nat.lt_of_lt_of_le hza (Nat.le_trans HB02.out.size hb3.size)
 clear hb3 hb4 hb24 hr3 hdz HT2 HR2 HOR
 go_upto_region 4 with (fail)
 rw[←hw4]
 clear hw4
 obtain⟨hb,hhb⟩: ∃z,w3.heap.size=z:=⟨_,rfl⟩
 rw[hhb] at HOH hz4 hrh hk0 hk1 ⊢
 have HKK:=Lib.hid (And.intro hk0 hk1)
 have hhw:hb<w4.heap.size:=hz4
 clear hhb hk0 hk1
 go_wp2_with (at_builtin;refine append_rowM (base:=w4.heap.size) (size:=1) (xs:=[]) Tryz.underlying55 info_in rfl (by decide) rfl _ _ rfl rfl Row.nil rfl (HSL.out w4 HB4.out) (iC_one _) ?_ ?_ ?_ ?_;omega;omega;exact Nat.le_refl _)
 intro v5 w5 hr5 hb5 hg5 hw5
 obtain⟨la5,lc5,rfl,_⟩:=hr5.form
 have HR5:Hid (Row w4.heap.size 3 1 w5 (.slice la5 286 lc5) 286 (iC ls)):=Lib.hid hr5
 have HB5:=Lib.hid hb5
 clear hr5 hb5 hg5 hw5
 have HB05:=Lib.hid (HB4.out.trans (HB5.out.mono HB4.out.size))
 go_wp2_with (at_builtin;refine append_rowM (base:=w4.heap.size) (size:=1) (xs:=iC ls) Tryz.underlying55 info_in rfl (by decide) rfl _ _ rfl rfl HR5.out rfl (HSD.out w5 HB05.out) (iC_one _) ?_ ?_ ?_ ?_;omega;omega;exact HB5.out.size)
 intro v6 w6 hr6 hb6 hg6 hw6
 obtain⟨la6,lc6,rfl,_⟩:=hr6.form
 have HR6:Hid (Sl w6 w6.heap.size 1 (.slice la6 316 lc6) 316 (iC (ls++ds))):=Lib.hid (by rw[iC_app];exact hr6.sl)
 have HB46:Hid (Below w4.heap.size w4 w6):=Lib.hid (HB5.out.trans hb6)
 clear hr6 hb6 hg6 hw6 HR5 HB5 HB05
 have hll:(ls++ds).length=316:=by rw[List.length_append,HL.out.1,HL.out.2]
 have HXX:Hid (∀x∈ls++ds,x≤15):=Lib.hid (fun x hx=>(List.mem_append.1 hx).elim (HX.out.1 x) (HX.out.2 x))
 have HLL:=Lib.hid hll
 clear hll
 go_upto_region 6 with (fail)
 go_loopw [32] (fun u wr=> ∃i:Nat,u= .int .i64 (i:Nat)∧i≤316∧Hid (Below w6.heap.size w6 wr)) (fun u _=>316-(intOf u).toNat)
 case atStart=>exact⟨0,rfl,Nat.zero_le _,Lib.hid (Below.refl _ _)⟩
 case round=>
  obtain⟨i,rfl,hi,HB⟩:=hrel
  obtain⟨wo,rfl⟩: ∃z:World,z=wr:=⟨_,rfl⟩
  by_cases hlt:i<316
  ·as_aux_lemma=>
   have e1:decide (i<316)=true:=decide_eq_true hlt
   have e1':decide ((i:Int)<316)=true:=decide_eq_true (by omega)
   obtain⟨x,hx⟩: ∃x,(ls++ds)[i]? =some x:=⟨_,List.getElem?_eq_getElem (by rw[HLL.out];exact hlt)⟩
   have hx15:=HXX.out x (List.mem_of_getElem? hx)
   obtain⟨b,off,rfl,hc⟩:=sl_cells (HR6.out.below HB.out) (by omega)
   have ca:=hc _ _ (iC_get hx)
   have d1:decide ((x:Int)<0)=false:=decide_eq_false (by omega)
   have d2:decide ((15:Int)<(x:Int))=false:=decide_eq_false (by omega)
   have d2':decide (15<x)=false:=decide_eq_false (by omega)
   have hli:(i:Int)<316:=by omega
   have p3:IntKind.i64.wrap ((i:Int)+1)=((i+1:Nat):Int):=by rw[IntWalk.i64_in _ (by omega)];omega
   clear hx hx15 hc
   go_wp2_with (fail)
   go_roundw
   case rel=>exact⟨i+1,rfl,hlt,HB⟩
   case measure=>simp[intOf]<;>omega
  ·have e1:decide (i<316)=false:=decide_eq_false hlt
   have e1':decide ((i:Int)<316)=false:=decide_eq_false (by omega)
   have HB4o:=Lib.hid (HB46.out.trans (HB.out.mono HB46.out.size))
   have HRL2:=Lib.hid (HRL.out.below HB4o.out)
   have HRD2:=Lib.hid (HRD.out.below HB4o.out)
   have HOH2:=Lib.hid (HOH.out.below HB4o.out hhw)
   have HOR2:=Lib.hid (HOR4.out.below HB4o.out (by omega))
   have HB0o:=Lib.hid (HB4.out.trans (HB4o.out.mono HB4.out.size))
   have hhwo:hb<wo.heap.size:=Nat.lt_of_lt_of_le hhw HB4o.out.size
   clear HRL HRD HOH HOR4 HR6 HB46
   obtain⟨kl1,hkl⟩: ∃z,kl=z+1:=⟨kl-1,by omega⟩
   obtain⟨kd1,hkd⟩: ∃z,kd=z+1:=⟨kd-1,by omega⟩
   have HSL2:Hid (Sl wo wo.heap.size 1 (.slice ra kl rc) (kl1+1) (iC (ls.take kl))):=Lib.hid (by rw[←hkl];exact HRL2.out.sl)
   have HSD2:Hid (Sl wo wo.heap.size 1 (.slice sa kd sc) (kd1+1) (iC (ds.take kd))):=Lib.hid (by rw[←hkd];exact HRD2.out.sl)
   have HKL:=Lib.hid hkl
   have HKD:=Lib.hid hkd
   have hk1:kl1+1≤286:=by omega
   have hk2:kd1+1≤30:=by omega
   clear hkl hkd
   have m0:=HOH2.out.1 0 _ rfl
   have m1:=HOH2.out.1 1 _ rfl
   go_upto_region 11 with (fail)
   go_region_law (first
    |(refine step_append_row2 Tryz.underlying55 info_in rfl (by decide) rfl (.tmp 46) (.tmp 48) rfl rfl HR7.out rfl (HSD2.out.below HB7.out) (iC_one _) (by omega) (by omega) HB7.out.size ?_
      intro v8 w8 hr8 hb8 hg8 hw8
      obtain⟨a8,c8,hv8,_⟩:=hr8.form
      subst hv8
      have HR8:=Lib.hid hr8
      have HB8:=Lib.hid (HB7.out.trans hb8)
      clear hr8 hb8 hg8 hw8 m1)
    |(refine step_append_row2 Tryz.underlying55 info_in rfl (by decide) rfl (.const (.slice none 0 0)) (.tmp 45) rfl rfl (Row.nil (base:=wo.heap.size) (e:=3) (size:=1)) rfl (HSL2.out.below ((Below.refl _ _).drew)) (iC_one _) (by omega) (by omega) (Below.refl wo.heap.size wo).drew.size ?_
      intro v7 w7 hr7 hb7 hg7 hw7
      obtain⟨a7,c7,hv7,_⟩:=hr7.form
      subst hv7
      rw[Nat.zero_add,List.nil_append] at hr7
      have HR7:=Lib.hid hr7
      have HB7:Hid (Below wo.heap.size wo w7):=Lib.hid ((Below.refl wo.heap.size wo).drew.trans hb7)
      clear hr7 hb7 hg7 hw7 m0 m1
      have m1:=(HOH2.out.below HB7.out hhwo).1 1 _ rfl))
   all_goals
    obtain⟨N,hN⟩: ∃z,kl1+1+(kd1+1)=z:=⟨_,rfl⟩
    rw[hN] at HR8
    rw[hN]
    have hNe:N=kl+kd:=by have:=HKL.out;have:=HKD.out;omega
    have HNE:=Lib.hid hNe
    have hN1:1≤N:=by omega
    have hN2:N≤1000:=by omega
    have hlen:N=(ls.take kl++ds.take kd).length:=by rw[List.length_append,List.length_take,List.length_take,HL.out.1,HL.out.2];omega
    have hle: ∀x∈ls.take kl++ds.take kd,x≤15:=fun x hx=>(List.mem_append.1 hx).elim (mem_take_le HX.out.1 x) (mem_take_le HX.out.2 x)
    have HPK:=Lib.hid (pack_any (ls.take kl++ds.take kd) N w8.heap.size (.slice a8 N c8) w8 (by rw[iC_app];exact HR8.out.sl) (Nat.le_refl _) hlen hN1 hN2 hle)
    clear hN hNe hlen hle HR7 HB7 HSL2 HSD2
    go_upto_region 12 with (fail)
    go_wp2_with (fail)
    refine HPK.out.mono ?_
    rintro e w9 ⟨v9,rs,rfl,hr9,hpk,hrl,hb9,hk9⟩
    obtain⟨pa,pc,rfl,_⟩:=hr9.form
    have hb89:=HB8.out.trans (hb9.mono HB8.out.size)
    have HB9:Hid (Below wo.heap.size wo w9):=Lib.hid hb89
    have HOH9:=Lib.hid (HOH2.out.below hb89 hhwo)
    have hh8:hb<w8.heap.size:=Nat.lt_of_lt_of_le hhwo HB8.out.size
    have HR9:=Lib.hid (hr9.up (B:=hb+1) (fun k hk=>by have:=hk9 k hk;omega))
    have hhw9:hb<w9.heap.size:=Nat.lt_of_lt_of_le hhwo hb89.size
    have HPD:=Lib.hid (And.intro hpk hrl)
    obtain⟨nr,hnr⟩: ∃z,rs.length=z:=⟨_,rfl⟩
    rw[hnr] at HR9 HPD
    rw[hnr]
    have HNR:=Lib.hid hnr
    clear hr9 hpk hrl hb9 hk9 hb89 HPK hnr
    have m2:=HOH9.out.1 2 _ rfl
    have f2:=HOH9.out.2 2
    go_upto_region 16 with (fail)
    have HOH10:=Lib.hid (HOH9.out.set 2 (.slice pa nr pc) (by simp))
    have HR10:=Lib.hid (HR9.out.other (c:=hb) (by omega) 2 (.slice pa nr pc))
    have HF10:=Lib.hid ((Fr.of_below (F:=[hb]) HB9.out).setCell (p:=⟨hb,2,none⟩) (.inl (by simp)) (.slice pa nr pc))
    have hhw10:hb<(w9.setCell ⟨hb,2,none⟩ (.slice pa nr pc)).heap.size:=by simpa using hhw9
    clear m2 f2 HOH9 HR9
    generalize w9.setCell ⟨hb,2,none⟩ (.slice pa nr pc)=w10 at*
    have hG10:Gl w10:=HG.out.fr (Fr.of_below (F:=[]) (HB0o.out.trans (HF10.out.below HB0o.out.size (fun k hk=>by
     have:=HRB.out
     simp at hk
     omega)))) (fun _ h=>by cases h)
    have HSH:=Lib.hid (shortOf_any rs nr w10.heap.size (.slice pa nr pc) w10 HR10.out.sl (Nat.le_refl _) HNR.out.symm (by have:=HPD.out.2;have:=HNE.out;omega) (pkd_syms HPD.out.1) hG10)
    clear hG10
    go_wp2_with (fail)
    refine HSH.out.mono ?_
    rintro e w11 ⟨v11,tb,sh,k,rfl,hst,hr11,hb11⟩
    obtain⟨qa,qc,rfl,_⟩:=hr11.form
    have HOH11:=Lib.hid (HOH10.out.below hb11 hhw10)
    have HR11:=Lib.hid (HR10.out.below hb11)
    have HQ11:=Lib.hid (hr11.mono (base':=hb+1) (by omega))
    have HF11:=Lib.hid (HF10.out.trans (Fr.of_below (F:=[]) hb11) (fun x hx _=>by cases hx))
    have HST:=Lib.hid hst
    have hhw11:hb<w11.heap.size:=Nat.lt_of_lt_of_le hhw10 hb11.size
    clear hst hr11 hb11 HSH HOH10 HR10 HF10
    have m3:=HOH11.out.1 3 _ rfl
    have f3:=HOH11.out.2 3
    go_upto_region 17 with (fail)
    have HOH12:=Lib.hid (HOH11.out.set 3 (.slice qa k qc) (by simp))
    have HR12:=Lib.hid (HR11.out.other (c:=hb) (by omega) 3 (.slice qa k qc))
    have HQ12:=Lib.hid (HQ11.out.other (c:=hb) (by omega) 3 (.slice qa k qc))
    have HF12:=Lib.hid (HF11.out.setCell (p:=⟨hb,3,none⟩) (.inl (by simp)) (.slice qa k qc))
    clear m3 f3 HOH11 HR11 HQ11 HF11
    generalize w11.setCell ⟨hb,3,none⟩ (.slice qa k qc)=w12 at*
    have m0:=HOH12.out.1 0 _ rfl
    have m1:=HOH12.out.1 1 _ rfl
    have m2:=HOH12.out.1 2 _ rfl
    have m3:=HOH12.out.1 3 _ rfl
    have HOR12:=Lib.hid (HOR2.out.fr HF12.out (by omega) (by simp;omega))
    have c0:=HOR12.out.1 0 _ rfl
    have c1:=HOR12.out.1 1 _ rfl
    have c2:=HOR12.out.1 2 _ rfl
    have c3:=HOR12.out.1 3 _ rfl
    have g0:=HOR12.out.2 0
    have g1:=HOR12.out.2 1
    have g2:=HOR12.out.2 2
    have g3:=HOR12.out.2 3
    have HFF:Hid (Fr [rb] w12 ((((w12.setCell ⟨rb,0,none⟩ (.slice ra kl rc)).setCell ⟨rb,1,none⟩ (.slice sa kd sc)).setCell ⟨rb,2,none⟩ (.slice pa nr pc)).setCell ⟨rb,3,none⟩ (.slice qa k qc))):=Lib.hid (((((Fr.refl [rb] w12).setCell (p:=⟨rb,0,none⟩) (.inl (by simp)) _).setCell (p:=⟨rb,1,none⟩) (.inl (by simp)) _).setCell (p:=⟨rb,2,none⟩) (.inl (by simp)) _).setCell (p:=⟨rb,3,none⟩) (.inl (by simp)) _)
    have HOF:Hid (Own ((((w12.setCell ⟨rb,0,none⟩ (.slice ra kl rc)).setCell ⟨rb,1,none⟩ (.slice sa kd sc)).setCell ⟨rb,2,none⟩ (.slice pa nr pc)).setCell ⟨rb,3,none⟩ (.slice qa k qc)) rb [.slice ra kl rc,.slice sa kd sc,.slice pa nr pc,.slice qa k qc]):=Lib.hid ((((HOR12.out.set 0 (.slice ra kl rc) (by simp)).set 1 (.slice sa kd sc) (by simp)).set 2 (.slice pa nr pc) (by simp)).set 3 (.slice qa k qc) (by simp))
    go_wp2_with (fail)
    clear c0 c1 c2 c3 g0 g1 g2 g3 m0 m1 m2 m3
    generalize ((((w12.setCell ⟨rb,0,none⟩ (.slice ra kl rc)).setCell ⟨rb,1,none⟩ (.slice sa kd sc)).setCell ⟨rb,2,none⟩ (.slice pa nr pc)).setCell ⟨rb,3,none⟩ (.slice qa k qc))=wF at*
    have c0:=HOF.out.1 0 _ rfl
    have c1:=HOF.out.1 1 _ rfl
    have c2:=HOF.out.1 2 _ rfl
    have c3:=HOF.out.1 3 _ rfl
    refine bodyPost_ret (v:= .tuple #[.agg #[.slice ra kl rc,.slice sa kd sc,.slice pa nr pc,.slice qa k qc],.int .i64 0]) (by simp[results,Tryz.results128,go_sem,c0,c1,c2,c3]) rfl ?_
    have hr:=HRB.out
    have nh: ∀k,(rb<k∧k<hb)→k ∉ [hb]:=fun k hk hm=>by rw[List.mem_singleton.1 hm] at hk;omega
    have nr2: ∀k,rb<k→k ∉ [rb]:=fun k hk hm=>by rw[List.mem_singleton.1 hm] at hk;omega
    have hb0:Below w.heap.size w w12:=HB0o.out.trans (HF12.out.below HB0o.out.size (fun k hk=>by rw[List.mem_singleton.1 hk];omega))
    refine⟨_,_,_,_,rs,kl,kd,k,tb,sh,rfl,⟨hb0.trans (HFF.out.below hb0.size (fun k hk=>by rw[List.mem_singleton.1 hk];omega)),hkl1,hkl2,HLZ.out,hkd1,hkd2,HDZ.out,(HRL2.out.fr HF12.out (fun k hk=>nh k (HKK.out.1 k hk))).fr HFF.out (fun k hk=>nr2 k (HKK.out.1 k hk).1),(HRD2.out.fr HF12.out (fun k hk=>nh k (HKK.out.2 k hk))).fr HFF.out (fun k hk=>nr2 k (HKK.out.2 k hk).1),by have:=HPD.out.1;rw[HNE.out] at this;exact this,by have h1:=HPD.out.2;have h2:=HNE.out;have h3:=HNR.out;omega,?_,HST.out,?_⟩⟩
    ·rw[HNR.out]
     exact (HR12.out.fr HFF.out (fun k hk=>nr2 k (by have:=(HR12.out.lt k (mem_obk.1 hk)).1;omega))).mono (by omega)
    ·exact (HQ12.out.fr HFF.out (fun k hk=>nr2 k (by have:=(HQ12.out.lt k (mem_obk.1 hk)).1;omega))).mono (by omega)
end Go.Proofs.YtmdgeoalamancaaGreatDoor
