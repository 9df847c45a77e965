/- Lengths of codes: counted, occurring, Check. Lengths of codes: merge. A table of codes is made. crc.Digest. -/
import Derived.Test.YtmdgeoalamancaaGreatDoorZAH
set_option maxRecDepth 100000
set_option linter.unusedVariables false
set_option linter.unusedSimpArgs false
namespace Go.Proofs.YtmdgeoalamancaaGreatDoor
open Go.RowKit
open Bt Can Mc
theorem Sl.kept {w:World} {B n:Nat} {v:Value} {l:List Nat} (h:Sl w B 1 v n (iC l)) (hB:B≤w.heap.size) (h1:1≤n): ∃bb off cap,v= .slice (some ⟨bb,off,none⟩) n cap∧n≤cap∧bb<w.heap.size∧Hid (∀W,Below w.heap.size w W→ ∀j x,l[j]? =some x→W.cell? ⟨bb,off+j,none⟩=some (.int .i64 (x:Nat))):=by
 obtain⟨bb,off,cap,rfl,hcap,hbb,hcell⟩:=h.pos h1
 exact⟨bb,off,cap,rfl,hcap,by omega,Lib.hid (fun W hW j x hj=>(hW.cell (p:=⟨bb,off+j,none⟩) (show bb<w.heap.size by omega)).trans (hcell j _ (iC_get hj)))⟩
set_option maxHeartbeats 4000000 in
theorem counted_any (l:List Nat) (n B:Nat) (v:Value) (w:World) (h:Sl w B 1 v n (iC l)) (hB:B≤w.heap.size) (hn:n=l.length) (h1:1≤n) (hl:n≤1000) (hx: ∀x∈l,x≤1099511627776):Calls Tryz.prog 208 #[v] w fun e w'=>e= .returned (.bool true)∧Below w.heap.size w w':=by
 obtain⟨bb,off,cap,rfl,hcap,hbb,HK⟩:=h.kept hB h1
 have HN:=Lib.hid hn
 have HX:=Lib.hid hx
 have d0:decide (1024<n)=false:=decide_eq_false (by omega)
 have d0':decide ((1024:Int)<(n:Int))=false:=decide_eq_false (by omega)
 clear h hn hx
 go_enter Tryz.func208,Tryz.ntmps208
 go_upto_region 4 with (fail)
 go_loopw [10] (fun u wr=> ∃i:Nat,u= .int .i64 i∧i≤n∧Hid (Below w.heap.size w wr)) (fun u _=>n-(intOf u).toNat)
 case atStart=>exact⟨0,rfl,Nat.zero_le _,Lib.hid (Below.refl _ _)⟩
 case round=>
  obtain⟨i,rfl,hi,HB⟩:=hrel
  obtain⟨wo,rfl⟩: ∃z:World,z=wr:=⟨_,rfl⟩
  by_cases hlt:i<n
  ·as_aux_lemma=>
   have e1:decide (i<n)=true:=decide_eq_true hlt
   have e1':decide ((i:Int)<(n:Int))=true:=decide_eq_true (by omega)
   obtain⟨x,hx⟩: ∃x,l[i]? =some x:=⟨_,List.getElem?_eq_getElem (by have:=HN.out;omega)⟩
   have hx15:=HX.out x (List.mem_of_getElem? hx)
   have ca:=HK.out wo HB.out i x hx
   have d1:decide ((x:Int)<0)=false:=decide_eq_false (by omega)
   have d2:decide ((1099511627776:Int)<(x:Int))=false:=decide_eq_false (by omega)
   have d2':decide (1099511627776<x)=false:=decide_eq_false (by omega)
   have hli:(i:Int)<(n:Int):=by omega
   have p3:IntKind.i64.wrap ((i:Int)+1)=((i+1:Nat):Int):=by rw[IntWalk.i64_in _ (by omega)];omega
   clear hx hx15
   go_wp2_with (fail)
   go_roundw
   case rel=>exact⟨i+1,rfl,hlt,HB⟩
   case measure=>simp[intOf]<;>omega
  ·have e1:decide (i<n)=false:=decide_eq_false hlt
   have e1':decide ((i:Int)<(n:Int))=false:=decide_eq_false (by omega)
   go_wp2_with (fail)
   go_ret
   exact⟨rfl,HB.out⟩
def occ (l:List Nat):Nat→List Nat
 |0=>[]
 |k+1=>if 1≤l.getD k 0 then occ l k++[k] else occ l k
theorem occ_len (l:List Nat): ∀k,(occ l k).length≤k
 |0=>Nat.le_refl _
 |k+1=>by
  have:=occ_len l k
  unfold occ
  split
  ·rw[List.length_append,List.length_singleton];omega
  ·omega
set_option maxHeartbeats 4000000 in
theorem occurring_any (l:List Nat) (n B:Nat) (v:Value) (w:World) (h:Sl w B 1 v n (iC l)) (hB:B≤w.heap.size) (hn:n=l.length) (h1:1≤n) (hl:n≤1000):Calls Tryz.prog 199 #[v] w fun e w'=> ∃v',e= .returned v'∧Row w.heap.size 3 1 w' v' (occ l n).length (iC (occ l n))∧Below w.heap.size w w':=by
 obtain⟨bb,off,cap,rfl,hcap,hbb,HK⟩:=h.kept hB h1
 have HN:=Lib.hid hn
 clear h hn
 go_enter Tryz.func199,Tryz.ntmps199
 go_upto_region 3 with (fail)
 go_loopw [8,3] (fun u vl wr=> ∃i:Nat,u= .int .i64 i∧i≤n∧Hid (Row w.heap.size 3 1 wr vl (occ l i).length (iC (occ l i)))∧Hid (Below w.heap.size w wr)) (fun u _ _=>n-(intOf u).toNat)
 case atStart=>exact⟨0,rfl,Nat.zero_le _,Lib.hid Row.nil,Lib.hid (Below.refl _ _)⟩
 case round=>
  obtain⟨i,rfl,hi,HR,HB⟩:=hrel
  obtain⟨wo,rfl⟩: ∃z:World,z=wr:=⟨_,rfl⟩
  obtain⟨la,lc,rfl,_⟩:=HR.out.form
  by_cases hlt:i<n
  ·have e1:decide (i<n)=true:=decide_eq_true hlt
   have e1':decide ((i:Int)<(n:Int))=true:=decide_eq_true (by omega)
   obtain⟨x,hx⟩: ∃x,l[i]? =some x:=⟨_,List.getElem?_eq_getElem (by have:=HN.out;omega)⟩
   have hxd:l.getD i 0=x:=by rw[List.getD_eq_getElem?_getD,hx];rfl
   have ca:=HK.out wo HB.out i x hx
   have hli:(i:Int)<(n:Int):=by omega
   have p3:IntKind.i64.wrap ((i:Int)+1)=((i+1:Nat):Int):=by rw[IntWalk.i64_in _ (by omega)];omega
   by_cases h0:0<x
   ·as_aux_lemma=>
    have d1:decide ((0:Int)<(x:Int))=true:=decide_eq_true (by omega)
    have d1':decide (0<x)=true:=decide_eq_true h0
    have HOC:Hid (occ l (i+1)=occ l i++[i]):=Lib.hid (by show (if 1≤l.getD i 0 then _ else _)=_;rw[hxd,if_pos (show 1≤x from h0)])
    have hol:=occ_len l i
    have hz:=HB.out.size
    clear hx hxd
    have HR2:=Lib.hid (HR.out.below ((Below.refl wo.heap.size wo).alloc (Nat.le_refl _) (.cells #[.int .i64 (i:Nat)] 3)))
    have HB2:Hid (Below w.heap.size w (wo.alloc (.cells #[.int .i64 (i:Nat)] 3))):=Lib.hid (HB.out.alloc HB.out.size _)
    have HSL:Hid (Sl (wo.alloc (.cells #[.int .i64 (i:Nat)] 3)) (wo.heap.size+1) 1 (.slice (some ⟨wo.heap.size,0,none⟩) 1 1) 1 (iC [i])):=Lib.hid (Sl.new wo 1 1 [.int .i64 (i:Nat)] 3 rfl)
    have HZ:Hid (w.heap.size≤(wo.alloc (.cells #[.int .i64 (i:Nat)] 3)).heap.size):=Lib.hid (by simp;omega)
    clear hz
    go_wp2_with (at_builtin;refine append_rowM (base:=w.heap.size) (size:=1) (xs:=iC (occ l i)) Tryz.underlying55 info_in rfl (by decide) rfl _ _ rfl rfl HR2.out rfl HSL.out (iC_one _) ?_ ?_ ?_ ?_;omega;omega;exact HZ.out)
    intro v6 w6 hr6 hb6 hg6 hw6
    obtain⟨la6,lc6,rfl,_⟩:=hr6.form
    have HR6:Hid (Row w.heap.size 3 1 w6 (.slice la6 ((occ l i).length+1) lc6) (occ l (i+1)).length (iC (occ l (i+1)))):=Lib.hid (by rw[HOC.out,List.length_append,List.length_singleton,iC_app];exact hr6)
    have HB6:=Lib.hid (HB2.out.trans hb6)
    clear hr6 hb6 hg6 hw6
    go_wp2_with (fail)
    go_roundw
    case rel=>exact⟨i+1,rfl,hlt,HR6,HB6⟩
    case measure=>simp[intOf]<;>omega
   ·as_aux_lemma=>
    have d1:decide ((0:Int)<(x:Int))=false:=decide_eq_false (by omega)
    have d1':decide (0<x)=false:=decide_eq_false h0
    have HOC:Hid (occ l (i+1)=occ l i):=Lib.hid (by show (if 1≤l.getD i 0 then _ else _)=_;rw[hxd,if_neg (show¬1≤x from h0)])
    clear hx hxd
    go_wp2_with (fail)
    go_roundw
    case rel=>exact⟨i+1,rfl,hlt,Lib.hid (by rw[HOC.out];exact HR.out),HB⟩
    case measure=>simp[intOf]<;>omega
  ·have e1:decide (i<n)=false:=decide_eq_false hlt
   have e1':decide ((i:Int)<(n:Int))=false:=decide_eq_false (by omega)
   obtain rfl:i=n:=by omega
   go_wp2_with (fail)
   go_ret
   exact⟨_,rfl,HR.out,HB.out⟩
set_option maxHeartbeats 4000000 in
theorem check_any (l:List Nat) (n B m:Nat) (v:Value) (w:World) (h:Sl w B 1 v n (iC l)) (hB:B≤w.heap.size) (hn:n=l.length) (h1:1≤n) (hl:n≤1000) (hx: ∀x∈l,x≤1099511627776) (hm:1≤m∧m≤15) (hf:(occ l n).length≤2^m):Calls Tryz.prog 198 #[v,.int .i64 (m:Nat)] w fun e w'=>e= .returned (.int .i64 0)∧Below w.heap.size w w':=by
 have HC:=Lib.hid (fun (W:World) (hW:Below w.heap.size w W)=>counted_any l n B v W (h.below (hW.mono hB)) (by have:=hW.size;omega) hn h1 hl hx)
 have HO:=Lib.hid (fun (W:World) (hW:Below w.heap.size w W)=>occurring_any l n B v W (h.below (hW.mono hB)) (by have:=hW.size;omega) hn h1 hl)
 obtain⟨q,hq⟩: ∃z,(occ l n).length=z:=⟨_,rfl⟩
 have hqn:q≤n:=by rw[←hq];exact occ_len l n
 rw[hq] at HO hf
 have d1:decide ((m:Int)<1)=false:=decide_eq_false (by omega)
 have d1':decide (m<1)=false:=decide_eq_false (by omega)
 have d1'':decide (m=0)=false:=decide_eq_false (by omega)
 have d2:decide ((15:Int)<(m:Int))=false:=decide_eq_false (by omega)
 have d2':decide (15<m)=false:=decide_eq_false (by omega)
 obtain⟨M,hM⟩: ∃z,2^m=z:=⟨_,rfl⟩
 have hml:m<64:=by omega
 have hM2:M≤32768:=by rw[←hM];exact Nat.le_trans (Nat.pow_le_pow_right (by omega) hm.2) (by decide)
 have s1:(2:Int)^m=(M:Int):=by rw[←hM];simp
 have q1:IntKind.i64.wrap (M:Int)=(M:Int):=IntWalk.i64_in _ (by omega)
 rw[hM] at hf
 have d3:decide ((M:Int)<(q:Int))=false:=decide_eq_false (by omega)
 have d3':decide (M<q)=false:=decide_eq_false (by omega)
 have hmi: ¬((m:Int)<0):=by omega
 clear h hn hx hM hq hm
 go_enter Tryz.func198,Tryz.ntmps198
 go_wp2_with (fail)
 refine (HC.out w (Below.refl _ _)).mono ?_
 rintro e w1 ⟨rfl,hb1⟩
 have HB1:=Lib.hid hb1
 clear hb1
 go_upto_region 3 with (fail)
 go_region_with ((go_at_call 199
                  refine (HO.out _ (HB1.out.drew)).mono ?_
                  rintro e w3 ⟨v3,rfl,hr,hb3⟩
                  obtain⟨la,lc,rfl,_⟩:=hr.form
                  have HB3:=Lib.hid (HB1.out.drew.trans (hb3.mono HB1.out.drew.size))
                  clear hr hb3))
 all_goals
  go_wp2_with (fail)
  go_ret
  exact⟨rfl,HB3.out⟩
end Go.Proofs.YtmdgeoalamancaaGreatDoor
namespace Go.Proofs.YtmdgeoalamancaaGreatDoor
open Go.RowKit
open Bt Can Mc
namespace Pk
theorem mg_pairs (p:Nat) (ps:List Nat):mg [] (p::ps)=(p,true)::mg [] ps:=by
 unfold mg
 rfl
theorem mg_leaf (l:Nat) (ls:List Nat):mg (l::ls) []=(l,false)::mg ls []:=by
 cases ls<;>(unfold mg;rfl)
theorem mg_yes {l p:Nat} (ls ps:List Nat) (h:p<l):mg (l::ls) (p::ps)=(p,true)::mg (l::ls) ps:=by
 conv=>lhs;unfold mg
 rw[if_pos h]
theorem mg_no {l p:Nat} (ls ps:List Nat) (h: ¬p<l):mg (l::ls) (p::ps)=(l,false)::mg ls (p::ps):=by
 conv=>lhs;unfold mg
 rw[if_neg h]
theorem drop_at {l:List Nat} {i x:Nat} (h:l[i]? =some x):l.drop i=x::l.drop (i+1):=by
 obtain⟨hi,hx⟩:=List.getElem?_eq_some_iff.1 h
 rw[List.drop_eq_getElem_cons hi,hx]
theorem drop_end {l:List Nat} {i:Nat} (h:l.length≤i):l.drop i=[]:=List.drop_eq_nil_of_le h
structure Mgd (L ps:List Nat) (i j:Nat) (A:List (Nat × Bool)):Prop where
 eq:mg L ps=A++mg (L.drop i) (ps.drop j)
 len:A.length=i+j
theorem Mgd.start (L ps:List Nat):Mgd L ps 0 0 []:=⟨by simp,rfl⟩
theorem Mgd.done {L ps:List Nat} {A:List (Nat × Bool)} (h:Mgd L ps L.length ps.length A):mg L ps=A:=by
 have:=h.eq
 rw[List.drop_length,List.drop_length] at this
 rw[this]
 have:mg [] []=[]:=by unfold mg;rfl
 rw[this,List.append_nil]
theorem Mgd.pair {L ps:List Nat} {i j p:Nat} {A:List (Nat × Bool)} (h:Mgd L ps i j A) (hp:ps[j]? =some p) (hc:L.length≤i∨ ∃l,L[i]? =some l∧p<l):Mgd L ps i (j+1) (A++[(p,true)]):=by
 refine⟨?_,by rw[List.length_append,h.len,List.length_singleton];omega⟩
 rw[h.eq,drop_at hp,List.append_assoc]
 rcases hc with hc|⟨l,hl,hlt⟩
 ·rw[drop_end hc,mg_pairs];rfl
 ·rw[drop_at hl,mg_yes _ _ hlt];rfl
theorem Mgd.leaf {L ps:List Nat} {i j l:Nat} {A:List (Nat × Bool)} (h:Mgd L ps i j A) (hl:L[i]? =some l) (hc:ps.length≤j∨ ∃p,ps[j]? =some p∧ ¬p<l):Mgd L ps (i+1) j (A++[(l,false)]):=by
 refine⟨?_,by rw[List.length_append,h.len,List.length_singleton];omega⟩
 rw[h.eq,drop_at hl,List.append_assoc]
 rcases hc with hc|⟨p,hp,hlt⟩
 ·rw[drop_end hc,mg_leaf];rfl
 ·rw[drop_at hp,mg_no _ _ hlt];rfl
end Pk
open Pk
def oC (A:List (Nat × Bool)):List Value:=A.map fun x=> .bool x.2
theorem oC_app (A A2:List (Nat × Bool)):oC (A++A2)=oC A++oC A2:=by unfold oC;simp
theorem oC_get {A:List (Nat × Bool)} {j:Nat} {x:Nat × Bool} (h:A[j]? =some x):(oC A)[j]? =some (.bool x.2):=by unfold oC;rw[List.getElem?_map,h];rfl
theorem oC_one (A:List (Nat × Bool)): ∀u∈oC A,u.oneCell'=true:=by
 intro u hu
 unfold oC at hu
 obtain⟨x,_,rfl⟩:=List.mem_map.1 hu
 rfl
theorem info_bo:(Tryz.prog.info? 4).map (fun i=>(i.zero,i.size,i.bytes))=some (some (.bool false),1,1):=by kernel_rfl
theorem mkI0 (c:Nat) (w:World) (hc:c≤1000000): ∃w',(Instr.makeSlice 55 (.int .i64 0) (.int .i64 ((c:Nat):Int))).run Tryz.prog w= .ok (.slice (some ⟨w.heap.size,0,none⟩) 0 c) w'∧Row w.heap.size 3 1 w' (.slice (some ⟨w.heap.size,0,none⟩) 0 c) 0 []∧Below w.heap.size w w':=by
 obtain⟨i0,hi,hz0,hz1,hz2⟩:=info_parts info_in
 obtain⟨w',h1,h2,h3⟩:=run_makeSlice_owned (P:=Tryz.prog) w w.heap.size 55 3 i0 _ 1 Tryz.underlying55 hi hz0 hz1 .i64 .i64 c (by omega) (by rw[hz2];omega) (by unfold maxLen;omega) (Nat.le_refl _)
 exact⟨w',h1,h2,(Below.refl _ _).grown h3 (Nat.le_refl _) (fun k hk=>by cases hk)⟩
theorem mkB0 (c:Nat) (w:World) (hc:c≤1000000): ∃w',(Instr.makeSlice 317 (.int .i64 0) (.int .i64 ((c:Nat):Int))).run Tryz.prog w= .ok (.slice (some ⟨w.heap.size,0,none⟩) 0 c) w'∧Row w.heap.size 4 1 w' (.slice (some ⟨w.heap.size,0,none⟩) 0 c) 0 []∧Below w.heap.size w w':=by
 obtain⟨i0,hi,hz0,hz1,hz2⟩:=info_parts info_bo
 obtain⟨w',h1,h2,h3⟩:=run_makeSlice_owned (P:=Tryz.prog) w w.heap.size 317 4 i0 _ 1 Tryz.underlying317 hi hz0 hz1 .i64 .i64 c (by omega) (by rw[hz2];omega) (by unfold maxLen;omega) (Nat.le_refl _)
 exact⟨w',h1,h2,(Below.refl _ _).grown h3 (Nat.le_refl _) (fun k hk=>by cases hk)⟩
structure M2 (w0 w:World) (vw vp:Value) (A:List (Nat × Bool)):Prop where
 b:Below w0.heap.size w0 w
 rw_:Row w0.heap.size 3 1 w vw A.length (iC (wts A))
 rp:Row w0.heap.size 4 1 w vp A.length (oC A)
theorem M2.below {w0 w w':World} {vw vp:Value} {A:List (Nat × Bool)} (h:M2 w0 w vw vp A) (hb:Below w.heap.size w w'):M2 w0 w' vw vp A:=⟨h.b.trans (hb.mono h.b.size),h.rw_.below hb,h.rp.below hb⟩
def MrgP (L Bl:List Nat) (w:World) (e:Ending) (w':World):Prop:= ∃vw vp,e= .returned (.tuple #[vw,vp])∧M2 w w' vw vp (mg L (prs Bl))
structure Mid2 (w0 w:World) (vw vp:Value) (A:List (Nat × Bool)) (x:Nat × Bool):Prop where
 b:Below w0.heap.size w0 w
 rw_:Row w0.heap.size 3 1 w vw (A.length+1) (iC (wts (A++[x])))
 rp:Row w0.heap.size 4 1 w vp A.length (oC A)
theorem M2.mid {w0 w w':World} {vw vw' vp:Value} {A:List (Nat × Bool)} {x:Nat × Bool} (h:M2 w0 w vw vp A) (hr:Row w0.heap.size 3 1 w' vw' (A.length+1) (iC (wts A)++iC [x.1])) (hb:Below w0.heap.size w w') (hg:w.grownBy w' vw.ownBlock):Mid2 w0 w' vw' vp A x:=
 ⟨h.b.trans hb,by unfold wts;rw[List.map_append,iC_app];exact hr,h.rp.kept_ne h.rw_ hg (by decide)⟩
theorem Mid2.below {w0 w w':World} {vw vp:Value} {A:List (Nat × Bool)} {x:Nat × Bool} (h:Mid2 w0 w vw vp A x) (hb:Below w.heap.size w w'):Mid2 w0 w' vw vp A x:=⟨h.b.trans (hb.mono h.b.size),h.rw_.below hb,h.rp.below hb⟩
theorem Mid2.full {w0 w w':World} {vw vp vp':Value} {A:List (Nat × Bool)} {x:Nat × Bool} (h:Mid2 w0 w vw vp A x) (hr:Row w0.heap.size 4 1 w' vp' (A.length+1) (oC A++oC [x])) (hb:Below w0.heap.size w w') (hg:w.grownBy w' vp.ownBlock):M2 w0 w' vw vp' (A++[x]):=
 ⟨h.b.trans hb,by rw[List.length_append,List.length_singleton];exact h.rw_.kept_ne h.rp hg (by decide),by rw[List.length_append,List.length_singleton,oC_app];exact hr⟩
set_option maxHeartbeats 16000000 in
theorem merge_any (L Bl:List Nat) (n m B:Nat) (v vb:Value) (w:World) (h:Sl w B 1 v n (iC L)) (hb:Sl w B 1 vb m (iC Bl)) (hB:B≤w.heap.size) (hn:n=L.length) (hm:m=Bl.length) (h1:1≤n) (hl:n≤1000) (hl2:m≤10000) (hx: ∀x∈L,x≤1099511627776) (hx2: ∀x∈Bl,x≤1000000000000000000):Calls Tryz.prog 211 #[v,vb] w (MrgP L Bl w):=by
 obtain⟨bb,off,cap,rfl,hcap,hbb,HK⟩:=h.kept hB h1
 obtain⟨ab,capb,rfl,hcapb⟩:=hb.form
 obtain⟨P,hP⟩: ∃z,m/2=z:=⟨_,rfl⟩
 have hpl:(prs Bl).length=P:=by rw[prs_len,←hm,hP]
 have q0:((m:Nat):Int)/2=((P:Nat):Int):=by rw[←hP];omega
 have q0':Int.tdiv ((m:Nat):Int) 2=((P:Nat):Int):=by rw[Int.tdiv_eq_ediv_of_nonneg (by omega)];exact q0
 have hPm:2*P≤m:=by omega
 have HKB:Hid (∀q,q<P→ ∃bb2 off2 x y,ab=some ⟨bb2,off2,none⟩∧(∀W,Below w.heap.size w W→W.cell? ⟨bb2,off2+2*q,none⟩=some (.int .i64 (x:Nat))∧W.cell? ⟨bb2,off2+(2*q+1),none⟩=some (.int .i64 (y:Nat)))∧(prs Bl)[q]? =some (x+y)∧x≤1000000000000000000∧y≤1000000000000000000):=Lib.hid (fun q hq=>by
  obtain⟨b2,o2,_,he,_,hlt2,hcell2⟩:=hb.pos (by omega)
  injection he with he
  subst he
  obtain⟨x,hx⟩: ∃x,Bl[2*q]? =some x:=⟨_,List.getElem?_eq_getElem (by omega)⟩
  obtain⟨y,hy⟩: ∃y,Bl[2*q+1]? =some y:=⟨_,List.getElem?_eq_getElem (by omega)⟩
  refine⟨b2,o2,x,y,rfl,fun W hW=>⟨(hW.cell (p:=⟨b2,o2+2*q,none⟩) (show b2<w.heap.size by omega)).trans (hcell2 _ _ (iC_get hx)),(hW.cell (p:=⟨b2,o2+(2*q+1),none⟩) (show b2<w.heap.size by omega)).trans (hcell2 _ _ (iC_get hy))⟩,?_,hx2 x (List.mem_of_getElem? hx),hx2 y (List.mem_of_getElem? hy)⟩
  rw[prs_get Bl q (by omega),List.getD_eq_getElem?_getD,List.getD_eq_getElem?_getD,hx,hy]
  rfl)
 have HX:=Lib.hid hx
 have HN:=Lib.hid hn
 obtain⟨C,hC⟩: ∃z,n+P=z:=⟨_,rfl⟩
 have qc:IntKind.i64.wrap ((n:Int)+(P:Int))=((C:Nat):Int):=by rw[IntWalk.i64_in _ (by omega)];omega
 have qp:IntKind.i64.wrap (P:Int)=(P:Int):=IntWalk.i64_in _ (by omega)
 obtain⟨w1,hmk1,hr1,hb1⟩:=mkI0 C w (by omega)
 obtain⟨w2,hmk2,hr2,hb2⟩:=mkB0 C w1 (by omega)
 have HM0:Hid (M2 w w2 (.slice (some ⟨w.heap.size,0,none⟩) 0 C) (.slice (some ⟨w1.heap.size,0,none⟩) 0 C) []):=Lib.hid ⟨hb1.trans (hb2.mono hb1.size),hr1.below hb2,hr2.mono hb1.size⟩
 obtain⟨ps,hps⟩: ∃z,prs Bl=z:=⟨_,rfl⟩
 rw[hps] at HKB hpl
 have HPS:=Lib.hid hps
 have HPL:=Lib.hid hpl
 clear h hb hx hx2 hn hm hP hC hr1 hr2 hb1 hb2 hps hpl
 go_enter Tryz.func211,Tryz.ntmps211
 go_upto_region 5 with (fail)
 clear hmk1 hmk2
 go_loopw [9,10,7,8] (fun u1 u2 vw vp wr=> ∃(i j:Nat) (A:List (Nat × Bool)),u1= .int .i64 (i:Nat)∧u2= .int .i64 (j:Nat)∧i≤n∧j≤P∧Hid (Mgd L ps i j A)∧Hid (M2 w wr vw vp A)) (fun u1 u2 _ _ _=>n+P-(intOf u1).toNat-(intOf u2).toNat)
 case atStart=>exact⟨0,0,[],rfl,rfl,Nat.zero_le _,Nat.zero_le _,Lib.hid (Mgd.start _ _),HM0⟩
 case round=>
  clear HM0
  obtain⟨i,j,A,rfl,rfl,hi,hj,HG,HM⟩:=hrel
  obtain⟨wo,rfl⟩: ∃z:World,z=wr:=⟨_,rfl⟩
  obtain⟨la,lc,rfl,_⟩:=HM.out.rw_.form
  obtain⟨pa,pc,rfl,_⟩:=HM.out.rp.form
  obtain⟨J2,hJ2⟩: ∃z,2*j=z:=⟨_,rfl⟩
  obtain⟨J3,hJ3⟩: ∃z,2*j+1=z:=⟨_,rfl⟩
  have r2:IntKind.i64.wrap (2*(j:Int))=((J2:Nat):Int):=by rw[IntWalk.i64_in _ (by omega)];omega
  have r3:IntKind.i64.wrap ((J2:Int)+1)=((J3:Nat):Int):=by rw[IntWalk.i64_in _ (by omega)];omega
  have i1:IntKind.i64.wrap ((i:Int)+1)=((i+1:Nat):Int):=by rw[IntWalk.i64_in _ (by omega)];omega
  have j1:IntKind.i64.wrap ((j:Int)+1)=((j+1:Nat):Int):=by rw[IntWalk.i64_in _ (by omega)];omega
  have HAL:Hid (A.length=i+j):=Lib.hid HG.out.len
  have hal:A.length≤100000:=by rw[HG.out.len];omega
  have HJ2:=Lib.hid hJ2
  have HJ3:=Lib.hid hJ3
  by_cases hin:i<n
  ·have e1:decide (i<n)=true:=decide_eq_true hin
   have e1':decide ((i:Int)<(n:Int))=true:=decide_eq_true (by omega)
   have e2:((i:Int)==(n:Int))=false:=by rw[beq_eq_false_iff_ne];omega
   have e2':(i==n)=false:=by rw[beq_eq_false_iff_ne];omega
   obtain⟨x0,hx0⟩: ∃x,L[i]? =some x:=⟨_,List.getElem?_eq_getElem (by have:=HN.out;omega)⟩
   have hx0b:=HX.out x0 (List.mem_of_getElem? hx0)
   have ca:=HK.out wo HM.out.b i x0 hx0
   have HX0:=Lib.hid hx0
   have hii:(i:Int)<(n:Int):=by omega
   clear hx0
   by_cases hjp:j<P
   ·have e3:decide (j<P)=true:=decide_eq_true hjp
    have e3':decide ((j:Int)<(P:Int))=true:=decide_eq_true (by omega)
    obtain⟨b2,o2,x,y,rfl,hkk,hxy,hxb,hyb⟩:=HKB.out j hjp
    rw[hJ3,hJ2] at hkk
    have HKK:=Lib.hid hkk
    clear hkk
    obtain⟨kx,ky⟩:=HKK.out wo HM.out.b
    have HXY:=Lib.hid hxy
    have m1:J2<m:=by omega
    have m1':(J2:Int)<(m:Int):=by omega
    have m2:J3<m:=by omega
    have m2':(J3:Int)<(m:Int):=by omega
    obtain⟨S,hS⟩: ∃z,x+y=z:=⟨_,rfl⟩
    have r4:IntKind.i64.wrap ((x:Int)+(y:Int))=((S:Nat):Int):=by rw[IntWalk.i64_in _ (by omega)];omega
    rw[hS] at HXY
    clear hxy hJ2 hJ3 hS
    by_cases hlt:S<x0
    ·have f1:decide (S<x0)=true:=decide_eq_true hlt
     have f1':decide ((S:Int)<(x0:Int))=true:=decide_eq_true (by omega)
     have HCO:Hid (L.length≤i∨ ∃l,L[i]? =some l∧S<l):=Lib.hid (.inr ⟨x0,HX0.out,hlt⟩)
     clear hlt
     go_upto_region 8 with (fail)
     go_quiet (fail)
     have HM3:=Lib.hid (HM.out.below (below_drewN (Below.refl _ _) nq))
     clear ca kx ky
     generalize wo.drewN nq=w3 at*
     have hbx:=((Below.refl w3.heap.size w3).alloc (Nat.le_refl _) (.cells #[.int .i64 (S:Nat)] 3)).drew
     have HMX:=Lib.hid (HM3.out.below hbx)
     have HZX:Hid (w.heap.size≤(w3.alloc (.cells #[.int .i64 (S:Nat)] 3)).drew.heap.size):=Lib.hid HMX.out.b.size
     obtain⟨kx,ky⟩:=HKK.out w3 HM3.out.b
     clear hbx
     go_upto_region 10 with (fail)
     go_region_law (first
      |(refine step_append_row2 Tryz.underlying55 info_in rfl (by decide) rfl (.tmp 65) (.tmp 78) rfl rfl HMX.out.rw_ rfl ((Sl.new w3 1 1 [.int .i64 (S:Nat)] 3 rfl).below (Below.refl _ _).drew) (iC_one [S]) (by omega) (by omega) HZX.out ?_
        intro v9 w9 hr9 hb9 hg9 hw9
        obtain⟨a9,c9,hv9,_⟩:=hr9.form
        subst hv9
        have HMID:=Lib.hid (HMX.out.mid (x:=(S,true)) hr9 hb9 hg9)
        clear hr9 hb9 hg9 hw9 HMX HZX kx ky))
     all_goals
      have HMB:=Lib.hid (HMID.out.below ((Below.refl w9.heap.size w9).alloc (Nat.le_refl _) (.cells #[.bool true] 4)))
      have HSB:Hid (Sl (w9.alloc (.cells #[.bool true] 4)) (w9.heap.size+1) 1 (.slice (some ⟨w9.heap.size,0,none⟩) 1 1) 1 (oC [(S,true)])):=Lib.hid (Sl.new w9 1 1 [.bool true] 4 rfl)
      have HZB:Hid (w.heap.size≤(w9.alloc (.cells #[.bool true] 4)).heap.size):=Lib.hid HMB.out.b.size
      go_upto_region 14 with (fail)
      go_wp2_with (at_builtin;refine append_rowM (base:=w.heap.size) (size:=1) (xs:=oC A) Tryz.underlying317 info_bo rfl (by decide) rfl _ _ rfl rfl HMB.out.rp rfl HSB.out (oC_one _) ?_ ?_ ?_ ?_;omega;omega;exact HZB.out)
      intro v6 w6 hr6 hb6 hg6 hw6
      obtain⟨la6,lc6,rfl,_⟩:=hr6.form
      have HM6:=Lib.hid (HMB.out.full hr6 hb6 hg6)
      clear hr6 hb6 hg6 hw6 HMB HSB HMID HM3
      go_wp2_with (fail)
      go_roundw
      case rel=>exact⟨i,j+1,A++[(S,true)],rfl,rfl,hi,hjp,Lib.hid (HG.out.pair HXY.out HCO.out),HM6⟩
      case measure=>simp[intOf]<;>omega
    ·as_aux_lemma=>
     have f1:decide (S<x0)=false:=decide_eq_false hlt
     have f1':decide ((S:Int)<(x0:Int))=false:=decide_eq_false (by omega)
     have HCO:Hid (ps.length≤j∨ ∃p,ps[j]? =some p∧ ¬p<x0):=Lib.hid (.inr ⟨S,HXY.out,hlt⟩)
     clear hlt
     go_upto_region 8 with (fail)
     go_quiet (fail)
     have HM3:=Lib.hid (HM.out.below (below_drewN (Below.refl _ _) nq))
     clear ca kx ky
     generalize wo.drewN nq=w3 at*
     have HMX:=Lib.hid (HM3.out.below ((Below.refl w3.heap.size w3).alloc (Nat.le_refl _) (.cells #[.int .i64 (x0:Nat)] 3)))
     have HSX:Hid (Sl (w3.alloc (.cells #[.int .i64 (x0:Nat)] 3)) (w3.heap.size+1) 1 (.slice (some ⟨w3.heap.size,0,none⟩) 1 1) 1 (iC [x0])):=Lib.hid (Sl.new w3 1 1 [.int .i64 (x0:Nat)] 3 rfl)
     have HZX:Hid (w.heap.size≤(w3.alloc (.cells #[.int .i64 (x0:Nat)] 3)).heap.size):=Lib.hid HMX.out.b.size
     have ca:=HK.out w3 HM3.out.b i x0 HX0.out
     go_upto_region 12 with (fail)
     go_wp2_with (at_builtin;refine append_rowM (base:=w.heap.size) (size:=1) (xs:=iC (wts A)) Tryz.underlying55 info_in rfl (by decide) rfl _ _ rfl rfl HMX.out.rw_ rfl HSX.out (iC_one _) ?_ ?_ ?_ ?_;omega;omega;exact HZX.out)
     intro v9 w9 hr9 hb9 hg9 hw9
     obtain⟨a9,c9,rfl,_⟩:=hr9.form
     have HMID:=Lib.hid (HMX.out.mid (x:=(x0,false)) hr9 hb9 hg9)
     clear hr9 hb9 hg9 hw9 HMX HSX HZX ca
     have HMB:=Lib.hid (HMID.out.below ((Below.refl w9.heap.size w9).alloc (Nat.le_refl _) (.cells #[.bool false] 4)))
     have HSB:Hid (Sl (w9.alloc (.cells #[.bool false] 4)) (w9.heap.size+1) 1 (.slice (some ⟨w9.heap.size,0,none⟩) 1 1) 1 (oC [(x0,false)])):=Lib.hid (Sl.new w9 1 1 [.bool false] 4 rfl)
     have HZB:Hid (w.heap.size≤(w9.alloc (.cells #[.bool false] 4)).heap.size):=Lib.hid HMB.out.b.size
     go_upto_region 14 with (fail)
     go_wp2_with (at_builtin;refine append_rowM (base:=w.heap.size) (size:=1) (xs:=oC A) Tryz.underlying317 info_bo rfl (by decide) rfl _ _ rfl rfl HMB.out.rp rfl HSB.out (oC_one _) ?_ ?_ ?_ ?_;omega;omega;exact HZB.out)
     intro v6 w6 hr6 hb6 hg6 hw6
     obtain⟨la6,lc6,rfl,_⟩:=hr6.form
     have HM6:=Lib.hid (HMB.out.full hr6 hb6 hg6)
     clear hr6 hb6 hg6 hw6 HMB HSB HMID HM3
     go_wp2_with (fail)
     go_roundw
     case rel=>exact⟨i+1,j,A++[(x0,false)],rfl,rfl,hin,hj,Lib.hid (HG.out.leaf HX0.out HCO.out),HM6⟩
     case measure=>simp[intOf]<;>omega
   ·as_aux_lemma=>
    have e3:decide (j<P)=false:=decide_eq_false hjp
    have e3':decide ((j:Int)<(P:Int))=false:=decide_eq_false (by omega)
    have HCO:Hid (ps.length≤j∨ ∃p,ps[j]? =some p∧ ¬p<x0):=Lib.hid (.inl (by rw[HPL.out];omega))
    clear hJ2 hJ3
    have HM3:=HM
    clear ca
    obtain⟨w3,hw3⟩: ∃z:World,wo=z:=⟨_,rfl⟩
    rw[hw3] at HM3 ⊢
    clear hw3
    have HMX:=Lib.hid (HM3.out.below ((Below.refl w3.heap.size w3).alloc (Nat.le_refl _) (.cells #[.int .i64 (x0:Nat)] 3)))
    have HSX:Hid (Sl (w3.alloc (.cells #[.int .i64 (x0:Nat)] 3)) (w3.heap.size+1) 1 (.slice (some ⟨w3.heap.size,0,none⟩) 1 1) 1 (iC [x0])):=Lib.hid (Sl.new w3 1 1 [.int .i64 (x0:Nat)] 3 rfl)
    have HZX:Hid (w.heap.size≤(w3.alloc (.cells #[.int .i64 (x0:Nat)] 3)).heap.size):=Lib.hid HMX.out.b.size
    have ca:=HK.out w3 HM3.out.b i x0 HX0.out
    go_upto_region 12 with (fail)
    go_wp2_with (at_builtin;refine append_rowM (base:=w.heap.size) (size:=1) (xs:=iC (wts A)) Tryz.underlying55 info_in rfl (by decide) rfl _ _ rfl rfl HMX.out.rw_ rfl HSX.out (iC_one _) ?_ ?_ ?_ ?_;omega;omega;exact HZX.out)
    intro v9 w9 hr9 hb9 hg9 hw9
    obtain⟨a9,c9,rfl,_⟩:=hr9.form
    have HMID:=Lib.hid (HMX.out.mid (x:=(x0,false)) hr9 hb9 hg9)
    clear hr9 hb9 hg9 hw9 HMX HSX HZX ca
    have HMB:=Lib.hid (HMID.out.below ((Below.refl w9.heap.size w9).alloc (Nat.le_refl _) (.cells #[.bool false] 4)))
    have HSB:Hid (Sl (w9.alloc (.cells #[.bool false] 4)) (w9.heap.size+1) 1 (.slice (some ⟨w9.heap.size,0,none⟩) 1 1) 1 (oC [(x0,false)])):=Lib.hid (Sl.new w9 1 1 [.bool false] 4 rfl)
    have HZB:Hid (w.heap.size≤(w9.alloc (.cells #[.bool false] 4)).heap.size):=Lib.hid HMB.out.b.size
    go_upto_region 14 with (fail)
    go_wp2_with (at_builtin;refine append_rowM (base:=w.heap.size) (size:=1) (xs:=oC A) Tryz.underlying317 info_bo rfl (by decide) rfl _ _ rfl rfl HMB.out.rp rfl HSB.out (oC_one _) ?_ ?_ ?_ ?_;omega;omega;exact HZB.out)
    intro v6 w6 hr6 hb6 hg6 hw6
    obtain⟨la6,lc6,rfl,_⟩:=hr6.form
    have HM6:=Lib.hid (HMB.out.full hr6 hb6 hg6)
    clear hr6 hb6 hg6 hw6 HMB HSB HMID HM3
    go_wp2_with (fail)
    go_roundw
    case rel=>exact⟨i+1,j,A++[(x0,false)],rfl,rfl,hin,hj,Lib.hid (HG.out.leaf HX0.out HCO.out),HM6⟩
    case measure=>simp[intOf]<;>omega
  ·obtain rfl:i=n:=by omega
   have e1:decide (i<i)=false:=decide_eq_false hin
   have e1':decide ((i:Int)<(i:Int))=false:=decide_eq_false (by omega)
   have e2:((i:Int)==(i:Int))=true:=by rw[beq_iff_eq]
   have e2':(i==i)=true:=by rw[beq_iff_eq]
   by_cases hjp:j<P
   ·have e3:decide (j<P)=true:=decide_eq_true hjp
    have e3':decide ((j:Int)<(P:Int))=true:=decide_eq_true (by omega)
    obtain⟨b2,o2,x,y,rfl,hkk,hxy,hxb,hyb⟩:=HKB.out j hjp
    rw[hJ3,hJ2] at hkk
    have HKK:=Lib.hid hkk
    clear hkk
    obtain⟨kx,ky⟩:=HKK.out wo HM.out.b
    have HXY:=Lib.hid hxy
    have m1:J2<m:=by omega
    have m1':(J2:Int)<(m:Int):=by omega
    have m2:J3<m:=by omega
    have m2':(J3:Int)<(m:Int):=by omega
    obtain⟨S,hS⟩: ∃z,x+y=z:=⟨_,rfl⟩
    have r4:IntKind.i64.wrap ((x:Int)+(y:Int))=((S:Nat):Int):=by rw[IntWalk.i64_in _ (by omega)];omega
    rw[hS] at HXY
    have HCO:Hid (L.length≤i∨ ∃l,L[i]? =some l∧S<l):=Lib.hid (.inl (by have:=HN.out;omega))
    clear hxy hJ2 hJ3 hS
    have HM3:=HM
    clear kx ky
    obtain⟨w3,hw3⟩: ∃z:World,wo=z:=⟨_,rfl⟩
    rw[hw3] at HM3 ⊢
    clear hw3
    have hbx:=((Below.refl w3.heap.size w3).alloc (Nat.le_refl _) (.cells #[.int .i64 (S:Nat)] 3)).drew
    have HMX:=Lib.hid (HM3.out.below hbx)
    have HZX:Hid (w.heap.size≤(w3.alloc (.cells #[.int .i64 (S:Nat)] 3)).drew.heap.size):=Lib.hid HMX.out.b.size
    obtain⟨kx,ky⟩:=HKK.out w3 HM3.out.b
    clear hbx
    go_upto_region 10 with (fail)
    go_region_law (first
     |(refine step_append_row2 Tryz.underlying55 info_in rfl (by decide) rfl (.tmp 65) (.tmp 78) rfl rfl HMX.out.rw_ rfl ((Sl.new w3 1 1 [.int .i64 (S:Nat)] 3 rfl).below (Below.refl _ _).drew) (iC_one [S]) (by omega) (by omega) HZX.out ?_
       intro v9 w9 hr9 hb9 hg9 hw9
       obtain⟨a9,c9,hv9,_⟩:=hr9.form
       subst hv9
       have HMID:=Lib.hid (HMX.out.mid (x:=(S,true)) hr9 hb9 hg9)
       clear hr9 hb9 hg9 hw9 HMX HZX kx ky))
    all_goals
     have HMB:=Lib.hid (HMID.out.below ((Below.refl w9.heap.size w9).alloc (Nat.le_refl _) (.cells #[.bool true] 4)))
     have HSB:Hid (Sl (w9.alloc (.cells #[.bool true] 4)) (w9.heap.size+1) 1 (.slice (some ⟨w9.heap.size,0,none⟩) 1 1) 1 (oC [(S,true)])):=Lib.hid (Sl.new w9 1 1 [.bool true] 4 rfl)
     have HZB:Hid (w.heap.size≤(w9.alloc (.cells #[.bool true] 4)).heap.size):=Lib.hid HMB.out.b.size
     go_upto_region 14 with (fail)
     go_wp2_with (at_builtin;refine append_rowM (base:=w.heap.size) (size:=1) (xs:=oC A) Tryz.underlying317 info_bo rfl (by decide) rfl _ _ rfl rfl HMB.out.rp rfl HSB.out (oC_one _) ?_ ?_ ?_ ?_;omega;omega;exact HZB.out)
     intro v6 w6 hr6 hb6 hg6 hw6
     obtain⟨la6,lc6,rfl,_⟩:=hr6.form
     have HM6:=Lib.hid (HMB.out.full hr6 hb6 hg6)
     clear hr6 hb6 hg6 hw6 HMB HSB HMID HM3
     go_wp2_with (fail)
     go_roundw
     case rel=>exact⟨i,j+1,A++[(S,true)],rfl,rfl,hi,hjp,Lib.hid (HG.out.pair HXY.out HCO.out),HM6⟩
     case measure=>simp[intOf]<;>omega
   ·as_aux_lemma=>
    have e3:decide (j<P)=false:=decide_eq_false hjp
    have e3':decide ((j:Int)<(P:Int))=false:=decide_eq_false (by omega)
    obtain rfl:j=P:=by omega
    clear hJ2 hJ3
    go_wp2_with (fail)
    go_ret2
    refine⟨_,_,rfl,?_⟩
    rw[HPS.out,Mgd.done (by rw[←HN.out,HPL.out];exact HG.out)]
    exact HM.out
end Go.Proofs.YtmdgeoalamancaaGreatDoor
namespace Go.Proofs.YtmdgeoalamancaaGreatDoor
open Go.RowKit
open Bt Can Mc
def mq (ls:List Nat) (q:Nat):List Value:=(List.range 16).map fun n=> .int .i64 ((if n=0 then 0 else (ls.take q).count n:Nat):Int)
theorem mq_len (ls:List Nat) (q:Nat):(mq ls q).length=16:=by unfold mq;simp
theorem mq_get (ls:List Nat) (q:Nat) {n:Nat} (h1:1≤n) (h2:n<16):(mq ls q)[n]? =some (.int .i64 ((ls.take q).count n:Nat)):=by
 unfold mq
 rw[List.getElem?_map,List.getElem?_range h2]
 simp only[Option.map_some]
 rw[if_neg (by omega)]
theorem mq_at (ls:List Nat) (q:Nat) {n:Nat} (h2:n<16):(mq ls q)[n]? =some (.int .i64 ((if n=0 then 0 else (ls.take q).count n:Nat):Int)):=by
 unfold mq
 rw[List.getElem?_map,List.getElem?_range h2]
 rfl
theorem mq_end (ls:List Nat):mq ls ls.length=mcl ls:=by unfold mq mcl mny;rw[List.take_length]
theorem mq_zero (ls:List Nat):mq ls 0=List.replicate 16 (.int .i64 0):=by
 refine List.ext_getElem? fun k=> ?_
 by_cases hk:k<16
 ·rw[mq_at _ _ hk,List.getElem?_replicate,if_pos hk,List.take_zero]
  by_cases h0:k=0
  ·subst h0;rfl
  ·rw[if_neg h0];rfl
 ·rw[List.getElem?_eq_none (by rw[mq_len];omega),List.getElem?_eq_none (by simp;omega)]
theorem mq_step (ls:List Nat) {q x:Nat} (hx:ls[q]? =some x) (h1:1≤x) (h15:x≤15):(mq ls q).set x (.int .i64 (((ls.take q).count x+1:Nat):Int))=mq ls (q+1):=by
 refine List.ext_getElem? fun k=> ?_
 by_cases hk:k<16
 ·rw[mq_at _ _ hk,List.take_add_one,hx,List.count_append]
  by_cases e:x=k
  ·subst e
   rw[List.getElem?_set_self (by rw[mq_len];omega),if_neg (by omega)]
   simp
  ·rw[List.getElem?_set_ne e,mq_at _ _ hk]
   simp[List.count_cons,e]
 ·rw[List.getElem?_eq_none (by rw[List.length_set,mq_len];omega),List.getElem?_eq_none (by rw[mq_len];omega)]
theorem mq_none (ls:List Nat) {q:Nat} (hx:ls[q]? =some 0):mq ls q=mq ls (q+1):=by
 refine List.ext_getElem? fun k=> ?_
 by_cases hk:k<16
 ·rw[mq_at _ _ hk,mq_at _ _ hk,List.take_add_one,hx,List.count_append]
  by_cases h0:k=0
  ·rw[if_pos h0,if_pos h0]
  ·rw[if_neg h0,if_neg h0]
   have:(Option.toList (some 0)).count k=0:=by simp[List.count_cons];omega
   rw[this]
   rfl
 ·rw[List.getElem?_eq_none (by rw[mq_len];omega),List.getElem?_eq_none (by rw[mq_len];omega)]
def mx (ls:List Nat):Nat→Nat
 |0=>0
 |q+1=>max (mx ls q) (len ls q)
theorem mx_le {ls:List Nat} (h15: ∀a∈ls,a≤15): ∀q,mx ls q≤15
 |0=>by unfold mx;omega
 |q+1=>by
  have h1:=mx_le h15 q
  have h2:=len_le h15 (s:=q)
  unfold mx
  omega
theorem mx_up (ls:List Nat) {s:Nat}: ∀q,s<q→len ls s≤mx ls q
 |q+1,h=>by
  unfold mx
  by_cases e:s=q
  ·subst e;omega
  ·have:=mx_up ls q (s:=s) (by omega);omega
theorem mx_all (ls:List Nat): ∀a∈ls,a≤mx ls ls.length:=by
 intro a ha
 obtain⟨i,hi,rfl⟩:=List.getElem_of_mem ha
 have:=mx_up ls ls.length hi
 unfold len at this
 rw[List.getD_eq_getElem?_getD,List.getElem?_eq_getElem hi] at this
 exact this
theorem set_left {α:Type _} (a b:List α) {k:Nat} (v:α) (h:k<a.length):(a++b).set k v=a.set k v++b:=List.set_append_left _ _ h
set_option maxHeartbeats 4000000 in
theorem new_any (ls:List Nat) (n k:Nat) (v:Value) (B:Nat) (w:World) (h:Sl w B 1 v n (iC ls)) (hB:B≤w.heap.size) (hn:n=ls.length) (hl:n≤1000) (hm:May ls k) (hk:k≤2):
  Calls Tryz.prog 89 #[v,.int .i64 (k:Nat)] w fun e w'=> ∃tb F,e= .returned (.tuple #[.pointer (some ⟨tb,0,none⟩),.int .i64 0])∧Tb F w' tb ls∧(∀x∈F,w.heap.size≤x)∧Below w.heap.size w w':=by
 obtain⟨a,cap,rfl,hcap⟩:=h.form
 have HS:=Lib.hid (fun (W:World) (hW:Below w.heap.size w W)=>h.below (hW.mono hB))
 have HM:=Lib.hid (may_any ls n k _ B w h hB hn hl hm hk)
 have HSO:=Lib.hid (fun (W:World) (hW:Below w.heap.size w W)=>sorted_any ls n _ B W (h.below (hW.mono hB)) (Nat.le_trans hB hW.size) hn hl hm.le)
 have HN:=Lib.hid hn
 have H15:=Lib.hid hm.le
 have HKR:=Lib.hid hm.krf
 clear h hn hm
 go_enter Tryz.func89,Tryz.ntmps89
 go_wp2_with (fail)
 refine HM.out.mono ?_
 rintro e w1 ⟨rfl,hb1⟩
 have HSO1:=Lib.hid (HSO.out w1 hb1)
 have HB1:=Lib.hid hb1
 clear hb1 HSO HM
 go_wp2_with (fail)
 refine HSO1.out.mono ?_
 rintro e w2 ⟨vs,sy,rfl,hr2,hp2,hb2⟩
 have HP:=Lib.hid hp2
 have HR2:=Lib.hid hr2
 have HB2:=Lib.hid (HB1.out.trans (hb2.mono HB1.out.size))
 have hz1:=HB1.out.size
 have hz2:=hb2.size
 clear hr2 hp2 hb2 HSO1 HB1
 obtain⟨sa,scap,rfl,_⟩:=HR2.out.form
 obtain⟨N2,hN2⟩: ∃z,sy.length=z:=⟨_,rfl⟩
 go_wp2_with (fail)
 have hag:(mq ls 0++[Value.slice sa N2 scap,Value.int .i64 ((mx ls 0:Nat):Int)]).toArray=#[.int .i64 0,.int .i64 0,.int .i64 0,.int .i64 0,.int .i64 0,.int .i64 0,.int .i64 0,.int .i64 0,.int .i64 0,.int .i64 0,.int .i64 0,.int .i64 0,.int .i64 0,.int .i64 0,.int .i64 0,.int .i64 0,.slice sa N2 scap,.int .i64 0]:=by rw[mq_zero];rfl
 obtain⟨wa,hwa⟩: ∃z:World,z=w2.alloc (.cells #[.int .i64 0,.int .i64 0,.int .i64 0,.int .i64 0,.int .i64 0,.int .i64 0,.int .i64 0,.int .i64 0,.int .i64 0,.int .i64 0,.int .i64 0,.int .i64 0,.int .i64 0,.int .i64 0,.int .i64 0,.int .i64 0,.slice sa N2 scap,.int .i64 0] 241):=⟨_,rfl⟩
 have HO:Hid (Own wa w2.heap.size (mq ls 0++[.slice sa N2 scap,.int .i64 ((mx ls 0:Nat):Int)])):=Lib.hid (by rw[hwa,←hag];exact Own.new_at w2 _ _ _ rfl)
 have HB:Hid (Below w.heap.size w wa):=Lib.hid (by rw[hwa];exact HB2.out.alloc HB2.out.size _)
 have HR:Hid (Row w1.heap.size 3 1 wa (.slice sa N2 scap) N2 (iC sy)):=Lib.hid (by rw[hwa,←hN2];exact HR2.out.below ((Below.refl _ _).alloc (Nat.le_refl _) _))
 have hza:w2.heap.size+1≤wa.heap.size:=by rw[hwa];simp
 rw[←hwa]
 have HD:Hid (∀k∈obk (.slice sa N2 scap),k≠w2.heap.size):=Lib.hid (fun k hk=>by have h5:=HR2.out;rw[hN2] at h5;have:=(h5.lt k (mem_obk.1 hk)).2;omega)
 clear hwa hag HB2 HR2
 obtain⟨tb,htb⟩: ∃z,w2.heap.size=z:=⟨_,rfl⟩
 rw[htb] at HO hza hz2 HD ⊢
 clear htb
 go_loopw [22] (fun i wr=> ∃q:Nat,i= .int .i64 q∧q≤n∧Hid (Own wr tb (mq ls q++[.slice sa N2 scap,.int .i64 ((mx ls q:Nat):Int)]))∧Hid (Row w1.heap.size 3 1 wr (.slice sa N2 scap) N2 (iC sy))∧Hid (Below w.heap.size w wr)∧tb+1≤wr.heap.size) (fun i _=>n-(intOf i).toNat)
 case atStart=>exact⟨0,rfl,Nat.zero_le _,HO,HR,HB,hza⟩
 case round=>
  clear HO HR HB hza
  obtain⟨q,rfl,hq,HO,HR,HB,hz⟩:=hrel
  obtain⟨w5,rfl⟩: ∃z:World,z=wr:=⟨_,rfl⟩
  by_cases hqn:q<n
  ·as_aux_lemma=>
   have d1:decide (q<n)=true:=decide_eq_true hqn
   have d2:decide ((q:Int)<(n:Int))=true:=decide_eq_true (by omega)
   have q1:IntKind.i64.wrap ((q:Int)+1)=(q:Int)+1:=IntWalk.i64_in _ (by omega)
   have hqi:(q:Int)<(n:Int):=by omega
   obtain⟨b,off,rfl,_⟩:=sl_cells (HS.out w5 HB.out) (by omega)
   obtain⟨x,hx⟩: ∃x,ls[q]? =some x:=⟨_,List.getElem?_eq_getElem (by have:=HN.out;omega)⟩
   have k0:=sl_same (HS.out w5 HB.out) (by omega) q _ (iC_get hx)
   have hx15:=H15.out x (List.mem_of_getElem? hx)
   have hlx:len ls q=x:=by unfold len;rw[List.getD_eq_getElem?_getD,hx];rfl
   have HMX:Hid (mx ls (q+1)=max (mx ls q) x):=Lib.hid (by show max (mx ls q) (len ls q)=_;rw[hlx])
   by_cases h1:1≤x
   rotate_left
   ·obtain rfl:x=0:=by omega
    have HZ:=Lib.hid (mq_none ls hx)
    clear hx
    go_wp2_with (fail)
    go_roundw
    case rel=>exact⟨q+1,rfl,hqn,Lib.hid (by rw[←HZ.out,HMX.out,Nat.max_zero];exact HO.out),HR,HB,hz⟩
    case measure=>simp[intOf]<;>omega
   have d3:decide ((1:Int)≤(x:Int))=true:=decide_eq_true (by omega)
   have d3':decide (1≤x)=true:=decide_eq_true h1
   have d3'':decide (0<x)=true:=decide_eq_true (by omega)
   have kx:=HO.out.1 x (.int .i64 ((ls.take q).count x:Nat)) (by rw[List.getElem?_append_left (by rw[mq_len];omega)];exact mq_get _ _ h1 (by omega))
   have fx:=HO.out.2 x
   have HMS:=Lib.hid (mq_step ls hx h1 hx15)
   have hcn:(ls.take q).count x≤1000:=Nat.le_trans List.count_le_length (by rw[List.length_take];omega)
   obtain⟨C,hC⟩: ∃z,(ls.take q).count x=z:=⟨_,rfl⟩
   rw[hC] at kx HMS hcn
   obtain⟨M,hM⟩: ∃z,mx ls q=z:=⟨_,rfl⟩
   have hM15:=mx_le H15.out q
   rw[hM] at hM15 HO HMX
   have y1:IntKind.i64.wrap (((C:Nat):Int)+1)=((C+1:Nat):Int):=by rw[IntWalk.i64_in _ (by omega)];omega
   obtain⟨C1,hC1⟩: ∃z,C+1=z:=⟨_,rfl⟩
   rw[hC1] at y1 HMS
   have hxi:(x:Int)<16:=by omega
   clear hx hlx hC hM hC1
   go_upto_region 9 with (fail)
   go_region
   all_goals
    have HO2:=Lib.hid ((HO.out.set x (.int .i64 (C1:Nat)) (by simp[mq_len];omega)).below (Below.refl (tb+1) _).drew (by omega))
    have HB2:=Lib.hid ((HB.out.setCell (p:=⟨tb,x,none⟩) (by show w.heap.size≤tb;omega) (.int .i64 (C1:Nat))).drew)
    have hz3:tb+1≤(w5.setCell ⟨tb,x,none⟩ (.int .i64 (C1:Nat))).drew.heap.size:=by simpa using hz
    have HR2:Hid (Row w1.heap.size 3 1 (w5.setCell ⟨tb,x,none⟩ (.int .i64 (C1:Nat))).drew (.slice sa N2 scap) N2 (iC sy)):=Lib.hid (HR.out.fr ((Fr.refl [tb] w5).setCell (p:=⟨tb,x,none⟩) (.inl (by simp)) _).drew (fun k hk=>by simpa using HD.out k hk))
    clear k0 kx fx
    generalize (w5.setCell ⟨tb,x,none⟩ (.int .i64 (C1:Nat))).drew=w9 at*
    have HO3:Hid (Own w9 tb (mq ls (q+1)++[.slice sa N2 scap,.int .i64 (M:Nat)])):=Lib.hid (by have:=HO2.out;rw[set_left _ _ _ (by rw[mq_len];omega),HMS.out] at this;exact this)
    clear HO2
    have k17:=HO3.out.1 17 (.int .i64 (M:Nat)) (by rw[List.getElem?_append_right (by rw[mq_len];omega),mq_len];rfl)
    have f17:=HO3.out.2 17
    have y2:max ((M:Nat):Int) ((x:Nat):Int)=((max M x:Nat):Int):=by omega
    have HMM:=Lib.hid HMX.out
    go_wp2_with (fail)
    go_roundw
    case rel=>
     have e9:(if M<x then ((x:Nat):Int) else ((M:Nat):Int))=((max M x:Nat):Int):=by split<;>omega
     rw[e9]
     refine⟨q+1,rfl,hqn,Lib.hid ?_,Lib.hid (HR2.out.fr ((Fr.refl [tb] w9).setCell (p:=⟨tb,17,none⟩) (.inl (by simp)) _) (fun k hk=>by simpa using HD.out k hk)),Lib.hid (HB2.out.setCell (p:=⟨tb,17,none⟩) (by show w.heap.size≤tb;omega) _),by simpa using hz3⟩
     have:=HO3.out.set 17 (.int .i64 ((max M x:Nat):Int)) (by simp[mq_len])
     rw[List.set_append_right _ _ (by rw[mq_len];omega),mq_len] at this
     rw[show (17-16)=1 from rfl] at this
     rw[HMM.out]
     exact this
    case measure=>simp[intOf]<;>omega
  ·have d1:decide (q<n)=false:=decide_eq_false hqn
   have d2:decide ((q:Int)<(n:Int))=false:=decide_eq_false (by omega)
   obtain rfl:q=n:=by omega
   go_wp2_with (fail)
   go_ret2
   refine⟨tb,tb::obk (.slice sa N2 scap),rfl,⟨_,sy,mx ls q,rfl,?_,hz,by rw[hN2];exact HR.out.mono (Nat.zero_le _),mx_le H15.out q,by rw[HN.out];exact mx_all ls,HP.out,HKR.out,by have:=HN.out;omega⟩,fun x hx=> ?_,HB.out⟩
   ·have:=HO.out
    rw[HN.out,mq_end,←HN.out] at this
    exact this
   ·rcases List.mem_cons.1 hx with rfl|hx
    ·omega
    ·have:=(HR.out.lt x (mem_obk.1 hx)).1
     omega
end Go.Proofs.YtmdgeoalamancaaGreatDoor
namespace Go.Proofs.YtmdgeoalamancaaGreatDoor
open Go.RowKit
def Dg (w:World) (db:Nat) (l:List Nat):Prop:=Own w db [.int .u32 (tn (Crc.sum (bw l)):Nat),.int .i64 (l.length:Nat)]
theorem bw_app (a b:List Nat):bw (a++b)=bw a++bw b:=by unfold bw;rw[List.map_append]
theorem bw_len (a:List Nat):(bw a).length=a.length:=by unfold bw;rw[List.length_map]
theorem dwrite_any (l m:List Nat) (n db:Nat) (v:Value) (B:Nat) (w:World) (hO:Dg w db l) (hd:db<w.heap.size) (h:Sl w B 1 v n (bC m)) (hB:B≤w.heap.size) (hn:n=m.length) (hl:n≤1000000000) (hl2:l.length≤1000000000) (hb: ∀x∈m,x<256) (hG:Gl w):
  Calls Tryz.prog 12 #[.pointer (some ⟨db,0,none⟩),v] w fun e w'=>e= .returned (.tuple #[])∧Dg w' db (l++m)∧Fr [db] w w':=by
 obtain⟨a,cap,rfl,hcap⟩:=h.form
 have HU:=Lib.hid (update_any (Crc.sum (bw l)) m n _ B w h hB hn hl hb hG)
 have k0:=hO.1 0 _ rfl
 have k1:=hO.1 1 _ rfl
 have HO:=Lib.hid hO
 have HN:=Lib.hid hn
 have q1:IntKind.i64.wrap ((l.length:Int)+(n:Int))=((l.length+n:Nat):Int):=by rw[IntWalk.i64_in _ (by omega)];omega
 have HS:=Lib.hid (Crc.sum_more (bw l) (bw m))
 obtain⟨S,hS⟩: ∃z,tn (Crc.sum (bw l))=z:=⟨_,rfl⟩
 obtain⟨L,hL⟩: ∃z,l.length=z:=⟨_,rfl⟩
 have HL:=Lib.hid hL
 rw[hS] at k0 HU
 rw[hL] at k1 q1 hl2
 clear h hn hb hG hO hS hL
 go_enter Tryz.func12,Tryz.ntmps12
 go_wp2_with (fail)
 refine HU.out.mono ?_
 rintro e w1 ⟨rfl,hb1⟩
 have HO1:=Lib.hid (HO.out.below hb1 hd)
 have HB:=Lib.hid hb1
 have hz:=hb1.size
 rw[HS.out]
 clear hb1 HU HO k0 k1
 obtain⟨S2,hS2⟩: ∃z,tn (Crc.sum (bw l++bw m))=z:=⟨_,rfl⟩
 have HS2:=Lib.hid hS2
 have k0:=HO1.out.1 0 _ rfl
 have k1:=HO1.out.1 1 (.int .i64 (L:Nat)) (by rw[←HL.out];rfl)
 have f0:=HO1.out.2 0
 have f1:=HO1.out.2 1
 rw[hS2]
 clear hS2
 go_wp2_with (fail)
 go_end0
 refine⟨by rfl,?_,((Fr.of_below (F:=[db]) HB.out).setCell (p:=⟨db,0,none⟩) (.inl (by simp)) _).setCell (p:=⟨db,1,none⟩) (.inl (by simp)) _⟩
 have:=(HO1.out.set 0 (.int .u32 (S2:Nat)) (by simp)).set 1 (.int .i64 ((L+n:Nat):Int)) (by simp)
 unfold Dg
 rw[bw_app,HS2.out,List.length_append,HL.out,←HN.out]
 exact this
theorem djoin_any (l m:List Nat) (db:Nat) (w:World) (hO:Dg w db l) (hd:db<w.heap.size) (hl:m.length≤1000000000) (hl2:l.length≤1000000000):
  Calls Tryz.prog 13 #[.pointer (some ⟨db,0,none⟩),.agg #[.int .u32 (tn (Crc.sum (bw m)):Nat),.int .i64 (m.length:Nat)]] w fun e w'=>e= .returned (.tuple #[])∧Dg w' db (l++m)∧Fr [db] w w':=by
 have HC:=Lib.hid (fun W=>combine_any (Crc.sum (bw l)) (Crc.sum (bw m)) m.length (by omega) W)
 have q1:IntKind.i64.wrap ((l.length:Int)+(m.length:Int))=((l.length+m.length:Nat):Int):=by rw[IntWalk.i64_in _ (by omega)];omega
 obtain⟨wa,hwa⟩: ∃z:World,z=w.alloc (.cells #[.int .u32 (tn (Crc.sum (bw m)):Nat),.int .i64 (m.length:Nat)] 34):=⟨_,rfl⟩
 have HD:Hid (Own wa w.heap.size [.int .u32 (tn (Crc.sum (bw m)):Nat),.int .i64 (m.length:Nat)]):=Lib.hid (by rw[hwa];exact Own.new_at _ _ _ _ rfl)
 have HO:Hid (Dg wa db l):=Lib.hid (by rw[hwa];exact Own.below hO ((Below.refl _ _).alloc (Nat.le_refl _) _) hd)
 have HF:Hid (Fr [db] w wa):=Lib.hid (by rw[hwa];exact (Fr.refl _ _).alloc _)
 have hza:w.heap.size<wa.heap.size:=by rw[hwa];simp
 clear hO
 go_enter Tryz.func13,Tryz.ntmps13
 go_upto_region 1 with (fail)
 rw[←hwa]
 clear hwa
 refine Mono.region_tail 12 (by kernel_rfl) (by kernel_rfl) (by kernel_rfl) (by kernel_rfl) ?_
 simp only[List.take_succ_cons,List.take_zero]
 refine Mono.hgl_val (v:= ?v0) rfl Mono.rr (fun ρ a W hR hd hf=> ?h0) ?_
 case h0=>
  have e0:=Mono.init_get hf (t:=0) (by kernel_rfl)
  clear hd hf
  (go_simp;try with_reducible rfl)
 refine Mono.hgl_val (v:= ?v1) rfl Mono.rr (fun ρ a W hR hd hf=> ?h1) ?_
 case h1=>
  have e0:=Mono.init_get hf (t:=0) (by kernel_rfl)
  clear hd hf
  (go_simp;try with_reducible rfl)
 refine Mono.hgl_val (v:= ?v2) rfl Mono.rr (fun ρ a W hR hd hf=> ?h2) ?_
 case h2=>
  have e5:=Mono.dep_val hd hf (t:=5) (k:=1) (by kernel_rfl) rfl
  clear hd hf
  (go_simp;try with_reducible rfl)
 refine Mono.hgl_val (v:= ?v3) rfl Mono.rr (fun ρ a W hR hd hf=> ?h3) ?_
 case h3=>
  have e6:=Mono.dep_val hd hf (t:=6) (k:=2) (by kernel_rfl) rfl
  clear hd hf
  (go_simp;try with_reducible rfl)
 refine Mono.hgl_val (v:= ?v4) rfl Mono.rr (fun ρ a W hR hd hf=> ?h4) ?_
 case h4=>
  have e7:=Mono.dep_val hd hf (t:=7) (k:=3) (by kernel_rfl) rfl
  have c0:=(HO.out.below hR (by omega)).1 0 _ rfl
  clear hd hf
  (go_simp;try with_reducible rfl)
 refine Mono.hgl_val (v:= ?v5) rfl Mono.rr (fun ρ a W hR hd hf=> ?h5) ?_
 case h5=>
  have e3:=Mono.init_get hf (t:=3) (by kernel_rfl)
  clear hd hf
  (go_simp;try with_reducible rfl)
 refine Mono.hgl_val (v:= ?v6) rfl Mono.rr (fun ρ a W hR hd hf=> ?h6) ?_
 case h6=>
  have e9:=Mono.dep_val hd hf (t:=9) (k:=5) (by kernel_rfl) rfl
  have c1:=(HD.out.below hR (by omega)).1 0 _ rfl
  clear hd hf
  (go_simp;try with_reducible rfl)
 refine Mono.hgl_val (v:= ?v7) rfl Mono.rr (fun ρ a W hR hd hf=> ?h7) ?_
 case h7=>
  have e3:=Mono.init_get hf (t:=3) (by kernel_rfl)
  clear hd hf
  (go_simp;try with_reducible rfl)
 refine Mono.hgl_val (v:= ?v8) rfl Mono.rr (fun ρ a W hR hd hf=> ?h8) ?_
 case h8=>
  have e11:=Mono.dep_val hd hf (t:=11) (k:=7) (by kernel_rfl) rfl
  have c2:=(HD.out.below hR (by omega)).1 1 _ rfl
  clear hd hf
  (go_simp;try with_reducible rfl)
 refine Mono.hgl_call (fun x _=>x= .int .u32 (tn (Crc.Zn (8*m.length) (Crc.sum (bw l))^^^Crc.sum (bw m)):Nat)) rfl Mono.rr (fun _ _ _ h _=>h) (fun ρ a W hR hd hf=> ?h9) ?_
 case h9=>
  have e8:=Mono.dep_val hd hf (t:=8) (k:=4) (by kernel_rfl) rfl
  have e10:=Mono.dep_val hd hf (t:=10) (k:=6) (by kernel_rfl) rfl
  have e12:=Mono.dep_val hd hf (t:=12) (k:=8) (by kernel_rfl) rfl
  clear hd hf
  refine⟨_,_,by go_simp;first|rfl|exact⟨rfl,rfl⟩,?_⟩
  exact (HC.out W).mono (fun e W' ⟨he,hb⟩=>⟨_,he,hb,rfl⟩)
 refine Mono.hgl_val (v:= ?v10) rfl Mono.rr (fun ρ a W hR hd hf=> ?h10) ?_
 case h10=>
  have e4:=Mono.dep_val hd hf (t:=4) (k:=0) (by kernel_rfl) rfl
  clear hd hf
  (go_simp;try with_reducible rfl)
 refine Mono.hgl_val (v:= ?v11) rfl Mono.rr (fun ρ a W hR hd hf=> ?h11) ?_
 case h11=>
  have e14:=Mono.dep_val hd hf (t:=14) (k:=10) (by kernel_rfl) rfl
  clear hd hf
  (go_simp;try with_reducible rfl)
 refine Mono.hgl_done rfl (by decide) (fun ρ W hR ht=> ?_)
 simp only[List.take_succ_cons,List.take_zero,List.drop_succ_cons,List.drop_zero]
 obtain⟨d11,d10,d9,d8,d7,d6,d5,d4,d3,d2,d1,d0,_⟩:=ht
 simp only[List.length_cons,List.length_nil,Nat.reduceAdd] at d0 d1 d2 d3 d4 d5 d6 d7 d8 d9 d10 d11
 simp only[Mono.putAll,Nat.reduceAdd,d0,d1,d2,d3,d4,d5,d6,d7,d8,d9,d10,d11,Act.put,List.setIfInBounds_toArray,List.set_cons_zero,List.set_cons_succ]
 clear d0 d1 d2 d3 d4 d5 d6 d7 d8 d9 d10 d11
 have HO1:=Lib.hid (HO.out.below hR (by omega))
 have HD1:=Lib.hid (HD.out.below hR (by omega))
 have HF1:=Lib.hid (HF.out.trans (Fr.of_below (F:=[db]) hR) (fun x hx _=>hx))
 have hz1:=hR.size
 have f0:=HO1.out.2 0
 clear hR HO HD HF
 have hsj:Crc.Zn (8*m.length) (Crc.sum (bw l))^^^Crc.sum (bw m)=Crc.sum (bw (l++m)):=by rw[bw_app,Crc.sum_join,bw_len]
 rw[hsj]
 clear hsj
 have k0:=HO1.out.1 0 _ rfl
 obtain⟨S2,hS2⟩: ∃z,tn (Crc.sum (bw (l++m)))=z:=⟨_,rfl⟩
 have HS2:=Lib.hid hS2
 rw[hS2]
 clear hS2
 obtain⟨w5,hw5⟩: ∃z:World,z=W.setCell ⟨db,0,none⟩ (.int .u32 (S2:Nat)):=⟨_,rfl⟩
 have HO2:Hid (Own w5 db [.int .u32 (S2:Nat),.int .i64 (l.length:Nat)]):=Lib.hid (by rw[hw5];exact HO1.out.set 0 _ (by simp))
 have HD2:Hid (Own w5 w.heap.size [.int .u32 (tn (Crc.sum (bw m)):Nat),.int .i64 (m.length:Nat)]):=Lib.hid (by rw[hw5];exact HD1.out.other (by omega) _ _)
 have HF2:Hid (Fr [db] w w5):=Lib.hid (by rw[hw5];exact HF1.out.setCell (p:=⟨db,0,none⟩) (.inl (by simp)) _)
 have hz2:w.heap.size<w5.heap.size:=by rw[hw5];simp;omega
 clear HO1 HD1 HF1
 go_upto_region 2 with (fail)
 rw[←hw5]
 clear hw5 k0 f0
 refine Mono.region_tail 9 (by kernel_rfl) (by kernel_rfl) (by kernel_rfl) (by kernel_rfl) ?_
 simp only[List.take_succ_cons,List.take_zero]
 refine Mono.hgl_val (v:= ?vq0) rfl Mono.rr (fun ρ a W hR hd hf=> ?hq0) ?_
 case hq0=>
  have e0:=Mono.init_get hf (t:=0) (by kernel_rfl)
  clear hd hf
  (go_simp;try with_reducible rfl)
 refine Mono.hgl_val (v:= ?vq1) rfl Mono.rr (fun ρ a W hR hd hf=> ?hq1) ?_
 case hq1=>
  have e16:=Mono.dep_val hd hf (t:=16) (k:=0) (by kernel_rfl) rfl
  clear hd hf
  (go_simp;try with_reducible rfl)
 refine Mono.hgl_val (v:= ?vq2) rfl Mono.rr (fun ρ a W hR hd hf=> ?hq2) ?_
 case hq2=>
  have e17:=Mono.dep_val hd hf (t:=17) (k:=1) (by kernel_rfl) rfl
  clear hd hf
  (go_simp;try with_reducible rfl)
 refine Mono.hgl_val (v:= ?vq3) rfl Mono.rr (fun ρ a W hR hd hf=> ?hq3) ?_
 case hq3=>
  have e18:=Mono.dep_val hd hf (t:=18) (k:=2) (by kernel_rfl) rfl
  have c0:=(HO2.out.below hR (by omega)).1 1 _ rfl
  clear hd hf
  (go_simp;try with_reducible rfl)
 refine Mono.hgl_val (v:= ?vq4) rfl Mono.rr (fun ρ a W hR hd hf=> ?hq4) ?_
 case hq4=>
  have e3:=Mono.init_get hf (t:=3) (by kernel_rfl)
  clear hd hf
  (go_simp;try with_reducible rfl)
 refine Mono.hgl_val (v:= ?vq5) rfl Mono.rr (fun ρ a W hR hd hf=> ?hq5) ?_
 case hq5=>
  have e20:=Mono.dep_val hd hf (t:=20) (k:=4) (by kernel_rfl) rfl
  have c1:=(HD2.out.below hR (by omega)).1 1 _ rfl
  clear hd hf
  (go_simp;try with_reducible rfl)
 refine Mono.hgl_val (v:= ?vq6) rfl Mono.rr (fun ρ a W hR hd hf=> ?hq6) ?_
 case hq6=>
  have e19:=Mono.dep_val hd hf (t:=19) (k:=3) (by kernel_rfl) rfl
  have e21:=Mono.dep_val hd hf (t:=21) (k:=5) (by kernel_rfl) rfl
  clear hd hf
  (go_simp;try with_reducible rfl)
 refine Mono.hgl_val (v:= ?vq7) rfl Mono.rr (fun ρ a W hR hd hf=> ?hq7) ?_
 case hq7=>
  have e16:=Mono.dep_val hd hf (t:=16) (k:=0) (by kernel_rfl) rfl
  clear hd hf
  (go_simp;try with_reducible rfl)
 refine Mono.hgl_val (v:= ?vq8) rfl Mono.rr (fun ρ a W hR hd hf=> ?hq8) ?_
 case hq8=>
  have e23:=Mono.dep_val hd hf (t:=23) (k:=7) (by kernel_rfl) rfl
  clear hd hf
  (go_simp;try with_reducible rfl)
 refine Mono.hgl_done rfl (by decide) (fun ρ W hR ht=> ?_)
 simp only[List.take_succ_cons,List.take_zero,List.drop_succ_cons,List.drop_zero]
 obtain⟨dq8,dq7,dq6,dq5,dq4,dq3,dq2,dq1,dq0,_⟩:=ht
 simp only[List.length_cons,List.length_nil,Nat.reduceAdd] at dq0 dq1 dq2 dq3 dq4 dq5 dq6 dq7 dq8
 simp only[Mono.putAll,Nat.reduceAdd,dq0,dq1,dq2,dq3,dq4,dq5,dq6,dq7,dq8,Act.put,List.setIfInBounds_toArray,List.set_cons_zero,List.set_cons_succ]
 clear dq0 dq1 dq2 dq3 dq4 dq5 dq6 dq7 dq8
 have HO3:=Lib.hid (HO2.out.below hR (by omega))
 have HF3:=Lib.hid (HF2.out.trans (Fr.of_below (F:=[db]) hR) (fun x hx _=>hx))
 clear hR
 have k1:=HO3.out.1 1 _ rfl
 have f1:=HO3.out.2 1
 go_wp2_with (fail)
 go_end0
 refine⟨by rfl,?_,HF3.out.setCell (p:=⟨db,1,none⟩) (.inl (by simp)) _⟩
 have:=HO3.out.set 1 (.int .i64 ((l.length+m.length:Nat):Int)) (by simp)
 unfold Dg
 rw[HS2.out,List.length_append]
 exact this
theorem dsum_any (l:List Nat) (db:Nat) (w:World) (hO:Dg w db l):
  Calls Tryz.prog 17 #[.pointer (some ⟨db,0,none⟩)] w fun e w'=>e= .returned (.int .u32 (tn (Crc.sum (bw l)):Nat))∧w'=w:=by
 have k0:=hO.1 0 _ rfl
 clear hO
 go_enter Tryz.func17,Tryz.ntmps17
 go_wp2_with (fail)
 go_ret
 exact⟨by rfl,rfl⟩
theorem dlen_any (l:List Nat) (db:Nat) (w:World) (hO:Dg w db l):
  Calls Tryz.prog 18 #[.pointer (some ⟨db,0,none⟩)] w fun e w'=>e= .returned (.int .i64 (l.length:Nat))∧w'=w:=by
 have k0:=hO.1 1 _ rfl
 clear hO
 go_enter Tryz.func18,Tryz.ntmps18
 go_wp2_with (fail)
 go_ret
 exact⟨by rfl,rfl⟩
end Go.Proofs.YtmdgeoalamancaaGreatDoor
