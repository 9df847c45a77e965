/- Counts: lensOf, cost, Lens. Counts of tokens. Counts of tokens: Add, Fixed, Dynamic. Runs of lengths: run, repeat. -/
import Derived.Test.YtmdgeoalamancaaGreatDoorZAT
import Derived.Test.YtmdgeoalamancaaGreatDoorZAJ
import Derived.Test.YtmdgeoalamancaaGreatDoorZAO
import Derived.Deep.MidRow
import Derived.Test.YtmdgeoalamancaaGreatDoorZAR
import Derived.Laws.Cover1
set_option maxRecDepth 100000
set_option linter.unusedVariables false
set_option linter.unusedSimpArgs false
namespace Go.Proofs.YtmdgeoalamancaaGreatDoor
open Go.RowKit
open Bt Can Mc Pk
set_option maxHeartbeats 4000000 in
theorem lcost_any (cs ls:List Nat) (n B B2:Nat) (v v2:Value) (w:World) (h:Sl w B 1 v n (iC cs)) (hB:B≤w.heap.size) (h2:Sl w B2 1 v2 n (iC ls)) (hB2:B2≤w.heap.size) (hn:n=cs.length) (hn2:n=ls.length) (h1:1≤n) (hl:n≤1000) (hx: ∀x∈cs,x≤1099511627776) (hx2: ∀x∈ls,x≤15):Calls Tryz.prog 196 #[v,v2] w fun e w'=>(∃x:Int,e= .returned (.tuple #[.int .i64 x,.int .i64 0]))∧Below w.heap.size w w':=by
 have HC:=Lib.hid (fun (W:World) (hW:Below w.heap.size w W)=>counted_any cs n B v W (h.below (hW.mono hB)) (by have:=hW.size;omega) hn h1 hl hx)
 obtain⟨bb,off,cap,rfl,hcap,hbb,HK⟩:=h.kept hB h1
 obtain⟨bb2,off2,cap2,rfl,hcap2,hbb2,HK2⟩:=h2.kept hB2 h1
 have HN:=Lib.hid hn
 have HN2:=Lib.hid hn2
 have HX2:=Lib.hid hx2
 have e0:((n:Int) != (n:Int))=false:=by simp
 clear h h2 hn hn2 hx hx2
 go_enter Tryz.func196,Tryz.ntmps196
 go_wp2_with (fail)
 refine (HC.out w (Below.refl _ _)).mono ?_
 rintro e w1 ⟨rfl,hb1⟩
 have HB1:=Lib.hid hb1
 clear hb1 HC
 go_upto_region 5 with (fail)
 go_loopw [21,6] (fun u s wr=> ∃(i:Nat) (x:Int),u= .int .i64 i∧s= .int .i64 x∧i≤n∧Hid (Below w.heap.size w wr)) (fun u _ _=>n-(intOf u).toNat)
 case atStart=>exact⟨0,0,rfl,rfl,Nat.zero_le _,HB1⟩
 case round=>
  clear HB1
  obtain⟨i,sx,rfl,rfl,hi,HB⟩:=hrel
  obtain⟨wo,rfl⟩: ∃z:World,z=wr:=⟨_,rfl⟩
  by_cases hlt:i<n
  ·as_aux_lemma=>
   have e1:decide (i<n)=true:=decide_eq_true hlt
   have e1':decide ((i:Int)<(n:Int))=true:=decide_eq_true (by omega)
   obtain⟨x,hx⟩: ∃x,cs[i]? =some x:=⟨_,List.getElem?_eq_getElem (by have:=HN.out;omega)⟩
   obtain⟨y,hy⟩: ∃x,ls[i]? =some x:=⟨_,List.getElem?_eq_getElem (by have:=HN2.out;omega)⟩
   have hy15:=HX2.out y (List.mem_of_getElem? hy)
   have ca:=HK.out wo HB.out i x hx
   have cb:=HK2.out wo HB.out i y hy
   have d1:decide ((y:Int)<0)=false:=decide_eq_false (by omega)
   have d2:decide ((15:Int)<(y:Int))=false:=decide_eq_false (by omega)
   have d2':decide (15<y)=false:=decide_eq_false (by omega)
   have hli:(i:Int)<(n:Int):=by omega
   have p3:IntKind.i64.wrap ((i:Int)+1)=((i+1:Nat):Int):=by rw[IntWalk.i64_in _ (by omega)];omega
   clear hx hy hy15
   go_wp2_with (fail)
   go_roundw
   case rel=>exact⟨i+1,_,rfl,rfl,hlt,HB⟩
   case measure=>simp[intOf]<;>omega
  ·have e1:decide (i<n)=false:=decide_eq_false hlt
   have e1':decide ((i:Int)<(n:Int))=false:=decide_eq_false (by omega)
   go_wp2_with (fail)
   go_ret2
   exact⟨⟨_,rfl⟩,HB.out⟩
set_option maxHeartbeats 2000000 in
theorem ccost_any (cs ls:List Nat) (n B B2:Nat) (v v2:Value) (w:World) (h:Sl w B 1 v n (iC cs)) (hB:B≤w.heap.size) (h2:Sl w B2 1 v2 n (iC ls)) (hB2:B2≤w.heap.size) (hn:n=cs.length) (hn2:n=ls.length) (h1:1≤n) (hl:n≤1000) (hx: ∀x∈cs,x≤1099511627776) (hx2: ∀x∈ls,x≤15):Calls Tryz.prog 186 #[v,v2] w fun e w'=>(∃x:Int,e= .returned (.int .i64 x))∧Below w.heap.size w w':=by
 have HC:=Lib.hid (lcost_any cs ls n B B2 v v2 w h hB h2 hB2 hn hn2 h1 hl hx hx2)
 clear h h2 hn hn2 hx hx2
 go_enter Tryz.func186,Tryz.ntmps186
 go_wp2_with (fail)
 refine HC.out.mono ?_
 rintro e w1 ⟨⟨x,rfl⟩,hb1⟩
 have HB1:=Lib.hid hb1
 clear hb1 HC
 go_wp2_with (fail)
 go_ret
 exact⟨⟨x,rfl⟩,HB1.out⟩
set_option maxHeartbeats 2000000 in
theorem lensOf_any (cs:List Nat) (n B:Nat) (v:Value) (w:World) (h:Sl w B 1 v n (iC cs)) (hB:B≤w.heap.size) (hn:n=cs.length) (h1:1≤n) (hl:n≤1000) (hx: ∀x∈cs,x≤1099511627776):Calls Tryz.prog 166 #[v] w fun e w'=> ∃v' ls,e= .returned v'∧Row w.heap.size 3 1 w' v' n (iC ls)∧Below w.heap.size w w'∧Made cs ls 15:=by
 have HC:=Lib.hid (make_any cs n 14 15 B v w h hB hn h1 hl hx rfl (by omega) (by have:=occ_len cs n;omega))
 clear h hn hx
 go_enter Tryz.func166,Tryz.ntmps166
 go_wp2_with (fail)
 refine HC.out.mono ?_
 rintro e w1 ⟨v',ls,rfl,hr,hb1,hm⟩
 obtain⟨la,lc,rfl,_⟩:=hr.form
 have HR:=Lib.hid (And.intro hr (And.intro hb1 hm))
 clear hr hb1 hm HC
 go_wp2_with (fail)
 go_ret
 exact⟨_,ls,rfl,HR.out⟩
def tbC (L D:List Nat) (E:Int):List Value:=iC L++(iC D++[.int .i64 E])
structure Tbl (m:Nat) (L D:List Nat):Prop where
 l:L.length=286
 d:D.length=30
 e:L.getD 256 0=1
 lm: ∀s,s≠256→L.getD s 0≤m
 dm: ∀s,D.getD s 0≤m
theorem mem_getD {l:List Nat} {x:Nat} (h:x∈l): ∃s,l.getD s 0=x:=by
 obtain⟨i,hi,e⟩:=List.mem_iff_getElem.1 h
 exact⟨i,by rw[List.getD_eq_getElem?_getD,List.getElem?_eq_getElem hi,e];rfl⟩
theorem Tbl.lle {m:Nat} {L D:List Nat} (h:Tbl m L D) (hm:m≤1000000): ∀x∈L,x≤1099511627776:=fun x hx=>by
 obtain⟨s,rfl⟩:=mem_getD hx
 by_cases e:s=256
 ·subst e;rw[h.e];omega
 ·have:=h.lm s e;omega
theorem Tbl.dle {m:Nat} {L D:List Nat} (h:Tbl m L D) (hm:m≤1000000): ∀x∈D,x≤1099511627776:=fun x hx=>by
 obtain⟨s,rfl⟩:=mem_getD hx
 have:=h.dm s
 omega
theorem tbC_len {m:Nat} {L D:List Nat} {E:Int} (h:Tbl m L D):(tbC L D E).length=317:=by unfold tbC;rw[List.length_append,List.length_append,iC_len,iC_len,h.l,h.d];rfl
theorem tbC_l {L D:List Nat} {E:Int} {s x:Nat} (h:L[s]? =some x):(tbC L D E)[s]? =some (.int .i64 (x:Nat)):=by
 unfold tbC
 rw[List.getElem?_append_left (by rw[iC_len];exact (List.getElem?_eq_some_iff.1 h).1)]
 exact iC_get h
theorem tbC_d {L D:List Nat} {E:Int} {s x:Nat} (hl:L.length=286) (h:D[s]? =some x):(tbC L D E)[286+s]? =some (.int .i64 (x:Nat)):=by
 unfold tbC
 rw[List.getElem?_append_right (by rw[iC_len];omega),iC_len,hl,Nat.add_sub_cancel_left,List.getElem?_append_left (by rw[iC_len];exact (List.getElem?_eq_some_iff.1 h).1)]
 exact iC_get h
theorem tbC_e {L D:List Nat} {E:Int} (hl:L.length=286) (hd:D.length=30):(tbC L D E)[316]? =some (.int .i64 E):=by
 unfold tbC
 rw[List.getElem?_append_right (by rw[iC_len];omega),iC_len,hl,List.getElem?_append_right (by rw[iC_len];omega),iC_len,hd]
 rfl
theorem tb_sl {w:World} {b B:Nat} {L D:List Nat} {E:Int} (hb:Own w b (tbC L D E)) (hB:b<B) (hl:L.length=286) (hd:D.length=30):Sl w B 1 (.slice (some ⟨b,0,none⟩) 286 286) 286 (iC L)∧Sl w B 1 (.slice (some ⟨b,286,none⟩) 30 30) 30 (iC D):=by
 refine⟨⟨by rw[iC_len,hl],_,286,rfl,Nat.le_refl _,.inr ⟨b,0,rfl,hB,fun j u hj=> ?_⟩⟩,⟨by rw[iC_len,hd],_,30,rfl,Nat.le_refl _,.inr ⟨b,286,rfl,hB,fun j u hj=> ?_⟩⟩⟩
 ·rw[Nat.zero_add]
  refine hb.1 j u ?_
  unfold tbC
  rw[List.getElem?_append_left (List.getElem?_eq_some_iff.1 hj).1]
  exact hj
 ·refine hb.1 (286+j) u ?_
  unfold tbC
  rw[List.getElem?_append_right (by rw[iC_len];omega),iC_len,hl,Nat.add_sub_cancel_left,List.getElem?_append_left (List.getElem?_eq_some_iff.1 hj).1]
  exact hj
set_option maxHeartbeats 2000000 in
theorem lens_any (L D:List Nat) (E:Int) (m:Nat) (w:World) (h:Tbl m L D) (hm:m≤1000000):Calls Tryz.prog 127 #[.agg (tbC L D E).toArray] w fun e w'=> ∃vl vd ls ds,e= .returned (.tuple #[vl,vd])∧Row w.heap.size 3 1 w' vl 286 (iC ls)∧Row w.heap.size 3 1 w' vd 30 (iC ds)∧Below w.heap.size w w'∧Made L ls 15∧Made D ds 15:=by
 obtain⟨wa,hwa⟩: ∃z:World,z=w.alloc (.cells (tbC L D E).toArray 219):=⟨_,rfl⟩
 have HB:Hid (Below w.heap.size w wa):=Lib.hid (by rw[hwa];exact (Below.refl _ _).alloc (Nat.le_refl _) _)
 have HO:Hid (Own wa w.heap.size (tbC L D E)):=Lib.hid (by rw[hwa];exact Own.new_at w _ _ _ rfl)
 have hz:w.heap.size<wa.heap.size:=by rw[hwa];simp
 have hsl: ∀W,Below wa.heap.size wa W→Sl W W.heap.size 1 (.slice (some ⟨w.heap.size,0,none⟩) 286 286) 286 (iC L)∧Sl W W.heap.size 1 (.slice (some ⟨w.heap.size,286,none⟩) 30 30) 30 (iC D):=fun W hW=>tb_sl (B:=W.heap.size) (E:=E) (HO.out.below hW hz) (Nat.lt_of_lt_of_le hz hW.size) h.l h.d
 have HLL:Hid (∀(W:World) (o n:Nat),(o=0∧n=286)∨(o=286∧n=30)→Below wa.heap.size wa W→Calls Tryz.prog 166 #[.slice (some ⟨w.heap.size,o,none⟩) n n] W fun e w'=> ∃v' ls,e= .returned v'∧Row W.heap.size 3 1 w' v' n (iC ls)∧Below W.heap.size W w'∧(o=0→Made L ls 15)∧(o=286→Made D ls 15)):=Lib.hid (fun W o n hc hW=>by
  rcases hc with ⟨rfl,rfl⟩|⟨rfl,rfl⟩
  ·refine (lensOf_any L 286 W.heap.size (.slice (some ⟨w.heap.size,0,none⟩) 286 286) W (hsl W hW).1 (Nat.le_refl _) h.l.symm (by omega) (by omega) (h.lle hm)).mono ?_
   rintro e w' ⟨v',ls,h1,h2,h3,h4⟩
   exact⟨v',ls,h1,h2,h3,fun _=>h4,fun h=>by omega⟩
  ·refine (lensOf_any D 30 W.heap.size (.slice (some ⟨w.heap.size,286,none⟩) 30 30) W (hsl W hW).2 (Nat.le_refl _) h.d.symm (by omega) (by omega) (h.dle hm)).mono ?_
   rintro e w' ⟨v',ls,h1,h2,h3,h4⟩
   exact⟨v',ls,h1,h2,h3,fun h=>by omega,fun _=>h4⟩)
 obtain⟨cs,hcs⟩: ∃z,tbC L D E=z:=⟨_,rfl⟩
 rw[hcs] at hwa HO ⊢
 clear hcs h hsl
 go_enter Tryz.func127,Tryz.ntmps127
 go_upto_region 1 with (fail)
 rw[←hwa]
 clear hwa
 obtain⟨tb,htb⟩: ∃z,w.heap.size=z:=⟨_,rfl⟩
 have HTB:=Lib.hid htb
 rw[htb] at HO hz HLL ⊢
 clear htb
 go_region_with (go_at_call 166
                 refine (HLL.out _ _ _ (by first|exact .inl ⟨rfl,rfl⟩|exact .inr ⟨rfl,rfl⟩) (by first|exact HB3.out|exact (Below.refl _ _).drew)).mono ?_
                 first
                  |(have HB3':=HB3.out
                    rintro e w4 ⟨v4,ds,rfl,hr4,hb4,_,hm4⟩
                    obtain⟨la4,lc4,rfl,_⟩:=hr4.form
                    have HR4:=Lib.hid (And.intro hr4 (hm4 rfl))
                    have HB4:=Lib.hid hb4
                    clear hr4 hb4 hm4 HB3')
                  |(rintro e w3 ⟨v3,ls,rfl,hr3,hb3,hm3,_⟩
                    obtain⟨la3,lc3,rfl,_⟩:=hr3.form
                    have HR3:=Lib.hid (And.intro hr3 (hm3 rfl))
                    have HB3:Hid (Below wa.heap.size wa w3):=Lib.hid ((Below.refl wa.heap.size wa).drew.trans hb3)
                    clear hr3 hb3 hm3))
 all_goals
  go_wp2_with (fail)
  go_ret2
  have hz1:tb≤wa.heap.size:=by omega
  have hz3:=HB3.out.size
  refine⟨_,_,ls,ds,rfl,(HR3.out.1.below HB4.out).mono (by have:=HTB.out;have:wa.drew.heap.size=wa.heap.size:=rfl;omega),HR4.out.1.mono (by have:=HTB.out;omega),HB.out.trans ((HB3.out.trans (HB4.out.mono hz3)).mono HB.out.size),HR3.out.2,HR4.out.2⟩
end Go.Proofs.YtmdgeoalamancaaGreatDoor
namespace Go.Proofs.YtmdgeoalamancaaGreatDoor
open Go.RowKit
open Bt Can Mc Pk
theorem iC_set2 (l:List Nat) (j x:Nat):(iC l).set j (.int .i64 (x:Nat))=iC (l.set j x):=by unfold iC;rw[List.map_set]
theorem tbC_setL {L D:List Nat} {E:Int} {s:Nat} (x:Nat) (hl:L.length=286) (hs:s<286):(tbC L D E).set s (.int .i64 (x:Nat))=tbC (L.set s x) D E:=by
 unfold tbC
 rw[List.set_append_left _ _ (by rw[iC_len];omega),iC_set2]
theorem tbC_setD {L D:List Nat} {E:Int} {s:Nat} (x:Nat) (hl:L.length=286) (hd:D.length=30) (hs:s<30):(tbC L D E).set (286+s) (.int .i64 (x:Nat))=tbC L (D.set s x) E:=by
 unfold tbC
 rw[List.set_append_right _ _ (by rw[iC_len];omega),iC_len,hl,Nat.add_sub_cancel_left,List.set_append_left _ _ (by rw[iC_len];omega),iC_set2]
theorem tbC_setE {L D:List Nat} {E:Int} (E':Int) (hl:L.length=286) (hd:D.length=30):(tbC L D E).set 316 (.int .i64 E')=tbC L D E':=by
 unfold tbC
 rw[List.set_append_right _ _ (by rw[iC_len];omega),iC_len,hl,List.set_append_right _ _ (by rw[iC_len];omega),iC_len,hd]
 rfl
theorem getD_some {l:List Nat} {s:Nat} (h:s<l.length):l[s]? =some (l.getD s 0):=by
 rw[List.getD_eq_getElem?_getD,List.getElem?_eq_getElem h]
 rfl
theorem getD_set (l:List Nat) (s x t:Nat) (hs:s<l.length):(l.set s x).getD t 0=if t=s then x else l.getD t 0:=by
 rw[List.getD_eq_getElem?_getD,List.getD_eq_getElem?_getD]
 by_cases e:t=s
 ·subst e
  rw[if_pos rfl,List.getElem?_set_self hs]
  rfl
 ·rw[if_neg e,List.getElem?_set_ne (fun h=>e h.symm)]
def Hits (ts:List Tk.T) (L D:List Nat):Prop:= ∀t∈ts,(t.l=0→1≤L.getD t.c 0)∧(t.l≠0→1≤L.getD (257+plc lB t.l) 0∧1≤D.getD (plc dB t.d) 0)
structure Cn (ts:List Tk.T) (i:Nat) (L D:List Nat):Prop where
 l:L.length=286
 d:D.length=30
 e:L.getD 256 0=0
 lm: ∀s,L.getD s 0≤i
 dm: ∀s,D.getD s 0≤i
 hit:Hits (ts.take i) L D
theorem rep_getD (n s:Nat):(List.replicate n 0).getD s 0=0:=by
 rw[List.getD_eq_getElem?_getD,List.getElem?_replicate]
 split<;>rfl
theorem Cn.start (ts:List Tk.T):Cn ts 0 (List.replicate 286 0) (List.replicate 30 0):=
 ⟨List.length_replicate,List.length_replicate,rep_getD _ _,fun s=>by rw[rep_getD];exact Nat.zero_le _,fun s=>by rw[rep_getD];exact Nat.zero_le _,fun t ht=>by rw[List.take_zero] at ht;cases ht⟩
theorem Cn.lit {ts:List Tk.T} {i:Nat} {L D:List Nat} {t:Tk.T} (h:Cn ts i L D) (ht:ts[i]? =some t) (h0:t.l=0) (hc:t.c<256):Cn ts (i+1) (L.set t.c (L.getD t.c 0+1)) D:=by
 have hl:=h.l
 have hg:=fun s=>getD_set L t.c (L.getD t.c 0+1) s (by omega)
 refine⟨by rw[List.length_set];exact hl,h.d,by rw[hg,if_neg (by omega)];exact h.e,fun s=> ?_,fun s=>Nat.le_succ_of_le (h.dm s),fun u hu=> ?_⟩
 ·rw[hg]
  have:=h.lm s
  have:=h.lm t.c
  split<;>omega
 ·rw[List.take_add_one,ht,List.mem_append] at hu
  rcases hu with hu|hu
  ·obtain⟨a,b⟩:=h.hit u hu
   refine⟨fun q=> ?_,fun q=>⟨?_,(b q).2⟩⟩
   ·rw[hg];have:=a q;split
    ·omega
    ·exact this
   ·rw[hg];have:=(b q).1;split
    ·omega
    ·exact this
  ·simp at hu
   subst hu
   exact⟨fun _=>by rw[hg,if_pos rfl];omega,fun q=>absurd h0 q⟩
theorem Cn.mat {ts:List Tk.T} {i:Nat} {L D:List Nat} {t:Tk.T} (h:Cn ts i L D) (ht:ts[i]? =some t) (h0:t.l≠0) {s q:Nat} (hs:257+plc lB t.l=s) (hq:plc dB t.d=q) (h1:s<286) (h2:q<30):Cn ts (i+1) (L.set s (L.getD s 0+1)) (D.set q (D.getD q 0+1)):=by
 have hl:=h.l
 have hd:=h.d
 have hg:=fun k=>getD_set L s (L.getD s 0+1) k (by omega)
 have hk:=fun k=>getD_set D q (D.getD q 0+1) k (by omega)
 refine⟨by rw[List.length_set];exact hl,by rw[List.length_set];exact hd,by rw[hg,if_neg (by omega)];exact h.e,fun k=> ?_,fun k=> ?_,fun u hu=> ?_⟩
 ·rw[hg]
  have:=h.lm s
  have:=h.lm k
  split<;>omega
 ·rw[hk]
  have:=h.dm q
  have:=h.dm k
  split<;>omega
 ·rw[List.take_add_one,ht,List.mem_append] at hu
  rcases hu with hu|hu
  ·obtain⟨a,b⟩:=h.hit u hu
   refine⟨fun r=> ?_,fun r=>⟨?_,?_⟩⟩
   ·rw[hg];have:=a r;split
    ·omega
    ·exact this
   ·rw[hg];have:=(b r).1;split
    ·omega
    ·exact this
   ·rw[hk];have:=(b r).2;split
    ·omega
    ·exact this
  ·simp at hu
   subst hu
   exact⟨fun r=>absurd r h0,fun _=>⟨by rw[hs,hg,if_pos rfl];omega,by rw[hq,hk,if_pos rfl];omega⟩⟩
theorem Cn.done {ts:List Tk.T} {n:Nat} {L D:List Nat} (h:Cn ts n L D) (hn:n=ts.length):Tbl n (L.set 256 1) D∧Hits ts (L.set 256 1) D:=by
 have hl:=h.l
 have hg:=fun s=>getD_set L 256 1 s (by omega)
 have hh:=h.hit
 rw[hn,List.take_length] at hh
 refine⟨⟨by rw[List.length_set];exact hl,h.d,by rw[hg,if_pos rfl],fun s hs=>by rw[hg,if_neg hs];exact h.lm s,h.dm⟩,fun u hu=> ?_⟩
 obtain⟨a,b⟩:=hh u hu
 refine⟨fun q=> ?_,fun q=>⟨?_,(b q).2⟩⟩
 ·rw[hg];have:=a q;split
  ·omega
  ·exact this
 ·rw[hg];have:=(b q).1;split
  ·omega
  ·exact this
theorem tab_zero:Tryz.zeroCells219=(tbC (List.replicate 286 0) (List.replicate 30 0) 0).toArray:=by kernel_rfl
def Stop (p:Prop):Prop:=p
theorem stop_tab {P:Program} {ops:Array Oper} {Q:Exit→Act→World→Prop} {rest:List Oper} {a:Act} {w:World} {d:Option Tmp} {t:TypeId} {x:Operand} {pos:String} {aft:Array Edge} {g:Option (Nat × Bool)}
  (h:Stop (wpList P ops Q (⟨d,.load 219 x,t,pos,aft,g⟩::rest) a w)):wpList P ops Q (⟨d,.load 219 x,t,pos,aft,g⟩::rest) a w:=h
theorem stop_tabS {P:Program} {ops:Array Oper} {Q:Exit→Act→World→Prop} {rest:List Oper} {a:Act} {w:World} {d:Option Tmp} {t:TypeId} {x y:Operand} {pos:String} {aft:Array Edge} {g:Option (Nat × Bool)}
  (h:Stop (wpList P ops Q (⟨d,.store 219 x y,t,pos,aft,g⟩::rest) a w)):wpList P ops Q (⟨d,.store 219 x y,t,pos,aft,g⟩::rest) a w:=h
theorem Bk.row {w:World} {b t:Nat} {cs vs:List Value} (h:Bk w b t cs):Bk (w.setRow b vs.toArray) b t vs∧Fr [b] w (w.setRow b vs.toArray):=by
 refine⟨setRow_heap w b _ _ t (0,0) h,⟨rfl,rfl,rfl,by rw[setRow_size];exact Nat.le_refl _,fun k _ hn=>setRow_other w b k _ (fun e=>hn (by rw[e];simp))⟩⟩
theorem tab_isz:(Tryz.prog.info? 219).map (·.size)=some 317:=by kernel_rfl
theorem tbC_one (L D:List Nat) (E:Int): ∀u∈tbC L D E,u.oneCell'=true:=by
 intro u hu
 unfold tbC at hu
 rw[List.mem_append,List.mem_append,List.mem_singleton] at hu
 rcases hu with hu|hu|rfl
 ·exact iC_one _ u hu
 ·exact iC_one _ u hu
 ·rfl
theorem load_tab {ops:Array Oper} {Q:Exit→Act→World→Prop} {rest:List Oper} {a:Act} {w:World} {d:Option Tmp} {t:TypeId} {x:Operand} {pos:String} {aft:Array Edge} {b bt:Nat} {cs:List Value} (hb:Bk w b bt cs) (hx:a.eval x= .pointer (some ⟨b,0,none⟩)) (hl:cs.length=317)
  (h:wpList Tryz.prog ops Q rest (a.put d (.agg cs.toArray)) w):Stop (wpList Tryz.prog ops Q (⟨d,.load 219 x,t,pos,aft,none⟩::rest) a w):=
 wpList_load_row rfl _ _ rfl b hx bt cs.toArray (0,0) _ hb Tryz.underlying219 rfl (by rw[List.size_toArray,hl];exact tab_isz) h
theorem store_tab {ops:Array Oper} {Q:Exit→Act→World→Prop} {rest:List Oper} {a:Act} {w:World} {d:Option Tmp} {t:TypeId} {x y:Operand} {pos:String} {aft:Array Edge} {b bt:Nat} {cs vs:List Value} (hb:Bk w b bt cs) (hx:a.eval x= .pointer (some ⟨b,0,none⟩)) (hy:a.eval y= .agg vs.toArray) (hl:cs.length=317) (hv:vs.length=317) (h1: ∀u∈vs,u.oneCell'=true)
  (h: ∀w',Bk w' b bt vs→Fr [b] w w'→wpList Tryz.prog ops Q rest (a.put d undef) w'):Stop (wpList Tryz.prog ops Q (⟨d,.store 219 x y,t,pos,aft,none⟩::rest) a w):=by
 obtain⟨k1,k2⟩:=hb.row (vs:=vs)
 exact wpList_store_row rfl _ x y rfl b vs.toArray hx hy bt cs.toArray hb (by rw[List.size_toArray,hv];exact tab_isz) (by rw[List.size_toArray,List.size_toArray,hl,hv]) (Array.all_eq_true_iff_forall_mem.2 (fun v hm=>h1 v (by simpa using hm))) (h _ k1 k2)
theorem results_tab1 {fn:Func} {p:Tmp} (h:fn.results=#[.cell p 219]) (tmps:Array Value) (w:World) {b bt:Nat} {cs:List Value} (hb:Bk w b bt cs) (hl:cs.length=317) (hp:tmps.getD p undef= .pointer (some ⟨b,0,none⟩)):(results fn tmps).run Tryz.prog w= .ok (.agg cs.toArray) w:=
 results_cell_row h tmps w b bt cs.toArray (0,0) _ hp hb Tryz.underlying219 rfl (by rw[List.size_toArray,hl];exact tab_isz)
theorem results_tab2 {fn:Func} {p q:Tmp} {u:Value} (h:fn.results=#[.cell p 219,.tmp q]) (tmps:Array Value) (w:World) {b bt:Nat} {cs:List Value} (hb:Bk w b bt cs) (hl:cs.length=317) (hp:tmps.getD p undef= .pointer (some ⟨b,0,none⟩)) (hq:tmps.getD q undef=u):(results fn tmps).run Tryz.prog w= .ok (.tuple #[.agg cs.toArray,u]) w:=by
 have hp':tmps[p]?.getD undef= .pointer (some ⟨b,0,none⟩):=by simpa using hp
 have hq':tmps[q]?.getD undef=u:=by simpa using hq
 have hr:=run_loadVar_row (P:=Tryz.prog) w b bt 219 cs.toArray (0,0) _ hb Tryz.underlying219 rfl (by rw[List.size_toArray,hl];exact tab_isz)
 simp[results,h,hp',hq',asAddr,hr]
def OfP (ts:List Tk.T) (n:Nat) (w:World) (e:Ending) (w':World):Prop:= ∃L D E,e= .returned (.tuple #[.agg (tbC L D E).toArray,.int .i64 0])∧Tbl n L D∧Hits ts L D∧Below w.heap.size w w'
set_option maxHeartbeats 16000000 in
theorem of_any (ts:List Tk.T) (n B:Nat) (v:Value) (w:World) (h:Sl w B 3 v n (kC ts)) (hB:B≤w.heap.size) (hn:n=ts.length) (hl:n≤1000000) (ho: ∀t∈ts,Tk.Ok t) (hG:Gl w):Calls Tryz.prog 123 #[v] w (OfP ts n w):=by
 obtain⟨a,cap,rfl,hcap⟩:=h.form
 have HS:=Lib.hid (fun (W:World) (hW:Below w.heap.size w W)=>h.below (hW.mono hB))
 have HN:=Lib.hid hn
 have HO:=Lib.hid ho
 have HG:=Lib.hid hG
 obtain⟨z,hz⟩: ∃z:List Value,z=tbC (List.replicate 286 0) (List.replicate 30 0) 0:=⟨_,rfl⟩
 have hzc:Tryz.zeroCells219=z.toArray:=by rw[hz];exact tab_zero
 have HZ:=Lib.hid hz
 clear hz
 obtain⟨wa,hwa⟩: ∃q:World,q=(w.alloc (.cells z.toArray 219)).alloc (.cells z.toArray 219):=⟨_,rfl⟩
 have HR0:Hid (Bk wa w.heap.size 219 z):=Lib.hid (by rw[hwa];exact (Bk.new w _ z).below ((Below.refl _ _).alloc (Nat.le_refl _) _))
 have HT0:Hid (Bk wa (w.heap.size+1) 219 z):=Lib.hid (by
  rw[hwa]
  have:=Bk.new (w.alloc (.cells z.toArray 219)) 219 z
  simpa using this)
 have HB0:Hid (Below w.heap.size w wa):=Lib.hid (by rw[hwa];exact ((Below.refl _ _).alloc (Nat.le_refl _) _).alloc (by simp) _)
 have hza:w.heap.size+2≤wa.heap.size:=by rw[hwa];simp
 clear h hn ho hG
 go_enter Tryz.func123,Tryz.ntmps123
 go_upto_region 2 with (fail)
 rw[←hwa]
 clear hwa hzc
 obtain⟨rb,hrb⟩: ∃z,w.heap.size=z:=⟨_,rfl⟩
 have HRB:=Lib.hid hrb
 rw[hrb] at HR0 HT0 hza ⊢
 clear hrb
 rw[HZ.out] at HT0
 obtain⟨tb,htb⟩: ∃z,rb+1=z:=⟨_,rfl⟩
 have HTB:=Lib.hid htb
 rw[htb] at HT0 ⊢
 have hrt:rb<tb:=by omega
 have hza2:tb<wa.heap.size:=by omega
 clear htb hza
 go_upto_region 3 with (fail)
 go_loopw [13] (fun u wr=> ∃(i:Nat) (L D:List Nat) (E:Int),u= .int .i64 (i:Nat)∧i≤n∧Hid (Cn ts i L D)∧Hid (Bk wr rb 219 z)∧Hid (Bk wr tb 219 (tbC L D E))∧Hid (Below w.heap.size w wr)∧tb<wr.heap.size) (fun u _=>n-(intOf u).toNat)
 case atStart=>exact⟨0,List.replicate 286 0,List.replicate 30 0,0,rfl,Nat.zero_le _,Lib.hid (Cn.start ts),HR0,HT0,HB0,hza2⟩
 case round=>
  clear HR0 HT0 HB0 hza2
  obtain⟨i,L,D,E,rfl,hi,HCN,HR,HT,HB,hzr⟩:=hrel
  obtain⟨wo,rfl⟩: ∃z:World,z=wr:=⟨_,rfl⟩
  by_cases hlt:i<n
  ·have d1:decide (i<n)=true:=decide_eq_true hlt
   have d2:decide ((i:Int)<(n:Int))=true:=decide_eq_true (by omega)
   have q1:IntKind.i64.wrap ((i:Int)+1)=((i+1:Nat):Int):=by rw[IntWalk.i64_in _ (by omega)];omega
   have hji:(i:Int)<(n:Int):=by omega
   obtain⟨t,ht⟩: ∃t,ts[i]? =some t:=⟨_,List.getElem?_eq_getElem (by have:=HN.out;omega)⟩
   have hok:=HO.out t (List.mem_of_getElem? ht)
   obtain⟨b,off,rfl,k0,k1,k2⟩:=sl_tok (HS.out wo HB.out) HN.out ht
   have HTS:=Lib.hid (fun W=>right_any t hok W)
   have HTI:=Lib.hid ht
   have HOK:=Lib.hid hok
   clear ht hok
   obtain⟨c,l,d⟩:=t
   dsimp only at k0 k1 k2 HTS
   obtain⟨w2,hw2⟩: ∃q:World,q=wo.alloc (.cells #[.int .u8 (c:Nat),.int .i64 (l:Nat),.int .i64 (d:Nat)] 162):=⟨_,rfl⟩
   have hb2:Below wo.heap.size wo w2:=by rw[hw2];exact (Below.refl _ _).alloc (Nat.le_refl _) _
   have HOT:Hid (Own w2 wo.heap.size [.int .u8 (c:Nat),.int .i64 (l:Nat),.int .i64 (d:Nat)]):=Lib.hid (by rw[hw2];exact Own.new_at wo _ _ _ rfl)
   have hz2:wo.heap.size<w2.heap.size:=by rw[hw2];simp
   go_upto_region 5 with (fail)
   rw[←hw2]
   clear hw2 k0 k1 k2
   obtain⟨tk,htk⟩: ∃z,wo.heap.size=z:=⟨_,rfl⟩
   have HTK:=Lib.hid htk
   rw[htk] at HOT hz2 ⊢
   have htbk:tb<tk:=by omega
   clear htk
   have k0:=HOT.out.1 0 _ rfl
   have k1:=HOT.out.1 1 _ rfl
   have k2:=HOT.out.1 2 _ rfl
   go_wp2_with (fail)
   refine (HTS.out _).mono ?_
   rintro e w3 ⟨rfl,hb3⟩
   have hb23:Below wo.heap.size wo w3:=hb2.trans (hb3.mono hb2.size)
   have HB3:=Lib.hid (HB.out.trans (hb23.mono HB.out.size))
   have HR3:=Lib.hid (HR.out.below hb23)
   have HT3:=Lib.hid (HT.out.below hb23)
   have HOT3:=Lib.hid (HOT.out.below hb3 hz2)
   have hz3:tk<w3.heap.size:=Nat.lt_of_lt_of_le hz2 hb3.size
   clear k0 k1 k2 HTS hb2 hb3 hb23 HB HR HT HOT
   have k0:=HOT3.out.1 0 _ rfl
   have k1:=HOT3.out.1 1 _ rfl
   have k2:=HOT3.out.1 2 _ rfl
   by_cases h0:l=0
   ·as_aux_lemma=>
    have hc:c<256:=by
     rcases HOK.out with ⟨_,_,a⟩|⟨_,a,_⟩
     ·exact a
     ·have:3≤l:=a
      omega
    subst h0
    have hlm:=HCN.out.lm c
    have HC2:=Lib.hid (HCN.out.lit HTI.out rfl hc)
    dsimp only at HC2
    have hlc:=getD_some (l:=L) (s:=c) (by rw[HCN.out.l];omega)
    have HST:=Lib.hid (tbC_setL (D:=D) (E:=E) (s:=c) (L.getD c 0+1) HCN.out.l (by omega))
    obtain⟨x,hx⟩: ∃z,L.getD c 0=z:=⟨_,rfl⟩
    rw[hx] at hlm hlc HST HC2
    have kc:=HT3.out.own.1 c _ (tbC_l (D:=D) (E:=E) hlc)
    have fc:=HT3.out.own.2 c
    have q2:IntKind.i64.wrap ((x:Int)+1)=((x+1:Nat):Int):=by rw[IntWalk.i64_in _ (by omega)];omega
    obtain⟨X1,hX1⟩: ∃z,x+1=z:=⟨_,rfl⟩
    rw[hX1] at q2 HST HC2
    have hci:(c:Int)<286:=by omega
    have hcn:c<286:=by omega
    have HT9:Hid (Bk (w3.setCell ⟨tb,c,none⟩ (.int .i64 (X1:Nat))) tb 219 (tbC (L.set c X1) D E)):=Lib.hid (by rw[←HST.out];exact HT3.out.set c _)
    have hfr:=(Fr.refl [tb] w3).setCell (p:=⟨tb,c,none⟩) (.inl (by simp)) (.int .i64 (X1:Nat))
    have HR9:=Lib.hid (HR3.out.fr hfr (by simp;omega))
    have HB9:Hid (Below w.heap.size w (w3.setCell ⟨tb,c,none⟩ (.int .i64 (X1:Nat)))):=Lib.hid (HB3.out.setCell (p:=⟨tb,c,none⟩) (by show w.heap.size≤tb;rw[HRB.out];omega) _)
    have hz9:tb<(w3.setCell ⟨tb,c,none⟩ (.int .i64 (X1:Nat))).heap.size:=by simp;omega
    clear hx hlc hX1 hfr HST
    go_wp2_with (fail)
    go_roundw
    case rel=>exact⟨i+1,L.set c X1,D,E,rfl,hlt,HC2,HR9,HT9,HB9,hz9⟩
    case measure=>simp[intOf]<;>omega
   ·have hpar:3≤l∧l≤258∧1≤d∧d≤32768:=by
     rcases HOK.out with ⟨a,_⟩|⟨_,a,b,c,d⟩
     ·exact absurd a h0
     ·exact⟨a,b,c,d⟩
    have e0:((l:Int)==0)=false:=by rw[beq_eq_false_iff_ne];omega
    have e0':(l==0)=false:=by rw[beq_eq_false_iff_ne];omega
    have e0'':decide ((l:Int)=0)=false:=decide_eq_false (by omega)
    have hgl: ∀W,Below w3.heap.size w3 W→Gl W:=fun W hW=>HG.out.fr (Fr.of_below (F:=[]) (HB3.out.trans (hW.mono HB3.out.size))) (fun _ h=>by cases h)
    have hlen:=fun W hW=>length_any l hpar.1 hpar.2.1 W (hgl W hW)
    have hdis:=fun W hW=>dist_any d hpar.2.2.1 hpar.2.2.2 W (hgl W hW)
    have hlp:=len_part l (by omega) hpar.1
    have hdp:=dist_part d hpar.2.2.1 hpar.2.2.2
    have HC2:=Lib.hid (fun s q hs hq h1 h2=>HCN.out.mat HTI.out h0 (s:=s) (q:=q) hs hq h1 h2)
    dsimp only at HC2
    obtain⟨s,hs⟩: ∃z,257+plc lB l=z:=⟨_,rfl⟩
    obtain⟨q,hq⟩: ∃z,plc dB d=z:=⟨_,rfl⟩
    obtain⟨X,hX⟩: ∃z,lX.getD (plc lB l) 0=z:=⟨_,rfl⟩
    obtain⟨Y,hY⟩: ∃z,l-lB.getD (plc lB l) 0=z:=⟨_,rfl⟩
    rw[hs,hX,hY] at hlen
    rw[hq] at hdis hdp
    obtain⟨X2,hX2⟩: ∃z,dX q=z:=⟨_,rfl⟩
    obtain⟨Y2,hY2⟩: ∃z,d-dB.getD q 0=z:=⟨_,rfl⟩
    rw[hX2,hY2] at hdis
    have hs2:s<286:=by omega
    have hq2:q<30:=hdp.1
    have HC3:=Lib.hid (HC2.out s q hs hq hs2 hq2)
    have HLN:=Lib.hid hlen
    have HDS:=Lib.hid hdis
    clear hlen hdis hgl hs hq hX hY hX2 hY2 hlp hdp HC2 hpar
    go_upto_region 9 with (fail)
    go_wp2_with (fail)
    refine (HLN.out w3 (Below.refl _ _)).mono ?_
    rintro e w4 ⟨rfl,hb4⟩
    obtain⟨w5,hw5⟩: ∃z:World,z=w4.alloc (.cells #[.int .i64 (s:Nat),.int .i64 (X:Nat),.int .i64 (Y:Nat)] 272):=⟨_,rfl⟩
    have hb45:Below w4.heap.size w4 w5:=by rw[hw5];exact (Below.refl _ _).alloc (Nat.le_refl _) _
    have hb35:=hb4.trans (hb45.mono hb4.size)
    have HOP:Hid (Own w5 w4.heap.size [.int .i64 (s:Nat),.int .i64 (X:Nat),.int .i64 (Y:Nat)]):=Lib.hid (by rw[hw5];exact Own.new_at w4 _ _ _ rfl)
    have hz5:w4.heap.size<w5.heap.size:=by rw[hw5];simp
    have hz4:=hb4.size
    have HOT5:=Lib.hid (HOT3.out.below hb35 hz3)
    have HB35:=Lib.hid hb35
    clear k0 k1 k2 hb4 hb45 hb35 HLN
    go_upto_region 10 with (fail)
    rw[←hw5]
    clear hw5
    obtain⟨pl,hpl⟩: ∃z,w4.heap.size=z:=⟨_,rfl⟩
    rw[hpl] at HOP hz5 hz4 ⊢
    clear hpl
    have k2:=HOT5.out.1 2 _ rfl
    go_wp2_with (fail)
    refine (HDS.out w5 HB35.out).mono ?_
    rintro e w6 ⟨rfl,hb6⟩
    obtain⟨w7,hw7⟩: ∃z:World,z=w6.alloc (.cells #[.int .i64 (q:Nat),.int .i64 (X2:Nat),.int .i64 (Y2:Nat)] 272):=⟨_,rfl⟩
    have hb67:Below w6.heap.size w6 w7:=by rw[hw7];exact (Below.refl _ _).alloc (Nat.le_refl _) _
    have hb57:=hb6.trans (hb67.mono hb6.size)
    have HOQ:Hid (Own w7 w6.heap.size [.int .i64 (q:Nat),.int .i64 (X2:Nat),.int .i64 (Y2:Nat)]):=Lib.hid (by rw[hw7];exact Own.new_at w6 _ _ _ rfl)
    have hz7:w6.heap.size<w7.heap.size:=by rw[hw7];simp
    have hz6:=hb6.size
    have HOP7:=Lib.hid (HOP.out.below hb57 hz5)
    have hb37:=HB35.out.trans (hb57.mono HB35.out.size)
    have HB7:=Lib.hid (HB3.out.trans (hb37.mono HB3.out.size))
    have HR7:=Lib.hid (HR3.out.below hb37)
    have HT7:=Lib.hid (HT3.out.below hb37)
    clear k2 hb6 hb67 hb57 hb37 HDS HOP HB35 HOT5 HR3 HT3 HB3 HOT3
    go_upto_region 11 with (fail)
    rw[←hw7]
    clear hw7
    obtain⟨pd,hpd⟩: ∃z,w6.heap.size=z:=⟨_,rfl⟩
    rw[hpd] at HOQ hz7 hz6 ⊢
    clear hpd
    have k0:=HOP7.out.1 0 _ rfl
    have hlm:=HCN.out.lm s
    have hdm:=HCN.out.dm q
    have hcl:=HCN.out.l
    have hcd:=HCN.out.d
    have hlc:=getD_some (l:=L) (s:=s) (by omega)
    have hdc:=getD_some (l:=D) (s:=q) (by omega)
    have HST:=Lib.hid (tbC_setL (D:=D) (E:=E) (s:=s) (L.getD s 0+1) hcl hs2)
    obtain⟨x,hx⟩: ∃z,L.getD s 0=z:=⟨_,rfl⟩
    obtain⟨y,hy⟩: ∃z,D.getD q 0=z:=⟨_,rfl⟩
    rw[hx] at hlm hlc HST HC3
    rw[hy] at hdm hdc HC3
    have kc:=HT7.out.own.1 s _ (tbC_l (D:=D) (E:=E) hlc)
    have fc:=HT7.out.own.2 s
    have q2:IntKind.i64.wrap ((x:Int)+1)=((x+1:Nat):Int):=by rw[IntWalk.i64_in _ (by omega)];omega
    have q3:IntKind.i64.wrap ((y:Int)+1)=((y+1:Nat):Int):=by rw[IntWalk.i64_in _ (by omega)];omega
    obtain⟨X1,hX1⟩: ∃z,x+1=z:=⟨_,rfl⟩
    obtain⟨Z1,hZ1⟩: ∃z,y+1=z:=⟨_,rfl⟩
    rw[hX1] at q2 HST HC3
    rw[hZ1] at q3 HC3
    have hci:(s:Int)<286:=by omega
    have hqi:(q:Int)<30:=by omega
    have htpl:tb<pl:=by omega
    have htpd:tb<pd:=by omega
    have HT8:Hid (Bk (w7.setCell ⟨tb,s,none⟩ (.int .i64 (X1:Nat))) tb 219 (tbC (L.set s X1) D E)):=Lib.hid (by rw[←HST.out];exact HT7.out.set s _)
    have hfr:=(Fr.refl [tb] w7).setCell (p:=⟨tb,s,none⟩) (.inl (by simp)) (.int .i64 (X1:Nat))
    have HF8:=Lib.hid hfr
    have hcl2:(L.set s X1).length=286:=by rw[List.length_set];exact hcl
    have HD2:=Lib.hid hdc
    have HCL:=Lib.hid (And.intro hcl2 hcd)
    clear hx hy hlc hX1 hZ1 hfr HST hcl hcd hdc hcl2
    go_upto_region 12 with (fail)
    obtain⟨w8,hw8⟩: ∃z:World,w7.setCell ⟨tb,s,none⟩ (.int .i64 (X1:Nat))=z:=⟨_,rfl⟩
    rw[hw8] at HT8 HF8 ⊢
    clear hw8 k0 kc fc
    have HOQ8:=Lib.hid (HOQ.out.fr HF8.out hz7 (by simp;omega))
    have k0:=HOQ8.out.1 0 _ rfl
    have kc:=HT8.out.own.1 (286+q) _ (tbC_d (E:=E) HCL.out.1 HD2.out)
    have fc:=HT8.out.own.2 (286+q)
    have HT9:Hid (Bk (w8.setCell ⟨tb,286+q,none⟩ (.int .i64 (Z1:Nat))) tb 219 (tbC (L.set s X1) (D.set q Z1) E)):=Lib.hid (by rw[←tbC_setD _ HCL.out.1 HCL.out.2 hq2];exact HT8.out.set (286+q) _)
    have hfr:=(Fr.refl [tb] w8).setCell (p:=⟨tb,286+q,none⟩) (.inl (by simp)) (.int .i64 (Z1:Nat))
    have HF9:=Lib.hid (HF8.out.trans hfr (fun x hx _=>hx))
    clear hfr
    go_upto_region 13 with (fail)
    obtain⟨w9,hw9⟩: ∃z:World,w8.setCell ⟨tb,286+q,none⟩ (.int .i64 (Z1:Nat))=z:=⟨_,rfl⟩
    rw[hw9] at HT9 HF9 ⊢
    clear hw9 k0 kc fc
    have HOQ9:=Lib.hid (HOQ.out.fr HF9.out hz7 (by simp;omega))
    have HOP9:=Lib.hid (HOP7.out.fr HF9.out (by omega) (by simp;omega))
    have k1:=HOQ9.out.1 1 _ rfl
    have k3:=HOP9.out.1 1 _ rfl
    have hcd2:(D.set q Z1).length=30:=by rw[List.length_set];exact HCL.out.2
    have ke:=HT9.out.own.1 316 _ (tbC_e (E:=E) HCL.out.1 hcd2)
    have fe:=HT9.out.own.2 316
    obtain⟨E2,hE2⟩: ∃z:Int,z=wrap64 (E+wrap64 ((X:Int)+(X2:Int))):=⟨_,rfl⟩
    have HT10:Hid (Bk (w9.setCell ⟨tb,316,none⟩ (.int .i64 E2)) tb 219 (tbC (L.set s X1) (D.set q Z1) E2)):=Lib.hid (by rw[←tbC_setE E2 HCL.out.1 hcd2];exact HT9.out.set 316 _)
    have hfr:=(Fr.refl [tb] w9).setCell (p:=⟨tb,316,none⟩) (.inl (by simp)) (.int .i64 E2)
    have hfr2:=HF9.out.trans hfr (fun x hx _=>hx)
    have HR10:=Lib.hid (HR7.out.fr hfr2 (by simp;omega))
    have HB10:Hid (Below w.heap.size w (w9.setCell ⟨tb,316,none⟩ (.int .i64 E2))):=Lib.hid (HB7.out.trans (hfr2.below HB7.out.size (fun k hk=>by rw[List.mem_singleton.1 hk,HRB.out];omega)))
    have hz10:tb<(w9.setCell ⟨tb,316,none⟩ (.int .i64 E2)).heap.size:=by have:=hfr2.size;omega
    clear hfr hfr2 hcd2
    go_wp2_with (fail)
    rw[←hE2]
    go_roundw
    case rel=>exact⟨i+1,L.set s X1,D.set q Z1,E2,rfl,hlt,HC3,HR10,HT10,HB10,hz10⟩
    case measure=>simp[intOf]<;>omega
  ·have d1:decide (i<n)=false:=decide_eq_false hlt
   have d2:decide ((i:Int)<(n:Int))=false:=decide_eq_false (by omega)
   obtain rfl:i=n:=by omega
   have k0:=HT.out.own.1 256 _ (tbC_l (D:=D) (E:=E) (x:=0) (by have:=getD_some (l:=L) (s:=256) (by rw[HCN.out.l];omega);rw[HCN.out.e] at this;exact this))
   have f0:=HT.out.own.2 256
   have HDN:=Lib.hid (HCN.out.done HN.out)
   have HST:=Lib.hid (tbC_setL (L:=L) (D:=D) (E:=E) (s:=256) 1 HCN.out.l (by omega))
   have HT5:Hid (Bk (wo.setCell ⟨tb,256,none⟩ (.int .i64 1)) tb 219 (tbC (L.set 256 1) D E)):=Lib.hid (by rw[←HST.out];exact HT.out.set 256 _)
   have hfr:=(Fr.refl [tb] wo).setCell (p:=⟨tb,256,none⟩) (.inl (by simp)) (.int .i64 1)
   have HR5:=Lib.hid (HR.out.fr hfr (by simp;omega))
   have HB5:Hid (Below w.heap.size w (wo.setCell ⟨tb,256,none⟩ (.int .i64 1))):=Lib.hid (HB.out.trans (hfr.below HB.out.size (fun k hk=>by rw[List.mem_singleton.1 hk,HRB.out];omega)))
   go_upto_region 16 with (fail)
   obtain⟨w5,hw5⟩: ∃z:World,wo.setCell ⟨tb,256,none⟩ (.int .i64 1)=z:=⟨_,rfl⟩
   rw[hw5] at HT5 HR5 HB5 ⊢
   clear hw5 k0 f0 hfr HR HT HB
   obtain⟨L2,hL2⟩: ∃z,L.set 256 1=z:=⟨_,rfl⟩
   rw[hL2] at HT5 HDN
   clear hL2
   have hlen:=tbC_len (E:=E) HDN.out.1
   go_wp2_with (with_reducible refine stop_tab ?_)
   refine load_tab HT5.out rfl hlen ?_
   go_wp2_with (with_reducible refine stop_tabS ?_)
   refine store_tab HR5.out rfl rfl (by rw[HZ.out,tbC,List.length_append,List.length_append,iC_len,iC_len,List.length_replicate,List.length_replicate];rfl) hlen (tbC_one _ _ _) ?_
   intro w6 hr6 hf6
   have HR6:=Lib.hid hr6
   have HB6:Hid (Below w.heap.size w w6):=Lib.hid (HB5.out.trans (hf6.below HB5.out.size (fun k hk=>by rw[List.mem_singleton.1 hk,HRB.out];exact Nat.le_refl _)))
   clear hr6 hf6
   go_wp2_with (fail)
   refine bodyPost_ret (results_tab2 rfl _ _ HR6.out hlen rfl rfl) rfl ?_
   exact⟨L2,D,E,rfl,HDN.out.1,HDN.out.2,HB6.out⟩
end Go.Proofs.YtmdgeoalamancaaGreatDoor
namespace Go.Proofs.YtmdgeoalamancaaGreatDoor
open Go.RowKit
open Bt Can Mc Pk
def zs (n:Nat) (A B:List Nat) (k:Nat):List Nat:=(List.range n).map fun s=>A.getD s 0+if s<k then B.getD s 0 else 0
theorem zs_len (n:Nat) (A B:List Nat) (k:Nat):(zs n A B k).length=n:=by unfold zs;simp
theorem zs_get (A B:List Nat) (k:Nat) {n s:Nat} (h:s<n):(zs n A B k)[s]? =some (A.getD s 0+if s<k then B.getD s 0 else 0):=by
 unfold zs
 rw[List.getElem?_map,List.getElem?_range h]
 rfl
theorem zs_zero {n:Nat} {A:List Nat} (B:List Nat) (h:A.length=n):zs n A B 0=A:=by
 refine List.ext_getElem? fun s=> ?_
 by_cases hs:s<n
 ·rw[zs_get _ _ _ hs,if_neg (by omega),Nat.add_zero,getD_some (by omega)]
 ·rw[List.getElem?_eq_none (by rw[zs_len];omega),List.getElem?_eq_none (by omega)]
theorem zs_step {n k:Nat} (A B:List Nat) (hk:k<n):(zs n A B k).set k (A.getD k 0+B.getD k 0)=zs n A B (k+1):=by
 refine List.ext_getElem? fun s=> ?_
 by_cases hs:s<n
 ·rw[zs_get _ _ _ hs]
  by_cases e:k=s
  ·subst e
   rw[List.getElem?_set_self (by rw[zs_len];exact hs),if_pos (by omega)]
  ·rw[List.getElem?_set_ne e,zs_get _ _ _ hs]
   by_cases h2:s<k
   ·rw[if_pos h2,if_pos (by omega)]
   ·rw[if_neg h2,if_neg (by omega)]
 ·rw[List.getElem?_eq_none (by rw[List.length_set,zs_len];omega),List.getElem?_eq_none (by rw[zs_len];omega)]
theorem getD_of {l:List Nat} {s x:Nat} (h:l[s]? =some x):l.getD s 0=x:=by rw[List.getD_eq_getElem?_getD,h];rfl
theorem zs_tbl {ma mb:Nat} {La Da Lb Db:List Nat} (ha:Tbl ma La Da) (hb:Tbl mb Lb Db):Tbl (ma+mb) ((zs 286 La Lb 286).set 256 1) (zs 30 Da Db 30):=by
 have hg:=fun s=>getD_set (zs 286 La Lb 286) 256 1 s (by rw[zs_len];omega)
 have out: ∀(n:Nat) (A B:List Nat) (s:Nat),¬s<n→(zs n A B n).getD s 0=0:=fun n A B s h=>by rw[List.getD_eq_getElem?_getD,List.getElem?_eq_none (by rw[zs_len];omega)];rfl
 refine⟨by rw[List.length_set,zs_len],zs_len _ _ _ _,by rw[hg,if_pos rfl],fun s hs=> ?_,fun s=> ?_⟩
 ·rw[hg,if_neg hs]
  by_cases h:s<286
  ·rw[getD_of (zs_get _ _ _ h),if_pos h]
   have:=ha.lm s hs
   have:=hb.lm s hs
   omega
  ·rw[out _ _ _ _ h];omega
 ·by_cases h:s<30
  ·rw[getD_of (zs_get _ _ _ h),if_pos h]
   have:=ha.dm s
   have:=hb.dm s
   omega
  ·rw[out _ _ _ _ h];omega
theorem stop_l {P:Program} {ops:Array Oper} {Q:Exit→Act→World→Prop} {rest:List Oper} {a:Act} {w:World} {d:Option Tmp} {t:TypeId} {x:Operand} {pos:String} {aft:Array Edge} {g:Option (Nat × Bool)}
  (h:Stop (wpList P ops Q (⟨d,.load 216 x,t,pos,aft,g⟩::rest) a w)):wpList P ops Q (⟨d,.load 216 x,t,pos,aft,g⟩::rest) a w:=h
theorem stop_d {P:Program} {ops:Array Oper} {Q:Exit→Act→World→Prop} {rest:List Oper} {a:Act} {w:World} {d:Option Tmp} {t:TypeId} {x:Operand} {pos:String} {aft:Array Edge} {g:Option (Nat × Bool)}
  (h:Stop (wpList P ops Q (⟨d,.load 217 x,t,pos,aft,g⟩::rest) a w)):wpList P ops Q (⟨d,.load 217 x,t,pos,aft,g⟩::rest) a w:=h
theorem l_isz:(Tryz.prog.info? 216).map (·.size)=some 286:=by kernel_rfl
theorem d_isz:(Tryz.prog.info? 217).map (·.size)=some 30:=by kernel_rfl
theorem load_l {ops:Array Oper} {Q:Exit→Act→World→Prop} {rest:List Oper} {a:Act} {w:World} {d:Option Tmp} {t:TypeId} {x:Operand} {pos:String} {aft:Array Edge} {b:Nat} {L D:List Nat} {E:Int} (hb:Own w b (tbC L D E)) (hx:a.eval x= .pointer (some ⟨b,0,none⟩)) (hl:L.length=286)
  (h:wpList Tryz.prog ops Q rest (a.put d (.agg (iC L).toArray)) w):Stop (wpList Tryz.prog ops Q (⟨d,.load 216 x,t,pos,aft,none⟩::rest) a w):=by
 refine wpList_load_mid rfl _ _ rfl b 0 hx (iC L) _ (fun j v hj=> ?_) Tryz.underlying216 rfl (by rw[iC_len,hl];exact l_isz) h
 rw[Nat.zero_add]
 refine hb.1 j v ?_
 unfold tbC
 rw[List.getElem?_append_left (List.getElem?_eq_some_iff.1 hj).1]
 exact hj
theorem load_d {ops:Array Oper} {Q:Exit→Act→World→Prop} {rest:List Oper} {a:Act} {w:World} {d:Option Tmp} {t:TypeId} {x:Operand} {pos:String} {aft:Array Edge} {b:Nat} {L D:List Nat} {E:Int} (hb:Own w b (tbC L D E)) (hx:a.eval x= .pointer (some ⟨b,286,none⟩)) (hl:L.length=286) (hd:D.length=30)
  (h:wpList Tryz.prog ops Q rest (a.put d (.agg (iC D).toArray)) w):Stop (wpList Tryz.prog ops Q (⟨d,.load 217 x,t,pos,aft,none⟩::rest) a w):=by
 refine wpList_load_mid rfl _ _ rfl b 286 hx (iC D) _ (fun j v hj=> ?_) Tryz.underlying217 rfl (by rw[iC_len,hd];exact d_isz) h
 refine hb.1 (286+j) v ?_
 unfold tbC
 rw[List.getElem?_append_right (by rw[iC_len];omega),iC_len,hl,Nat.add_sub_cancel_left,List.getElem?_append_left (List.getElem?_eq_some_iff.1 hj).1]
 exact hj
theorem sz_int (W:World):(sizeOf 3).run Tryz.prog W= .ok 1 W:=by kernel_rfl
theorem ag_int (W:World):(isAgg 3).run Tryz.prog W= .ok false W:=by kernel_rfl
theorem ix_arr {T N:Nat} (hu:Tryz.prog.underlying T=some (.array N 3)) {l:List Nat} {i x:Nat} (h:(iC l)[i]? =some (.int .i64 (x:Nat))) (hi:i<N) (hn:N≤1000) (W:World):(Instr.index T (.agg (iC l).toArray) (.int .i64 (i:Nat))).run Tryz.prog W= .ok (.int .i64 (x:Nat)) W:=by
 have w1:IntKind.i64.wrap (i:Int)=(i:Int):=IntWalk.i64_in _ (by omega)
 have h1:(i:Int)<(N:Int):=by omega
 have h0:(0:Int)≤(i:Int):=by omega
 have h2: ¬N≤i:=by omega
 simp[Instr.index,asIntOf,run_underlying hu,w1,h1,h2,part,sz_int,ag_int,h]
set_option maxHeartbeats 8000000 in
theorem tadd_any (La Da Lb Db:List Nat) (Ea Eb:Int) (ma mb:Nat) (w:World) (ha:Tbl ma La Da) (hb:Tbl mb Lb Db) (hma:ma≤1000000) (hmb:mb≤1000000):Calls Tryz.prog 157 #[.agg (tbC La Da Ea).toArray,.agg (tbC Lb Db Eb).toArray] w fun e w'=> ∃L D E,e= .returned (.agg (tbC L D E).toArray)∧Tbl (ma+mb) L D∧Below w.heap.size w w':=by
 have HA:=Lib.hid ha
 have HB:=Lib.hid hb
 obtain⟨z,hz⟩: ∃z:List Value,z=tbC (List.replicate 286 0) (List.replicate 30 0) 0:=⟨_,rfl⟩
 have hzc:Tryz.zeroCells219=z.toArray:=by rw[hz];exact tab_zero
 have HZ:=Lib.hid hz
 clear hz
 obtain⟨ca,hca⟩: ∃q,tbC La Da Ea=q:=⟨_,rfl⟩
 obtain⟨cb,hcb⟩: ∃q,tbC Lb Db Eb=q:=⟨_,rfl⟩
 obtain⟨wa,hwa⟩: ∃q:World,q=((w.alloc (.cells ca.toArray 219)).alloc (.cells cb.toArray 219)).alloc (.cells z.toArray 219):=⟨_,rfl⟩
 have HTA:Hid (Bk wa w.heap.size 219 (tbC La Da Ea)):=Lib.hid (by rw[hwa,hca];exact ((Bk.new w _ ca).below ((Below.refl _ _).alloc (Nat.le_refl _) _)).below ((Below.refl _ _).alloc (Nat.le_refl _) _))
 have HTB:Hid (Bk wa (w.heap.size+1) 219 (tbC Lb Db Eb)):=Lib.hid (by
  rw[hwa,hcb]
  have:=Bk.new (w.alloc (.cells ca.toArray 219)) 219 cb
  have:=this.below ((Below.refl _ _).alloc (Nat.le_refl _) (.cells z.toArray 219))
  simpa using this)
 have HTR:Hid (Bk wa (w.heap.size+2) 219 z):=Lib.hid (by
  rw[hwa]
  have:=Bk.new ((w.alloc (.cells ca.toArray 219)).alloc (.cells cb.toArray 219)) 219 z
  simpa using this)
 have HB0:Hid (Below w.heap.size w wa):=Lib.hid (by rw[hwa];exact (((Below.refl _ _).alloc (Nat.le_refl _) _).alloc (by simp) _).alloc (by simp<;>omega) _)
 rw[hca,hcb]
 clear hca hcb ha hb
 go_enter Tryz.func157,Tryz.ntmps157
 go_upto_region 1 with (fail)
 rw[←hwa]
 clear hwa hzc
 obtain⟨ab,hab⟩: ∃z,w.heap.size=z:=⟨_,rfl⟩
 have HAB:=Lib.hid hab
 rw[hab] at HTA HTB HTR ⊢
 clear hab
 obtain⟨bb,hbb⟩: ∃z,ab+1=z:=⟨_,rfl⟩
 obtain⟨rb,hrb⟩: ∃z,bb+1=z:=⟨_,rfl⟩
 rw[hbb] at HTB ⊢
 rw[show ab+2=rb by omega] at HTR
 rw[hrb]
 have hb1:ab<bb:=by omega
 have hb2:ab<rb:=by omega
 clear hbb hrb
 have k0:=HTA.out.own.1 256 _ (tbC_l (D:=Da) (E:=Ea) (x:=1) (by have:=getD_some (l:=La) (s:=256) (by rw[HA.out.l];omega);rw[HA.out.e] at this;exact this))
 have k1:=HTB.out.own.1 256 _ (tbC_l (D:=Db) (E:=Eb) (x:=1) (by have:=getD_some (l:=Lb) (s:=256) (by rw[HB.out.l];omega);rw[HB.out.e] at this;exact this))
 go_upto_region 2 with (fail)
 clear k0 k1
 have HTB0:=HTB
 go_wp2_with (with_reducible refine stop_l ?_)
 refine load_l HTB.out.own rfl HB.out.l ?_
 rw[←zs_zero (n:=286) Lb HA.out.l] at HTA
 go_upto_region 3 with (fail)
 go_loopw [22] (fun u wr=> ∃i:Nat,u= .int .i64 (i:Nat)∧i≤286∧Hid (Bk wr ab 219 (tbC (zs 286 La Lb i) Da Ea))∧Hid (Fr [ab] wa wr)) (fun u _=>286-(intOf u).toNat)
 case atStart=>exact⟨0,rfl,Nat.zero_le _,HTA,Lib.hid (Fr.refl _ _)⟩
 case round=>
  clear HTA
  obtain⟨i,rfl,hi,HTA,HF⟩:=hrel
  obtain⟨wo,rfl⟩: ∃z:World,z=wr:=⟨_,rfl⟩
  by_cases hlt:i<286
  ·as_aux_lemma=>
   have d1:decide (i<286)=true:=decide_eq_true hlt
   have d2:decide ((i:Int)<286)=true:=decide_eq_true (by omega)
   have q1:IntKind.i64.wrap ((i:Int)+1)=((i+1:Nat):Int):=by rw[IntWalk.i64_in _ (by omega)];omega
   have hii:(i:Int)<286:=by omega
   have ka:=zs_get La Lb i hlt
   rw[if_neg (Nat.lt_irrefl i),Nat.add_zero] at ka
   have hxa:La.getD i 0≤1000001:=by
    by_cases e:i=256
    ·rw[e,HA.out.e];omega
    ·have:=HA.out.lm i e;omega
   have hxb:Lb.getD i 0≤1000001:=by
    by_cases e:i=256
    ·rw[e,HB.out.e];omega
    ·have:=HB.out.lm i e;omega
   have hbs:(iC Lb)[i]? =some (.int .i64 (Lb.getD i 0:Nat)):=iC_get (getD_some (by rw[HB.out.l];exact hlt))
   have HST:=Lib.hid (zs_step La Lb hlt)
   have hix:=fun W=>ix_arr Tryz.underlying216 hbs hlt (by omega) W
   obtain⟨x,hx⟩: ∃z,La.getD i 0=z:=⟨_,rfl⟩
   obtain⟨y,hy⟩: ∃z,Lb.getD i 0=z:=⟨_,rfl⟩
   rw[hx] at ka hxa HST
   rw[hy] at hxb hix HST
   clear hbs
   have kc:=HTA.out.own.1 i _ (tbC_l (D:=Da) (E:=Ea) ka)
   have fc:=HTA.out.own.2 i
   have q2:IntKind.i64.wrap ((x:Int)+(y:Int))=((x+y:Nat):Int):=by rw[IntWalk.i64_in _ (by omega)];omega
   obtain⟨s,hs⟩: ∃z,x+y=z:=⟨_,rfl⟩
   rw[hs] at q2 HST
   have HT2:Hid (Bk (wo.setCell ⟨ab,i,none⟩ (.int .i64 (s:Nat))) ab 219 (tbC (zs 286 La Lb (i+1)) Da Ea)):=Lib.hid (by rw[←HST.out,←tbC_setL s (zs_len _ _ _ _) hlt];exact HTA.out.set i _)
   have HF2:=Lib.hid (HF.out.setCell (p:=⟨ab,i,none⟩) (.inl (by simp)) (.int .i64 (s:Nat)))
   clear hx hy hs ka HST
   go_wp2_with (fail)
   go_roundw
   case rel=>exact⟨i+1,rfl,hlt,HT2,HF2⟩
   case measure=>simp[intOf]<;>omega
  ·have d1:decide (i<286)=false:=decide_eq_false hlt
   have d2:decide ((i:Int)<286)=false:=decide_eq_false (by omega)
   obtain rfl:i=286:=by omega
   have HTB2:=Lib.hid (HTB.out.fr HF.out (by simp;omega))
   clear HTB
   go_wp2_with (with_reducible refine stop_d ?_)
   refine load_d HTB2.out.own rfl HB.out.l HB.out.d ?_
   rw[←zs_zero (n:=30) Db HA.out.d] at HTA
   go_upto_region 8 with (fail)
   go_loopw [37] (fun u wr=> ∃i:Nat,u= .int .i64 (i:Nat)∧i≤30∧Hid (Bk wr ab 219 (tbC (zs 286 La Lb 286) (zs 30 Da Db i) Ea))∧Hid (Fr [ab] wa wr)) (fun u _=>30-(intOf u).toNat)
   case atStart=>exact⟨0,rfl,Nat.zero_le _,HTA,HF⟩
   case round=>
    clear HTA HF HTB2 d1 d2 hlt hi
    obtain⟨j,rfl,hj,HTA,HF⟩:=hrel
    obtain⟨w5,rfl⟩: ∃z:World,z=wr:=⟨_,rfl⟩
    by_cases hlt:j<30
    ·as_aux_lemma=>
     have d1:decide (j<30)=true:=decide_eq_true hlt
     have d2:decide ((j:Int)<30)=true:=decide_eq_true (by omega)
     have q1:IntKind.i64.wrap ((j:Int)+1)=((j+1:Nat):Int):=by rw[IntWalk.i64_in _ (by omega)];omega
     have hii:(j:Int)<30:=by omega
     have ka:=zs_get Da Db j hlt
     rw[if_neg (Nat.lt_irrefl j),Nat.add_zero] at ka
     have hxa:=HA.out.dm j
     have hxb:=HB.out.dm j
     have hbs:(iC Db)[j]? =some (.int .i64 (Db.getD j 0:Nat)):=iC_get (getD_some (by rw[HB.out.d];exact hlt))
     have HST:=Lib.hid (zs_step Da Db hlt)
     have hix:=fun W=>ix_arr Tryz.underlying217 hbs hlt (by omega) W
     obtain⟨x,hx⟩: ∃z,Da.getD j 0=z:=⟨_,rfl⟩
     obtain⟨y,hy⟩: ∃z,Db.getD j 0=z:=⟨_,rfl⟩
     rw[hx] at ka hxa HST
     rw[hy] at hxb hix HST
     clear hbs
     have kc:=HTA.out.own.1 (286+j) _ (tbC_d (E:=Ea) (zs_len _ _ _ _) ka)
     have fc:=HTA.out.own.2 (286+j)
     have q2:IntKind.i64.wrap ((x:Int)+(y:Int))=((x+y:Nat):Int):=by rw[IntWalk.i64_in _ (by omega)];omega
     obtain⟨s,hs⟩: ∃z,x+y=z:=⟨_,rfl⟩
     rw[hs] at q2 HST
     have HT2:Hid (Bk (w5.setCell ⟨ab,286+j,none⟩ (.int .i64 (s:Nat))) ab 219 (tbC (zs 286 La Lb 286) (zs 30 Da Db (j+1)) Ea)):=Lib.hid (by rw[←HST.out,←tbC_setD s (zs_len _ _ _ _) (zs_len _ _ _ _) hlt];exact HTA.out.set (286+j) _)
     have HF2:=Lib.hid (HF.out.setCell (p:=⟨ab,286+j,none⟩) (.inl (by simp)) (.int .i64 (s:Nat)))
     clear hx hy hs ka HST
     go_wp2_with (fail)
     go_roundw
     case rel=>exact⟨j+1,rfl,hlt,HT2,HF2⟩
     case measure=>simp[intOf]<;>omega
    ·have d1:decide (j<30)=false:=decide_eq_false hlt
     have d2:decide ((j:Int)<30)=false:=decide_eq_false (by omega)
     obtain rfl:j=30:=by omega
     have HTB2:=Lib.hid (HTB0.out.fr HF.out (by simp;omega))
     have HTR2:=Lib.hid (HTR.out.fr HF.out (by simp;omega))
     have HTT:=Lib.hid (zs_tbl HA.out HB.out)
     have ka:=zs_get La Lb 286 (n:=286) (s:=256) (by omega)
     rw[if_pos (by omega),HA.out.e,HB.out.e] at ka
     obtain⟨L,hL⟩: ∃z,zs 286 La Lb 286=z:=⟨_,rfl⟩
     obtain⟨D,hD⟩: ∃z,zs 30 Da Db 30=z:=⟨_,rfl⟩
     have hl:L.length=286:=by rw[←hL];exact zs_len _ _ _ _
     have hd:D.length=30:=by rw[←hD];exact zs_len _ _ _ _
     rw[hL] at HTA HTT ka
     rw[hD] at HTA HTT
     clear hL hD
     have ke:=HTA.out.own.1 316 _ (tbC_e (E:=Ea) hl hd)
     have fe:=HTA.out.own.2 316
     have ke2:=HTB2.out.own.1 316 _ (tbC_e (E:=Eb) HB.out.l HB.out.d)
     obtain⟨E,hE⟩: ∃z:Int,z=wrap64 (Ea+Eb):=⟨_,rfl⟩
     have HT3:Hid (Bk (w5.setCell ⟨ab,316,none⟩ (.int .i64 E)) ab 219 (tbC L D E)):=Lib.hid (by rw[←tbC_setE E hl hd];exact HTA.out.set 316 _)
     have HF3:=Lib.hid (HF.out.setCell (p:=⟨ab,316,none⟩) (.inl (by simp)) (.int .i64 E))
     have HKA:=Lib.hid ka
     have HHL:=Lib.hid (And.intro hl hd)
     clear ka hl hd
     go_upto_region 13 with (fail)
     rw[←hE]
     obtain⟨w6,hw6⟩: ∃z:World,w5.setCell ⟨ab,316,none⟩ (.int .i64 E)=z:=⟨_,rfl⟩
     rw[hw6] at HT3 HF3 ⊢
     clear hw6 ke fe ke2 hE
     have kc:=HT3.out.own.1 256 _ (tbC_l (D:=D) (E:=E) HKA.out)
     have fc:=HT3.out.own.2 256
     have HT4:Hid (Bk (w6.setCell ⟨ab,256,none⟩ (.int .i64 1)) ab 219 (tbC (L.set 256 1) D E)):=Lib.hid (by rw[←tbC_setL 1 HHL.out.1 (by omega)];exact HT3.out.set 256 _)
     have HF4:=Lib.hid (HF3.out.setCell (p:=⟨ab,256,none⟩) (.inl (by simp)) (.int .i64 1))
     have HTR4:=Lib.hid (HTR.out.fr HF4.out (by simp;omega))
     have hlen:=tbC_len (E:=E) HTT.out
     go_upto_region 15 with (fail)
     obtain⟨w7,hw7⟩: ∃z:World,w6.setCell ⟨ab,256,none⟩ (.int .i64 1)=z:=⟨_,rfl⟩
     rw[hw7] at HT4 HF4 HTR4 ⊢
     clear hw7 kc fc
     obtain⟨L2,hL2⟩: ∃z,L.set 256 1=z:=⟨_,rfl⟩
     rw[hL2] at HT4 HTT hlen
     clear hL2
     go_wp2_with (with_reducible refine stop_tab ?_)
     refine load_tab HT4.out rfl hlen ?_
     go_wp2_with (with_reducible refine stop_tabS ?_)
     refine store_tab HTR4.out rfl rfl (by rw[HZ.out,tbC,List.length_append,List.length_append,iC_len,iC_len,List.length_replicate,List.length_replicate];rfl) hlen (tbC_one _ _ _) ?_
     intro w8 hr8 hf8
     have HR8:=Lib.hid hr8
     have HB8:Hid (Below w.heap.size w w8):=Lib.hid ((HB0.out.trans (HF4.out.below HB0.out.size (fun k hk=>by rw[List.mem_singleton.1 hk,HAB.out];exact Nat.le_refl _))).trans (hf8.below (Nat.le_trans HB0.out.size HF4.out.size) (fun k hk=>by rw[List.mem_singleton.1 hk,HAB.out];omega)))
     clear hr8 hf8
     go_wp2_with (fail)
     refine bodyPost_ret (results_tab1 rfl _ _ HR8.out hlen rfl) rfl ?_
     exact⟨L2,D,E,rfl,HTT.out,HB8.out⟩
set_option maxHeartbeats 4000000 in
theorem fixed_any (L D:List Nat) (E:Int) (m:Nat) (w:World) (h:Tbl m L D):Calls Tryz.prog 161 #[.agg (tbC L D E).toArray] w fun e w'=>(∃x:Int,e= .returned (.int .i64 x))∧Below w.heap.size w w':=by
 have HT:=Lib.hid h
 obtain⟨ca,hca⟩: ∃q,tbC L D E=q:=⟨_,rfl⟩
 obtain⟨wa,hwa⟩: ∃q:World,q=w.alloc (.cells ca.toArray 219):=⟨_,rfl⟩
 have HO:Hid (Own wa w.heap.size (tbC L D E)):=Lib.hid (by rw[hwa,hca];exact Own.new_at w ca _ _ rfl)
 have HB0:Hid (Below w.heap.size w wa):=Lib.hid (by rw[hwa];exact (Below.refl _ _).alloc (Nat.le_refl _) _)
 have hza:w.heap.size<wa.heap.size:=by rw[hwa];simp
 have HF1:=Lib.hid (fun W=>fixl_any W)
 have HF2:=Lib.hid (fun W=>fixd_any W)
 have hfl:fixL.length=288:=by decide
 have hfd:fixD.length=32:=by decide
 have HFL:=Lib.hid hfl
 have HFD:=Lib.hid hfd
 obtain⟨FL,hFL⟩: ∃z,fixL=z:=⟨_,rfl⟩
 obtain⟨FD,hFD⟩: ∃z,fixD=z:=⟨_,rfl⟩
 rw[hFL] at HF1 HFL
 rw[hFD] at HF2 HFD
 rw[hca]
 clear hca h hfl hfd hFL hFD
 go_enter Tryz.func161,Tryz.ntmps161
 go_upto_region 1 with (fail)
 rw[←hwa]
 clear hwa
 obtain⟨tb,htb⟩: ∃z,w.heap.size=z:=⟨_,rfl⟩
 rw[htb] at HO hza ⊢
 clear htb
 have ke:=HO.out.1 316 _ (tbC_e (E:=E) HT.out.l HT.out.d)
 go_wp2_with (fail)
 refine (HF1.out wa).mono ?_
 rintro e w2 ⟨fv,rfl,hr2,hb2⟩
 have HB2:=Lib.hid hb2
 have HR2:=Lib.hid hr2.sl
 obtain⟨fa,fc,rfl,_⟩:=hr2.form
 have HO2:=Lib.hid (HO.out.below hb2 hza)
 clear hr2 hb2 ke
 go_wp2_with (with_reducible refine stop_l ?_)
 refine load_l HO2.out rfl HT.out.l ?_
 go_upto_region 4 with (fail)
 go_loopw [15,3] (fun u s wr=> ∃(i:Nat) (x:Int),u= .int .i64 (i:Nat)∧s= .int .i64 x∧i≤286∧Hid (Below w2.heap.size w2 wr)) (fun u _ _=>286-(intOf u).toNat)
 case atStart=>exact⟨0,_,rfl,rfl,Nat.zero_le _,Lib.hid (Below.refl _ _)⟩
 case round=>
  obtain⟨i,sx,rfl,rfl,hi,HB⟩:=hrel
  obtain⟨wo,rfl⟩: ∃z:World,z=wr:=⟨_,rfl⟩
  by_cases hlt:i<286
  ·as_aux_lemma=>
   have d1:decide (i<286)=true:=decide_eq_true hlt
   have d2:decide ((i:Int)<286)=true:=decide_eq_true (by omega)
   have q1:IntKind.i64.wrap ((i:Int)+1)=((i+1:Nat):Int):=by rw[IntWalk.i64_in _ (by omega)];omega
   have hii:(i:Int)<288:=by omega
   have hin:i<288:=by omega
   have hbs:(iC L)[i]? =some (.int .i64 (L.getD i 0:Nat)):=iC_get (getD_some (by rw[HT.out.l];exact hlt))
   have hix:=fun W=>ix_arr Tryz.underlying216 hbs hlt (by omega) W
   obtain⟨x,hx⟩: ∃z,L.getD i 0=z:=⟨_,rfl⟩
   rw[hx] at hix
   obtain⟨b,off,rfl,hc⟩:=sl_cells (HR2.out.below HB.out) (by omega)
   have kf:=hc i _ (iC_get (getD_some (l:=FL) (s:=i) (by rw[HFL.out];omega)))
   obtain⟨y,hy⟩: ∃z,FL.getD i 0=z:=⟨_,rfl⟩
   rw[hy] at kf
   clear hbs hx hy hc
   go_wp2_with (fail)
   go_roundw
   case rel=>exact⟨i+1,_,rfl,rfl,hlt,HB⟩
   case measure=>simp[intOf]<;>omega
  ·have d1:decide (i<286)=false:=decide_eq_false hlt
   have d2:decide ((i:Int)<286)=false:=decide_eq_false (by omega)
   obtain rfl:i=286:=by omega
   have HO3:=Lib.hid (HO2.out.below HB.out (Nat.lt_of_lt_of_le hza HB2.out.size))
   have hz3:tb<wo.heap.size:=Nat.lt_of_lt_of_le hza (Nat.le_trans HB2.out.size HB.out.size)
   go_upto_region 8 with (fail)
   go_wp2_with (fail)
   refine (HF2.out wo).mono ?_
   rintro e w4 ⟨fv,rfl,hr4,hb4⟩
   have HB4:=Lib.hid (HB0.out.trans ((HB2.out.trans ((HB.out.trans (hb4.mono HB.out.size)).mono HB2.out.size)).mono HB0.out.size))
   have HR4:=Lib.hid hr4.sl
   obtain⟨ga,gc,rfl,_⟩:=hr4.form
   have HO4:=Lib.hid (HO3.out.below hb4 hz3)
   clear hr4 hb4
   go_wp2_with (with_reducible refine stop_d ?_)
   refine load_d HO4.out rfl HT.out.l HT.out.d ?_
   go_upto_region 10 with (fail)
   go_loopw [31,3] (fun u s wr=> ∃(i:Nat) (x:Int),u= .int .i64 (i:Nat)∧s= .int .i64 x∧i≤30∧Hid (Below w4.heap.size w4 wr)) (fun u _ _=>30-(intOf u).toNat)
   case atStart=>exact⟨0,_,rfl,rfl,Nat.zero_le _,Lib.hid (Below.refl _ _)⟩
   case round=>
    clear d1 d2 hlt hi HB
    obtain⟨j,sy,rfl,rfl,hj,HB⟩:=hrel
    obtain⟨w5,rfl⟩: ∃z:World,z=wr:=⟨_,rfl⟩
    by_cases hlt:j<30
    ·as_aux_lemma=>
     have d1:decide (j<30)=true:=decide_eq_true hlt
     have d2:decide ((j:Int)<30)=true:=decide_eq_true (by omega)
     have q1:IntKind.i64.wrap ((j:Int)+1)=((j+1:Nat):Int):=by rw[IntWalk.i64_in _ (by omega)];omega
     have hii:(j:Int)<32:=by omega
     have hin:j<32:=by omega
     have hbs:(iC D)[j]? =some (.int .i64 (D.getD j 0:Nat)):=iC_get (getD_some (by rw[HT.out.d];exact hlt))
     have hix:=fun W=>ix_arr Tryz.underlying217 hbs hlt (by omega) W
     obtain⟨x,hx⟩: ∃z,D.getD j 0=z:=⟨_,rfl⟩
     rw[hx] at hix
     obtain⟨b,off,rfl,hc⟩:=sl_cells (HR4.out.below HB.out) (by omega)
     have kf:=hc j _ (iC_get (getD_some (l:=FD) (s:=j) (by rw[HFD.out];omega)))
     obtain⟨y,hy⟩: ∃z,FD.getD j 0=z:=⟨_,rfl⟩
     rw[hy] at kf
     clear hbs hx hy hc
     go_wp2_with (fail)
     go_roundw
     case rel=>exact⟨j+1,_,rfl,rfl,hlt,HB⟩
     case measure=>simp[intOf]<;>omega
    ·have d1:decide (j<30)=false:=decide_eq_false hlt
     have d2:decide ((j:Int)<30)=false:=decide_eq_false (by omega)
     go_wp2_with (fail)
     go_ret
     exact⟨⟨_,rfl⟩,HB4.out.trans (HB.out.mono HB4.out.size)⟩
set_option maxHeartbeats 4000000 in
theorem dynamic_any (L D:List Nat) (E:Int) (m:Nat) (w:World) (h:Tbl m L D) (hm:m≤1000000):Calls Tryz.prog 163 #[.agg (tbC L D E).toArray] w fun e w'=>(∃x:Int,e= .returned (.int .i64 x))∧Below w.heap.size w w':=by
 have HT:=Lib.hid h
 have hlen:=tbC_len (E:=E) h
 obtain⟨ca,hca⟩: ∃q,tbC L D E=q:=⟨_,rfl⟩
 obtain⟨wa,hwa⟩: ∃q:World,q=w.alloc (.cells ca.toArray 219):=⟨_,rfl⟩
 have HBK:Hid (Bk wa w.heap.size 219 ca):=Lib.hid (by rw[hwa];exact Bk.new w _ ca)
 have HB0:Hid (Below w.heap.size w wa):=Lib.hid (by rw[hwa];exact (Below.refl _ _).alloc (Nat.le_refl _) _)
 have hza:w.heap.size<wa.heap.size:=by rw[hwa];simp
 have HLE:=Lib.hid (fun W=>lens_any L D E m W h hm)
 have HCA:=Lib.hid hca
 rw[hca] at HLE hlen ⊢
 clear hca h
 go_enter Tryz.func163,Tryz.ntmps163
 go_upto_region 1 with (fail)
 rw[←hwa]
 clear hwa
 obtain⟨tb,htb⟩: ∃z,w.heap.size=z:=⟨_,rfl⟩
 rw[htb] at HBK hza ⊢
 clear htb
 go_wp2_with (with_reducible refine stop_tab ?_)
 refine load_tab HBK.out rfl hlen ?_
 go_wp2_with (fail)
 refine (HLE.out wa).mono ?_
 rintro e w2 ⟨vl,vd,ls,ds,rfl,hr1,hr2,hb2,hm1,hm2⟩
 have HO2:=Lib.hid ((HBK.out.below hb2).own)
 have hz2:tb<w2.heap.size:=Nat.lt_of_lt_of_le hza hb2.size
 have hll:286=ls.length:=by rw[hm1.len,HT.out.l]
 have hdl:30=ds.length:=by rw[hm2.len,HT.out.d]
 have hsl: ∀W,Below w2.heap.size w2 W→Sl W W.heap.size 1 (.slice (some ⟨tb,0,none⟩) 286 286) 286 (iC L)∧Sl W W.heap.size 1 (.slice (some ⟨tb,286,none⟩) 30 30) 30 (iC D):=fun W hW=>tb_sl (B:=W.heap.size) (E:=E) (by rw[HCA.out];exact HO2.out.below hW hz2) (Nat.lt_of_lt_of_le hz2 hW.size) HT.out.l HT.out.d
 have HCC:Hid (∀(W:World) (o n:Nat) (v2:Value),(o=0∧n=286∧v2=vl)∨(o=286∧n=30∧v2=vd)→Below w2.heap.size w2 W→Calls Tryz.prog 186 #[.slice (some ⟨tb,o,none⟩) n n,v2] W fun e w'=>(∃x:Int,e= .returned (.int .i64 x))∧Below W.heap.size W w'):=Lib.hid (fun W o n v2 hc hW=>by
  rcases hc with ⟨rfl,rfl,rfl⟩|⟨rfl,rfl,rfl⟩
  ·exact ccost_any L ls 286 W.heap.size w2.heap.size _ _ W (hsl W hW).1 (Nat.le_refl _) (hr1.sl.below hW) hW.size HT.out.l.symm hll (by omega) (by omega) (HT.out.lle hm) hm1.le
  ·exact ccost_any D ds 30 W.heap.size w2.heap.size _ _ W (hsl W hW).2 (Nat.le_refl _) (hr2.sl.below hW) hW.size HT.out.d.symm hdl (by omega) (by omega) (HT.out.dle hm) hm2.le)
 obtain⟨la,lc,rfl,_⟩:=hr1.form
 obtain⟨da,dc,rfl,_⟩:=hr2.form
 have HB2:=Lib.hid (HB0.out.trans (hb2.mono HB0.out.size))
 have hce:=tbC_e (E:=E) HT.out.l HT.out.d
 rw[HCA.out] at hce
 have HKE:=Lib.hid (fun (W:World) (hW:Below w2.heap.size w2 W)=>(HO2.out.below hW hz2).1 316 _ hce)
 clear hr1 hr2 hb2 hm1 hm2 hsl hll hdl hce
 have ke:=HKE.out w2.drew (Below.refl _ _).drew
 have ke2:=HKE.out w2 (Below.refl _ _)
 go_upto_region 2 with (fail)
 go_region_with (go_at_call 186
                 refine (HCC.out _ _ _ _ (by first|exact .inl ⟨rfl,rfl,rfl⟩|exact .inr ⟨rfl,rfl,rfl⟩) (by first|exact HB3.out|exact (Below.refl _ _).drew)).mono ?_
                 first
                  |(have HB3':=HB3.out
                    rintro e w4 ⟨⟨x4,rfl⟩,hb4⟩
                    have HB4:=Lib.hid (HB3.out.trans (hb4.mono HB3.out.size))
                    have ke4:=HKE.out w4 HB4.out
                    clear hb4 HB3')
                  |(rintro e w3 ⟨⟨x3,rfl⟩,hb3⟩
                    have HB3:Hid (Below w2.heap.size w2 w3):=Lib.hid ((Below.refl w2.heap.size w2).drew.trans hb3)
                    have ke3:=HKE.out w3 HB3.out
                    clear hb3))
 all_goals
  go_wp2_with (fail)
  go_ret
  exact⟨⟨_,rfl⟩,HB2.out.trans (HB4.out.mono HB2.out.size)⟩
end Go.Proofs.YtmdgeoalamancaaGreatDoor
namespace Go.Proofs.YtmdgeoalamancaaGreatDoor
open Go.RowKit Go.Maps Go.WideMaps
open Bt Can Mc
theorem info_rn:(Tryz.prog.info? 182).map (fun i=>(i.zero,i.size,i.bytes))=some (some (.agg #[.int .i64 0,.int .i64 0]),2,16):=by kernel_rfl
def rnc (r:Rn.R):List Value:=[.int .i64 (r.1:Nat),.int .i64 (r.2:Nat)]
def runC (rs:List Rn.R):List Value:=rs.flatMap rnc
theorem runC_cons (t:Rn.R) (ts:List Rn.R):runC (t::ts)= .int .i64 (t.1:Nat):: .int .i64 (t.2:Nat)::runC ts:=by unfold runC;rw[List.flatMap_cons];rfl
theorem runC_app (a b:List Rn.R):runC (a++b)=runC a++runC b:=by unfold runC;rw[List.flatMap_append]
theorem runC_get: ∀(ts:List Rn.R) (j:Nat) (t:Rn.R),ts[j]? =some t→(runC ts)[j*2]? =some (.int .i64 (t.1:Nat))∧(runC ts)[j*2+1]? =some (.int .i64 (t.2:Nat))
 | [],_,_,h=>by simp at h
 |q::rs,0,r,h=>by
  simp only[List.getElem?_cons_zero,Option.some.injEq] at h
  subst h
  rw[runC_cons]
  exact⟨rfl,rfl⟩
 |q::rs,j+1,r,h=>by
  have:=runC_get rs j r (by simpa using h)
  rw[runC_cons]
  refine⟨?_,?_⟩
  ·rw[show (j+1)*2=j*2+2 by omega];exact this.1
  ·rw[show (j+1)*2+1=j*2+1+2 by omega];exact this.2
theorem runC_one (ts:List Rn.R): ∀u∈runC ts,u.oneCell'=true:=by
 intro u hu
 unfold runC at hu
 obtain⟨t,_,ht⟩:=List.mem_flatMap.1 hu
 simp[rnc] at ht
 rcases ht with rfl|rfl<;>rfl
set_option maxHeartbeats 2000000 in
theorem run_any (s:Int) (S P:Nat) (hs:s=(S:Nat)) (h18:S≤18) (hP:Rn.lst S≤P) (hP2:P≤1000) (w:World):Calls Tryz.prog 204 #[.int .i64 s,.int .i64 (P:Nat)] w fun e w'=>e= .returned (.agg #[.int .i64 s,.int .i64 ((P-Rn.lst S:Nat):Int)])∧Below w.heap.size w w':=by
 obtain⟨wa,hwa⟩: ∃z:World,z=w.alloc (.cells #[.int .i64 0,.int .i64 0] 182):=⟨_,rfl⟩
 have HB:Hid (Below w.heap.size w wa):=Lib.hid (by rw[hwa];exact (Below.refl _ _).alloc (Nat.le_refl _) _)
 have HO:Hid (Own wa w.heap.size [.int .i64 0,.int .i64 0]):=Lib.hid (by rw[hwa];exact Own.new_at w _ _ _ rfl)
 have HL:=Lib.hid (least_any S h18)
 rw[←hs] at HL
 obtain⟨L,hL⟩: ∃z,Rn.lst S=z:=⟨_,rfl⟩
 rw[hL] at HL hP ⊢
 have q1:IntKind.i64.wrap ((P:Int)-(L:Int))=((P-L:Nat):Int):=by rw[IntWalk.i64_in _ (by omega)];omega
 clear hs hL
 go_enter Tryz.func204,Tryz.ntmps204
 go_upto_region 1 with (fail)
 rw[←hwa]
 clear hwa
 obtain⟨b,hb⟩: ∃z,w.heap.size=z:=⟨_,rfl⟩
 rw[hb] at HO HB ⊢
 have m0:=HO.out.1 0 _ rfl
 have m1:=HO.out.1 1 _ rfl
 have f0:=HO.out.2 0
 have f1:=HO.out.2 1
 go_wp2_with (fail)
 refine (HL.out wa).mono ?_
 rintro e w3 ⟨rfl,rfl⟩
 go_wp2_with (fail)
 refine bodyPost_ret (v:= .agg #[.int .i64 s,.int .i64 ((P-L:Nat):Int)]) (by simp[results,Tryz.results204,go_sem,m0,m1]) rfl ⟨rfl,?_⟩
 rw[hb]
 exact (HB.out.setCell (p:=⟨b,0,none⟩) (Nat.le_refl _) _).setCell (p:=⟨b,1,none⟩) (Nat.le_refl _) _
structure Rp (w0 w:World) (v0 vl:Value) (rs:List Rn.R):Prop where
 row:Row 0 182 2 w vl rs.length (runC rs)
 fr:Fr (obk v0) w0 w
 nw: ∀k∈obk vl,k∈obk v0∨w0.heap.size≤k
theorem Rp.below {w0 w w':World} {v0 vl:Value} {rs:List Rn.R} (h:Rp w0 w v0 vl rs) (hb:Below w.heap.size w w'):Rp w0 w' v0 vl rs:=
 ⟨h.row.below hb,h.fr.trans (Fr.of_below (F:=[]) hb) (fun _ hx _=>by cases hx),h.nw⟩
theorem Rp.list {w0 w w':World} {v0 vl vl':Value} {rs:List Rn.R} {r:Rn.R} (h:Rp w0 w v0 vl rs) (hr:Row 0 182 2 w' vl' (rs.length+1) (runC rs++runC [r])) (hg:w.grownBy w' vl.ownBlock) (hw:vl'.ownBlock=vl.ownBlock∨ ∀q,vl'.ownBlock=some q→w.heap.size≤q):Rp w0 w' v0 vl' (rs++[r]):=by
 have hf:Fr (obk vl) w w':=(Fr.refl _ _).grown hg (fun k hk _=>mem_obk.2 hk)
 refine⟨by rw[List.length_append,runC_app];exact hr,h.fr.trans hf (fun k hk hlt=> ?_),fun k hk=> ?_⟩
 ·rcases h.nw k hk with h1|h1
  ·exact h1
  ·omega
 ·rcases hw with e|e
  ·exact h.nw k (mem_obk.2 (by rw[←e];exact mem_obk.1 hk))
  ·exact .inr (Nat.le_trans h.fr.size (e k (mem_obk.1 hk)))
def RepP (rs:List Rn.R) (n t:Nat) (v0:Value) (w:World) (e:Ending) (w':World):Prop:= ∃v',e= .returned v'∧Rp w w' v0 v' (rs++Rn.rep n t)
set_option maxHeartbeats 8000000 in
theorem repeat_zero (rs:List Rn.R) (m t:Nat) (v:Value) (w:World) (ht:1≤t) (ht2:t≤1000) (hm:m=rs.length) (hm2:m≤100000) (h:Row 0 182 2 w v m (runC rs)):Calls Tryz.prog 189 #[v,.int .i64 0,.int .i64 (t:Nat)] w (RepP rs 0 t v w):=by
 have hp0:Rp w w v v rs:=⟨by rw[←hm];exact h,Fr.refl _ _,fun k hk=> .inl hk⟩
 have HP0:=Lib.hid hp0
 obtain⟨X,hX⟩: ∃z,rs++Rn.rep 0 t=z:=⟨_,rfl⟩
 unfold RepP
 rw[hX]
 have HM:=Lib.hid hm
 have HH:=Lib.hid h
 clear h hp0 hm
 have HX0:Hid (X=rs++Rn.rest 0 t t):=Lib.hid (by rw[←hX];rfl)
 clear hX
 have hm3:rs.length≤100000:=by rw[←HM.out];exact hm2
 go_enter Tryz.func189,Tryz.ntmps189
 go_upto_region 4 with (fail)
 go_loopw [0,2] (fun vl u wr=> ∃(t':Nat) (rs':List Rn.R) (f:Nat),u= .int .i64 (t':Nat)∧t'≤f∧t'≤t∧Hid (Rp w wr v vl rs')∧Hid (X=rs'++Rn.rest 0 f t')∧rs'.length+t'≤m+1+t) (fun _ u _=>(intOf u).toNat)
 case atStart=>exact⟨t,rs,t,rfl,Nat.le_refl _,Nat.le_refl _,HP0,HX0,by rw[←HM.out];omega⟩
 case round=>
  clear HP0 HX0
  obtain⟨t',rs',f,rfl,hle,htt,HP,HX,hlen⟩:=hrel
  obtain⟨wo,rfl⟩: ∃z:World,z=wr:=⟨_,rfl⟩
  obtain⟨la,lc,rfl,_⟩:=HP.out.row.form
  by_cases hz:0<t'
  rotate_left
  ·obtain rfl:t'=0:=by omega
   go_wp2_with (fail)
   go_ret
   refine⟨_,rfl,?_⟩
   have e:X=rs':=by rw[HX.out];cases f<;>simp[Rn.rest]
   rw[e]
   exact HP.out
  have c1:decide (0<t')=true:=decide_eq_true hz
  have c1':decide ((0:Int)<(t':Int))=true:=decide_eq_true (by omega)
  obtain⟨f,rfl⟩: ∃k,f=k+1:=⟨f-1,by omega⟩
  by_cases h3:3≤t'
  ·by_cases h11:11≤t'
   ·as_aux_lemma=>
    have x11:decide (11≤t')=true:=decide_eq_true (h11)
    have x11':decide ((11:Int)≤(t':Int))=true:=decide_eq_true (by omega)
    obtain⟨P,hP⟩: ∃z,min t' 138=z:=⟨_,rfl⟩
    have hP1:P=Rn.prt 0 t':=by rw[←hP];unfold Rn.prt Rn.mst;rw[if_neg (by omega),if_pos ⟨rfl,h11⟩]
    have hSy:18=Rn.sym 0 t':=by unfold Rn.sym;rw[if_neg (by omega),if_pos ⟨rfl,h11⟩]
    have hls:Rn.lst 18=11:=by rfl
    have qm1:(if (t':Int)<138 then (t':Int) else 138)=((P:Nat):Int):=by rw[←hP];split<;>omega
    have qm2:(if (138:Int)<(t':Int) then (138:Int) else (t':Int))=((P:Nat):Int):=by rw[←hP];split<;>omega
    have qm3:min (t':Int) 138=((P:Nat):Int):=by rw[←hP];omega
    have qm4:(if (138:Int)≤(t':Int) then (138:Int) else (t':Int))=((P:Nat):Int):=by rw[←hP];split<;>omega
    have qm5:(if (t':Int)≤138 then (t':Int) else 138)=((P:Nat):Int):=by rw[←hP];split<;>omega
    have hPle:P≤t'∧1≤P∧11≤P:=by omega
    have HRUN:=Lib.hid (run_any 18 18 P (by rfl) (by omega) (by rw[hls];exact hPle.2.2) (by omega) wo)
    rw[hls] at HRUN
    obtain⟨T2,hT2⟩: ∃z,t'-P=z:=⟨_,rfl⟩
    have qt:IntKind.i64.wrap ((t':Int)-(P:Int))=((T2:Nat):Int):=by rw[IntWalk.i64_in _ (by omega)];omega
    have HT2:Hid (T2<t'∧T2≤f∧Rn.rest 0 (f+1) t'=(18,P-11)::Rn.rest 0 f T2):=Lib.hid (by
     refine⟨by omega,by omega,?_⟩
     have ht':t'=(t'-1)+1:=by omega
     have e:Rn.rest 0 (f+1) t'=(Rn.sym 0 t',Rn.prt 0 t'-Rn.lst (Rn.sym 0 t'))::Rn.rest 0 f (t'-Rn.prt 0 t'):=by rw[ht'];rfl
     rw[e,←hSy,←hP1,hls,hT2])
    obtain⟨E,hE⟩: ∃z,P-11=z:=⟨_,rfl⟩
    rw[hE] at HRUN HT2
    have HLE:=Lib.hid (And.intro hPle (And.intro hle htt))
    clear hP hP1 hSy hls hPle hT2 hE
    go_wp2_with (fail)
    refine HRUN.out.mono ?_
    rintro e w3 ⟨rfl,hb3⟩
    have HP3:=Lib.hid (HP.out.below hb3)
    clear hb3 HRUN HP
    have HPD:=Lib.hid (HP3.out.below ((Below.refl w3.heap.size w3).alloc (Nat.le_refl _) (.cells #[.int .i64 18,.int .i64 (E:Nat)] 182)))
    have HSL:Hid (Sl (w3.alloc (.cells #[.int .i64 18,.int .i64 (E:Nat)] 182)) (w3.heap.size+1) 2 (.slice (some ⟨w3.heap.size,0,none⟩) 1 1) 1 (runC [(18,E)])):=Lib.hid (Sl.new w3 2 1 [.int .i64 18,.int .i64 (E:Nat)] 182 rfl)
    go_wp2_with (at_builtin;refine append_rowM (base:=0) (size:=2) (xs:=runC rs') Tryz.underlying231 info_rn rfl (by decide) rfl _ _ rfl rfl HPD.out.row rfl HSL.out (runC_one _) ?_ ?_ ?_ ?_;omega;omega;exact Nat.zero_le _)
    intro v6 w6 hr6 hb6 hg6 hw6
    obtain⟨la6,lc6,rfl,_⟩:=hr6.form
    have HP6:=Lib.hid (HPD.out.list (r:=(18,E)) hr6 hg6 (by rcases hw6 with h|h;exact .inl h;exact .inr (fun q hq=>by have:=h q hq;simpa using this)))
    clear hr6 hb6 hg6 hw6 HPD HSL
    go_wp2_with (fail)
    go_roundw
    case rel=>exact⟨T2,rs'++[(18,E)],f,rfl,HT2.out.2.1,Nat.le_trans (Nat.le_of_lt HT2.out.1) HLE.out.2.2,HP6,Lib.hid (by rw[HX.out,HT2.out.2.2,List.append_assoc];rfl),by rw[List.length_append,List.length_singleton];have:=HT2.out.1;omega⟩
    case measure=>simp[intOf]<;>(have:=HT2.out.1;omega)
   ·as_aux_lemma=>
    have x11:decide (11≤t')=false:=decide_eq_false (h11)
    have x11':decide ((11:Int)≤(t':Int))=false:=decide_eq_false (by omega)
    have x3:decide (3≤t')=true:=decide_eq_true (h3)
    have x3':decide ((3:Int)≤(t':Int))=true:=decide_eq_true (by omega)
    obtain⟨P,hP⟩: ∃z,min t' 10=z:=⟨_,rfl⟩
    have hP1:P=Rn.prt 0 t':=by rw[←hP];unfold Rn.prt Rn.mst;rw[if_neg (by omega),if_neg (by omega),if_pos ⟨rfl,h3⟩]
    have hSy:17=Rn.sym 0 t':=by unfold Rn.sym;rw[if_neg (by omega),if_neg (by omega),if_pos ⟨rfl,h3⟩]
    have hls:Rn.lst 17=3:=by rfl
    have qm1:(if (t':Int)<10 then (t':Int) else 10)=((P:Nat):Int):=by rw[←hP];split<;>omega
    have qm2:(if (10:Int)<(t':Int) then (10:Int) else (t':Int))=((P:Nat):Int):=by rw[←hP];split<;>omega
    have qm3:min (t':Int) 10=((P:Nat):Int):=by rw[←hP];omega
    have qm4:(if (10:Int)≤(t':Int) then (10:Int) else (t':Int))=((P:Nat):Int):=by rw[←hP];split<;>omega
    have qm5:(if (t':Int)≤10 then (t':Int) else 10)=((P:Nat):Int):=by rw[←hP];split<;>omega
    have hPle:P≤t'∧1≤P∧3≤P:=by omega
    have HRUN:=Lib.hid (run_any 17 17 P (by rfl) (by omega) (by rw[hls];exact hPle.2.2) (by omega) wo)
    rw[hls] at HRUN
    obtain⟨T2,hT2⟩: ∃z,t'-P=z:=⟨_,rfl⟩
    obtain rfl:t'=P:=by omega
    obtain rfl:T2=0:=by omega
    have qt:IntKind.i64.wrap ((t':Int)-(t':Int))=((0:Nat):Int):=by rw[IntWalk.i64_in _ (by omega)];omega
    have HT2:Hid (0<t'∧0≤f∧Rn.rest 0 (f+1) t'=(17,t'-3)::Rn.rest 0 f 0):=Lib.hid (by
     refine⟨by omega,by omega,?_⟩
     have ht':t'=(t'-1)+1:=by omega
     have e:Rn.rest 0 (f+1) t'=(Rn.sym 0 t',Rn.prt 0 t'-Rn.lst (Rn.sym 0 t'))::Rn.rest 0 f (t'-Rn.prt 0 t'):=by rw[ht'];rfl
     rw[e,←hSy,←hP1,hls,Nat.sub_self])
    obtain⟨E,hE⟩: ∃z,t'-3=z:=⟨_,rfl⟩
    rw[hE] at HRUN HT2
    have HLE:=Lib.hid (And.intro hPle (And.intro hle htt))
    clear hP1 hSy hls hPle hE
    go_wp2_with (fail)
    refine HRUN.out.mono ?_
    rintro e w3 ⟨rfl,hb3⟩
    have HP3:=Lib.hid (HP.out.below hb3)
    clear hb3 HRUN HP
    have HPD:=Lib.hid (HP3.out.below ((Below.refl w3.heap.size w3).alloc (Nat.le_refl _) (.cells #[.int .i64 17,.int .i64 (E:Nat)] 182)))
    have HSL:Hid (Sl (w3.alloc (.cells #[.int .i64 17,.int .i64 (E:Nat)] 182)) (w3.heap.size+1) 2 (.slice (some ⟨w3.heap.size,0,none⟩) 1 1) 1 (runC [(17,E)])):=Lib.hid (Sl.new w3 2 1 [.int .i64 17,.int .i64 (E:Nat)] 182 rfl)
    go_wp2_with (at_builtin;refine append_rowM (base:=0) (size:=2) (xs:=runC rs') Tryz.underlying231 info_rn rfl (by decide) rfl _ _ rfl rfl HPD.out.row rfl HSL.out (runC_one _) ?_ ?_ ?_ ?_;omega;omega;exact Nat.zero_le _)
    intro v6 w6 hr6 hb6 hg6 hw6
    obtain⟨la6,lc6,rfl,_⟩:=hr6.form
    have HP6:=Lib.hid (HPD.out.list (r:=(17,E)) hr6 hg6 (by rcases hw6 with h|h;exact .inl h;exact .inr (fun q hq=>by have:=h q hq;simpa using this)))
    clear hr6 hb6 hg6 hw6 HPD HSL
    go_wp2_with (fail)
    go_roundw
    case rel=>exact⟨0,rs'++[(17,E)],f,rfl,HT2.out.2.1,Nat.le_trans (Nat.le_of_lt HT2.out.1) HLE.out.2.2,HP6,Lib.hid (by rw[HX.out,HT2.out.2.2,List.append_assoc];rfl),by rw[List.length_append,List.length_singleton];have:=HT2.out.1;omega⟩
    case measure=>simp[intOf]<;>(have:=HT2.out.1;omega)
  ·as_aux_lemma=>
   have x11:decide (11≤t')=false:=decide_eq_false (by omega)
   have x11':decide ((11:Int)≤(t':Int))=false:=decide_eq_false (by omega)
   have x3:decide (3≤t')=false:=decide_eq_false (h3)
   have x3':decide ((3:Int)≤(t':Int))=false:=decide_eq_false (by omega)
   obtain⟨P,hP⟩: ∃z,min t' 1=z:=⟨_,rfl⟩
   have hP1:P=Rn.prt 0 t':=by rw[←hP];unfold Rn.prt Rn.mst;rw[if_neg (by omega),if_neg (by omega),if_neg (by omega)]
   have hSy:0=Rn.sym 0 t':=by unfold Rn.sym;rw[if_neg (by omega),if_neg (by omega),if_neg (by omega)]
   have hls:Rn.lst 0=1:=by unfold Rn.lst;rw[if_neg (by omega),if_neg (by omega)]
   have qm1:(if (t':Int)<1 then (t':Int) else 1)=((P:Nat):Int):=by rw[←hP];split<;>omega
   have qm2:(if (1:Int)<(t':Int) then (1:Int) else (t':Int))=((P:Nat):Int):=by rw[←hP];split<;>omega
   have qm3:min (t':Int) 1=((P:Nat):Int):=by rw[←hP];omega
   have qm4:(if (1:Int)≤(t':Int) then (1:Int) else (t':Int))=((P:Nat):Int):=by rw[←hP];split<;>omega
   have qm5:(if (t':Int)≤1 then (t':Int) else 1)=((P:Nat):Int):=by rw[←hP];split<;>omega
   have hPle:P≤t'∧1≤P∧1≤P:=by omega
   have HRUN:=Lib.hid (run_any 0 0 P (by rfl) (by omega) (by rw[hls];exact hPle.2.2) (by omega) wo)
   rw[hls] at HRUN
   obtain⟨T2,hT2⟩: ∃z,t'-P=z:=⟨_,rfl⟩
   have qt:IntKind.i64.wrap ((t':Int)-(P:Int))=((T2:Nat):Int):=by rw[IntWalk.i64_in _ (by omega)];omega
   have HT2:Hid (T2<t'∧T2≤f∧Rn.rest 0 (f+1) t'=(0,P-1)::Rn.rest 0 f T2):=Lib.hid (by
    refine⟨by omega,by omega,?_⟩
    have ht':t'=(t'-1)+1:=by omega
    have e:Rn.rest 0 (f+1) t'=(Rn.sym 0 t',Rn.prt 0 t'-Rn.lst (Rn.sym 0 t'))::Rn.rest 0 f (t'-Rn.prt 0 t'):=by rw[ht'];rfl
    rw[e,←hSy,←hP1,hls,hT2])
   obtain⟨E,hE⟩: ∃z,P-1=z:=⟨_,rfl⟩
   rw[hE] at HRUN HT2
   have HLE:=Lib.hid (And.intro hPle (And.intro hle htt))
   clear hP hP1 hSy hls hPle hT2 hE
   go_wp2_with (fail)
   refine HRUN.out.mono ?_
   rintro e w3 ⟨rfl,hb3⟩
   have HP3:=Lib.hid (HP.out.below hb3)
   clear hb3 HRUN HP
   have HPD:=Lib.hid (HP3.out.below ((Below.refl w3.heap.size w3).alloc (Nat.le_refl _) (.cells #[.int .i64 0,.int .i64 (E:Nat)] 182)))
   have HSL:Hid (Sl (w3.alloc (.cells #[.int .i64 0,.int .i64 (E:Nat)] 182)) (w3.heap.size+1) 2 (.slice (some ⟨w3.heap.size,0,none⟩) 1 1) 1 (runC [(0,E)])):=Lib.hid (Sl.new w3 2 1 [.int .i64 0,.int .i64 (E:Nat)] 182 rfl)
   go_wp2_with (at_builtin;refine append_rowM (base:=0) (size:=2) (xs:=runC rs') Tryz.underlying231 info_rn rfl (by decide) rfl _ _ rfl rfl HPD.out.row rfl HSL.out (runC_one _) ?_ ?_ ?_ ?_;omega;omega;exact Nat.zero_le _)
   intro v6 w6 hr6 hb6 hg6 hw6
   obtain⟨la6,lc6,rfl,_⟩:=hr6.form
   have HP6:=Lib.hid (HPD.out.list (r:=(0,E)) hr6 hg6 (by rcases hw6 with h|h;exact .inl h;exact .inr (fun q hq=>by have:=h q hq;simpa using this)))
   clear hr6 hb6 hg6 hw6 HPD HSL
   go_wp2_with (fail)
   go_roundw
   case rel=>exact⟨T2,rs'++[(0,E)],f,rfl,HT2.out.2.1,Nat.le_trans (Nat.le_of_lt HT2.out.1) HLE.out.2.2,HP6,Lib.hid (by rw[HX.out,HT2.out.2.2,List.append_assoc];rfl),by rw[List.length_append,List.length_singleton];have:=HT2.out.1;omega⟩
   case measure=>simp[intOf]<;>(have:=HT2.out.1;omega)
set_option maxHeartbeats 8000000 in
theorem repeat_non (rs:List Rn.R) (m n t:Nat) (v:Value) (w:World) (hn0:n≠0) (hn:n≤15) (ht:1≤t) (ht2:t≤1000) (hm:m=rs.length) (hm2:m≤100000) (h:Row 0 182 2 w v m (runC rs)):Calls Tryz.prog 189 #[v,.int .i64 (n:Nat),.int .i64 (t:Nat)] w (RepP rs n t v w):=by
 have hp0:Rp w w v v rs:=⟨by rw[←hm];exact h,Fr.refl _ _,fun k hk=> .inl hk⟩
 have HP0:=Lib.hid hp0
 obtain⟨X,hX⟩: ∃z,rs++Rn.rep n t=z:=⟨_,rfl⟩
 unfold RepP
 rw[hX]
 have HM:=Lib.hid hm
 have HH:=Lib.hid h
 clear h hp0 hm
 have hX2:X=(rs++[(n,0)])++Rn.rest n (t-1) (t-1):=by rw[←hX,List.append_assoc];unfold Rn.rep;rw[if_neg hn0];rfl
 have HX0:=Lib.hid hX2
 obtain⟨T,hT⟩: ∃z,t-1=z:=⟨_,rfl⟩
 rw[hT] at HX0
 have q0:IntKind.i64.wrap ((t:Int)-1)=((T:Nat):Int):=by rw[IntWalk.i64_in _ (by omega)];omega
 have hTl:T≤1000:=by omega
 have e0:((n:Int)==0)=false:=by rw[beq_eq_false_iff_ne];omega
 have e0':(n==0)=false:=by rw[beq_eq_false_iff_ne];omega
 have e0'':decide ((n:Int)=0)=false:=decide_eq_false (by omega)
 have e0n:((n:Int) != 0)=true:=by rw[bne,e0];rfl
 clear hX hX2 hT ht ht2
 go_enter Tryz.func189,Tryz.ntmps189
 obtain⟨rl,hrl⟩: ∃z,rs.length=z:=⟨_,rfl⟩
 have hmr:m=rl:=by rw[HM.out];exact hrl
 subst hmr
 have HRL:=Lib.hid hrl
 clear hrl
 have HRW:=Lib.hid (HH.out.below ((Below.refl w.heap.size w).alloc (Nat.le_refl _) (.cells #[.int .i64 (n:Nat),.int .i64 0] 182)))
 have HPD:=Lib.hid (HP0.out.below ((Below.refl w.heap.size w).alloc (Nat.le_refl _) (.cells #[.int .i64 (n:Nat),.int .i64 0] 182)))
 have HSL:Hid (Sl (w.alloc (.cells #[.int .i64 (n:Nat),.int .i64 0] 182)) (w.heap.size+1) 2 (.slice (some ⟨w.heap.size,0,none⟩) 1 1) 1 (runC [(n,0)])):=Lib.hid (Sl.new w 2 1 [.int .i64 (n:Nat),.int .i64 0] 182 rfl)
 go_wp2_with (at_builtin;refine append_rowM (base:=0) (size:=2) (xs:=runC rs) Tryz.underlying231 info_rn rfl (by decide) rfl _ _ rfl rfl HRW.out rfl HSL.out (runC_one _) ?_ ?_ ?_ ?_;omega;omega;exact Nat.zero_le _)
 intro v6 w6 hr6 hb6 hg6 hw6
 obtain⟨la6,lc6,rfl,_⟩:=hr6.form
 have HP6:=Lib.hid (HPD.out.list (r:=(n,0)) (by rw[HRL.out];exact hr6) hg6 (by rcases hw6 with h|h;exact .inl h;exact .inr (fun q hq=>by have:=h q hq;simpa using this)))
 clear hr6 hb6 hg6 hw6 HPD HSL HRW HP0 HH
 obtain⟨rs6,hrs6⟩: ∃z,rs++[(n,0)]=z:=⟨_,rfl⟩
 rw[hrs6] at HP6 HX0
 have hlen6:rs6.length=m+1:=by rw[←hrs6,List.length_append,HRL.out];rfl
 have HLN6:=Lib.hid hlen6
 clear hrs6 hlen6
 go_upto_region 4 with (fail)
 go_loopw [0,2] (fun vl u wr=> ∃(t':Nat) (rs':List Rn.R) (f:Nat),u= .int .i64 (t':Nat)∧t'≤f∧t'≤T∧Hid (Rp w wr v vl rs')∧Hid (X=rs'++Rn.rest n f t')∧rs'.length+t'≤m+1+T) (fun _ u _=>(intOf u).toNat)
 case atStart=>exact⟨T,rs6,T,rfl,Nat.le_refl _,Nat.le_refl _,HP6,HX0,by rw[HLN6.out];exact Nat.le_refl _⟩
 case round=>
  clear HP6 HX0 HLN6
  obtain⟨t',rs',f,rfl,hle,htt,HP,HX,hlen⟩:=hrel
  obtain⟨wo,rfl⟩: ∃z:World,z=wr:=⟨_,rfl⟩
  obtain⟨la,lc,rfl,_⟩:=HP.out.row.form
  by_cases hz:0<t'
  rotate_left
  ·obtain rfl:t'=0:=by omega
   go_wp2_with (fail)
   go_ret
   refine⟨_,rfl,?_⟩
   have e:X=rs':=by rw[HX.out];cases f<;>simp[Rn.rest]
   rw[e]
   exact HP.out
  have c1:decide (0<t')=true:=decide_eq_true hz
  have c1':decide ((0:Int)<(t':Int))=true:=decide_eq_true (by omega)
  obtain⟨f,rfl⟩: ∃k,f=k+1:=⟨f-1,by omega⟩
  by_cases h3:3≤t'
  ·as_aux_lemma=>
   have x3:decide (3≤t')=true:=decide_eq_true (h3)
   have x3':decide ((3:Int)≤(t':Int))=true:=decide_eq_true (by omega)
   obtain⟨P,hP⟩: ∃z,min t' 6=z:=⟨_,rfl⟩
   have hP1:P=Rn.prt n t':=by rw[←hP];unfold Rn.prt Rn.mst;rw[if_pos ⟨hn0,h3⟩]
   have hSy:16=Rn.sym n t':=by unfold Rn.sym;rw[if_pos ⟨hn0,h3⟩]
   have hls:Rn.lst 16=3:=by rfl
   have qm1:(if (t':Int)<6 then (t':Int) else 6)=((P:Nat):Int):=by rw[←hP];split<;>omega
   have qm2:(if (6:Int)<(t':Int) then (6:Int) else (t':Int))=((P:Nat):Int):=by rw[←hP];split<;>omega
   have qm3:min (t':Int) 6=((P:Nat):Int):=by rw[←hP];omega
   have qm4:(if (6:Int)≤(t':Int) then (6:Int) else (t':Int))=((P:Nat):Int):=by rw[←hP];split<;>omega
   have qm5:(if (t':Int)≤6 then (t':Int) else 6)=((P:Nat):Int):=by rw[←hP];split<;>omega
   have hPle:P≤t'∧1≤P∧3≤P:=by omega
   have HRUN:=Lib.hid (run_any 16 16 P (by rfl) (by omega) (by rw[hls];exact hPle.2.2) (by omega) wo)
   rw[hls] at HRUN
   obtain⟨T2,hT2⟩: ∃z,t'-P=z:=⟨_,rfl⟩
   have qt:IntKind.i64.wrap ((t':Int)-(P:Int))=((T2:Nat):Int):=by rw[IntWalk.i64_in _ (by omega)];omega
   have HT2:Hid (T2<t'∧T2≤f∧Rn.rest n (f+1) t'=(16,P-3)::Rn.rest n f T2):=Lib.hid (by
    refine⟨by omega,by omega,?_⟩
    have ht':t'=(t'-1)+1:=by omega
    have e:Rn.rest n (f+1) t'=(Rn.sym n t',Rn.prt n t'-Rn.lst (Rn.sym n t'))::Rn.rest n f (t'-Rn.prt n t'):=by rw[ht'];rfl
    rw[e,←hSy,←hP1,hls,hT2])
   obtain⟨E,hE⟩: ∃z,P-3=z:=⟨_,rfl⟩
   rw[hE] at HRUN HT2
   have HLE:=Lib.hid (And.intro hPle (And.intro hle htt))
   clear hP hP1 hSy hls hPle hT2 hE
   go_wp2_with (fail)
   refine HRUN.out.mono ?_
   rintro e w3 ⟨rfl,hb3⟩
   have HP3:=Lib.hid (HP.out.below hb3)
   clear hb3 HRUN HP
   have HPD:=Lib.hid (HP3.out.below ((Below.refl w3.heap.size w3).alloc (Nat.le_refl _) (.cells #[.int .i64 16,.int .i64 (E:Nat)] 182)))
   have HSL:Hid (Sl (w3.alloc (.cells #[.int .i64 16,.int .i64 (E:Nat)] 182)) (w3.heap.size+1) 2 (.slice (some ⟨w3.heap.size,0,none⟩) 1 1) 1 (runC [(16,E)])):=Lib.hid (Sl.new w3 2 1 [.int .i64 16,.int .i64 (E:Nat)] 182 rfl)
   go_wp2_with (at_builtin;refine append_rowM (base:=0) (size:=2) (xs:=runC rs') Tryz.underlying231 info_rn rfl (by decide) rfl _ _ rfl rfl HPD.out.row rfl HSL.out (runC_one _) ?_ ?_ ?_ ?_;omega;omega;exact Nat.zero_le _)
   intro v6 w6 hr6 hb6 hg6 hw6
   obtain⟨la6,lc6,rfl,_⟩:=hr6.form
   have HP6:=Lib.hid (HPD.out.list (r:=(16,E)) hr6 hg6 (by rcases hw6 with h|h;exact .inl h;exact .inr (fun q hq=>by have:=h q hq;simpa using this)))
   clear hr6 hb6 hg6 hw6 HPD HSL
   go_wp2_with (fail)
   go_roundw
   case rel=>exact⟨T2,rs'++[(16,E)],f,rfl,HT2.out.2.1,Nat.le_trans (Nat.le_of_lt HT2.out.1) HLE.out.2.2,HP6,Lib.hid (by rw[HX.out,HT2.out.2.2,List.append_assoc];rfl),by rw[List.length_append,List.length_singleton];have:=HT2.out.1;omega⟩
   case measure=>simp[intOf]<;>(have:=HT2.out.1;omega)
  ·as_aux_lemma=>
   have x3:decide (3≤t')=false:=decide_eq_false (h3)
   have x3':decide ((3:Int)≤(t':Int))=false:=decide_eq_false (by omega)
   have x11:decide (11≤t')=false:=decide_eq_false (by omega)
   have x11':decide ((11:Int)≤(t':Int))=false:=decide_eq_false (by omega)
   obtain⟨P,hP⟩: ∃z,min t' 1=z:=⟨_,rfl⟩
   have hP1:P=Rn.prt n t':=by rw[←hP];unfold Rn.prt Rn.mst;rw[if_neg (by omega),if_neg (by omega),if_neg (by omega)]
   have hSy:n=Rn.sym n t':=by unfold Rn.sym;rw[if_neg (by omega),if_neg (by omega),if_neg (by omega)]
   have hls:Rn.lst n=1:=by unfold Rn.lst;rw[if_neg (by omega),if_neg (by omega)]
   have qm1:(if (t':Int)<1 then (t':Int) else 1)=((P:Nat):Int):=by rw[←hP];split<;>omega
   have qm2:(if (1:Int)<(t':Int) then (1:Int) else (t':Int))=((P:Nat):Int):=by rw[←hP];split<;>omega
   have qm3:min (t':Int) 1=((P:Nat):Int):=by rw[←hP];omega
   have qm4:(if (1:Int)≤(t':Int) then (1:Int) else (t':Int))=((P:Nat):Int):=by rw[←hP];split<;>omega
   have qm5:(if (t':Int)≤1 then (t':Int) else 1)=((P:Nat):Int):=by rw[←hP];split<;>omega
   have hPle:P≤t'∧1≤P∧1≤P:=by omega
   have HRUN:=Lib.hid (run_any (n:Int) n P (by rfl) (by omega) (by rw[hls];exact hPle.2.2) (by omega) wo)
   rw[hls] at HRUN
   obtain⟨T2,hT2⟩: ∃z,t'-P=z:=⟨_,rfl⟩
   have qt:IntKind.i64.wrap ((t':Int)-(P:Int))=((T2:Nat):Int):=by rw[IntWalk.i64_in _ (by omega)];omega
   have HT2:Hid (T2<t'∧T2≤f∧Rn.rest n (f+1) t'=(n,P-1)::Rn.rest n f T2):=Lib.hid (by
    refine⟨by omega,by omega,?_⟩
    have ht':t'=(t'-1)+1:=by omega
    have e:Rn.rest n (f+1) t'=(Rn.sym n t',Rn.prt n t'-Rn.lst (Rn.sym n t'))::Rn.rest n f (t'-Rn.prt n t'):=by rw[ht'];rfl
    rw[e,←hSy,←hP1,hls,hT2])
   obtain⟨E,hE⟩: ∃z,P-1=z:=⟨_,rfl⟩
   rw[hE] at HRUN HT2
   have HLE:=Lib.hid (And.intro hPle (And.intro hle htt))
   clear hP hP1 hSy hls hPle hT2 hE
   go_wp2_with (fail)
   refine HRUN.out.mono ?_
   rintro e w3 ⟨rfl,hb3⟩
   have HP3:=Lib.hid (HP.out.below hb3)
   clear hb3 HRUN HP
   have HPD:=Lib.hid (HP3.out.below ((Below.refl w3.heap.size w3).alloc (Nat.le_refl _) (.cells #[.int .i64 (n:Int),.int .i64 (E:Nat)] 182)))
   have HSL:Hid (Sl (w3.alloc (.cells #[.int .i64 (n:Int),.int .i64 (E:Nat)] 182)) (w3.heap.size+1) 2 (.slice (some ⟨w3.heap.size,0,none⟩) 1 1) 1 (runC [(n,E)])):=Lib.hid (Sl.new w3 2 1 [.int .i64 (n:Int),.int .i64 (E:Nat)] 182 rfl)
   go_wp2_with (at_builtin;refine append_rowM (base:=0) (size:=2) (xs:=runC rs') Tryz.underlying231 info_rn rfl (by decide) rfl _ _ rfl rfl HPD.out.row rfl HSL.out (runC_one _) ?_ ?_ ?_ ?_;omega;omega;exact Nat.zero_le _)
   intro v6 w6 hr6 hb6 hg6 hw6
   obtain⟨la6,lc6,rfl,_⟩:=hr6.form
   have HP6:=Lib.hid (HPD.out.list (r:=(n,E)) hr6 hg6 (by rcases hw6 with h|h;exact .inl h;exact .inr (fun q hq=>by have:=h q hq;simpa using this)))
   clear hr6 hb6 hg6 hw6 HPD HSL
   go_wp2_with (fail)
   go_roundw
   case rel=>exact⟨T2,rs'++[(n,E)],f,rfl,HT2.out.2.1,Nat.le_trans (Nat.le_of_lt HT2.out.1) HLE.out.2.2,HP6,Lib.hid (by rw[HX.out,HT2.out.2.2,List.append_assoc];rfl),by rw[List.length_append,List.length_singleton];have:=HT2.out.1;omega⟩
   case measure=>simp[intOf]<;>(have:=HT2.out.1;omega)
end Go.Proofs.YtmdgeoalamancaaGreatDoor
