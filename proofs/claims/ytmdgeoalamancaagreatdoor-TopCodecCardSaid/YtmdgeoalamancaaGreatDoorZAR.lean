/- Parts of slices; Tokens. Lengths of codes: depths. Sorting by exchanges: plain words and laws. The elements: numbers below a bound. -/
import Derived.Test.YtmdgeoalamancaaGreatDoorZAQ
import Derived.Test.YtmdgeoalamancaaGreatDoorZAI
import Derived.WalkKit
import Derived.Test.YtmdgeoalamancaaGreatDoorRows
set_option maxRecDepth 100000
set_option linter.unusedVariables false
set_option linter.unusedSimpArgs false
namespace Go.Proofs.YtmdgeoalamancaaGreatDoor
open Go.RowKit Go.Maps Go.WideMaps
open Bt Can Mc
section
variable {w:World} {B size n cap:Nat} {a:Option Addr} {cs:List Value}
theorem sl_sub (h:Sl w B size (.slice a n cap) n cs) {lo hi:Nat} (h1:lo≤hi) (h2:hi≤n):Sl w B size (.slice (if cap=lo then a else a.map (·.add (lo*size))) (hi-lo) (cap-lo)) (hi-lo) ((cs.drop (lo*size)).take ((hi-lo)*size)):=by
 obtain⟨hl,a',cap',he,hc,hor⟩:=h
 injection he with e1 _ e3
 subst e1 e3
 have h3:(hi-lo)*size≤n*size-lo*size:=by rw[Nat.sub_mul];exact Nat.sub_le_sub_right (Nat.mul_le_mul_right _ h2) _
 refine⟨by rw[List.length_take,List.length_drop,hl];exact Nat.min_eq_left h3,_,_,rfl,by omega,?_⟩
 by_cases hh:hi=lo
 ·refine .inl ⟨by omega,fun hn=> ?_⟩
  split at hn
  ·omega
  ·rcases hor with ⟨_,h4⟩|⟨b,off,rfl,_⟩
   ·cases a with
    |none=>have:=h4 rfl;omega
    |some x=>cases hn
   ·cases hn
 ·rcases hor with ⟨_,_⟩|⟨b,off,rfl,hb,hcell⟩
  ·omega
  refine .inr ⟨b,off+lo*size,?_,hb,fun j u hj=> ?_⟩
  ·rw[if_neg (by omega),Option.map_some,add_plain]
  ·have hj2:cs[lo*size+j]? =some u:=by
    rw[List.getElem?_take] at hj
    split at hj
    ·rwa [List.getElem?_drop] at hj
    ·cases hj
   rw[Nat.add_assoc]
   exact hcell _ _ hj2
variable (t:TypeId) (ht:Tryz.prog.underlying t=some (.slice (Tryz.prog.elem t))) (he: ∀W,(sizeOf (Tryz.prog.elem t)).run Tryz.prog W= .ok size W)
include ht he
theorem sub_lh (h:Sl w B size (.slice a n cap) n cs) {lo hi:Nat} (h1:lo≤hi) (h2:hi≤n): ∃v,(∀W,(Instr.slice t (.slice a n cap) (some (.int .i64 (lo:Nat))) (some (.int .i64 (hi:Nat))) none).run Tryz.prog W= .ok v W)∧Sl w B size v (hi-lo) ((cs.drop (lo*size)).take ((hi-lo)*size)):=by
 obtain⟨_,_,_,hx,hc,_⟩:=id h
 injection hx with _ _ e3
 subst e3
 refine⟨_,fun W=> ?_,sl_sub h h1 h2⟩
 rw[run_slice_lh W t a n cap ht .i64 .i64 _ _ (by omega) (by omega) (by omega),he]
 simp only[Result.andThen,sliced,Int.toNat_natCast]
theorem sub_l (h:Sl w B size (.slice a n cap) n cs) {lo:Nat} (h1:lo≤n): ∃v,(∀W,(Instr.slice t (.slice a n cap) (some (.int .i64 (lo:Nat))) none none).run Tryz.prog W= .ok v W)∧Sl w B size v (n-lo) (cs.drop (lo*size)):=by
 obtain⟨hl,_,_,hx,hc,_⟩:=id h
 injection hx with _ _ e3
 subst e3
 have h4:=sl_sub h h1 (Nat.le_refl _)
 rw[List.take_of_length_le (by rw[List.length_drop,hl,Nat.sub_mul];exact Nat.le_refl _)] at h4
 refine⟨_,fun W=> ?_,h4⟩
 rw[run_slice_l W t a n cap ht .i64 _ (by omega) (by omega),he]
 simp only[Result.andThen,sliced,Int.toNat_natCast]
theorem sub_h (h:Sl w B size (.slice a n cap) n cs) {hi:Nat} (h2:hi≤n): ∃v,(∀W,(Instr.slice t (.slice a n cap) none (some (.int .i64 (hi:Nat))) none).run Tryz.prog W= .ok v W)∧Sl w B size v hi (cs.take (hi*size)):=by
 obtain⟨_,_,_,hx,hc,_⟩:=id h
 injection hx with _ _ e3
 subst e3
 have h4:=sl_sub h (Nat.zero_le _) h2
 simp only[Nat.zero_mul,List.drop_zero,Nat.sub_zero] at h4
 refine⟨_,fun W=> ?_,h4⟩
 rw[run_slice_h W t a n cap ht .i64 _ (by omega) (by omega),he]
 simp only[Result.andThen,sliced,Int.toNat_natCast,Nat.zero_mul,Nat.sub_zero]
end
theorem szU8 (W:World):(sizeOf (Tryz.prog.elem 23)).run Tryz.prog W= .ok 1 W:=by kernel_rfl
set_option maxHeartbeats 4000000 in
theorem tokens_any (data:List Nat) (n B fr lv:Nat) (v:Value) (w:World) (h:Sl w B 1 v n (bC data)) (hB:B≤w.heap.size) (hn:n=data.length) (hl:n≤30000) (hb: ∀x∈data,x<256) (h0:fr≤n) (hlv:1≤lv) (hlv2:lv<10) (hc:Cr w):Calls Tryz.prog 46 #[v,.int .i64 (fr:Nat),.int .i64 (lv:Nat)] w fun e w'=> ∃(v':Value) (ts:List Tk.T),e= .returned (.tuple #[v',.int .i64 0])∧Row 0 162 3 w' v' ts.length (kC ts)∧Tk.Std data fr data.length ts∧Tk.Rch fr ts∧Below w.heap.size w w'∧(∀k∈obk v',w.heap.size≤k):=by
 have HLV:=Lib.hid (level_any lv hlv2 w hc)
 obtain⟨a,cap,rfl,hcap⟩:=h.form
 obtain⟨sv,hsl,hsv⟩:=sub_l 23 Tryz.underlying23 szU8 h (lo:=0) (Nat.zero_le _)
 rw[Nat.zero_mul,List.drop_zero,Nat.sub_zero] at hsv
 have HSV:=Lib.hid hsv
 have HN:=Lib.hid hn
 have HBY:=Lib.hid hb
 have d1:decide ((fr:Int)<0)=false:=decide_eq_false (by omega)
 have d2:decide ((n:Int)<(fr:Int))=false:=decide_eq_false (by omega)
 have d2':decide (n<fr)=false:=decide_eq_false (by omega)
 have d3:((lv:Int)==0)=false:=by simp;omega
 have d3':decide ((lv:Int)=0)=false:=decide_eq_false (by omega)
 have d3'':(lv==0)=false:=by simp;omega
 have d4:decide ((0:Int)<(fr:Int)-32768)=false:=decide_eq_false (by omega)
 have q1:IntKind.i64.wrap ((fr:Int)-32768)=(fr:Int)-32768:=IntWalk.i64_in _ (by omega)
 have q2:IntKind.i64.wrap (fr:Int)=(fr:Int):=IntWalk.i64_in _ (by omega)
 have hsl0: ∀W,(Instr.slice 23 (.slice a n cap) (some (.int .i64 0)) none none).run Tryz.prog W= .ok sv W:=hsl
 have hli:lv≠0:=by omega
 clear h hn hb hc hsl hsv
 go_enter Tryz.func46,Tryz.ntmps46
 go_wp2_with (fail)
 refine HLV.out.mono ?_
 rintro e w1 ⟨⟨dp,g,b,hdp,hg,rfl⟩,hb1⟩
 obtain⟨w2,hw2⟩: ∃z:World,z=w1.alloc (.cells #[.int .i64 (dp:Nat),.bool b,.int .i64 (g:Nat)] 158):=⟨_,rfl⟩
 have hb2:Below w1.heap.size w1 w2:=by rw[hw2];exact (Below.refl _ _).alloc (Nat.le_refl _) _
 have HO:Hid (Own w2 w1.heap.size [.int .i64 (dp:Nat),.bool b,.int .i64 (g:Nat)]):=Lib.hid (by rw[hw2];exact Own.new_at w1 _ _ _ rfl)
 have hbb:=hb1.trans (hb2.mono hb1.size)
 have HB:=Lib.hid hbb
 have HPA:Hid (∀W,Below w2.heap.size w2 W→Calls Tryz.prog 77 #[sv,.int .i64 (fr:Nat),.agg #[.int .i64 (dp:Nat),.bool b,.int .i64 (g:Nat)]] W (ParP data fr W)):=Lib.hid (fun W hW=>parse_any data n B fr dp g b sv W (HSV.out.below ((hbb.trans (hW.mono hbb.size)).mono hB)) (by have:=(hbb.trans (hW.mono hbb.size)).size;omega) HN.out (by omega) HBY.out h0 hdp hg)
 clear hb1 hb2 hbb HSV HLV
 go_upto_region 2 with (fail)
 rw[←hw2]
 clear hw2
 obtain⟨p8,hp8⟩: ∃z,w1.heap.size=z:=⟨_,rfl⟩
 rw[hp8] at HO ⊢
 clear hp8
 have m0:=HO.out.1 0 _ rfl
 have m1:=HO.out.1 1 _ rfl
 have m2:=HO.out.1 2 _ rfl
 go_upto_region 13 with (fail)
 go_region_with ((go_at_call 77
                  refine (HPA.out _ (Below.refl _ _).drew).mono ?_
                  rintro e w3 ⟨v',ts,rfl,hr,hs,hrc,hb3,hk⟩
                  have HR:Hid (Row 0 162 3 w3 v' ts.length (kC ts)∧Tk.Std data fr data.length ts∧Tk.Rch fr ts∧Below w.heap.size w w3∧(∀k∈obk v',w.heap.size≤k)):=Lib.hid ⟨hr,hs,hrc,HB.out.trans (((Below.refl w2.heap.size w2).drew.trans hb3).mono HB.out.size),fun k hk'=>Nat.le_trans HB.out.size (Nat.le_trans (Below.refl w2.heap.size w2).drew.size (hk k hk'))⟩
                  clear hr hs hrc hb3 hk m0 m1 m2))
 all_goals
  go_wp2_with (fail)
  go_ret2
  exact⟨v',ts,rfl,HR.out⟩
end Go.Proofs.YtmdgeoalamancaaGreatDoor
namespace Go.Proofs.YtmdgeoalamancaaGreatDoor
open Go.RowKit
open Bt Can Mc Pk
namespace Pk
def Bw (L:List Nat):Nat→List Nat
 |0=>[]
 |k+1=>wts (lev L k)
theorem lev_bwl (L:List Nat): ∀k,lev L k=mg L (prs (Bw L k))
 |0=>rfl
 |_+1=>rfl
theorem wts_len (A:List (Nat × Bool)):(wts A).length=A.length:=by unfold wts;rw[List.length_map]
theorem lev_le (L:List Nat): ∀k,(lev L k).length≤2*L.length
 |0=>by rw[lev_len0];omega
 |k+1=>by rw[lev_len];have:=lev_le L k;omega
theorem bwl_len (L:List Nat) (k:Nat):(Bw L k).length≤2*L.length:=by
 cases k with
 |zero=>exact Nat.zero_le _
 |succ k=>show (wts (lev L k)).length≤_;rw[wts_len];exact lev_le L k
theorem mul_two_pow (M k:Nat):M*2^k+M*2^k=M*2^(k+1):=by rw[Nat.pow_succ,←Nat.mul_assoc];omega
theorem lev_bound {L:List Nat} {M:Nat} (h: ∀x∈L,x≤M): ∀k,∀x∈wts (lev L k),x≤M*2^k
 |0,x,hx=>by
  unfold wts at hx
  obtain⟨y,hy,rfl⟩:=List.mem_map.1 hx
  rcases mg_mem L [] y hy with ⟨_,h2⟩|⟨_,h2⟩
  ·rw[Nat.pow_zero,Nat.mul_one];exact h _ h2
  ·cases h2
 |k+1,x,hx=>by
  unfold wts at hx
  obtain⟨y,hy,rfl⟩:=List.mem_map.1 hx
  rcases mg_mem L _ y hy with ⟨_,h2⟩|⟨_,h2⟩
  ·exact Nat.le_trans (h _ h2) (Nat.le_mul_of_pos_right _ (Nat.two_pow_pos _))
  ·obtain⟨a,b,ha,hb,e⟩:=prs_mem _ _ h2
   have h3:=lev_bound h k a ha
   have h4:=lev_bound h k b hb
   have:=mul_two_pow M k
   omega
theorem bwl_bound {L:List Nat} (h: ∀x∈L,x≤1099511627776) {k:Nat} (hk:k≤15): ∀x∈Bw L k,x≤1000000000000000000:=by
 cases k with
 |zero=>intro x hx;cases hx
 |succ k=>
  intro x hx
  have h1:=lev_bound h k x hx
  have h2:(2:Nat)^k≤2^14:=Nat.pow_le_pow_right (by omega) (by omega)
  have h3:1099511627776*2^k≤1099511627776*2^14:=Nat.mul_le_mul_left _ h2
  have h4:(1099511627776:Nat)*2^14≤1000000000000000000:=by decide
  omega
def dl (L:List Nat) (T t q:Nat):List Nat:=(List.range L.length).map fun i=>dep L T i t+if i<q then 1 else 0
theorem dl_len (L:List Nat) (T t q:Nat):(dl L T t q).length=L.length:=by unfold dl;simp
theorem dl_get (L:List Nat) (T t q:Nat) {i:Nat} (h:i<L.length):(dl L T t q)[i]? =some (dep L T i t+if i<q then 1 else 0):=by
 unfold dl
 rw[List.getElem?_map,List.getElem?_range h]
 rfl
theorem dl_start (L:List Nat) (T:Nat):List.replicate L.length 0=dl L T 0 0:=by
 refine List.ext_getElem? fun i=> ?_
 by_cases h:i<L.length
 ·rw[dl_get _ _ _ _ h,List.getElem?_replicate,if_pos h,if_neg (by omega)];rfl
 ·rw[List.getElem?_eq_none (by simp;omega),List.getElem?_eq_none (by rw[dl_len];omega)]
theorem dl_step (L:List Nat) (T t:Nat) {q:Nat} (hq:q<L.length):(dl L T t q).set q (dep L T q t+1)=dl L T t (q+1):=by
 refine List.ext_getElem? fun i=> ?_
 by_cases h:i<L.length
 ·rw[dl_get _ _ _ _ h]
  by_cases e:q=i
  ·subst e
   rw[List.getElem?_set_self (by rw[dl_len];exact h),if_pos (by omega)]
  ·rw[List.getElem?_set_ne e,dl_get _ _ _ _ h]
   by_cases h2:i<q
   ·rw[if_pos h2,if_pos (by omega)]
   ·rw[if_neg h2,if_neg (by omega)]
 ·rw[List.getElem?_eq_none (by rw[List.length_set,dl_len];omega),List.getElem?_eq_none (by rw[dl_len];omega)]
theorem dl_next (L:List Nat) (T t:Nat):dl L T t (jv L T t)=dl L T (t+1) 0:=by
 refine List.ext_getElem? fun i=> ?_
 by_cases h:i<L.length
 ·rw[dl_get _ _ _ _ h,dl_get _ _ _ _ h]
  rfl
 ·rw[List.getElem?_eq_none (by rw[dl_len];omega),List.getElem?_eq_none (by rw[dl_len];omega)]
theorem nl_le (L:List Nat) (hL:Asc L) (k m:Nat):nl ((lev L k).take m)≤L.length:=by
 rw[lev_bwl]
 exact (mg_first L _ m hL).1
theorem nl_snoc {A:List (Nat × Bool)} {i:Nat} {x:Nat × Bool} (h:A[i]? =some x):nl (A.take (i+1))=nl (A.take i)+(if x.2=true then 0 else 1):=by
 rw[List.take_add_one,h]
 unfold nl
 rw[List.countP_append]
 cases hx:x.2<;>simp[hx]
theorem np_snoc {A:List (Nat × Bool)} {i:Nat} {x:Nat × Bool} (h:A[i]? =some x):np (A.take (i+1))=np (A.take i)+(if x.2=true then 1 else 0):=by
 rw[List.take_add_one,h]
 unfold np
 rw[List.countP_append]
 cases hx:x.2<;>simp[hx]
end Pk
theorem info_sb:(Tryz.prog.info? 317).map (fun i=>(i.zero,i.size,i.bytes))=some (some (.slice none 0 0),1,24):=by kernel_rfl
theorem mkL (n:Nat) (W:World) (hn:n≤100):(Instr.makeSlice 316 (.int .i64 ((n:Nat):Int)) (.int .i64 ((n:Nat):Int))).run Tryz.prog W= .ok (.slice (some ⟨W.heap.size,0,none⟩) n n) (W.alloc (.cells (Array.replicate n (Value.slice none 0 0)) 317)):=by
 obtain⟨i0,hi,hz0,hz1,hz2⟩:=info_parts info_sb
 have:=run_makeSlice (P:=Tryz.prog) W 316 317 i0 (.slice none 0 0) Tryz.underlying316 hi hz0 .i64 .i64 ((n:Nat):Int) ((n:Nat):Int) (by omega) (Int.le_refl _) (by rw[hz1];omega) (by rw[hz2];omega) (by omega)
 rw[this,hz1,made_one n _ rfl,List.toArray_replicate]
 rw[show (((n:Nat):Int)).toNat=n by omega]
theorem szB (W:World):(sizeOf (Tryz.prog.elem 317)).run Tryz.prog W= .ok 1 W:=by kernel_rfl
structure Lv (L:List Nat) (w0 w:World) (lb T k:Nat) (vw:Value):Prop where
 b:Below w0.heap.size w0 w
 lt:lb<w.heap.size
 wt:Row (lb+1) 3 1 w vw (Bw L k).length (iC (Bw L k))
 own: ∃vs:List Value,vs.length=k∧Own w lb (vs++List.replicate (T+1-k) (Value.slice none 0 0))∧ ∀t u,vs[t]? =some u→Row (lb+1) 4 1 w u (lev L t).length (oC (lev L t))
theorem Lv.start (L:List Nat) (w:World) (T:Nat):Lv L w (w.alloc (.cells (List.replicate (T+1) (Value.slice none 0 0)).toArray 317)) w.heap.size T 0 (.slice none 0 0):=
 ⟨(Below.refl _ _).alloc (Nat.le_refl _) _,by simp,Row.nil,[],rfl,Own.new_at w _ _ _ (by simp),fun t u h=>by simp at h⟩
theorem Lv.cell {L:List Nat} {w0 w:World} {lb T k:Nat} {vw:Value} (h:Lv L w0 w lb T k vw) (hk:k≤T):w.cell? ⟨lb,k,none⟩=some (.slice none 0 0)∧w.frozen? ⟨lb,k,none⟩=false:=by
 obtain⟨vs,hl,ho,_⟩:=h.own
 refine⟨ho.1 k _ ?_,ho.2 k⟩
 rw[List.getElem?_append_right (by omega),hl,Nat.sub_self,List.getElem?_replicate,if_pos (by omega)]
theorem Lv.step {L:List Nat} {w0 w w':World} {lb T k:Nat} {vw vw' vp:Value} (h:Lv L w0 w lb T k vw) (hk:k≤T) (hm:M2 w w' vw' vp (lev L k)) (hw:w0.heap.size≤lb):Lv L w0 (w'.setCell ⟨lb,k,none⟩ vp) lb T (k+1) vw':=by
 obtain⟨vs,hl,ho,hrow⟩:=h.own
 have hbb:=h.b.trans (hm.b.mono h.b.size)
 refine⟨hbb.setCell (p:=⟨lb,k,none⟩) hw _,by have:=hm.b.size;have:=h.lt;simpa using by omega,?_,vs++[vp],by rw[List.length_append,hl];rfl,?_,fun t u ht=> ?_⟩
 ·show Row (lb+1) 3 1 _ vw' (wts (lev L k)).length (iC (wts (lev L k)))
  rw[wts_len]
  exact (hm.rw_.mono h.lt).other (by omega) _ _
 ·have h1:=(ho.below hm.b h.lt).set k vp (by rw[List.length_append,hl,List.length_replicate];omega)
  rw[List.set_append_right _ _ (by omega),hl,Nat.sub_self] at h1
  have e:T+1-k=(T+1-(k+1))+1:=by omega
  rw[e,List.replicate_succ,List.set_cons_zero] at h1
  rw[List.append_assoc]
  exact h1
 ·by_cases e:t<k
  ·rw[List.getElem?_append_left (by omega)] at ht
   exact ((hrow t u ht).below hm.b).other (by omega) _ _
  ·rw[List.getElem?_append_right (by omega),hl] at ht
   obtain rfl:t=k:=by
    by_cases e2:t=k
    ·exact e2
    ·rw[List.getElem?_eq_none (by simp;omega)] at ht;cases ht
   rw[Nat.sub_self] at ht
   injection ht with ht
   subst ht
   exact (hm.rp.mono h.lt).other (by omega) _ _
theorem Lv.done {L:List Nat} {w0 w:World} {lb T:Nat} {vw:Value} (h:Lv L w0 w lb T (T+1) vw): ∀W,Below w.heap.size w W→ ∀t,t≤T→ ∃u,W.cell? ⟨lb,t,none⟩=some u∧Sl W w.heap.size 1 u (lev L t).length (oC (lev L t)):=by
 obtain⟨vs,hl,ho,hrow⟩:=h.own
 intro W hW t ht
 obtain⟨u,hu⟩: ∃u,vs[t]? =some u:=⟨_,List.getElem?_eq_getElem (by omega)⟩
 refine⟨u,(hW.cell (p:=⟨lb,t,none⟩) h.lt).trans (ho.1 t u (by rw[List.getElem?_append_left (by omega)];exact hu)),(hrow t u hu).sl.below hW⟩
def DepP (L:List Nat) (T:Nat) (w:World) (e:Ending) (w':World):Prop:= ∃v',e= .returned v'∧Row w.heap.size 3 1 w' v' L.length (iC (dl L T (T+1) 0))∧Below w.heap.size w w'
set_option maxHeartbeats 16000000 in
theorem depths_any (L:List Nat) (n T M B:Nat) (v:Value) (w:World) (h:Sl w B 1 v n (iC L)) (hB:B≤w.heap.size) (hn:n=L.length) (h2:2≤n) (hl:n≤1000) (hx: ∀x∈L,x≤1099511627776) (hL:Asc L) (hM:M=T+1) (hT:M≤15) (hf:n≤2^(T+1)):Calls Tryz.prog 203 #[v,.int .i64 (M:Nat)] w (DepP L T w):=by
 obtain⟨a0,cap,rfl,hcap⟩:=h.form
 have HMG:=Lib.hid (fun (W W0:World) (hW:Below w.heap.size w W) (vb:Value) (k:Nat) (base:Nat) (hk:k≤T) (hb:Row base 3 1 W vb (Bw L k).length (iC (Bw L k)))=>merge_any L (Bw L k) n (Bw L k).length W.heap.size (.slice a0 n cap) vb W ((h.below (hW.mono hB)).mono (by have:=hW.size;omega)) hb.sl (Nat.le_refl _) hn rfl (by omega) hl (by have:=bwl_len L k;omega) hx (bwl_bound hx (by omega)))
 obtain⟨wa,hwa⟩: ∃z:World,z=w.alloc (.cells (Array.replicate M (Value.slice none 0 0)) 317):=⟨_,rfl⟩
 have HL0:Hid (Lv L w wa w.heap.size T 0 (.slice none 0 0)):=Lib.hid (by rw[hwa,hM,←List.toArray_replicate];exact Lv.start L w T)
 have hmk:=mkL M w (by omega)
 have HN:=Lib.hid hn
 have HA:=Lib.hid hL
 have HM:=Lib.hid hM
 have hf':L.length≤2^(T+1):=by omega
 have HF:=Lib.hid hf'
 have q1:IntKind.i64.wrap (2*(n:Int))=((2*n:Nat):Int):=by rw[IntWalk.i64_in _ (by omega)];omega
 obtain⟨n2,hn2⟩: ∃z,2*n=z:=⟨_,rfl⟩
 rw[hn2] at q1
 obtain⟨N0,hN0⟩: ∃z,n2-2=z:=⟨_,rfl⟩
 have q2:IntKind.i64.wrap ((n2:Int)-2)=((N0:Nat):Int):=by rw[IntWalk.i64_in _ (by omega)];omega
 have q3:IntKind.i64.wrap ((M:Int)-1)=((T:Nat):Int):=by rw[IntWalk.i64_in _ (by omega)];omega
 have HN0:Hid (N0=nd L T 0):=Lib.hid (by show N0=2*L.length-2;omega)
 have hN0l:N0≤2000:=by omega
 have hTl:T≤14:=by omega
 have hMT:T<M:=by omega
 clear hM hn hx hL hf hf' hn2 hN0
 go_enter Tryz.func203,Tryz.ntmps203
 go_upto_region 2 with (fail)
 rw[←hwa]
 clear hwa hmk
 obtain⟨lb,hlb⟩: ∃z,w.heap.size=z:=⟨_,rfl⟩
 have HLB:=Lib.hid hlb
 rw[hlb] at HL0 ⊢
 clear hlb
 go_upto_region 4 with (fail)
 go_loopw [18,6] (fun u vw wr=> ∃k:Nat,u= .int .i64 (k:Nat)∧k≤M∧Hid (Lv L w wr lb T k vw)) (fun u _ _=>M-(intOf u).toNat)
 case atStart=>exact⟨0,rfl,Nat.zero_le _,HL0⟩
 case round=>
  clear HL0
  obtain⟨k,rfl,hk,HLV⟩:=hrel
  obtain⟨wo,rfl⟩: ∃z:World,z=wr:=⟨_,rfl⟩
  by_cases hkm:k<M
  ·as_aux_lemma=>
   have e1:decide (k<M)=true:=decide_eq_true hkm
   have e1':decide ((k:Int)<(M:Int))=true:=decide_eq_true (by omega)
   have hki:(k:Int)<(M:Int):=by omega
   have p3:IntKind.i64.wrap ((k:Int)+1)=((k+1:Nat):Int):=by rw[IntWalk.i64_in _ (by omega)];omega
   have hkT:k≤T:=by have:=HM.out;omega
   have HCALL:=Lib.hid (HMG.out wo w HLV.out.b _ k _ hkT HLV.out.wt)
   go_upto_region 6 with (fail)
   go_wp2_with (fail)
   refine HCALL.out.mono ?_
   rintro e w3 ⟨vw',vp,rfl,hm2⟩
   rw[←lev_bwl] at hm2
   have HNX:=Lib.hid (HLV.out.step hkT hm2 (by rw[HLB.out];exact Nat.le_refl _))
   obtain⟨pa,pc,rfl,_⟩:=hm2.rp.form
   obtain⟨wa2,wc2,rfl,_⟩:=hm2.rw_.form
   obtain⟨c0,f0⟩:=HLV.out.cell hkT
   have c1:=(hm2.b.cell (p:=⟨lb,k,none⟩) HLV.out.lt).trans c0
   have f1:=(hm2.b.frozen (p:=⟨lb,k,none⟩) HLV.out.lt).trans f0
   clear c0 f0 hm2 HCALL
   go_wp2_with (fail)
   go_roundw
   case rel=>exact⟨k+1,rfl,hkm,HNX⟩
   case measure=>simp[intOf]<;>omega
  ·have e1:decide (k<M)=false:=decide_eq_false hkm
   have e1':decide ((k:Int)<(M:Int))=false:=decide_eq_false (by omega)
   have hkM:k=T+1:=by have:=HM.out;omega
   rw[hkM] at HLV
   have HK:=Lib.hid HLV.out.done
   have HBW:=Lib.hid HLV.out.b
   clear hkM
   have hmk:=hmkI n wo (by omega)
   obtain⟨wb,hwb⟩: ∃z:World,z=wo.alloc (.cells (iC (List.replicate n 0)).toArray 3):=⟨_,rfl⟩
   have HLR:Hid (Row wo.heap.size 3 1 wb (.slice (some ⟨wo.heap.size,0,none⟩) n n) n (iC (dl L T 0 0))):=Lib.hid (by
    rw[hwb,←dl_start,←HN.out]
    exact Row.lit wo _ (Nat.le_refl _) (by omega) (by rw[iC_len];simp))
   have HB2:Hid (Below wo.heap.size wo wb):=Lib.hid (by rw[hwb];exact (Below.refl _ _).alloc (Nat.le_refl _) _)
   go_upto_region 9 with (fail)
   rw[←hwb]
   clear hwb hmk HLV
   obtain⟨nb,hnb⟩: ∃z,wo.heap.size=z:=⟨_,rfl⟩
   have HNB:=Lib.hid hnb
   rw[hnb] at HLR HB2 HK ⊢
   clear hnb
   go_upto_region 11 with (fail)
   go_loopw [9,10] (fun u9 u10 wr=> ∃(t N:Nat) (k:Int),u9= .int .i64 (N:Nat)∧u10= .int .i64 k∧Hid (N=nd L T t)∧((k= -1∧t=T+1)∨ ∃K:Nat,k=K∧K+t=T)∧Hid (Row nb 3 1 wr (.slice (some ⟨nb,0,none⟩) n n) n (iC (dl L T t 0)))∧Hid (Below nb wo wr)) (fun _ u10 _=>(intOf u10+1).toNat)
   case atStart=>exact⟨0,N0,(T:Nat),rfl,rfl,HN0,.inr ⟨T,rfl,rfl⟩,HLR,HB2⟩
   case round=>
    clear HLR HB2
    obtain⟨t,N,k',rfl,rfl,HND,hkk,HLR,HB⟩:=hrel
    obtain⟨w4,rfl⟩: ∃z:World,z=wr:=⟨_,rfl⟩
    rcases hkk with ⟨rfl,ht⟩|⟨K,rfl,ht⟩
    ·go_wp2_with (fail)
     go_ret
     refine⟨_,rfl,?_,HBW.out.trans (HB.out.mono (by rw[←HNB.out];exact HBW.out.size))⟩
     rw[←HN.out,←ht]
     exact HLR.out.mono (by rw[←HNB.out];exact HBW.out.size)
    ·have HT:=Lib.hid ht
     have hKT:K≤T:=by omega
     have hKM:K<M:=by omega
     have hKi:(K:Int)<(M:Int):=by omega
     have g1:decide ((0:Int)≤(K:Int))=true:=decide_eq_true (by omega)
     have p4:IntKind.i64.wrap ((K:Int)-1)=(K:Int)-1:=IntWalk.i64_in _ (by omega)
     have htT:t≤T:=by omega
     have hTK:T-t=K:=by omega
     have hND:=nd_le L T HA.out HF.out t htT
     have hspl:=nd_split L T HA.out HF.out htT
     have hjv:jv L T t=nl ((lev L (T-t)).take (nd L T t)):=rfl
     have hnx:nd L T (t+1)=2*np ((lev L (T-t)).take (nd L T t)):=rfl
     rw[hTK,←HND.out] at hND hspl hjv hnx
     have hlv:=lev_le L K
     rw[←HN.out] at hlv
     obtain⟨u,hcu,hsl⟩:=HK.out w4 HB.out K hKT
     obtain⟨A,hA⟩: ∃z,lev L K=z:=⟨_,rfl⟩
     have HLE:=Lib.hid (fun m=>nl_le L HA.out K m)
     rw[hA] at hND hspl hjv hnx hlv hsl HLE
     obtain⟨ua,uc,rfl,_⟩:=hsl.form
     obtain⟨sv,hsv,hssl⟩:=sub_h 317 Tryz.underlying317 szB hsl hND
     rw[Nat.mul_one] at hssl
     obtain⟨sa,sc,rfl,_⟩:=hssl.form
     have HJ:=Lib.hid hjv
     have HX:=Lib.hid hnx
     have hNl:N≤2000:=by omega
     have HCE:Hid (∀W,Below nb w4 W→ ∀i x,i<N→A[i]? =some x→ ∃b off,sa=some ⟨b,off,none⟩∧W.cell? ⟨b,off+i,none⟩=some (.bool x.2)):=Lib.hid (fun W hW i x hi hx=>by
      have h5:=hssl.below hW
      obtain⟨b,off,rfl,hc⟩:=sl_cells h5 (by omega)
      refine⟨b,off,rfl,hc i _ ?_⟩
      rw[List.getElem?_take,if_pos hi]
      exact oC_get hx)
     have HAL:Hid (N≤A.length):=Lib.hid hND
     clear hND hspl hjv hnx hlv hsl hssl hA ht hTK
     have hw4:nb<w4.heap.size:=(HLR.out.lt nb rfl).2
     go_upto_region 15 with (fail)
     go_loopw [51,11] (fun ui up wr=> ∃i pr q:Nat,ui= .int .i64 (i:Nat)∧up= .int .i64 (pr:Nat)∧i≤N∧pr≤i∧Hid (i=q+pr∧nl (A.take i)=q∧np (A.take i)=pr)∧Hid (Row nb 3 1 wr (.slice (some ⟨nb,0,none⟩) n n) n (iC (dl L T t q)))∧Hid (Below nb w4 wr)) (fun ui _ _=>N-(intOf ui).toNat)
     case atStart=>exact⟨0,0,0,rfl,rfl,Nat.zero_le _,Nat.le_refl _,Lib.hid ⟨rfl,rfl,rfl⟩,HLR,Lib.hid (Below.refl _ _)⟩
     case round=>
      clear hcu HLR
      obtain⟨i,pr,q,rfl,rfl,hi,hpr,HQ,HLR,HB5⟩:=hrel
      obtain⟨w5,rfl⟩: ∃z:World,z=wr:=⟨_,rfl⟩
      by_cases hiN:i<N
      ·have d1:decide (i<N)=true:=decide_eq_true hiN
       have d1':decide ((i:Int)<(N:Int))=true:=decide_eq_true (by omega)
       have hii:(i:Int)<(N:Int):=by omega
       have p5:IntKind.i64.wrap ((i:Int)+1)=((i+1:Nat):Int):=by rw[IntWalk.i64_in _ (by omega)];omega
       have p6:IntKind.i64.wrap ((pr:Int)+1)=((pr+1:Nat):Int):=by rw[IntWalk.i64_in _ (by omega)];omega
       have p7:IntKind.i64.wrap ((i:Int)-(pr:Int))=((q:Nat):Int):=by rw[IntWalk.i64_in _ (by omega)];have:=HQ.out.1;omega
       obtain⟨⟨x,bx⟩,hx⟩: ∃x,A[i]? =some x:=⟨_,List.getElem?_eq_getElem (by have:=HAL.out;omega)⟩
       have hns:=nl_snoc hx
       have hps:=np_snoc hx
       rw[HQ.out.2.1] at hns
       rw[HQ.out.2.2] at hps
       obtain⟨sb,so,rfl,ce⟩:=HCE.out w5 HB5.out i _ hiN hx
       cases bx with
       |true=>
        as_aux_lemma=>
        have HQ2:Hid (i+1=q+(pr+1)∧nl (A.take (i+1))=q∧np (A.take (i+1))=pr+1):=Lib.hid ⟨by have:=HQ.out.1;omega,hns,hps⟩
        clear hns hps hx
        go_wp2_with (fail)
        go_roundw
        case rel=>exact⟨i+1,pr+1,q,rfl,rfl,hiN,by omega,HQ2,HLR,HB5⟩
        case measure=>simp[intOf]<;>omega
       |false=>
        as_aux_lemma=>
        have HQ2:Hid (i+1=q+1+pr∧nl (A.take (i+1))=q+1∧np (A.take (i+1))=pr):=Lib.hid ⟨by have:=HQ.out.1;omega,hns,hps⟩
        have hqn:q<L.length:=by have:=HLE.out (i+1);rw[HQ2.out.2.1] at this;omega
        have HST:=Lib.hid (dl_step L T t hqn)
        have hqn':q<n:=by rw[HN.out];exact hqn
        have hqi:(q:Int)<(n:Int):=by omega
        have hdg:=dl_get L T t q hqn
        rw[if_neg (Nat.lt_irrefl q),Nat.add_zero] at hdg
        have hdl:=dep_le L T q t
        obtain⟨D,hD⟩: ∃z,dep L T q t=z:=⟨_,rfl⟩
        rw[hD] at hdg hdl HST
        have kp:=sl_same HLR.out.sl (by omega) q _ (iC_get hdg)
        rw[Nat.zero_add] at kp
        have fp:=HLR.out.frozenAt q
        have p8:IntKind.i64.wrap ((D:Int)+1)=((D+1:Nat):Int):=by rw[IntWalk.i64_in _ (by omega)];omega
        obtain⟨D1,hD1⟩: ∃z,D+1=z:=⟨_,rfl⟩
        rw[hD1] at p8 HST
        have HL6:Hid (Row nb 3 1 (w5.setCell ⟨nb,q,none⟩ (.int .i64 (D1:Nat))) (.slice (some ⟨nb,0,none⟩) n n) n (iC (dl L T t (q+1)))):=Lib.hid (by
         rw[←HST.out,←iC_set]
         exact (World.ownsRow.stored HLR.out q (.int .i64 (D1:Nat))).1)
        have HB6:=Lib.hid (HB5.out.setCell (p:=⟨nb,q,none⟩) (by show nb≤nb;exact Nat.le_refl _) (.int .i64 (D1:Nat)))
        clear hns hps hx hqn hdg hdl hD hD1 HST
        go_wp2_with (fail)
        go_roundw
        case rel=>exact⟨i+1,pr,q+1,rfl,rfl,hiN,by omega,HQ2,HL6,HB6⟩
        case measure=>simp[intOf]<;>omega
      ·have d1:decide (i<N)=false:=decide_eq_false hiN
       have d1':decide ((i:Int)<(N:Int))=false:=decide_eq_false (by omega)
       obtain rfl:i=N:=by omega
       have HNX:Hid (2*pr=nd L T (t+1)):=Lib.hid (by rw[HX.out,HQ.out.2.2])
       have HLR2:Hid (Row nb 3 1 w5 (.slice (some ⟨nb,0,none⟩) n n) n (iC (dl L T (t+1) 0))):=Lib.hid (by
        rw[←dl_next,HJ.out,HQ.out.2.1]
        exact HLR.out)
       have HB7:=Lib.hid (HB.out.trans HB5.out)
       obtain⟨N2,hN2⟩: ∃z,2*pr=z:=⟨_,rfl⟩
       have p9:IntKind.i64.wrap (2*(pr:Int))=((N2:Nat):Int):=by rw[IntWalk.i64_in _ (by omega)];omega
       rw[hN2] at HNX
       have HT':=HT.out
       clear hN2
       go_wp2_with (fail)
       go_roundw
       case rel=>exact⟨t+1,N2,(K:Int)-1,rfl,rfl,HNX,by
        have:=HT.out
        by_cases hK0:K=0
        ·exact .inl ⟨by omega,by omega⟩
        ·exact .inr ⟨K-1,by omega,by omega⟩,HLR2,HB7⟩
       case measure=>simp[intOf]<;>omega
end Go.Proofs.YtmdgeoalamancaaGreatDoor
namespace Go.Proofs.YtmdgeoalamancaaGreatDoor
section
variable {α:Type}
def updF (f:Nat→α) (i:Nat) (x:α):Nat→α:=fun k=>if k=i then x else f k
def swp (f:Nat→α) (i j:Nat):Nat→α:=fun k=>if k=i then f j else if k=j then f i else f k
inductive Sw (a b:Nat) (f:Nat→α):(Nat→α)→Prop
 |refl:Sw a b f f
 |step {g:Nat→α} (i j:Nat):Sw a b f g→a≤i→i<b→a≤j→j<b→Sw a b f (swp g i j)
theorem Sw.trans {a b:Nat} {f g h:Nat→α} (h1:Sw a b f g) (h2:Sw a b g h):Sw a b f h:=by
 induction h2 with
 |refl=>exact h1
 |step i j _ p q r s ih=>exact ih.step i j p q r s
theorem Sw.mono {a b a' b':Nat} {f g:Nat→α} (h:Sw a b f g) (ha:a'≤a) (hb:b≤b'):Sw a' b' f g:=by
 induction h with
 |refl=>exact .refl
 |step i j _ p q r s ih=>exact ih.step i j (Nat.le_trans ha p) (Nat.lt_of_lt_of_le q hb) (Nat.le_trans ha r) (Nat.lt_of_lt_of_le s hb)
theorem Sw.out {a b:Nat} {f g:Nat→α} (h:Sw a b f g) (k:Nat) (hk:k<a∨b≤k):g k=f k:=by
 induction h with
 |refl=>rfl
 |step i j _ p q r s ih=>
  unfold swp
  rw[if_neg (by omega),if_neg (by omega),ih]
theorem Sw.all {a b:Nat} {f g:Nat→α} (h:Sw a b f g) (P:α→Prop) (hf: ∀k,a≤k→k<b→P (f k)): ∀k,a≤k→k<b→P (g k):=by
 induction h with
 |refl=>exact hf
 |step i j _ p q r s ih=>
  intro k hk hk'
  unfold swp
  split
  ·exact ih j r s
  ·split
   ·exact ih i p q
   ·exact ih k hk hk'
theorem swp_upd (f:Nat→α) (i j:Nat) (h:i≠j):swp f i j=updF (updF f i (f j)) j (f i):=by
 funext k
 unfold swp updF
 by_cases e:k=i
 ·rw[if_pos e,if_neg (by omega),if_pos e]
 ·rw[if_neg e]
  split
  ·rfl
  ·rfl
def Srt (le:α→α→Prop) (f:Nat→α) (a b:Nat):Prop:= ∀i j,a≤i→i<j→j<b→le (f i) (f j)
theorem Srt.sub {le:α→α→Prop} {f:Nat→α} {a b a' b':Nat} (h:Srt le f a b) (ha:a≤a') (hb:b'≤b):Srt le f a' b':=fun i j h1 h2 h3=>h i j (by omega) h2 (by omega)
theorem Srt.congr {le:α→α→Prop} {f g:Nat→α} {a b:Nat} (h:Srt le f a b) (e: ∀k,a≤k→k<b→g k=f k):Srt le g a b:=fun i j h1 h2 h3=>by
 rw[e i h1 (by omega),e j (by omega) h3]
 exact h i j h1 h2 h3
structure Ord (le:α→α→Prop):Prop where
 trans: ∀{x y z},le x y→le y z→le x z
 total: ∀x y,le x y∨le y x
theorem Ord.self {le:α→α→Prop} (o:Ord le) (x:α):le x x:=(o.total x x).elim id id
theorem Ord.not {le:α→α→Prop} (o:Ord le) {x y:α} (h: ¬le y x):le x y:=(o.total x y).elim id fun q=>absurd q h
theorem Srt.le {le:α→α→Prop} (o:Ord le) {f:Nat→α} {a b:Nat} (h:Srt le f a b) {i j:Nat} (h1:a≤i) (h2:i≤j) (h3:j<b):le (f i) (f j):=by
 by_cases e:i=j
 ·rw[e];exact o.self _
 ·exact h i j h1 (by omega) h3
def InsI (le:α→α→Prop) (g:Nat→α) (a i j:Nat):Prop:=
 (∀p q,a≤p→p<q→q≤i→p≠j→q≠j→le (g p) (g q))∧ ∀q,j<q→q≤i→le (g j) (g q)
theorem InsI.start {le:α→α→Prop} {g:Nat→α} {a i:Nat} (h:Srt le g a i):InsI le g a i i:=
 ⟨fun p q h1 h2 h3 _ h5=>h p q h1 h2 (by omega),fun q h1 h2=>by omega⟩
theorem InsI.step {le:α→α→Prop} {g:Nat→α} {a i j:Nat} (h:InsI le g a i (j+1)) (ha:a≤j) (hj:j+1≤i) (hlt:le (g (j+1)) (g j)):InsI le (swp g (j+1) j) a i j:=by
 obtain⟨h1,h2⟩:=h
 have e1:swp g (j+1) j j=g (j+1):=by unfold swp;rw[if_neg (by omega),if_pos rfl]
 have e2:swp g (j+1) j (j+1)=g j:=by unfold swp;rw[if_pos rfl]
 have e3: ∀k,k≠j→k≠j+1→swp g (j+1) j k=g k:=fun k a b=>by unfold swp;rw[if_neg b,if_neg a]
 refine⟨fun p q p1 p2 p3 p4 p5=> ?_,fun q q1 q2=> ?_⟩
 ·by_cases c1:p=j+1
  ·subst c1
   rw[e2,e3 q (by omega) (by omega)]
   exact h1 j q ha (by omega) p3 (by omega) (by omega)
  ·by_cases c2:q=j+1
   ·subst c2
    rw[e2,e3 p p4 c1]
    exact h1 p j p1 (by omega) (by omega) (by omega) (by omega)
   ·rw[e3 p p4 c1,e3 q p5 c2]
    exact h1 p q p1 p2 p3 c1 c2
 ·rw[e1]
  by_cases c:q=j+1
  ·subst c;rw[e2];exact hlt
  ·rw[e3 q (by omega) c]
   exact h2 q (by omega) q2
theorem InsI.done {le:α→α→Prop} (o:Ord le) {g:Nat→α} {a i j:Nat} (h:InsI le g a i j) (hj:j≤i) (he:j≤a∨le (g (j-1)) (g j)):Srt le g a (i+1):=by
 obtain⟨h1,h2⟩:=h
 intro p q p1 p2 p3
 by_cases c1:p=j
 ·subst c1
  exact h2 q p2 (by omega)
 ·by_cases c2:q=j
  ·subst c2
   rcases he with he|he
   ·omega
   ·by_cases c3:p=q-1
    ·rw[c3];exact he
    ·exact o.trans (h1 p (q-1) p1 (by omega) (by omega) c1 (by omega)) he
  ·exact h1 p q p1 p2 (by omega) c1 c2
def mvU (g:Nat→α) (a k:Nat):Nat→α:=fun p=>if a≤p∧p<k then g (p+1) else if p=k then g a else g p
theorem mvU_start (g:Nat→α) (a:Nat):mvU g a a=g:=by
 funext p
 unfold mvU
 rw[if_neg (by omega)]
 split
 ·rename_i e;rw[e]
 ·rfl
theorem mvU_step (g:Nat→α) (a k:Nat) (h:a≤k):swp (mvU g a k) k (k+1)=mvU g a (k+1):=by
 funext p
 unfold swp mvU
 by_cases c1:p=k
 ·subst c1
  rw[if_pos rfl,if_neg (by omega),if_neg (by omega),if_pos (by omega)]
 ·by_cases c2:p=k+1
  ·subst c2
   rw[if_neg c1,if_pos rfl,if_neg (by omega),if_pos rfl,if_neg (by omega),if_pos rfl]
  ·rw[if_neg c1,if_neg c2]
   by_cases c3:a≤p∧p<k
   ·rw[if_pos c3,if_pos (by omega)]
   ·rw[if_neg c3,if_neg c1,if_neg (by omega),if_neg c2]
theorem mvU_srt {le:α→α→Prop} (o:Ord le) {g:Nat→α} {a b i:Nat} (hs:Srt le g (a+1) b) (hi:a+1≤i) (hib:i≤b) (hlo: ∀k,a+1≤k→k<i→le (g k) (g a)) (hhi: ∀k,i≤k→k<b→le (g a) (g k)):Srt le (mvU g a (i-1)) a b:=by
 intro p q p1 p2 p3
 unfold mvU
 by_cases c1:p<i-1
 ·rw[if_pos ⟨p1,c1⟩]
  by_cases c2:q<i-1
  ·rw[if_pos ⟨by omega,c2⟩]
   exact hs _ _ (by omega) (by omega) (by omega)
  ·rw[if_neg (by omega)]
   by_cases c3:q=i-1
   ·rw[if_pos c3];exact hlo _ (by omega) (by omega)
   ·rw[if_neg c3];exact hs _ _ (by omega) (by omega) p3
 ·rw[if_neg (by omega)]
  by_cases c2:p=i-1
  ·rw[if_pos c2,if_neg (by omega),if_neg (by omega)]
   exact hhi q (by omega) p3
  ·rw[if_neg c2,if_neg (by omega),if_neg (by omega)]
   exact hs _ _ (by omega) p2 p3
def mvD (g:Nat→α) (m k:Nat):Nat→α:=fun p=>if k<p∧p≤m then g (p-1) else if p=k then g m else g p
theorem mvD_start (g:Nat→α) (m:Nat):mvD g m m=g:=by
 funext p
 unfold mvD
 rw[if_neg (by omega)]
 split
 ·rename_i e;rw[e]
 ·rfl
theorem mvD_step (g:Nat→α) (m k:Nat) (h:k+1≤m):swp (mvD g m (k+1)) (k+1) k=mvD g m k:=by
 funext p
 unfold swp mvD
 by_cases c1:p=k+1
 ·subst c1
  rw[if_pos rfl,if_neg (by omega),if_neg (by omega),if_pos (by omega)]
  rfl
 ·by_cases c2:p=k
  ·subst c2
   rw[if_neg c1,if_pos rfl,if_neg (by omega),if_pos rfl,if_neg (by omega),if_pos rfl]
  ·rw[if_neg c1,if_neg c2]
   by_cases c3:k+1<p∧p≤m
   ·rw[if_pos c3,if_pos (by omega)]
   ·rw[if_neg c3,if_neg c1,if_neg (by omega),if_neg c2]
theorem mvD_srt {le:α→α→Prop} {g:Nat→α} {a m i:Nat} (hs:Srt le g a m) (hi:a≤i) (him:i≤m) (hlo: ∀k,a≤k→k<i→le (g k) (g m)) (hhi: ∀k,i≤k→k<m→le (g m) (g k)):Srt le (mvD g m i) a (m+1):=by
 intro p q p1 p2 p3
 unfold mvD
 by_cases c1:i<p
 ·rw[if_pos ⟨c1,by omega⟩,if_pos ⟨by omega,by omega⟩]
  exact hs _ _ (by omega) (by omega) (by omega)
 ·rw[if_neg (by omega)]
  by_cases c2:p=i
  ·rw[if_pos c2,if_pos ⟨by omega,by omega⟩]
   exact hhi _ (by omega) (by omega)
  ·rw[if_neg c2]
   by_cases c3:i<q
   ·rw[if_pos ⟨c3,by omega⟩]
    exact hs _ _ p1 (by omega) (by omega)
   ·rw[if_neg (by omega)]
    by_cases c4:q=i
    ·rw[if_pos c4];exact hlo p p1 (by omega)
    ·rw[if_neg c4];exact hs _ _ p1 p2 (by omega)
def swR (g:Nat→α) (a b i:Nat):Nat→α:=fun p=>if a≤p∧p<a+i then g (p-a+b) else if b≤p∧p<b+i then g (p-b+a) else g p
theorem swR_start (g:Nat→α) (a b:Nat):swR g a b 0=g:=by
 funext p
 unfold swR
 rw[if_neg (by omega),if_neg (by omega)]
theorem swR_step (g:Nat→α) (a b i n:Nat) (hi:i<n) (hd:a+n≤b∨b+n≤a):swp (swR g a b i) (a+i) (b+i)=swR g a b (i+1):=by
 funext p
 unfold swp swR
 by_cases c1:p=a+i
 ·subst c1
  rw[if_pos rfl,if_neg (by omega),if_neg (by omega),if_pos (by omega)]
  congr 1;omega
 ·by_cases c2:p=b+i
  ·subst c2
   rw[if_neg c1,if_pos rfl,if_neg (by omega),if_neg (by omega),if_neg (by omega),if_pos (by omega)]
   congr 1;omega
  ·rw[if_neg c1,if_neg c2]
   by_cases c3:a≤p∧p<a+i
   ·rw[if_pos c3,if_pos (by omega)]
   ·rw[if_neg c3,if_neg (show¬(a≤p∧p<a+(i+1)) by omega)]
    by_cases c4:b≤p∧p<b+i
    ·rw[if_pos c4,if_pos (by omega)]
    ·rw[if_neg c4,if_neg (by omega)]
theorem swR_sw (g:Nat→α) (a b n lo hi:Nat) (hd:a+n≤b∨b+n≤a) (h1:lo≤a) (h2:a+n≤hi) (h3:lo≤b) (h4:b+n≤hi): ∀i,i≤n→Sw lo hi g (swR g a b i)
 |0,_=>by rw[swR_start];exact .refl
 |i+1,h=>by
  rw[←swR_step g a b i n (by omega) hd]
  exact (swR_sw g a b n lo hi hd h1 h2 h3 h4 i (by omega)).step _ _ (by omega) (by omega) (by omega) (by omega)
def rotF (g:Nat→α) (s m e:Nat):Nat→α:=fun p=>if s≤p∧p<s+(e-m) then g (p+(m-s)) else if s+(e-m)≤p∧p<e then g (p-(e-m)) else g p
theorem rotF_left (g:Nat→α) (s m e:Nat) (hm:m=s):rotF g s m e=g:=by
 funext p
 unfold rotF
 split
 ·congr 1;omega
 ·split
  ·exfalso;omega
  ·rfl
theorem rotF_right (g:Nat→α) (s m e:Nat) (hm:m=e) (hs:s≤m):rotF g s m e=g:=by
 funext p
 unfold rotF
 rw[if_neg (by omega)]
 split
 ·congr 1;omega
 ·rfl
theorem rotF_more (g:Nat→α) (m i j:Nat) (hi:j<i) (him:i≤m):rotF (swR g (m-i) m j) (m-i+j) m (m+j)=rotF g (m-i) m (m+j):=by
 funext p
 unfold rotF swR
 by_cases c0:p<m-i
 ·rw[if_neg (by omega),if_neg (by omega),if_neg (by omega),if_neg (by omega),if_neg (by omega),if_neg (by omega)]
 by_cases c1:p<m-i+j
 ·rw[if_neg (by omega),if_neg (by omega),if_pos (by omega),if_pos (by omega)]
  congr 1;omega
 by_cases c2:p<m-i+j+j
 ·rw[if_pos (by omega)]
  rw[if_neg (show¬(m-i≤p∧p<m-i+(m+j-m)) by omega),if_pos (show m-i+(m+j-m)≤p∧p<m+j by omega)]
  rw[if_neg (by omega),if_pos (by omega)]
  congr 1;omega
 by_cases c3:p<m+j
 ·rw[if_neg (by omega),if_pos (by omega),if_neg (show¬(m-i≤p∧p<m-i+(m+j-m)) by omega),if_pos (show m-i+(m+j-m)≤p∧p<m+j by omega)]
  rw[if_neg (by omega)]
  by_cases c4:m≤p-(m+j-m)
  ·exfalso;omega
  ·rw[if_neg (by omega)]
 ·rw[if_neg (by omega),if_neg (by omega),if_neg (by omega),if_neg (by omega),if_neg (by omega),if_neg (by omega)]
theorem rotF_less (g:Nat→α) (m i j:Nat) (hi:i<j) (him:i≤m):rotF (swR g (m-i) (m+j-i) i) (m-i) m (m+j-i)=rotF g (m-i) m (m+j):=by
 funext p
 unfold rotF swR
 by_cases c0:p<m-i
 ·rw[if_neg (by omega),if_neg (by omega),if_neg (by omega),if_neg (by omega),if_neg (by omega),if_neg (by omega)]
 by_cases c1:p<m-i+(j-i)
 ·rw[if_pos (by omega),if_neg (by omega),if_neg (by omega),if_pos (by omega)]
 by_cases c2:p<m+j-i
 ·rw[if_neg (by omega),if_pos (by omega),if_pos (by omega),if_pos (by omega)]
  congr 1;omega
 by_cases c3:p<m+j
 ·rw[if_neg (by omega),if_neg (by omega),if_neg (by omega),if_pos (by omega),if_neg (by omega),if_pos (by omega)]
  congr 1;omega
 ·rw[if_neg (by omega),if_neg (by omega),if_neg (by omega),if_neg (by omega),if_neg (by omega),if_neg (by omega)]
theorem rotF_even (g:Nat→α) (m i:Nat) (him:i≤m):swR g (m-i) m i=rotF g (m-i) m (m+i):=by
 funext p
 unfold rotF swR
 by_cases c1:m-i≤p∧p<m-i+i
 ·rw[if_pos c1,if_pos (by omega)]
  congr 1;omega
 ·by_cases c2:m≤p∧p<m+i
  ·rw[if_neg c1,if_pos c2,if_neg (by omega),if_pos (by omega)]
   congr 1;omega
  ·rw[if_neg c1,if_neg c2,if_neg (by omega),if_neg (by omega)]
theorem rotF_sw: ∀(N:Nat) (g:Nat→α) (m i j:Nat),i+j≤N→0<i→0<j→i≤m→Sw (m-i) (m+j) g (rotF g (m-i) m (m+j))
 |0,_,_,_,_,h,h1,_,_=>by omega
 |N+1,g,m,i,j,h,h1,h2,h3=>by
  rcases Nat.lt_trichotomy i j with c|c|c
  ·rw[←rotF_less g m i j c h3]
   have s1:Sw (m-i) (m+j) g (swR g (m-i) (m+j-i) i):=swR_sw g (m-i) (m+j-i) i _ _ (.inl (by omega)) (Nat.le_refl _) (by omega) (by omega) (by omega) i (Nat.le_refl _)
   have s2:=rotF_sw N (swR g (m-i) (m+j-i) i) m i (j-i) (by omega) h1 (by omega) h3
   rw[show m+(j-i)=m+j-i by omega] at s2
   exact s1.trans (s2.mono (Nat.le_refl _) (by omega))
  ·subst c
   rw[←rotF_even g m i h3]
   exact swR_sw g (m-i) m i _ _ (.inl (by omega)) (Nat.le_refl _) (by omega) (by omega) (Nat.le_refl _) i (Nat.le_refl _)
  ·rw[←rotF_more g m i j c h3]
   have s1:Sw (m-i) (m+j) g (swR g (m-i) m j):=swR_sw g (m-i) m j _ _ (.inl (by omega)) (Nat.le_refl _) (by omega) (by omega) (Nat.le_refl _) j (Nat.le_refl _)
   have s2:=rotF_sw N (swR g (m-i) m j) m (i-j) j (by omega) (by omega) h2 (by omega)
   rw[show m-(i-j)=m-i+j by omega] at s2
   exact s1.trans (s2.mono (by omega) (Nat.le_refl _))
theorem rotF_sw' (g:Nat→α) (a b s m e:Nat) (h1:a≤s) (h2:s≤m) (h3:m≤e) (h4:e≤b):Sw a b g (rotF g s m e):=by
 by_cases c1:m=s
 ·rw[rotF_left g s m e c1];exact .refl
 ·by_cases c2:m=e
  ·rw[rotF_right g s m e c2 h2];exact .refl
  ·have:=rotF_sw (m-s+(e-m)) g m (m-s) (e-m) (Nat.le_refl _) (by omega) (by omega) (by omega)
   rw[show m-(m-s)=s by omega,show m+(e-m)=e by omega] at this
   exact this.mono h1 h4
def cutLo (a m b mid:Nat):Nat:=if mid<m then mid+m-b else a
def cutHi (m mid:Nat):Nat:=if mid<m then mid else m
structure IsCut (le:α→α→Prop) (g:Nat→α) (m lo hi n s r:Nat):Prop where
 l1:lo≤s
 l2:s≤r
 l3:r≤hi
 low: ∀c,lo≤c→c<s→le (g c) (g (n-1-c))
 high: ∀c,r≤c→c<hi→le (g (n-1-c)) (g c)
theorem cut_bd {a m b mid:Nat} (hm:mid=(a+b)/2) (h1:a<m) (h2:m<b):
  a≤cutLo a m b mid∧cutLo a m b mid≤cutHi m mid∧cutHi m mid≤m∧cutHi m mid≤mid∧mid+m≤cutLo a m b mid+b∧(cutHi m mid=m∨cutHi m mid=mid∧mid<m)∧(cutLo a m b mid=a∨cutLo a m b mid+b=mid+m∧mid<m)∧(mid<m∨cutLo a m b mid=a∧cutHi m mid=m)∧(¬mid<m∨cutLo a m b mid+b=mid+m∧cutHi m mid=mid):=by
 unfold cutLo cutHi
 by_cases c:mid<m
 ·rw[if_pos c,if_pos c];omega
 ·rw[if_neg c,if_neg c];omega
theorem IsCut.yes {le:α→α→Prop} (o:Ord le) {g:Nat→α} {a m b mid s r c:Nat} (hm:mid=(a+b)/2) (h1:a<m) (h2:m<b) (hl:Srt le g a m) (hr:Srt le g m b) (h:IsCut le g m (cutLo a m b mid) (cutHi m mid) (mid+m) s r) (hc:s≤c) (hc':c<r) (hle:le (g c) (g (mid+m-1-c))):
  IsCut le g m (cutLo a m b mid) (cutHi m mid) (mid+m) (c+1) r:=by
 have k:=cut_bd hm h1 h2
 have k1:=h.l1
 have k3:=h.l3
 refine⟨by omega,by omega,h.l3,fun d d1 d2=> ?_,h.high⟩
 by_cases e:d<s
 ·exact h.low d d1 e
 ·exact o.trans (hl.le o (by omega) (show d≤c by omega) (by omega)) (o.trans hle (hr.le o (by omega) (by omega) (by omega)))
theorem IsCut.no {le:α→α→Prop} (o:Ord le) {g:Nat→α} {a m b mid s r c:Nat} (hm:mid=(a+b)/2) (h1:a<m) (h2:m<b) (hl:Srt le g a m) (hr:Srt le g m b) (h:IsCut le g m (cutLo a m b mid) (cutHi m mid) (mid+m) s r) (hc:s≤c) (hc':c<r) (hle:le (g (mid+m-1-c)) (g c)):
  IsCut le g m (cutLo a m b mid) (cutHi m mid) (mid+m) s c:=by
 have k:=cut_bd hm h1 h2
 have k1:=h.l1
 have k3:=h.l3
 refine⟨h.l1,hc,by omega,h.low,fun d d1 d2=> ?_⟩
 by_cases e:r≤d
 ·exact h.high d e d2
 ·exact o.trans (hr.le o (by omega) (show mid+m-1-d≤mid+m-1-c by omega) (by omega)) (o.trans hle (hl.le o (by omega) d1 (by omega)))
structure Halves (le:α→α→Prop) (h:Nat→α) (a s mid e b:Nat):Prop where
 l1:Srt le h a s
 l2:Srt le h s mid
 r1:Srt le h mid e
 r2:Srt le h e b
 all: ∀p q,a≤p→p<mid→mid≤q→q<b→le (h p) (h q)
theorem IsCut.halves {le:α→α→Prop} (o:Ord le) {g:Nat→α} {a m b mid s:Nat} (hm:mid=(a+b)/2) (h1:a<m) (h2:m<b) (hl:Srt le g a m) (hr:Srt le g m b) (h:IsCut le g m (cutLo a m b mid) (cutHi m mid) (mid+m) s s):
  (a≤s∧s≤m∧s≤mid∧m≤mid+m-s∧mid+m-s≤b∧mid≤mid+m-s∧a<mid∧mid<b)∧Halves le (rotF g s m (mid+m-s)) a s mid (mid+m-s) b:=by
 have k:=cut_bd hm h1 h2
 have k1:=h.l1
 have k3:=h.l3
 have hb:a≤s∧s≤m∧s≤mid∧m≤mid+m-s∧mid+m-s≤b∧mid≤mid+m-s∧a<mid∧mid<b:=by omega
 refine⟨hb,?_⟩
 have hA: ∀p,p<s→rotF g s m (mid+m-s) p=g p:=fun p hp=>by unfold rotF;rw[if_neg (by omega),if_neg (by omega)]
 have hB: ∀p,s≤p→p<mid→rotF g s m (mid+m-s) p=g (p+(m-s)):=fun p hp hp'=>by unfold rotF;rw[if_pos (by omega)]
 have hC: ∀p,mid≤p→p<mid+m-s→rotF g s m (mid+m-s) p=g (p-(mid-s)):=fun p hp hp'=>by
  unfold rotF
  rw[if_neg (by omega),if_pos (by omega)]
  congr 1;omega
 have hD: ∀p,mid+m-s≤p→rotF g s m (mid+m-s) p=g p:=fun p hp=>by unfold rotF;rw[if_neg (by omega),if_neg (by omega)]
 have hXW: ∀x w,a≤x→x<s→mid+m-s≤w→w<b→le (g x) (g w):=fun x w x1 x2 w1 w2=>by
  have hlow:=h.low (s-1) (by omega) (by omega)
  refine o.trans (hl.le o x1 (show x≤s-1 by omega) (by omega)) (o.trans hlow ?_)
  exact hr.le o (by omega) (by omega) w2
 have hZY: ∀z y,m≤z→z<mid+m-s→s≤y→y<m→le (g z) (g y):=fun z y z1 z2 y1 y2=>by
  have hhigh:=h.high s (Nat.le_refl _) (by omega)
  refine o.trans (hr.le o z1 (show z≤mid+m-1-s by omega) (by omega)) (o.trans hhigh ?_)
  exact hl.le o (by omega) y1 y2
 refine⟨fun p q p1 p2 p3=> ?_,fun p q p1 p2 p3=> ?_,fun p q p1 p2 p3=> ?_,fun p q p1 p2 p3=> ?_,fun p q p1 p2 q1 q2=> ?_⟩
 ·rw[hA p (by omega),hA q p3]
  exact hl p q p1 p2 (by omega)
 ·rw[hB p p1 (by omega),hB q (by omega) p3]
  exact hr _ _ (by omega) (by omega) (by omega)
 ·rw[hC p p1 (by omega),hC q (by omega) p3]
  exact hl _ _ (by omega) (by omega) (by omega)
 ·rw[hD p p1,hD q (by omega)]
  exact hr p q (by omega) p2 p3
 ·by_cases c1:p<s
  ·rw[hA p c1]
   by_cases c2:q<mid+m-s
   ·rw[hC q q1 c2]
    exact hl.le o p1 (by omega) (by omega)
   ·rw[hD q (by omega)]
    exact hXW p q p1 c1 (by omega) q2
  ·rw[hB p (by omega) p2]
   by_cases c2:q<mid+m-s
   ·rw[hC q q1 c2]
    exact hZY _ _ (by omega) (by omega) (by omega) (by omega)
   ·rw[hD q (by omega)]
    exact hr.le o (by omega) (by omega) q2
theorem Halves.done {le:α→α→Prop} {h h1 h2:Nat→α} {a s mid e b:Nat} (H:Halves le h a s mid e b) (ha:a≤mid) (hb:mid≤b) (s1:Sw a mid h h1) (t1:Srt le h1 a mid) (s2:Sw mid b h1 h2) (t2:Srt le h2 mid b):Srt le h2 a b:=by
 have e1: ∀k,k<mid→h2 k=h1 k:=fun k hk=>s2.out k (.inl hk)
 have e2: ∀k,mid≤k→h1 k=h k:=fun k hk=>s1.out k (.inr hk)
 have A: ∀p,a≤p→p<mid→ ∀q,mid≤q→q<b→le (h1 p) (h q):=fun p p1 p2 q q1 q2=>s1.all (fun x=>le x (h q)) (fun k k1 k2=>H.all k q k1 k2 q1 q2) p p1 p2
 have B: ∀p,a≤p→p<mid→ ∀q,mid≤q→q<b→le (h2 p) (h2 q):=fun p p1 p2 q q1 q2=>by
  rw[e1 p p2]
  exact s2.all (fun x=>le (h1 p) x) (fun k k1 k2=>by rw[e2 k k1];exact A p p1 p2 k k1 k2) q q1 q2
 intro p q p1 p2 p3
 by_cases c1:q<mid
 ·rw[e1 p (by omega),e1 q c1]
  exact t1 p q p1 p2 c1
 ·by_cases c2:p<mid
  ·exact B p p1 c2 q (by omega) p3
  ·exact t2 p q (by omega) p2 p3
structure InsJ (le R:α→α→Prop) (f g:Nat→α) (a i j:Nat):Prop where
 sw:Sw a (i+1) f g
 ins:InsI le g a i j
 at':g j=f i
 rel: ∀p,a≤p→p≤i→p≠j→R (f i) (g p)
theorem InsJ.start {le R:α→α→Prop} {f g:Nat→α} {a i:Nat} (hs:Sw a i f g) (hg:Srt le g a i) (hR: ∀k,a≤k→k<i→R (f i) (f k)):InsJ le R f g a i i:=
 ⟨hs.mono (Nat.le_refl _) (by omega),InsI.start hg,hs.out i (.inr (Nat.le_refl _)),fun p h1 h2 h3=>hs.all (fun x=>R (f i) x) (fun k k1 k2=>hR k k1 k2) p h1 (by omega)⟩
theorem InsJ.step {le R:α→α→Prop} {f g:Nat→α} {a i j:Nat} {cf:α→α→Int} (hcf: ∀x y,R x y→(cf x y<0↔ ¬le y x)) (o:Ord le) (h:InsJ le R f g a i (j+1)) (ha:a≤j) (hj:j+1≤i) (hc:cf (g (j+1)) (g j)<0):
  InsJ le R f (swp g (j+1) j) a i j:=by
 have hr:=h.rel j ha (by omega) (by omega)
 rw[←h.at'] at hr
 have hlt:=o.not ((hcf _ _ hr).1 hc)
 refine⟨h.sw.step _ _ (by omega) (by omega) ha (by omega),h.ins.step ha hj hlt,?_,fun p p1 p2 p3=> ?_⟩
 ·unfold swp
  rw[if_neg (by omega),if_pos rfl,h.at']
 ·unfold swp
  by_cases e:p=j+1
  ·rw[if_pos e];exact h.rel j ha (by omega) (by omega)
  ·rw[if_neg e,if_neg p3];exact h.rel p p1 p2 e
theorem InsJ.done {le R:α→α→Prop} {f g:Nat→α} {a i j:Nat} {cf:α→α→Int} (hcf: ∀x y,R x y→(cf x y<0↔ ¬le y x)) (o:Ord le) (h:InsJ le R f g a i j) (hj:j≤i) (he:j≤a∨(a<j∧ ¬cf (g j) (g (j-1))<0)):Srt le g a (i+1):=by
 refine h.ins.done o hj ?_
 rcases he with he|⟨h1,he⟩
 ·exact .inl he
 ·right
  have hr:=h.rel (j-1) (by omega) (by omega) (by omega)
  rw[←h.at'] at hr
  exact Classical.byContradiction fun q=>he ((hcf _ _ hr).2 q)
inductive Runs (le:α→α→Prop) (g:Nat→α) (bs n:Nat):Nat→Prop
 |last (a:Nat):n≤a+bs→Srt le g a n→Runs le g bs n a
 |more (a:Nat):a+bs≤n→Srt le g a (a+bs)→Runs le g bs n (a+bs)→Runs le g bs n a
inductive RunsP (le:α→α→Prop) (g:Nat→α) (bs n:Nat):Nat→Prop
 |nil:RunsP le g bs n 0
 |snoc (a:Nat):RunsP le g bs n a→a+bs≤n→Srt le g a (a+bs)→RunsP le g bs n (a+bs)
theorem RunsP.app {le:α→α→Prop} {g:Nat→α} {bs n a:Nat} (h:RunsP le g bs n a) (hr:Runs le g bs n a):Runs le g bs n 0:=by
 induction h with
 |nil=>exact hr
 |snoc a _ h2 h3 ih=>exact ih (.more a h2 h3 hr)
theorem RunsP.congr {le:α→α→Prop} {g g':Nat→α} {bs n a:Nat} (h:RunsP le g bs n a) (e: ∀k,k<a→g' k=g k):RunsP le g' bs n a:=by
 induction h with
 |nil=>exact .nil
 |snoc a _ h2 h3 ih=>exact .snoc a (ih fun k hk=>e k (by omega)) h2 (h3.congr fun k k1 k2=>e k k2)
theorem Runs.congr {le:α→α→Prop} {g g':Nat→α} {bs n a:Nat} (h:Runs le g bs n a) (e: ∀k,a≤k→g' k=g k):Runs le g' bs n a:=by
 induction h with
 |last a h1 h2=>exact .last a h1 (h2.congr fun k k1 _=>e k k1)
 |more a h1 h2 _ ih=>exact .more a h1 (h2.congr fun k k1 _=>e k k1) (ih fun k hk=>e k (by omega))
theorem Runs.one {le:α→α→Prop} {g:Nat→α} {bs n a:Nat} (h:Runs le g bs n a) (hn:n≤a+bs):Srt le g a n:=by
 cases h with
 |last _ _ h2=>exact h2
 |more _ h1 h2 _=>exact h2.sub (Nat.le_refl _) hn
theorem Runs.half {le:α→α→Prop} {g:Nat→α} {bs n a:Nat} (h:Runs le g bs n a) (h1:a+bs<n) (h2:n<a+2*bs):Srt le g a (a+bs)∧Srt le g (a+bs) n:=by
 cases h with
 |last _ h3 _=>omega
 |more _ _ h4 h5=>exact⟨h4,h5.one (by omega)⟩
theorem Runs.two {le:α→α→Prop} {g:Nat→α} {bs n a:Nat} (h:Runs le g bs n a) (h1:a+2*bs≤n) (h0:0<bs):Srt le g a (a+bs)∧Srt le g (a+bs) (a+2*bs)∧Runs le g bs n (a+2*bs):=by
 cases h with
 |last _ h3 _=>omega
 |more _ _ h4 h5=>
  have e:a+bs+bs=a+2*bs:=by omega
  cases h5 with
  |last _ h6 h7=>exact⟨h4,h7.sub (Nat.le_refl _) h1,.last _ (by omega) (fun i j q1 q2 q3=>by omega)⟩
  |more _ h6 h7 h8=>rw[e] at h7 h8;exact⟨h4,h7,h8⟩
end
end Go.Proofs.YtmdgeoalamancaaGreatDoor
namespace Go.Proofs.YtmdgeoalamancaaGreatDoor
abbrev El (zz:Nat):=Fin zz
def enc {zz:Nat} (x:El zz):Value:= .int .i64 (x.1:Nat)
end Go.Proofs.YtmdgeoalamancaaGreatDoor
