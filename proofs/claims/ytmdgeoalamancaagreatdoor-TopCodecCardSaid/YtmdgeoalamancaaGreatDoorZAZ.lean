/- A dynamic block's bits are the machine's elements, plain. Dynamic blocks are written. A block of any kind is written. Blocks, one behind the other, plain; and tokens cut into pieces. -/
import Derived.Test.YtmdgeoalamancaaGreatDoorZAY
set_option maxRecDepth 100000
set_option linter.unusedVariables false
set_option linter.unusedSimpArgs false
namespace Go.Proofs.YtmdgeoalamancaaGreatDoor
open Go.RowKit
open Bt Can Mc Pk
theorem trm_split (l:List Nat) (k:Nat) (h: ∀s,k≤s→l.getD s 0=0):l=l.take k++List.replicate (l.length-k) 0:=by
 refine List.ext_getElem? fun s=> ?_
 rw[List.getElem?_append,List.length_take]
 by_cases h1:s<min k l.length
 ·rw[if_pos h1,List.getElem?_take,if_pos (by omega)]
 ·rw[if_neg h1,List.getElem?_replicate]
  by_cases h2:s<l.length
  ·rw[if_pos (by omega),getD_some h2,h s (by omega)]
  ·rw[if_neg (by omega),List.getElem?_eq_none (by omega)]
theorem mny_zeros (a:List Nat) (m:Nat) {n:Nat} (hn:1≤n):mny (a++List.replicate m 0) n=mny a n:=by
 unfold mny
 rw[List.count_append,List.count_replicate]
 have:(0==n)=false:=by rw[beq_eq_false_iff_ne];omega
 rw[this]
 simp
theorem fst_zeros (a:List Nat) (m:Nat): ∀n,Can.fst (a++List.replicate m 0) n=Can.fst a n
 |0=>rfl
 |1=>rfl
 |n+2=>by
  show 2*(Can.fst (a++List.replicate m 0) (n+1)+mny (a++List.replicate m 0) (n+1))=2*(Can.fst a (n+1)+mny a (n+1))
  rw[fst_zeros a m (n+1),mny_zeros a m (by omega)]
theorem krf_zeros (a:List Nat) (m:Nat): ∀n,krf (a++List.replicate m 0) n=krf a n
 |0=>rfl
 |n+1=>by
  show krf (a++List.replicate m 0) n+mny (a++List.replicate m 0) (n+1)*_=krf a n+mny a (n+1)*_
  rw[krf_zeros a m n,mny_zeros a m (by omega)]
section
variable {l:List Nat} {k:Nat} (h: ∀s,k≤s→l.getD s 0=0)
include h
theorem mny_trm {n:Nat} (hn:1≤n):mny (l.take k) n=mny l n:=by
 conv=>rhs;rw[trm_split l k h]
 exact (mny_zeros _ _ hn).symm
theorem fst_trm (n:Nat):Can.fst (l.take k) n=Can.fst l n:=by
 conv=>rhs;rw[trm_split l k h]
 exact (fst_zeros _ _ n).symm
theorem krf_trm (n:Nat):krf (l.take k) n=krf l n:=by
 conv=>rhs;rw[trm_split l k h]
 exact (krf_zeros _ _ n).symm
theorem has_lt {s:Nat} (hs:Has l s):s<k:=by
 rcases Nat.lt_or_ge s k with h1|h1
 ·exact h1
 ·have:=h s h1
  have h2:=hs.2
  unfold Can.len at h2
  omega
end
theorem len_trm (l:List Nat) {k s:Nat} (hs:s<k):Can.len (l.take k) s=Can.len l s:=by
 unfold Can.len
 rw[List.getD_eq_getElem?_getD,List.getElem?_take,if_pos hs,←List.getD_eq_getElem?_getD]
theorem cb_trm {l:List Nat} {k s:Nat} (h: ∀s,k≤s→l.getD s 0=0) (hs:s<k):cb (l.take k) s=cb l s:=by
 unfold cb cod rnk
 rw[len_trm l hs,fst_trm h,List.take_take,Nat.min_eq_left (by omega)]
theorem has_trm {l:List Nat} {k s:Nat} (h: ∀s,k≤s→l.getD s 0=0) (hs:Has l s):Has (l.take k) s:=by
 have h1:=has_lt h hs
 refine⟨?_,by rw[len_trm l h1];exact hs.2⟩
 have:=hs.1
 rw[List.length_take]
 omega
theorem fit_trm {L D:List Nat} {kl kd:Nat} (hl: ∀s,kl≤s→L.getD s 0=0) (hd: ∀s,kd≤s→D.getD s 0=0) {t:Tk.T} (hf:Fit L D t):Fit (L.take kl) (D.take kd) t∧tokB (L.take kl) (D.take kd) t=tokB L D t:=by
 unfold Fit at hf ⊢
 unfold tokB
 split
 ·rename_i h0
  rw[if_pos h0] at hf
  exact⟨has_trm hl hf,cb_trm hl (has_lt hl hf)⟩
 ·rename_i h0
  rw[if_neg h0] at hf
  exact⟨⟨has_trm hl hf.1,has_trm hd hf.2⟩,by rw[cb_trm hl (has_lt hl hf.1),cb_trm hd (has_lt hd hf.2)]⟩
theorem toksB_trm {L D:List Nat} {kl kd:Nat} (hl: ∀s,kl≤s→L.getD s 0=0) (hd: ∀s,kd≤s→D.getD s 0=0): ∀ts:List Tk.T,(∀t∈ts,Fit L D t)→toksB (L.take kl) (D.take kd) ts=toksB L D ts
 | [],_=>rfl
 |t::ts,h=>by
  have h1:=(fit_trm hl hd (h t (by simp))).2
  have h2:=toksB_trm hl hd ts (fun x hx=>h x (by simp[hx]))
  unfold toksB at h2 ⊢
  rw[List.flatMap_cons,List.flatMap_cons,h1,h2]
theorem made_may {cs ls:List Nat} {k j:Nat} (h:Made cs ls 15) (hz: ∀s,k≤s→ls.getD s 0=0) (hj:2≤j∨(1≤j∧1≤(occ cs cs.length).length)):May (ls.take k) j:=by
 refine⟨fun a ha=>h.le a (List.mem_of_mem_take ha),?_⟩
 rw[krf_trm hz,mny_trm hz (Nat.le_refl 1)]
 by_cases h2:2≤(occ cs cs.length).length
 ·exact .inl (h.many h2)
 ·by_cases h1:(occ cs cs.length).length=1
  ·obtain⟨a,b⟩:=h.one h1
   exact .inr (.inl ⟨by omega,a,b⟩)
  ·have h0:(occ cs cs.length).length=0:=by omega
   exact .inr (.inr ⟨by omega,h.none h0⟩)
theorem shB_take_all {sh:List Nat} {k:Nat} (h:sh.length=k):sh.take k=sh:=by rw[←h,List.take_length]
theorem short_chain (f:Bool) (T:List Nat) (nl nd k:Nat) (sh:List Nat) (hk:sh.length=k) (hv: ∀x∈sh,x<8) (p:Nat): ∀j,j<k→Chn p ⟨f,T,.short nl nd k 0 (List.replicate 19 0)⟩ (shB (sh.take j)) ⟨f,T,.short nl nd k j (bld sh j)⟩
 |0,_=>by rw[List.take_zero];exact .nil _ _
 |j+1,hj=>by
  have ih:=short_chain f T nl nd k sh hk hv p j (by omega)
  obtain⟨x,hx⟩: ∃x,sh[j]? =some x:=⟨_,List.getElem?_eq_getElem (by omega)⟩
  rw[shB_snoc hx]
  refine ih.app (.one ?_)
  have h8:=hv x (List.mem_of_getElem? hx)
  have:=Stp.short (p+(shB (sh.take j)).length) f T nl nd k j x (bld sh j) (by omega) h8
  show Stp _ _ _ ⟨f,T,.short nl nd k (j+1) ((bld sh j).set (odr.getD j 0) (sh.getD j 0))⟩
  rw[getD_of hx]
  exact this
theorem addL_lt (l:List Nat) {rs:List Rn.R} (h:rs≠[]):l.length<(Rn.addL l rs).length:=by
 cases rs with
 |nil=>exact absurd rfl h
 |cons r rs=>
  have h1:=Rn.addL_len (Rn.add l r) rs
  have h2:=Rn.add_len l r
  have h3:=Rn.lst_pos r.1
  show l.length<(Rn.addL (Rn.add l r) rs).length
  omega
theorem addL_snoc {rs:List Rn.R} {j:Nat} {r:Rn.R} (h:rs[j]? =some r):Rn.addL [] (rs.take (j+1))=Rn.add (Rn.addL [] (rs.take j)) r:=by
 rw[List.take_add_one,h,Rn.addL_app]
 rfl
theorem run_chain (f:Bool) (T:List Nat) (nl nd:Nat) (tb l:List Nat) (rs:List Rn.R) (hp:Pk2 l (nl+nd) rs) (hl:l.length=nl+nd) (hh: ∀r∈rs,Has tb r.1) (p:Nat): ∀j,j<rs.length→Chn p ⟨f,T,.run nl nd tb []⟩ (runsB tb (rs.take j)) ⟨f,T,.run nl nd tb (Rn.addL [] (rs.take j))⟩
 |0,_=>by rw[List.take_zero];exact .nil _ _
 |j+1,hj=>by
  have ih:=run_chain f T nl nd tb l rs hp hl hh p j (by omega)
  obtain⟨r,hr⟩: ∃r,rs[j]? =some r:=⟨_,List.getElem?_eq_getElem (by omega)⟩
  have hm:=List.mem_of_getElem? hr
  have hok:=hp.pk.ok r hm
  have hlen:(Rn.addL [] (rs.take (j+1))).length<nl+nd:=by
   have h1:=hp.pk.is
   rw[List.take_of_length_le (by omega),←List.take_append_drop (j+1) rs,Rn.addL_app] at h1
   have h2:=addL_lt (Rn.addL [] (rs.take (j+1))) (rs:=rs.drop (j+1)) (fun e=>by
    have:=congrArg List.length e
    rw[List.length_drop] at this
    simp at this
    omega)
   rw[h1] at h2
   omega
  have h16:r.1=16→Rn.addL [] (rs.take j)≠[]:=fun e=>by
   cases j with
   |zero=>
    have:=hp.fst r (by rw[List.head?_eq_getElem?];exact hr)
    exact absurd e this
   |succ j=>
    intro e2
    have h3:=addL_lt [] (rs:=rs.take (j+1)) (fun e3=>by
     have:=congrArg List.length e3
     rw[List.length_take,List.length_nil] at this
     omega)
    rw[e2] at h3
    exact absurd h3 (by simp)
  rw[runsB_snoc tb hr]
  refine ih.app ?_
  rw[addL_snoc hr] at hlen ⊢
  obtain⟨s,x⟩:=r
  exact .cons (.run _ f T nl nd tb _ s (hh _ hm)) (.one (.runX _ f T nl nd tb _ s x hok.1 hok.2 h16 hlen))
theorem head14 (kl kd k:Nat) (h1:257≤kl∧kl≤286) (h2:1≤kd∧kd≤30) (h3:4≤k∧k≤19):lsb (kl-257) 5++(lsb (kd-1) 5++lsb (k-4) 4)=lsb ((kl-257)+32*(kd-1)+1024*(k-4)) 14:=by
 have e1:=lsb_add ((kl-257)+32*(kd-1)+1024*(k-4)) 5 9
 have e2:=lsb_add (((kl-257)+32*(kd-1)+1024*(k-4))/2^5) 5 4
 have d1:((kl-257)+32*(kd-1)+1024*(k-4))/2^5=(kd-1)+32*(k-4):=by omega
 have d2:((kd-1)+32*(k-4))/2^5=k-4:=by omega
 rw[d1] at e1 e2
 rw[d2] at e2
 rw[e1,e2]
 have m1:=lsb_mod ((kl-257)+32*(kd-1)+1024*(k-4)) (m:=5) (n:=5) (Nat.le_refl _)
 have m2:=lsb_mod ((kd-1)+32*(k-4)) (m:=5) (n:=5) (Nat.le_refl _)
 rw[show ((kl-257)+32*(kd-1)+1024*(k-4))%2^5=kl-257 by omega] at m1
 rw[show ((kd-1)+32*(k-4))%2^5=kd-1 by omega] at m2
 rw[m1,m2]
theorem occ_pos {l:List Nat} {s:Nat} (h:1≤l.getD s 0):1≤(occ l l.length).length:=by
 have:=(occ_mem l s l.length).2 ⟨getD_lt h,h⟩
 exact List.length_pos_of_mem this
theorem made_has {cs ls:List Nat} {M s:Nat} (h:Made cs ls M) (hs:1≤cs.getD s 0):Has ls s:=by
 have h1:=h.pos s hs
 refine⟨?_,h1⟩
 unfold Can.len at h1
 exact getD_lt h1
theorem hits_fit {ts:List Tk.T} {cl cd ls ds:List Nat} (hh:Hits ts cl cd) (ml:Made cl ls 15) (md:Made cd ds 15): ∀t∈ts,Fit ls ds t:=fun t ht=>by
 obtain⟨a,b⟩:=hh t ht
 unfold Fit
 split
 ·rename_i h0;exact made_has ml (a h0)
 ·rename_i h0;exact⟨made_has ml (b h0).1,made_has md (b h0).2⟩
theorem dyn_chain (f:Bool) (T:List Nat) (ts:List Tk.T) (m:Nat) (cl cd ls ds:List Nat) (kl kd k:Nat) (tb sh:List Nat) (rs:List Rn.R) (p:Nat) (ht:Tbl m cl cd) (hh:Hits ts cl cd) (ml:Made cl ls 15) (md:Made cd ds 15) (l1:257≤kl) (l2:kl≤286) (lz: ∀s,kl≤s→ls.getD s 0=0) (d1:1≤kd) (d2:kd≤30) (dz: ∀s,kd≤s→ds.getD s 0=0) (pk:Pk2 (ls.take kl++ds.take kd) (kl+kd) rs) (st:Sht rs tb sh k) (ho: ∀t∈ts,Tk.Ok t) (hr:Tk.Rch T.length ts):
  Chn p ⟨false,T,.block⟩ (lsb (b2n f+4) 3++(headB kl kd k tb sh rs++toksB ls ds ts)) ⟨f,Tk.expL T ts,.sym (ls.take kl) (ds.take kd)⟩∧Has (ls.take kl) 256∧cb (ls.take kl) 256=cb ls 256:=by
 have hl:ls.length=286:=by rw[ml.len,ht.l]
 have hd:ds.length=30:=by rw[md.len,ht.d]
 have hll:(ls.take kl).length=kl:=by rw[List.length_take];omega
 have hlen:(ls.take kl++ds.take kd).length=kl+kd:=by rw[List.length_append,hll,List.length_take];omega
 have h256:Has ls 256:=made_has ml (by rw[ht.e];exact Nat.le_refl _)
 have hfit:=hits_fit hh ml md
 refine⟨?_,has_trm lz h256,cb_trm lz (by omega)⟩
 have k4:=st.k4
 have k19:=st.k19
 have hshl:=st.shlen
 have hmay:May tb 0:=⟨fun a ha=>by have:=st.le a ha;omega,.inl st.kr⟩
 have hv8: ∀x∈sh,x<8:=fun x hx=>by
  rw[st.sh] at hx
  obtain⟨j,hj,e⟩:=List.mem_iff_getElem.1 (List.mem_of_mem_take hx)
  rw[shl_len] at hj
  have hg:=shl_get tb 19 hj
  rw[List.getElem?_eq_getElem (by rw[shl_len];exact hj),e,if_pos hj] at hg
  injection hg with hg
  rw[hg]
  have h9:=odr_l19 j hj
  rw[List.getD_eq_getElem?_getD,List.getElem?_eq_getElem (by rw[st.len];exact h9)]
  have:=st.le _ (List.getElem_mem (by rw[st.len];exact h9))
  show tb[odr.getD j 0]'_<8
  omega
 have hhas: ∀r∈rs,Has tb r.1:=fun r hr=>⟨by rw[st.len];have:=(pk.pk.ok r hr).1;omega,st.hit r hr⟩
 have hrs:rs≠[]:=fun e=>by
  have:=pk.pk.is
  rw[e,List.take_of_length_le (by omega)] at this
  have h1:=congrArg List.length this
  rw[hlen] at h1
  simp[Rn.addL] at h1
  omega
 have c1:Stp p ⟨false,T,.block⟩ (lsb (b2n f+4) 3) ⟨f,T,.counts⟩:=by
  have:=Stp.dyn p false T (b2n f) (by cases f<;>decide)
  cases f<;>exact this
 have hB:headB kl kd k tb sh rs++toksB ls ds ts=lsb ((kl-257)+32*(kd-1)+1024*(k-4)) 14++(shB sh++(runsB tb rs++toksB ls ds ts)):=by
  unfold headB
  rw[←head14 kl kd k ⟨l1,l2⟩ ⟨d1,d2⟩ ⟨k4,k19⟩]
  simp only[List.append_assoc]
 rw[hB]
 refine .cons c1 (.cons (.counts _ f T kl kd k ⟨l1,l2⟩ ⟨d1,d2⟩ ⟨k4,k19⟩) ?_)
 generalize p+(lsb (b2n f+4) 3).length+(lsb ((kl-257)+32*(kd-1)+1024*(k-4)) 14).length=q
 have s1:Chn q ⟨f,T,.short kl kd k 0 (List.replicate 19 0)⟩ (shB sh) ⟨f,T,.run kl kd tb []⟩:=by
  have h1:=short_chain f T kl kd k sh hshl hv8 q (k-1) (by omega)
  obtain⟨x,hx⟩: ∃x,sh[k-1]? =some x:=⟨_,List.getElem?_eq_getElem (by omega)⟩
  have h2:=shB_snoc hx
  rw[show k-1+1=k by omega,shB_take_all hshl] at h2
  have hb:(bld sh (k-1)).set (odr.getD (k-1) 0) x=tb:=by
   have:=st.bld
   rw[show k=(k-1)+1 by omega] at this
   rw[←this]
   show _=(bld sh (k-1)).set (odr.getD (k-1) 0) (sh.getD (k-1) 0)
   rw[getD_of hx]
  rw[h2]
  have h3:=Stp.shortE (q+(shB (sh.take (k-1))).length) f T kl kd k (k-1) x (bld sh (k-1)) (by omega) (hv8 x (List.mem_of_getElem? hx)) (by rw[hb];exact hmay)
  rw[hb] at h3
  exact h1.app (.one h3)
 refine s1.app ?_
 generalize q+(shB sh).length=q2
 have r1:Chn q2 ⟨f,T,.run kl kd tb []⟩ (runsB tb rs) ⟨f,T,.sym (ls.take kl) (ds.take kd)⟩:=by
  have hrl:0<rs.length:=List.length_pos_iff.2 hrs
  obtain⟨j,hj⟩: ∃j,rs.length=j+1:=⟨rs.length-1,by omega⟩
  have h1:=run_chain f T kl kd tb _ rs pk hlen hhas q2 j (by omega)
  obtain⟨r,hr⟩: ∃r,rs[j]? =some r:=⟨_,List.getElem?_eq_getElem (by omega)⟩
  have hm:=List.mem_of_getElem? hr
  have hok:=pk.pk.ok r hm
  have h2:=runsB_snoc tb hr
  rw[←hj,List.take_length] at h2
  have hal:=addL_snoc hr
  rw[←hj,List.take_length,pk.pk.is,List.take_of_length_le (by omega)] at hal
  have h16:r.1=16→Rn.addL [] (rs.take j)≠[]:=fun e=>by
   cases j with
   |zero=>
    have:=pk.fst r (by rw[List.head?_eq_getElem?];exact hr)
    exact absurd e this
   |succ j=>
    intro e2
    have h3:=addL_lt [] (rs:=rs.take (j+1)) (fun e3=>by
     have:=congrArg List.length e3
     rw[List.length_take,List.length_nil] at this
     omega)
    rw[e2] at h3
    exact absurd h3 (by simp)
  rw[h2]
  refine h1.app ?_
  obtain⟨s,x⟩:=r
  have hend:Can.len (ls.take kl++ds.take kd) 256≠0:=by
   have h3:=h256.2
   unfold Can.len at h3 ⊢
   rw[List.getD_eq_getElem?_getD,List.getElem?_append_left (by omega),List.getElem?_take,if_pos (by omega),←List.getD_eq_getElem?_getD]
   omega
  have hta:(ls.take kl++ds.take kd).take kl=ls.take kl:=List.take_left' hll
  have hda:(ls.take kl++ds.take kd).drop kl=ds.take kd:=List.drop_left' hll
  have h4:=Stp.runE (q2+(runsB tb (rs.take j)).length+(cb tb s).length) f T kl kd tb (Rn.addL [] (rs.take j)) s x hok.1 hok.2 h16 (by rw[←hal];exact hlen) (by rw[←hal];exact hend) (by rw[←hal,hta];exact made_may ml lz (.inr ⟨Nat.le_refl _,occ_pos (s:=256) (by rw[ht.e];exact Nat.le_refl _)⟩)) (by rw[←hal,hda];exact made_may md dz (.inl (Nat.le_refl _)))
  rw[←hal,hta,hda] at h4
  exact .cons (.run _ f T kl kd tb _ s (hhas _ hm)) (.one h4)
 refine r1.app ?_
 rw[←toksB_trm lz dz ts hfit]
 exact toks_chain _ _ f ts T _ ho (fun t ht=>(fit_trm lz dz (hfit t ht)).1) hr
end Go.Proofs.YtmdgeoalamancaaGreatDoor
namespace Go.Proofs.YtmdgeoalamancaaGreatDoor
open Go.RowKit
open Bt Can Mc Pk
theorem row_keep2 {F:List Nat} {w w1 w2:World} {b e size n:Nat} {v:Value} {cs:List Value} (hF: ∀k∈F,k<w.heap.size) (hr:Row b e size w1 v n cs) (hb:w.heap.size≤b) (hf:Fr F w1 w2):Sl w2 w2.heap.size size v n cs:=
 (hr.fr hf (fun k hk hm=>by have h1:=hF k hm;have h2:=(hr.lt k (mem_obk.1 hk)).1;omega)).sl
def DynB (f:Bool) (ts:List Tk.T) (E:List Bool):Prop:= ∀(T:List Nat) (p:Nat),Tk.Rch T.length ts→ ∃L D:List Nat,∃E0,E=E0++cb L 256∧Has L 256∧Chn p ⟨false,T,.block⟩ E0 ⟨f,Tk.expL T ts,.sym L D⟩
def DynP (F:List Nat) (wb:Nat) (f:Bool) (S:List Bool) (ts:List Tk.T) (w:World) (e:Ending) (w':World):Prop:=e= .returned (.int .i64 0)∧ ∃F' E,Wr F' w' wb (S++E)∧Fr F w w'∧New F F' w.heap.size∧DynB f ts E∧E.length≤100000
set_option maxHeartbeats 16000000 in
theorem putDynamic_any (F:List Nat) (wb n:Nat) (f:Bool) (S:List Bool) (ts:List Tk.T) (vt:Value) (w:World) (h:Wr F w wb S) (hS:S.length≤500000000) (ht:TkB F w ts n vt) (hn:n=ts.length) (hl:n≤1000) (ho: ∀t∈ts,Tk.Ok t) (hG:Gl w) (hF8: ∀k∈F,8≤k):Calls Tryz.prog 85 #[.pointer (some ⟨wb,0,none⟩),vt,.bool f] w (DynP F wb f S ts w):=by
 have HLT:=Lib.hid (And.intro h.lt hF8)
 have HOF:=Lib.hid (of_any ts n w.heap.size vt w (ht w (Fr.refl _ _)) (Nat.le_refl _) hn (by omega) ho hG)
 have HG:=Lib.hid hG
 have HT:=Lib.hid ht
 have HW:=Lib.hid h
 have HO:=Lib.hid (And.intro hn ho)
 obtain⟨ta,tc,rfl,_⟩:=(ht w (Fr.refl _ _)).form
 clear h ht hn ho hG hF8
 go_enter Tryz.func85,Tryz.ntmps85
 go_wp2_with (fail)
 refine HOF.out.mono ?_
 rintro e w1 ⟨cl,cd,E,rfl,htb,hhit,hb1⟩
 have hlen:=tbC_len (E:=E) htb
 have HLE:=Lib.hid (fun W=>lens_any cl cd E n W htb (by omega))
 have HCB:Hid (∀u∈tbC cl cd E,u.oneCell'=true):=Lib.hid (tbC_one _ _ _)
 have HTB:=Lib.hid (And.intro htb hhit)
 obtain⟨ca,hca⟩: ∃q,tbC cl cd E=q:=⟨_,rfl⟩
 rw[hca] at hlen HLE HCB
 rw[hca]
 obtain⟨z,hz⟩: ∃z:List Value,z=tbC (List.replicate 286 0) (List.replicate 30 0) 0:=⟨_,rfl⟩
 have hzc:Tryz.zeroCells219=z.toArray:=by rw[hz];exact tab_zero
 have HZL:Hid (z.length=317):=Lib.hid (by rw[hz,tbC,List.length_append,List.length_append,iC_len,iC_len,List.length_replicate,List.length_replicate];rfl)
 clear hz
 obtain⟨wz,hwz⟩: ∃q:World,q=w1.alloc (.cells z.toArray 219):=⟨_,rfl⟩
 have hb1z:Below w1.heap.size w1 wz:=by rw[hwz];exact (Below.refl _ _).alloc (Nat.le_refl _) _
 have HBZ:Hid (Bk wz w1.heap.size 219 z):=Lib.hid (by rw[hwz];exact Bk.new w1 _ z)
 have HB0Z:=Lib.hid (hb1.trans (hb1z.mono hb1.size))
 have hz2:w.heap.size≤w1.heap.size:=hb1.size
 have hz3:w1.heap.size<wz.heap.size:=by rw[hwz];simp
 clear hca htb hhit hb1 hb1z HOF
 go_wp2_with (with_reducible refine stop_tabS ?_)
 rw[←hwz]
 clear hwz hzc
 obtain⟨tb,htb⟩: ∃z,w1.heap.size=z:=⟨_,rfl⟩
 rw[htb] at HBZ hz2 hz3 ⊢
 have HZ2:=Lib.hid hz2
 clear htb hz2
 refine store_tab HBZ.out rfl rfl HZL.out hlen HCB.out ?_
 intro w2 hr2 hf2
 have HTA:=Lib.hid hr2
 have HB2:Hid (Below w.heap.size w w2):=Lib.hid (HB0Z.out.trans (hf2.below HB0Z.out.size (fun k hk=>by rw[List.mem_singleton.1 hk];exact HZ2.out)))
 clear hr2 hf2 HBZ HB0Z hz3
 go_wp2_with (with_reducible refine stop_tab ?_)
 refine load_tab HTA.out rfl hlen ?_
 go_wp2_with (fail)
 refine (HLE.out w2).mono ?_
 rintro e w3 ⟨vl,vd,ls,ds,rfl,hr1,hr2,hb3,hm1,hm2⟩
 have HB3:=Lib.hid (HB2.out.trans (hb3.mono HB2.out.size))
 have hll:ls.length=286:=by rw[hm1.len,HTB.out.1.l]
 have hdl:ds.length=30:=by rw[hm2.len,HTB.out.1.d]
 have HHO:=Lib.hid (headOf_any ls ds vl vd w3.heap.size w3 hr1.sl hr2.sl (Nat.le_refl _) hll hdl hm1.le hm2.le (HG.out.fr (Fr.of_below (F:=[]) HB3.out) (fun _ h=>by cases h)))
 have HMD:=Lib.hid (And.intro hm1 (And.intro hm2 (And.intro hll hdl)))
 have HR1:=Lib.hid (hr1.mono HB2.out.size)
 have HR2:=Lib.hid (hr2.mono HB2.out.size)
 obtain⟨la,lc,rfl,_⟩:=hr1.form
 obtain⟨da,dc,rfl,_⟩:=hr2.form
 clear hr1 hr2 hb3 hm1 hm2 hll hdl HLE HTA HB2
 go_wp2_with (fail)
 refine HHO.out.mono ?_
 rintro e w4 ⟨v0,v1,v2,v3,rs,kl,kd,k,tbl,sh,rfl,hd⟩
 obtain⟨w5,hw5⟩: ∃z:World,z=w4.alloc (.cells #[v0,v1,v2,v3] 233):=⟨_,rfl⟩
 have hb45:Below w4.heap.size w4 w5:=by rw[hw5];exact (Below.refl _ _).alloc (Nat.le_refl _) _
 have hb35:=hd.b.trans (hb45.mono hd.b.size)
 have HD5:=Lib.hid ((hd.below hb45).from HB3.out)
 have HB5:=Lib.hid (HB3.out.trans (hb35.mono HB3.out.size))
 have HR15:=Lib.hid (HR1.out.below hb35)
 have HR25:=Lib.hid (HR2.out.below hb35)
 have HOH:Hid (Own w5 w4.heap.size [v0,v1,v2,v3]):=Lib.hid (by rw[hw5];exact Own.new_at w4 _ _ _ rfl)
 have hzh:w4.heap.size<w5.heap.size:=by rw[hw5];simp
 have hzw:w.heap.size≤w4.heap.size:=Nat.le_trans HB3.out.size hd.b.size
 obtain⟨a0,c0,rfl,_⟩:=hd.r0.form
 obtain⟨a1,c1,rfl,_⟩:=hd.r1.form
 obtain⟨a2,c2,rfl,_⟩:=hd.r2.form
 obtain⟨a3,c3,rfl,_⟩:=hd.r3.form
 obtain⟨nr,hnr⟩: ∃z,rs.length=z:=⟨_,rfl⟩
 rw[hnr] at HD5 HOH hw5
 rw[hnr]
 have HNR:=Lib.hid hnr
 have HW5:=Lib.hid (HW.out.fr (Fr.of_below (F:=[]) HB5.out) (fun _ _ hm=>by cases hm))
 have HPK:=Lib.hid (putKind_any F wb 2 f S w5 HW5.out (by omega) (by omega))
 clear hd hb45 hb35 HHO HR1 HR2 hnr HW HW5
 go_upto_region 8 with (fail)
 rw[←hw5]
 clear hw5
 obtain⟨hb,hhb⟩: ∃z,w4.heap.size=z:=⟨_,rfl⟩
 rw[hhb] at HOH hzh hzw ⊢
 clear hhb
 go_wp2_with (fail)
 refine HPK.out.mono ?_
 rintro e w6 ⟨rfl,F6,hw6,hf6,hn6⟩
 rw[show b2n f+2*2=b2n f+4 from rfl] at hw6
 have hlF: ∀k∈F,k<w.heap.size:=fun k hk=>(HLT.out.1 k hk).2
 have HLF:=Lib.hid hlF
 have HOH6:=Lib.hid (HOH.out.fr hf6 hzh (fun hm=>by have:=hlF hb hm;omega))
 have hf06:Fr F w w6:=(Fr.of_below (F:=F) HB5.out).trans hf6 (fun x hx _=>hx)
 have hn06:New F F6 w.heap.size:=fun k hk=>(hn6 k hk).imp id (fun h=>Nat.le_trans HB5.out.size h)
 have hF68: ∀k∈F6,8≤k:=fun k hk=>by
  rcases hn06 k hk with h|h
  ·exact HLT.out.2 k h
  ·have:=HG.out.sz;omega
 have hG6:Gl w6:=HG.out.fr hf06 HLT.out.2
 have HHP:=Lib.hid (hput_any F6 wb nr kl kd k (S++lsb (b2n f+4) 3) rs tbl sh _ _ (.slice a2 nr c2) (.slice a3 k c3) a0 a1 c0 c1 w6 rfl rfl hw6 (by rw[List.length_append,lsb_len];omega) HD5.out.l1 HD5.out.l2 HD5.out.d1 HD5.out.d2 HD5.out.st HNR.out.symm (by have h1:=HD5.out.rl;have h2:=HNR.out;omega) HD5.out.pk.pk.ok (fun W hW=>row_keep2 hlF (by have:=HD5.out.r2;rw[HNR.out] at this;exact this) (Nat.le_refl _) (Wr.step hf6 hn6 hW)) (fun W hW=>row_keep2 hlF HD5.out.r3 (Nat.le_refl _) (Wr.step hf6 hn6 hW)) hG6 hF68)
 have HF6:=Lib.hid (And.intro hf6 (And.intro hn6 (And.intro hf06 hn06)))
 have m0:=HOH6.out.1 0 _ rfl
 have m1:=HOH6.out.1 1 _ rfl
 have m2:=HOH6.out.1 2 _ rfl
 have m3:=HOH6.out.1 3 _ rfl
 clear hw6 hf6 hn6 hf06 hn06 hF68 hG6 hlF HPK HOH
 go_wp2_with (fail)
 refine HHP.out.mono ?_
 rintro e w7 ⟨rfl,F7,hw7,hf7,hn7⟩
 obtain⟨HB,hHB⟩: ∃z,headB kl kd k tbl sh rs=z:=⟨_,rfl⟩
 have hbl:HB.length≤20000:=by
  rw[←hHB]
  unfold headB
  rw[List.length_append,List.length_append,List.length_append,List.length_append,lsb_len,lsb_len,lsb_len,shB_len]
  have h1:=runsB_len (tb:=tbl) (fun x hx=>by have:=HD5.out.st.le x hx;omega) rs
  have h2:=HD5.out.rl
  have h3:=HD5.out.st.shlen
  have h4:=HD5.out.st.k19
  omega
 rw[hHB] at hw7
 have HHB:=Lib.hid hHB
 have hf07:Fr F w w7:=Wr.step HF6.out.2.2.1 HF6.out.2.2.2 hf7
 have hn07:New F F7 w.heap.size:=HF6.out.2.2.2.trans hn7 HF6.out.2.2.1.size
 have hf57:Fr F w5 w7:=Wr.step HF6.out.1 HF6.out.2.1 hf7
 have hn57:New F F7 w5.heap.size:=HF6.out.2.1.trans hn7 HF6.out.1.size
 have hF78: ∀k∈F7,8≤k:=fun k hk=>by
  rcases hn07 k hk with h|h
  ·exact HLT.out.2 k h
  ·have:=HG.out.sz;omega
 have hG7:Gl w7:=HG.out.fr hf07 HLT.out.2
 have hfit:=hits_fit HTB.out.2 HMD.out.1 HMD.out.2.1
 have hkr: ∀{cs ls:List Nat},Made cs ls 15→krf ls 15≤2^15:=fun hm=>by
  rename_i cs0 ls0
  by_cases h2:2≤(occ cs0 cs0.length).length
  ·rw[hm.many h2];exact Nat.le_refl _
  ·by_cases h1:(occ cs0 cs0.length).length=1
   ·rw[(hm.one h1).1];decide
   ·rw[hm.none (by omega)];exact Nat.zero_le _
 have HPT:=Lib.hid (putTokens_any F7 wb n 286 30 (S++lsb (b2n f+4) 3++HB) ts ls ds (.slice ta n tc) (.slice la 286 lc) (.slice da 30 dc) w7 hw7 (by rw[List.length_append,List.length_append,lsb_len];omega) (fun W hW=>HT.out W (Wr.step hf07 hn07 hW)) HO.out.1 hl HO.out.2 hfit (made_has HMD.out.1 (by rw[HTB.out.1.e];exact Nat.le_refl _)) (fun W hW=>row_keep2 HLF.out HR15.out (Nat.le_refl _) (Wr.step hf57 hn57 hW)) HMD.out.2.2.1.symm (by omega) HMD.out.1.le (hkr HMD.out.1) (fun W hW=>row_keep2 HLF.out HR25.out (Nat.le_refl _) (Wr.step hf57 hn57 hW)) HMD.out.2.2.2.symm (by omega) HMD.out.2.1.le (hkr HMD.out.2.1) hG7 hF78)
 have HF7:=Lib.hid (And.intro hf07 hn07)
 have HBL:=Lib.hid hbl
 clear hw7 hf7 hn7 hf07 hn07 hf57 hn57 hF78 hG7 hfit hkr hHB m0 m1 m2 m3 HHP hbl
 go_wp2_with (fail)
 refine HPT.out.mono ?_
 rintro e w8 ⟨rfl,F8,hw8,hf8,hn8⟩
 have HW8:=Lib.hid hw8
 have HF8:=Lib.hid (Wr.step HF7.out.1 HF7.out.2 hf8)
 have HN8:=Lib.hid (HF7.out.2.trans hn8 HF7.out.1.size)
 clear hw8 hf8 hn8 HPT
 go_wp2_with (fail)
 go_ret
 refine⟨rfl,F8,lsb (b2n f+4) 3++(HB++(toksB ls ds ts++cb ls 256)),?_,HF8.out,HN8.out,?_,?_⟩
 ·have:=HW8.out
  simp only[List.append_assoc] at this ⊢
  exact this
 ·intro T p hr
  have hc:=dyn_chain f T ts n cl cd ls ds kl kd k tbl sh rs p HTB.out.1 HTB.out.2 HMD.out.1 HMD.out.2.1 HD5.out.l1 HD5.out.l2 HD5.out.lz HD5.out.d1 HD5.out.d2 HD5.out.dz HD5.out.pk HD5.out.st HO.out.2 hr
  rw[HHB.out] at hc
  refine⟨ls.take kl,ds.take kd,_,?_,hc.2.1,hc.1⟩
  rw[hc.2.2]
  simp only[List.append_assoc]
 ·rw[List.length_append,List.length_append,List.length_append,lsb_len,cb_len]
  have h1:=toksB_len HMD.out.1.le HMD.out.2.1.le ts HO.out.2
  have h2:=len_le (s:=256) HMD.out.1.le
  have h3:=HBL.out
  have h4:=HO.out.1
  omega
end Go.Proofs.YtmdgeoalamancaaGreatDoor
namespace Go.Proofs.YtmdgeoalamancaaGreatDoor
open Go.RowKit
open Bt Can Mc Pk
def BlkB (f:Bool) (T txt:List Nat) (p:Nat) (E:List Bool):Prop:=
 (f=false→Chn p ⟨false,T,.block⟩ E ⟨false,T++txt,.block⟩)∧(f=true→ ∀pad:List Bool,pad.length=gap (p+E.length)→Chn p ⟨false,T,.block⟩ (E++pad) ⟨true,T++txt,.ended⟩)
theorem dyn_blk {f:Bool} {ts:List Tk.T} {E:List Bool} (h:DynB f ts E) {T txt:List Nat} {p:Nat} (hr:Tk.Rch T.length ts) (he:Tk.expL T ts=T++txt):BlkB f T txt p E:=by
 obtain⟨L,D,E0,rfl,h256,hc⟩:=h T p hr
 rw[he] at hc
 refine⟨fun hf=> ?_,fun hf pad hp=> ?_⟩
 ·subst hf
  exact hc.app (.one (.eob0 _ _ L D h256))
 ·subst hf
  rw[List.append_assoc]
  refine hc.app (.one (.eob1 _ _ L D pad h256 ?_))
  rw[hp,List.length_append,cb_len,Nat.add_assoc]
theorem fixed_dyn (f:Bool) (ts:List Tk.T) (ho: ∀t∈ts,Tk.Ok t):DynB f ts (fixedB f ts):=by
 intro T p hr
 refine⟨fixL,fixD,lsb (b2n f+2) 3++toksB fixL fixD ts,?_,has_of fixL_pos (by rw[fixL_len];omega),?_⟩
 ·unfold fixedB
  rw[List.append_assoc]
 ·have h1:=Stp.fixed p false T (b2n f) (by cases f<;>decide)
  have h2:Stp p ⟨false,T,.block⟩ (lsb (b2n f+2) 3) ⟨f,T,.sym fixL fixD⟩:=by cases f<;>exact h1
  exact .cons h2 (toks_chain fixL fixD f ts T _ ho (fun t ht=>fix_fit (ho t ht)) hr)
theorem byts_chain (f:Bool): ∀(l T:List Nat) (p:Nat),(∀x∈l,x<256)→Chn p ⟨f,T,.bytes l.length⟩ (byts l) ⟨f,T++l,.bytes 0⟩
 | [],T,p,_=>by rw[List.append_nil];exact .nil _ _
 |x::l,T,p,h=>by
  have ih:=byts_chain f l (T++[x]) (p+(lsb x 8).length) (fun y hy=>h y (by simp[hy]))
  rw[byts_cons]
  rw[List.append_assoc] at ih
  exact .cons (.byte p f T x l.length (h x (by simp))) ih
theorem gap_mod {p q:Nat} (h:p%8=q%8) (d:Nat):gap (p+d)=gap (q+d):=by unfold gap;omega
theorem stored_chain (f:Bool) (T l:List Nat) (p q:Nat) (hpq:p%8=q%8) (hl:l.length≤65535) (hb: ∀x∈l,x<256):Chn p ⟨false,T,.block⟩ (storedB q f l) ⟨f,T++l,.bytes 0⟩∧(p+(storedB q f l).length)%8=0:=by
 unfold storedB
 have h1:=Stp.stored p false T (b2n f) (lsb 0 (gap (q+3))) (by cases f<;>decide) (by rw[lsb_len,gap_mod hpq])
 have h2:Stp p ⟨false,T,.block⟩ (lsb (b2n f) 3++lsb 0 (gap (q+3))) ⟨f,T,.size⟩:=by cases f<;>exact h1
 refine⟨?_,?_⟩
 ·rw[←List.append_assoc]
  exact .cons h2 (.cons (.size _ f T l.length (by omega)) (byts_chain f l T _ hb))
 ·rw[List.length_append,List.length_append,List.length_append,lsb_len,lsb_len,lsb_len,byts_len]
  unfold gap
  omega
theorem stored_blk (f:Bool) (T l:List Nat) (p q:Nat) (hpq:p%8=q%8) (hl:l.length≤65535) (hb: ∀x∈l,x<256):BlkB f T l p (storedB q f l):=by
 obtain⟨h1,h2⟩:=stored_chain f T l p q hpq hl hb
 refine⟨fun hf=> ?_,fun hf pad hp=> ?_⟩
 ·subst hf
  have:=h1.app (.one (.done0 _ _))
  rwa [List.append_nil] at this
 ·subst hf
  refine h1.app (.one (.done1 _ _ pad ?_))
  exact hp
theorem storedB_len (q:Nat) (f:Bool) (l:List Nat):(storedB q f l).length≤42+8*l.length:=by
 unfold storedB gap
 rw[List.length_append,List.length_append,List.length_append,lsb_len,lsb_len,lsb_len,byts_len]
 omega
def BputP (F:List Nat) (wb:Nat) (f:Bool) (S:List Bool) (ts:List Tk.T) (txt:List Nat) (w:World) (e:Ending) (w':World):Prop:= ∃k:Nat,k≤2∧e= .returned (.tuple #[.int .i64 (k:Nat),.int .i64 0])∧ ∃F' E,Wr F' w' wb (S++E)∧Fr F w w'∧New F F' w.heap.size∧E.length≤700000∧ ∀(T:List Nat) (p:Nat),p%8=S.length%8→Tk.Rch T.length ts→Tk.expL T ts=T++txt→BlkB f T txt p E
set_option maxHeartbeats 16000000 in
theorem bput_any (F:List Nat) (wb n m:Nat) (f:Bool) (S:List Bool) (ts:List Tk.T) (txt:List Nat) (vt vb:Value) (w:World) (h:Wr F w wb S) (hS:S.length≤400000000) (ht:TkB F w ts n vt) (hn:n=ts.length) (hl:n≤1000) (ho: ∀t∈ts,Tk.Ok t) (hb:SlB F w 1 vb m (bC txt)) (hm:m=txt.length) (hml:m≤65535) (hbb: ∀x∈txt,x<256) (hsz:sizN' ts=m) (hG:Gl w) (hF8: ∀k∈F,8≤k):Calls Tryz.prog 49 #[.pointer (some ⟨wb,0,none⟩),vt,vb,.bool f] w (BputP F wb f S ts txt w):=by
 have HLT:=Lib.hid (And.intro h.lt hF8)
 have HCO:=Lib.hid (costs_any ts n w.heap.size vt w (ht w (Fr.refl _ _)) (Nat.le_refl _) hn hl ho hG)
 have HSZ:Hid (∀W,Below w.heap.size w W→Calls Tryz.prog 48 #[vt] W fun e w'=>e= .returned (.int .i64 (m:Nat))∧Below W.heap.size W w'):=Lib.hid (fun W hW=>by
  have:=sizes_any ts n W.heap.size vt W (ht W (Fr.of_below hW)) (Nat.le_refl _) hn (by omega) ho
  rw[hsz] at this
  exact this)
 have HCH:=Lib.hid (fun a b c W=>cheapest_any a b c W)
 have HG:=Lib.hid hG
 have HT:=Lib.hid ht
 have HB:=Lib.hid hb
 have HW:=Lib.hid h
 have HO:=Lib.hid (And.intro hn (And.intro ho (And.intro hm hbb)))
 obtain⟨ta,tc,rfl,_⟩:=(ht w (Fr.refl _ _)).form
 obtain⟨ba,bc,rfl,_⟩:=(hb w (Fr.refl _ _)).form
 have e0:((m:Int) != (m:Int))=false:=by simp
 clear h ht hn ho hG hF8 hb hm hbb hsz
 go_enter Tryz.func49,Tryz.ntmps49
 go_wp2_with (fail)
 refine HCO.out.mono ?_
 rintro e w1 ⟨x0,x1,x2,rfl,hb1⟩
 obtain⟨w2,hw2⟩: ∃z:World,z=w1.alloc (.cells #[.int .i64 x0,.int .i64 x1,.int .i64 x2] 59):=⟨_,rfl⟩
 have hb12:Below w1.heap.size w1 w2:=by rw[hw2];exact (Below.refl _ _).alloc (Nat.le_refl _) _
 have HO2:Hid (Own w2 w1.heap.size [.int .i64 x0,.int .i64 x1,.int .i64 x2]):=Lib.hid (by rw[hw2];exact Own.new_at w1 _ _ _ rfl)
 have HB2:=Lib.hid (hb1.trans (hb12.mono hb1.size))
 have hz2:w1.heap.size<w2.heap.size:=by rw[hw2];simp
 clear hb1 hb12 HCO
 go_upto_region 2 with (fail)
 rw[←hw2]
 clear hw2
 obtain⟨cb2,hcb⟩: ∃z,w1.heap.size=z:=⟨_,rfl⟩
 rw[hcb] at HO2 hz2 ⊢
 clear hcb
 go_wp2_with (fail)
 refine (HSZ.out w2 HB2.out).mono ?_
 rintro e w3 ⟨rfl,hb3⟩
 have HO3:=Lib.hid (HO2.out.below hb3 hz2)
 have HB3:=Lib.hid (HB2.out.trans (hb3.mono HB2.out.size))
 clear hb3 HO2 HB2 HSZ
 have m0:=HO3.out.1 0 _ rfl
 have m1:=HO3.out.1 1 _ rfl
 have m2:=HO3.out.1 2 _ rfl
 go_wp2_with (fail)
 refine (HCH.out x0 x1 x2 w3).mono ?_
 rintro e w4 ⟨k,hk,rfl,hb4⟩
 have hb04:=HB3.out.trans (hb4.mono HB3.out.size)
 have HB4:=Lib.hid hb04
 have HW4:=Lib.hid (HW.out.fr (Fr.of_below (F:=[]) hb04) (fun _ _ hm=>by cases hm))
 have hf04:Fr F w w4:=Fr.of_below hb04
 have HT4:Hid (TkB F w4 ts n (.slice ta n tc)):=Lib.hid (fun W hW=>HT.out W (hf04.trans hW (fun x hx _=>hx)))
 have HB4b:Hid (SlB F w4 1 (.slice ba m bc) m (bC txt)):=Lib.hid (fun W hW=>HB.out W (hf04.trans hW (fun x hx _=>hx)))
 have HG4:Hid (Gl w4):=Lib.hid (HG.out.fr hf04 HLT.out.2)
 have HF4:=Lib.hid hf04
 clear hb4 hb04 hf04 m0 m1 m2 HCH HW HT HB HG HO3 HB3
 obtain rfl|rfl|rfl:k=0∨k=1∨k=2:=by omega
 ·have HP:=Lib.hid (stored_any F wb m f S txt (.slice ba m bc) w4 HW4.out (by omega) HB4b.out HO.out.2.2.1 hml HO.out.2.2.2)
  go_wp2_with (fail)
  refine HP.out.mono ?_
  rintro e w5 ⟨rfl,F5,hw5,hf5,hn5⟩
  have HR:Hid (∃F' E,Wr F' w5 wb (S++E)∧Fr F w w5∧New F F' w.heap.size∧E.length≤700000∧ ∀(T:List Nat) (p:Nat),p%8=S.length%8→Tk.Rch T.length ts→Tk.expL T ts=T++txt→BlkB f T txt p E):=Lib.hid ⟨F5,_,hw5,HF4.out.trans hf5 (fun x hx _=>hx),fun k hk=>(hn5 k hk).imp id (fun h=>Nat.le_trans HB4.out.size h),by have:=storedB_len S.length f txt;have:=HO.out.2.2.1;omega,fun T p hp _ _=>stored_blk f T txt p S.length hp (by have:=HO.out.2.2.1;omega) HO.out.2.2.2⟩
  clear hw5 hf5 hn5 HP
  go_wp2_with (fail)
  go_ret2
  exact⟨0,by omega,rfl,HR.out⟩
 ·have HP:=Lib.hid (putFixed_any F wb n f S ts (.slice ta n tc) w4 HW4.out (by omega) HT4.out HO.out.1 hl HO.out.2.1 HG4.out HLT.out.2)
  go_wp2_with (fail)
  refine HP.out.mono ?_
  rintro e w5 ⟨rfl,F5,hw5,hf5,hn5⟩
  have HR:Hid (∃F' E,Wr F' w5 wb (S++E)∧Fr F w w5∧New F F' w.heap.size∧E.length≤700000∧ ∀(T:List Nat) (p:Nat),p%8=S.length%8→Tk.Rch T.length ts→Tk.expL T ts=T++txt→BlkB f T txt p E):=Lib.hid ⟨F5,_,hw5,HF4.out.trans hf5 (fun x hx _=>hx),fun k hk=>(hn5 k hk).imp id (fun h=>Nat.le_trans HB4.out.size h),by
   unfold fixedB
   rw[List.length_append,List.length_append,lsb_len,cb_len]
   have h1:=toksB_len fixL_le fixD_le ts HO.out.2.1
   have h2:=len_le (s:=256) fixL_le
   have h3:=HO.out.1
   omega,fun T p _ hr he=>dyn_blk (fixed_dyn f ts HO.out.2.1) hr he⟩
  clear hw5 hf5 hn5 HP
  go_wp2_with (fail)
  go_ret2
  exact⟨1,by omega,rfl,HR.out⟩
 ·have HP:=Lib.hid (putDynamic_any F wb n f S ts (.slice ta n tc) w4 HW4.out (by omega) HT4.out HO.out.1 hl HO.out.2.1 HG4.out HLT.out.2)
  go_wp2_with (fail)
  refine HP.out.mono ?_
  rintro e w5 ⟨rfl,F5,E,hw5,hf5,hn5,hdy,hel⟩
  have HR:Hid (∃F' E,Wr F' w5 wb (S++E)∧Fr F w w5∧New F F' w.heap.size∧E.length≤700000∧ ∀(T:List Nat) (p:Nat),p%8=S.length%8→Tk.Rch T.length ts→Tk.expL T ts=T++txt→BlkB f T txt p E):=Lib.hid ⟨F5,E,hw5,HF4.out.trans hf5 (fun x hx _=>hx),fun k hk=>(hn5 k hk).imp id (fun h=>Nat.le_trans HB4.out.size h),by omega,fun T p _ hr he=>dyn_blk hdy hr he⟩
  clear hw5 hf5 hn5 hdy hel HP
  go_wp2_with (fail)
  go_ret2
  exact⟨2,by omega,rfl,HR.out⟩
end Go.Proofs.YtmdgeoalamancaaGreatDoor
namespace Go.Proofs.YtmdgeoalamancaaGreatDoor
open Go.RowKit
open Bt Can Mc Pk
theorem blk_app {T t1 t2:List Nat} {p:Nat} {f:Bool} {E1 E2:List Bool} (h1:BlkB false T t1 p E1) (h2:BlkB f (T++t1) t2 (p+E1.length) E2):BlkB f T (t1++t2) p (E1++E2):=by
 have c1:=h1.1 rfl
 refine⟨fun hf=> ?_,fun hf pad hp=> ?_⟩
 ·subst hf
  rw[←List.append_assoc]
  exact c1.app (h2.1 rfl)
 ·subst hf
  rw[List.append_assoc,←List.append_assoc T]
  refine c1.app (h2.2 rfl pad ?_)
  rw[hp,List.length_append,Nat.add_assoc]
theorem blk_nil (T:List Nat) (p:Nat):BlkB false T [] p []:=⟨fun _=>by rw[List.append_nil];exact .nil _ _,fun h=>by cases h⟩
theorem expL_len: ∀(ts:List Tk.T) (k:List Nat),(Tk.expL k ts).length=k.length+sizN' ts
 | [],k=>rfl
 |t::ts,k=>by
  have ih:=expL_len ts (Tk.exp k t)
  have e:Tk.expL k (t::ts)=Tk.expL (Tk.exp k t) ts:=rfl
  rw[e,ih,Tk.exp_len]
  unfold sizN'
  rw[List.map_cons,List.sum_cons,Nat.add_assoc]
theorem exp_pre (k:List Nat) (t:Tk.T): ∃e,Tk.exp k t=k++e:=by
 unfold Tk.exp
 split
 ·exact⟨_,rfl⟩
 ·exact Tk.cp_pre _ _ _
theorem expL_pre: ∀(ts:List Tk.T) (k:List Nat),∃e,Tk.expL k ts=k++e
 | [],k=>⟨[],by rw[List.append_nil];rfl⟩
 |t::ts,k=>by
  obtain⟨e,he⟩:=expL_pre ts (Tk.exp k t)
  obtain⟨e1,he1⟩:=exp_pre k t
  refine⟨e1++e,?_⟩
  show Tk.expL (Tk.exp k t) ts=_
  rw[he,he1,List.append_assoc]
theorem sizN_app (a b:List Tk.T):sizN' (a++b)=sizN' a+sizN' b:=by unfold sizN';rw[List.map_append,List.sum_append]
theorem sizN_ge: ∀ts:List Tk.T,ts.length≤sizN' ts
 | []=>Nat.le_refl _
 |t::ts=>by
  have ih:=sizN_ge ts
  have e:sizN' (t::ts)=Tk.size t+sizN' ts:=by unfold sizN';rw[List.map_cons,List.sum_cons]
  have h1:1≤Tk.size t:=by unfold Tk.size;split<;>omega
  rw[e,List.length_cons]
  omega
theorem Rch_left {a b:List Tk.T} {k:Nat} (h:Tk.Rch k (a++b)):Tk.Rch k a:=by
 induction a generalizing k with
 |nil=>exact trivial
 |cons t a ih=>exact⟨h.1,ih h.2⟩
theorem Rch_right {a b:List Tk.T} {k:Nat} (h:Tk.Rch k (a++b)):Tk.Rch (k+sizN' a) b:=by
 induction a generalizing k with
 |nil=>simpa[sizN'] using h
 |cons t a ih=>
  have:=ih h.2
  have e:sizN' (t::a)=Tk.size t+sizN' a:=by unfold sizN';rw[List.map_cons,List.sum_cons]
  rw[e,←Nat.add_assoc]
  exact this
def att (ts:List Tk.T) (fr a:Nat):Nat:=fr+sizN' (ts.take a)
theorem att_zero (ts:List Tk.T) (fr:Nat):att ts fr 0=fr:=by unfold att;rw[List.take_zero];rfl
theorem take_mid {α:Type} (l:List α) {a b:Nat} (h:a≤b):l.take b=l.take a++(l.take b).drop a:=by
 have:=List.take_append_drop a (l.take b)
 rw[List.take_take,Nat.min_eq_left h] at this
 exact this.symm
theorem att_add (ts:List Tk.T) (fr:Nat) {a b:Nat} (h:a≤b):att ts fr b=att ts fr a+sizN' ((ts.take b).drop a):=by
 have:=take_mid ts h
 unfold att
 rw[Nat.add_assoc,←sizN_app,←this]
theorem Std.cut {data:List Nat} {fr n:Nat} {ts:List Tk.T} (h:Tk.Std data fr n ts) (a:Nat):Tk.expL (data.take fr) (ts.take a)=data.take (att ts fr a)∧att ts fr a≤n:=by
 have hf:=h.far
 have e:Tk.expL (data.take fr) ts=Tk.expL (Tk.expL (data.take fr) (ts.take a)) (ts.drop a):=by
  rw[←Tk.expL_app,List.take_append_drop]
 obtain⟨x,hx⟩:=expL_pre (ts.drop a) (Tk.expL (data.take fr) (ts.take a))
 rw[e,hx] at hf
 have hl:=expL_len (ts.take a) (data.take fr)
 have h1:=h.le
 have h2:=h.lt
 rw[List.length_take,Nat.min_eq_left (by omega)] at hl
 have hlen:=congrArg List.length hf
 rw[List.length_append,hl,List.length_take,Nat.min_eq_left h2] at hlen
 have hle:att ts fr a≤n:=by unfold att;omega
 refine⟨?_,hle⟩
 have h3:=congrArg (List.take (att ts fr a)) hf
 rw[List.take_take,Nat.min_eq_left hle,List.take_left' (show _=att ts fr a from hl)] at h3
 exact h3
theorem Std.end {data:List Nat} {fr n:Nat} {ts:List Tk.T} (h:Tk.Std data fr n ts):att ts fr ts.length=n:=by
 have h1:=(Std.cut h ts.length).1
 rw[List.take_length,h.far] at h1
 have h2:=congrArg List.length h1
 have h3:=(Std.cut h ts.length).2
 have h4:=h.lt
 rw[List.length_take,List.length_take] at h2
 omega
theorem Std.mid {data:List Nat} {fr n:Nat} {ts:List Tk.T} (h:Tk.Std data fr n ts) (hr:Tk.Rch fr ts) {a b:Nat} (hab:a≤b):Tk.expL (data.take (att ts fr a)) ((ts.take b).drop a)=data.take (att ts fr a)++(data.drop (att ts fr a)).take (sizN' ((ts.take b).drop a))∧Tk.Rch (data.take (att ts fr a)).length ((ts.take b).drop a):=by
 have h1:=Std.cut h a
 have h2:=Std.cut h b
 have h3:=take_mid ts hab
 have h4:=h.lt
 refine⟨?_,?_⟩
 ·have e:=h2.1
  rw[h3,Tk.expL_app,h1.1,att_add ts fr hab] at e
  rw[e,List.take_add]
 ·rw[List.length_take,Nat.min_eq_left (by omega)]
  have hr2:Tk.Rch fr (ts.take b):=by
   rw[←List.take_append_drop b ts] at hr
   exact Rch_left hr
  rw[h3] at hr2
  exact Rch_right hr2
end Go.Proofs.YtmdgeoalamancaaGreatDoor
