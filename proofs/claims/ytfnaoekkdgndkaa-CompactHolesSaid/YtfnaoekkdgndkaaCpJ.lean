/- Plan: the moves, and the chains behind them. -/
import Derived.Test.YtfnaoekkdgndkaaCpI
namespace Go.Proofs.Ytfnaoekkdgndkaa
set_option maxRecDepth 100000
set_option linter.unusedVariables false
set_option linter.unusedSimpArgs false
open Go.RowKit
theorem LL.congr {base e n : Nat} {w : World} {us : Nat → Value} {ls ls' : Nat → List Sp} (h : LL base e w n us ls) (hl : ∀ o, o < n → ls o = ls' o) : LL base e w n us ls' :=
  ⟨fun o ho => by rw [← hl o ho]; exact h.row o ho, h.apart⟩
/-- What Plan has done with the first pieces. -/
def PL (ls : Nat → List Sp) (n k : Nat) : PlS := planN ls (atP (pcs ls n)) k
theorem PL_succ (ls : Nat → List Sp) (n k : Nat) : PL ls n (k + 1) = pstep (PL ls n k) (atP (pcs ls n) k) := rfl
theorem PL_step (ls : Nat → List Sp) (n k : Nat) (p : Pc) (hp : atP (pcs ls n) k = p) : (p.a = lenN (atP (pcs ls n)) k → PL ls n (k + 1) = ⟨lenN (atP (pcs ls n)) k + p.l, (PL ls n k).mv, setL (PL ls n k).ls p.o p.i (lenN (atP (pcs ls n)) k)⟩) ∧
    (p.a ≠ lenN (atP (pcs ls n)) k → PL ls n (k + 1) = ⟨lenN (atP (pcs ls n)) k + p.l, (PL ls n k).mv ++ [⟨p.a, lenN (atP (pcs ls n)) k, p.l⟩], setL (PL ls n k).ls p.o p.i (lenN (atP (pcs ls n)) k)⟩) := by
  have ht : (PL ls n k).to = lenN (atP (pcs ls n)) k := planN_to _ _ _
  rw [PL_succ, hp]
  unfold pstep
  rw [ht]
  exact ⟨fun h => by rw [if_pos h], fun h => by rw [if_neg h]⟩
theorem PL_to (ls : Nat → List Sp) (n k : Nat) : (PL ls n k).to = lenN (atP (pcs ls n)) k := planN_to _ _ _
theorem PL_lens (ls : Nat → List Sp) (n k o : Nat) : ((PL ls n k).ls o).length = (ls o).length := planN_lens _ _ _ _
theorem PL_len (ls : Nat → List Sp) (n k : Nat) : (PL ls n k).mv.length ≤ k := planN_len _ _ _
theorem PL_le {ls : Nat → List Sp} {n : Nat} (h : WF ls n) {k : Nat} (hk : k < sumL ls n) : lenN (atP (pcs ls n)) k ≤ (atP (pcs ls n) k).a := lenN_le h.ends k (by rw [pcs_len]; exact hk)
theorem mem_setL {ls : Nat → List Sp} {o i t q : Nat} {s : Sp} (h : s ∈ setL ls o i t q) : s ∈ ls q ∨ (q = o ∧ s = (t, (atS (ls o) i).2)) := by
  unfold setL at h
  by_cases e : q = o
  · rw [if_pos e] at h
    subst e
    rcases List.mem_or_eq_of_mem_set h with h | h
    · exact .inl h
    · exact .inr ⟨rfl, h⟩
  · rw [if_neg e] at h
    exact .inl h
theorem piece_bd {ls : Nat → List Sp} {n : Nat} (hb : ∀ o, o < n → BdS (ls o)) {k : Nat} (hk : k < sumL ls n) : (atP (pcs ls n) k).a + (atP (pcs ls n) k).l ≤ 1099511627776 := by
  obtain ⟨o, j, ho, hj, e⟩ := pcs_is ls n hk
  rw [e]
  exact hb o ho _ (atS_mem hj)
theorem PL_bd {ls : Nat → List Sp} {n : Nat} (hwf : WF ls n) (hb : ∀ o, o < n → BdS (ls o)) : ∀ k, k ≤ sumL ls n → ∀ o, o < n → BdS ((PL ls n k).ls o)
  | 0, _, o, ho => hb o ho
  | k + 1, hk, o, ho => by
    intro s hs
    rw [PL_succ] at hs
    rcases mem_setL hs with hs | ⟨rfl, rfl⟩
    · exact PL_bd hwf hb k (by omega) o ho s hs
    · have h1 := PL_le hwf (show k < sumL ls n by omega)
      have h2 := piece_bd hb (show k < sumL ls n by omega)
      have h3 : (atS ((PL ls n k).ls (atP (pcs ls n) k).o) (atP (pcs ls n) k).i).2 = (atP (pcs ls n) k).l := by
        unfold PL
        rw [planN_snd]
        obtain ⟨o', j, ho', hj, e⟩ := pcs_is ls n (show k < sumL ls n by omega)
        rw [e]
        rfl
      show (PL ls n k).to + (atS ((PL ls n k).ls (atP (pcs ls n) k).o) (atP (pcs ls n) k).i).2 ≤ _
      rw [h3, PL_to]
      omega
def Plan_p (n : Nat) (ls : Nat → List Sp) (w : World) (e : Ending) (w' : World) : Prop :=
  ∃ v1 v2, e = .returned (.tuple #[v1, v2]) ∧ Sl w' w'.heap.size 3 v1 (PL ls n (sumL ls n)).mv.length (lc mvC (PL ls n (sumL ls n)).mv) ∧ ChsA w' v2 n (fun o => joinL ((PL ls n (sumL ls n)).ls o)) ∧ Below w.heap.size w w'
def Plan_o (n : Nat) (ls : Nat → List Sp) (w : World) (e : Ending) (w' : World) : Prop :=
  ∃ v1 v2 ps, e = .returned (.tuple #[v1, v2]) ∧ Row w.heap.size 38 3 w' v1 (PL ls n (sumL ls n)).mv.length (lc mvC (PL ls n (sumL ls n)).mv) ∧ Row w.heap.size 41 1 w' v2 n (pcells n ps) ∧ (∀ o, o < n → Chn w.heap.size w' (ps o) (joinL ((PL ls n (sumL ls n)).ls o))) ∧ Below w.heap.size w w'
theorem info_sl : (Try.prog.info? 43).map (fun i => (i.zero, i.size, i.bytes)) = some (some (.slice none 0 0), 1, 24) := by kernel_rfl
theorem info_ch : (Try.prog.info? 41).map (fun i => (i.zero, i.size, i.bytes)) = some (some (.pointer none), 1, 8) := by kernel_rfl
theorem made_pc (n : Nat) (z : Value) (hz : z.cells = #[z]) : madeCells z.cells ((((n : Nat) : Int)).toNat * 1) = (pcells n (fun _ => z)).toArray := by
  rw [show (((n : Nat) : Int)).toNat * 1 = n by omega]
  refine Array.ext (by simp [size_madeCells, pcells_len]) fun i h1 h2 => ?_
  simp [madeCells, hz, Nat.mod_one, pcells]
theorem hmkS (n : Nat) (W : World) (hn : n ≤ 2000000) : (Instr.makeSlice 59 (.int .i64 ((n : Nat) : Int)) (.int .i64 ((n : Nat) : Int))).run Try.prog W = .ok (.slice (some ⟨W.heap.size, 0, none⟩) n n) (W.alloc (.cells (pcells n (fun _ => .slice none 0 0)).toArray 43)) := by
  obtain ⟨i0, hi, hz0, hz1, hz2⟩ := info_parts info_sl
  have := run_makeSlice (P := Try.prog) W 59 43 i0 (.slice none 0 0) Try.underlying59 hi hz0 .i64 .i64 ((n : Nat) : Int) ((n : Nat) : Int) (by omega) (Int.le_refl _) (by rw [hz1]; omega) (by rw [hz2]; omega) (by omega)
  rw [this, hz1, made_pc n _ rfl]
  rw [show (((n : Nat) : Int)).toNat = n by omega]
theorem hmkP (n : Nat) (W : World) (hn : n ≤ 2000000) : (Instr.makeSlice 24 (.int .i64 ((n : Nat) : Int)) (.int .i64 ((n : Nat) : Int))).run Try.prog W = .ok (.slice (some ⟨W.heap.size, 0, none⟩) n n) (W.alloc (.cells (pcells n (fun _ => .pointer none)).toArray 41)) := by
  obtain ⟨i0, hi, hz0, hz1, hz2⟩ := info_parts info_ch
  have := run_makeSlice (P := Try.prog) W 24 41 i0 (.pointer none) Try.underlying24 hi hz0 .i64 .i64 ((n : Nat) : Int) ((n : Nat) : Int) (by omega) (Int.le_refl _) (by rw [hz1]; omega) (by rw [hz2]; omega) (by omega)
  rw [this, hz1, made_pc n _ rfl]
  rw [show (((n : Nat) : Int)).toNat = n by omega]
/-- A row of one-cell elements, all alike, that has just been made. -/
theorem Row.made (w : World) (e n : Nat) (z : Value) (hn : n ≤ 1000000) : Row w.heap.size e 1 (w.alloc (.cells (pcells n (fun _ => z)).toArray e)) (.slice (some ⟨w.heap.size, 0, none⟩) n n) n (pcells n (fun _ => z)) :=
  Row.lit w _ (Nat.le_refl _) hn (by rw [pcells_len, Nat.mul_one])
theorem row_at {base e g cap n : Nat} {w : World} {us : Nat → Value} (h : Row base e 1 w (.slice (some ⟨g, 0, none⟩) n cap) n (pcells n us)) {k : Nat} (hk : k < n) : w.cell? ⟨g, k, none⟩ = some (us k) := by
  have := sl_same h.sl (by omega) k _ (pcells_get us hk)
  rwa [Nat.zero_add] at this
theorem row_put {base e g cap n : Nat} {w : World} {us : Nat → Value} (h : Row base e 1 w (.slice (some ⟨g, 0, none⟩) n cap) n (pcells n us)) {k : Nat} (hk : k < n) (v : Value) : Row base e 1 (w.setCell ⟨g, k, none⟩ v) (.slice (some ⟨g, 0, none⟩) n cap) n (pcells n (updA us k v)) := by
  have := (World.ownsRow.stored h k v).1
  rwa [pcells_set us v hk] at this
set_option maxHeartbeats 8000000 in
theorem plan_own (n : Nat) (ls : Nat → List Sp) (v : Value) (w : World) (h : ChsA w v n ls) (hwf : WF ls n) (hn : n ≤ 1000) (hsum : sumL ls n ≤ 1000) (hbd : ∀ o, o < n → BdS (ls o)) :
    Calls Try.prog 8 #[v] w (Plan_o n ls w) := by
  have HPLC := Lib.hid (fun (W : World) (hW : Below w.heap.size w W) => places_any n ls v W (h.below hW) hwf hn hsum)
  obtain ⟨ps, hs, hc⟩ := h
  obtain ⟨a, cap, rfl, hcap⟩ := hs.form
  have HS := Lib.hid (fun (W : World) (hW : Below w.heap.size w W) => hs.below hW)
  have HC := Lib.hid (fun (W : World) (hW : Below w.heap.size w W) (i : Nat) (hi : i < n) => (hc i hi).below hW)
  have HWF := Lib.hid hwf
  have HBD := Lib.hid hbd
  have HLN : Hid (∀ o, o < n → (ls o).length ≤ 1000) := Lib.hid (fun o ho => by
    have h1 := sumL_le ls (show o + 1 ≤ n from ho)
    have h2 : sumL ls (o + 1) = sumL ls o + (ls o).length := rfl
    omega)
  clear hs hc hwf hbd
  have hmk := hmkS n w (by omega)
  obtain ⟨wa, hwa⟩ : ∃ z : World, z = w.alloc (.cells (pcells n (fun _ => .slice none 0 0)).toArray 43) := ⟨_, rfl⟩
  have HRA : Hid (Row w.heap.size 43 1 wa (.slice (some ⟨w.heap.size, 0, none⟩) n n) n (pcells n (fun _ => .slice none 0 0))) := Lib.hid (by rw [hwa]; exact Row.made w _ n _ (by omega))
  have HBA : Hid (Below w.heap.size w wa) := Lib.hid (by rw [hwa]; exact (Below.refl _ _).alloc (Nat.le_refl _) _)
  have hlb : w.heap.size < wa.heap.size := by rw [hwa]; simp
  go_enter Try.func8, Try.ntmps8
  go_upto_region 2 with (fail)
  rw [← hwa]
  clear hwa hmk
  obtain ⟨lb, hlb0⟩ : ∃ z, w.heap.size = z := ⟨_, rfl⟩
  have HLB := Lib.hid hlb0
  rw [hlb0] at HRA hlb ⊢
  clear hlb0
  go_wp2_with (fail)
  go_loopw [18] (fun i wr => ∃ (j : Nat) (us : Nat → Value) (ls' : Nat → List Sp), i = .int .i64 j ∧ j ≤ n ∧ Hid (Row lb 43 1 wr (.slice (some ⟨lb, 0, none⟩) n n) n (pcells n us)) ∧ Hid (LL (lb + 1) 57 wr n us ls') ∧ Hid (∀ o, o < j → ls' o = ls o) ∧ Hid (Below w.heap.size w wr) ∧ lb < wr.heap.size) (fun i _ => n - (intOf i).toNat)
  case atStart => exact ⟨0, _, _, rfl, Nat.zero_le _, HRA, Lib.hid LL.nil, Lib.hid (fun o ho => by omega), HBA, hlb⟩
  case round =>
    clear HRA HBA hlb
    obtain ⟨j, us, ls', rfl, hj, HR, HL, HE, HB, hlb⟩ := hrel
    obtain ⟨wo, rfl⟩ : ∃ z : World, z = wr := ⟨_, rfl⟩
    by_cases hlt : j < n
    · as_aux_lemma =>
      have d1 : decide (j < n) = true := decide_eq_true hlt
      have d2 : decide ((j : Int) < (n : Int)) = true := decide_eq_true (by omega)
      have q1 : IntKind.i64.wrap ((j : Int) + 1) = (j : Int) + 1 := IntWalk.i64_in _ (by omega)
      have hbi : (j : Int) < (n : Int) := by omega
      obtain ⟨b, off, rfl, hk0⟩ := sl_cells (HS.out wo HB.out) (by omega)
      have k0 := hk0 j _ (pcells_get ps hlt)
      have HLI := Lib.hid (list_any 0 (ps j) (ls j) wo (HC.out wo HB.out j hlt) (by have := HLN.out j hlt; omega))
      clear hk0
      generalize hpj : ps j = pj at *
      clear hpj
      go_wp2_with (fail)
      refine HLI.out.mono ?_
      rintro e w1 ⟨v1, rfl, hr1, hb1⟩
      obtain ⟨a1, c1, rfl, _⟩ := hr1.form
      have HR1 := Lib.hid (HR.out.below hb1)
      have HL1 := Lib.hid (HL.out.putNew (j := j) hb1 hr1 (by omega))
      have HB1 := Lib.hid (HB.out.trans (hb1.mono HB.out.size))
      have hlb1 : lb < w1.heap.size := by have := hb1.size; omega
      have c0 := row_at HR1.out hlt
      have f0 := HR1.out.frozenAt j
      clear hr1 hb1 HLI k0
      go_wp2_with (fail)
      have HR2 := Lib.hid (row_put HR1.out hlt (.slice a1 (ls j).length c1))
      have HL2 := Lib.hid (HL1.out.setC (c := lb) (by omega) j (.slice a1 (ls j).length c1))
      have HB2 : Hid (Below w.heap.size w (w1.setCell ⟨lb, j, none⟩ (.slice a1 (ls j).length c1))) := Lib.hid (HB1.out.setCell (p := ⟨lb, j, none⟩) (by have := HLB.out; show w.heap.size ≤ lb; omega) (.slice a1 (ls j).length c1))
      have hlb2 : lb < (w1.setCell ⟨lb, j, none⟩ (.slice a1 (ls j).length c1)).heap.size := by simpa using hlb1
      have HE2 : Hid (∀ o, o < j + 1 → updA ls' j (ls j) o = ls o) := Lib.hid (fun o ho => by
        by_cases e : o = j
        · subst e; rw [updA_at]
        · rw [updA_ne _ _ _ e]; exact HE.out o (by omega))
      clear c0 f0
      generalize w1.setCell ⟨lb, j, none⟩ (.slice a1 (ls j).length c1) = w2 at *
      go_roundw
      case rel => exact ⟨j + 1, _, _, rfl, hlt, HR2, HL2, HE2, HB2, hlb2⟩
      case measure => simp [intOf] <;> omega
    have d1 : decide (j < n) = false := decide_eq_false hlt
    have d2 : decide ((j : Int) < (n : Int)) = false := decide_eq_false (by omega)
    obtain rfl : j = n := by omega
    have HL0 : Hid (LL (lb + 1) 57 wo j us ls) := Lib.hid (HL.out.congr HE.out)
    have HPW := Lib.hid (HPLC.out wo HB.out)
    clear HL HE HPLC hlt
    go_wp2_with (fail)
    refine HPW.out.mono ?_
    rintro e w4 ⟨pv, rfl, hps, hb4, hpl⟩
    have HP4 := Lib.hid hps
    have HPLT := Lib.hid hpl
    have HR4 := Lib.hid (HR.out.below hb4)
    have HL4 := Lib.hid (HL0.out.below hb4)
    have HUL : Hid (∀ o, o < j → ∀ g, (us o).ownBlock = some g → lb < g ∧ g < wo.heap.size) := Lib.hid (fun o ho g hg => (HL0.out.lt ho hg))
    have hz4 := hb4.size
    have HB4 := Lib.hid (HB.out.trans (hb4.mono HB.out.size))
    have HB4Z := Lib.hid HB4.out.size
    obtain ⟨pa, pc, rfl, _⟩ := hps.form
    obtain ⟨N, hN⟩ : ∃ z, sumL ls j = z := ⟨_, rfl⟩
    have HN := Lib.hid hN
    rw [hN] at HP4 HPLT hsum ⊢
    clear hps hpl hb4 HPW HR HL0 HB hN
    go_wp2_with (fail)
    go_loopw [7, 8, 32] (fun x t i wr => ∃ k : Nat, i = .int .i64 k ∧ k ≤ N ∧ t = .int .i64 (lenN (atP (pcs ls j)) k : Nat) ∧ Hid (Row w4.heap.size 38 3 wr x (PL ls j k).mv.length (lc mvC (PL ls j k).mv)) ∧ Hid (Row lb 43 1 wr (.slice (some ⟨lb, 0, none⟩) j j) j (pcells j us)) ∧ Hid (LL (lb + 1) 57 wr j us (PL ls j k).ls) ∧ Hid (Sl wr w4.heap.size 4 (.slice pa N pc) N (lc pcC (pcs ls j))) ∧ Hid (Below w.heap.size w wr) ∧ w4.heap.size ≤ wr.heap.size) (fun _ _ i _ => N - (intOf i).toNat)
    case atStart => exact ⟨0, rfl, Nat.zero_le _, rfl, Lib.hid Row.nil, HR4, HL4, HP4, HB4, Nat.le_refl _⟩
    case round =>
      clear HR4 HL4 HP4 HB4
      obtain ⟨k, rfl, hk, rfl, HM, HR, HL, HP, HB, hz⟩ := hrel
      obtain ⟨w5, rfl⟩ : ∃ z : World, z = wr := ⟨_, rfl⟩
      obtain ⟨ma, mc, rfl, _⟩ := HM.out.form
      by_cases hkn : k < N
      · as_aux_lemma =>
        have d3 : decide (k < N) = true := decide_eq_true hkn
        have d4 : decide ((k : Int) < (N : Int)) = true := decide_eq_true (by omega)
        have q2 : IntKind.i64.wrap ((k : Int) + 1) = (k : Int) + 1 := IntWalk.i64_in _ (by omega)
        have hbk : (k : Int) < (N : Int) := by omega
        obtain ⟨pb, po, rfl, _⟩ := sl_cells HP.out (by omega)
        obtain ⟨c0, c1, c2, c3⟩ := pc_cells HP.out (by rw [pcs_len]; exact HN.out.symm) (atP_get (l := pcs ls j) (j := k) (by rw [pcs_len, HN.out]; exact hkn))
        obtain ⟨o, i, ho, hi, hp⟩ := pcs_is ls j (k := k) (by rw [HN.out]; exact hkn)
        have hto := PL_le HWF.out (k := k) (by rw [HN.out]; exact hkn)
        have hpb := piece_bd HBD.out (k := k) (by rw [HN.out]; exact hkn)
        have hml := PL_len ls j k
        have hls := PL_lens ls j k o
        obtain ⟨hn1, hn2⟩ := PL_step ls j k _ hp
        have hto1 : lenN (atP (pcs ls j)) (k + 1) = lenN (atP (pcs ls j)) k + (atP (pcs ls j) k).l := rfl
        rw [hp] at c0 c1 c2 c3 hto hpb hto1
        simp only [pcOf] at c0 c1 c2 c3 hto hpb hn1 hn2 hto1
        generalize (atS (ls o) i).1 = A at *
        generalize (atS (ls o) i).2 = L at *
        generalize lenN (atP (pcs ls j)) k = T at *
        have HT1 := Lib.hid hto1
        have HN1 := Lib.hid hn1
        have HN2 := Lib.hid hn2
        have HI : Hid (i < ((PL ls j k).ls o).length) := Lib.hid (by rw [hls]; exact hi)
        obtain ⟨g, gc, hu, hgb, hgl⟩ := HL.out.form ho (by have := HI.out; omega)
        have hus := row_at HR.out ho
        obtain ⟨ml, hml0⟩ : ∃ z, ((PL ls j k).ls o).length = z := ⟨_, rfl⟩
        have HML0 := Lib.hid hml0
        rw [hml0] at hu HI
        have HU := Lib.hid hu
        have hgw := HUL.out o ho g (by rw [hu]; rfl)
        have hpg : wo.heap.size ≤ pb := HPLT.out pb rfl
        have hpb4 : pb < w4.heap.size := by
          obtain ⟨b', o', cap', he, _, hb', _⟩ := HP.out.pos (by omega)
          injection he with he
          injection he with he
          injection he with he1
          omega
        obtain ⟨mm, hmm⟩ : ∃ z, (PL ls j k).mv.length = z := ⟨_, rfl⟩
        rw [hmm] at HM hml ⊢
        have HMLT : Hid (∀ q, (Value.slice ma mm mc).ownBlock = some q → q < w5.heap.size) := Lib.hid (fun q hq => (HM.out.lt q hq).2)
        have HMM := Lib.hid hmm
        have hil : i < ml := HI.out
        have hil2 : (i : Int) < (ml : Int) := by omega
        have hoj2 : (o : Int) < (j : Int) := by omega
        clear hto1 hn1 hn2 hls hi hp hu hus hmm hml0
        obtain ⟨wx, hwx⟩ : ∃ z : World, z = w5.alloc (.cells #[.int .i64 (A : Nat), .int .i64 (L : Nat), .int .i64 (o : Nat), .int .i64 (i : Nat)] 66) := ⟨_, rfl⟩
        have hbx : Below w5.heap.size w5 wx := by rw [hwx]; exact (Below.refl _ _).alloc (Nat.le_refl _) _
        have hox : Own wx w5.heap.size [.int .i64 (A : Nat), .int .i64 (L : Nat), .int .i64 (o : Nat), .int .i64 (i : Nat)] := by rw [hwx]; exact Own.new_at w5 _ _ _ rfl
        have hzx : w5.heap.size < wx.heap.size := by rw [hwx]; simp
        have HM := Lib.hid (HM.out.below hbx)
        have HR := Lib.hid (HR.out.below hbx)
        have HL := Lib.hid (HL.out.below hbx)
        have HP := Lib.hid (HP.out.below (hbx.mono hz))
        have HB := Lib.hid (HB.out.trans (hbx.mono HB.out.size))
        have HOX := Lib.hid hox
        have z0 := hox.1 0 _ rfl
        clear hbx hox
        go_upto_region 12 with (fail)
        rw [← hwx]
        clear hwx c0 c1 c2 c3
        by_cases hat : A = T
        · have d5 : ((A : Int) != (T : Int)) = false := by simp; omega
          have d6 : (A != T) = false := by simpa using hat
          have HNX : Hid (PL ls j (k + 1) = ⟨T + L, (PL ls j k).mv, setL (PL ls j k).ls o i T⟩) := Lib.hid (HN1.out hat)
          clear hat
          have HZW : Hid (w5.heap.size + 1 ≤ wx.heap.size) := Lib.hid hzx
          have hz : w4.heap.size ≤ wx.heap.size := by omega
          have y0 := HOX.out.1 0 _ rfl
          have y1 := HOX.out.1 1 _ rfl
          have y2 := HOX.out.1 2 _ rfl
          have y3 := HOX.out.1 3 _ rfl
          have c0 := row_at HR.out ho
          rw [HU.out] at c0
          have hrow := HL.out.row o ho
          rw [HU.out, HML0.out] at hrow
          have f0 := hrow.frozenAt (i * 2)
          obtain ⟨k0, _⟩ := sp_row hrow HML0.out.symm (atS_get (l := (PL ls j k).ls o) (j := i) (by rw [HML0.out]; exact hil))
          have q3 : IntKind.i64.wrap ((T : Int) + (L : Int)) = ((T + L : Nat) : Int) := by rw [IntWalk.i64_in _ (by omega)]; omega
          clear hrow
          go_upto_region 14 with (fail)
          go_region
          all_goals
            have hD : Below (wx.setCell ⟨g, i * 2, none⟩ (.int .i64 (T : Nat))).heap.size (wx.setCell ⟨g, i * 2, none⟩ (.int .i64 (T : Nat))) (wx.setCell ⟨g, i * 2, none⟩ (.int .i64 (T : Nat))).drew := (Below.refl _ _).drew
            have hsz : (wx.setCell ⟨g, i * 2, none⟩ (.int .i64 (T : Nat))).heap.size = wx.heap.size := by simp
            have HM := Lib.hid ((HM.out.setc (c := g) (fun e => by have := (HM.out.lt g e).1; omega) (i * 2) (.int .i64 (T : Nat))).below hD)
            have HR := Lib.hid ((HR.out.setc (c := g) (fun e => by injection e with e; have : lb = g := e; omega) (i * 2) (.int .i64 (T : Nat))).below hD)
            have HL := Lib.hid ((HL.out.store T ho HU.out (by rw [HML0.out]; exact hil)).below hD)
            have HP := Lib.hid ((HP.out.other (c := g) (fun q hq e => by injection hq with hq; have : pb = q := hq; omega) (i * 2) (.int .i64 (T : Nat))).below (hD.mono (by rw [hsz]; exact hz)))
            have HOX := Lib.hid ((HOX.out.other (c := g) (by omega) (i * 2) (.int .i64 (T : Nat))).below hD (by rw [hsz]; exact Nat.lt_of_lt_of_le (show w5.heap.size < w5.heap.size + 1 from Nat.lt_succ_self _) HZW.out))
            have HB := Lib.hid ((HB.out.setCell (p := ⟨g, i * 2, none⟩) (by have := HLB.out; show w.heap.size ≤ g; omega) (.int .i64 (T : Nat))).trans (hD.mono (by rw [hsz]; exact Nat.le_trans HB4Z.out hz)))
            have hz8 : w4.heap.size ≤ (wx.setCell ⟨g, i * 2, none⟩ (.int .i64 (T : Nat))).drew.heap.size := by have := hD.size; omega
            clear y0 y1 y2 y3 c0 f0 k0 hD hsz
            generalize (wx.setCell ⟨g, i * 2, none⟩ (.int .i64 (T : Nat))).drew = w8 at *
            have y1 := HOX.out.1 1 _ rfl
            go_wp2_with (fail)
            go_roundw
            case rel => exact ⟨k + 1, rfl, hkn, by rw [HT1.out]; exact congrArg (Value.int .i64) (by omega), Lib.hid (by rw [HNX.out]; show Row _ _ 3 w8 _ (PL ls j k).mv.length _; rw [HMM.out]; exact HM.out), HR, Lib.hid (by rw [HNX.out]; exact HL.out), HP, HB, hz8⟩
            case measure => simp [intOf] <;> omega
        · have d5 : ((A : Int) != (T : Int)) = true := by simp; omega
          have d6 : (A != T) = true := by simpa using hat
          have HNX : Hid (PL ls j (k + 1) = ⟨T + L, (PL ls j k).mv ++ [⟨A, T, L⟩], setL (PL ls j k).ls o i T⟩) := Lib.hid (HN2.out hat)
          have z1 := HOX.out.1 1 _ rfl
          obtain ⟨wy, hwy⟩ : ∃ z : World, z = wx.alloc (.cells #[.int .i64 (A : Nat), .int .i64 (T : Nat), .int .i64 (L : Nat)] 38) := ⟨_, rfl⟩
          have hby : Below wx.heap.size wx wy := by rw [hwy]; exact (Below.refl _ _).alloc (Nat.le_refl _) _
          have HSY : Hid (Sl wy (wx.heap.size + 1) 3 (.slice (some ⟨wx.heap.size, 0, none⟩) 1 1) 1 [.int .i64 (A : Nat), .int .i64 (T : Nat), .int .i64 (L : Nat)]) := Lib.hid (by rw [hwy]; exact Sl.new wx 3 1 _ 38 rfl)
          have HON : Hid (∀ u ∈ ([.int .i64 (A : Nat), .int .i64 (T : Nat), .int .i64 (L : Nat)] : List Value), u.oneCell' = true) := Lib.hid (by intro u hu; simp at hu; rcases hu with rfl | rfl | rfl <;> rfl)
          have HM := Lib.hid (HM.out.below hby)
          have HR := Lib.hid (HR.out.below hby)
          have HL := Lib.hid (HL.out.below hby)
          have HP := Lib.hid (HP.out.below (hby.mono (by omega)))
          have HOX := Lib.hid (HOX.out.below hby hzx)
          have HB := Lib.hid (HB.out.trans (hby.mono HB.out.size))
          have hzy : w4.heap.size ≤ wy.heap.size := by have := hby.size; omega
          have hzy5 : w5.heap.size < wy.heap.size := by have := hby.size; omega
          have HWY := Lib.hid hwy
          clear hby hwy hat
          go_wp2_with (at_builtin; rw [← HWY.out]; refine append_rowG (base := w4.heap.size) (size := 3) (xs := lc mvC (PL ls j k).mv) Try.underlying28 info_mv rfl (by decide) rfl _ _ rfl rfl HM.out rfl HSY.out HON.out ?_ ?_ ?_ ?_; omega; omega; exact hzy)
          intro v7 w7 hr7 hb7 hg7
          obtain ⟨na, nc, hnv, _⟩ := hr7.form
          have HR := Lib.hid (HR.out.kept_ne HM.out hg7 (by decide))
          have HL := Lib.hid (HL.out.kept_ne HM.out hg7 (by decide))
          have HP := Lib.hid (HP.out.kept hzy hg7 (fun g' hg' e => by
            injection hg' with hg'
            have h1 := (HM.out.lt g' e.symm).1
            have : pb = g' := hg'
            omega))
          have HOX := Lib.hid (HOX.out.grown hg7 (fun e => by have := HMLT.out _ e.symm; omega) hzy5)
          have HM := Lib.hid hr7
          have HB := Lib.hid (HB.out.trans (hb7.mono (by have := HB4Z.out; omega)))
          have hz : w4.heap.size ≤ w7.heap.size := by have := hg7.size; omega
          have hzw : w5.heap.size + 1 ≤ w7.heap.size := by have := hg7.size; omega
          subst hnv
          clear hr7 hb7 hg7 HSY HON HWY z0 z1
          have HZW : Hid (w5.heap.size + 1 ≤ w7.heap.size) := Lib.hid hzw
          have y0 := HOX.out.1 0 _ rfl
          have y1 := HOX.out.1 1 _ rfl
          have y2 := HOX.out.1 2 _ rfl
          have y3 := HOX.out.1 3 _ rfl
          have c0 := row_at HR.out ho
          rw [HU.out] at c0
          have hrow := HL.out.row o ho
          rw [HU.out, HML0.out] at hrow
          have f0 := hrow.frozenAt (i * 2)
          obtain ⟨k0, _⟩ := sp_row hrow HML0.out.symm (atS_get (l := (PL ls j k).ls o) (j := i) (by rw [HML0.out]; exact hil))
          have q3 : IntKind.i64.wrap ((T : Int) + (L : Int)) = ((T + L : Nat) : Int) := by rw [IntWalk.i64_in _ (by omega)]; omega
          clear hrow
          go_upto_region 14 with (fail)
          go_region
          all_goals
            have hD : Below (w7.setCell ⟨g, i * 2, none⟩ (.int .i64 (T : Nat))).heap.size (w7.setCell ⟨g, i * 2, none⟩ (.int .i64 (T : Nat))) (w7.setCell ⟨g, i * 2, none⟩ (.int .i64 (T : Nat))).drew := (Below.refl _ _).drew
            have hsz : (w7.setCell ⟨g, i * 2, none⟩ (.int .i64 (T : Nat))).heap.size = w7.heap.size := by simp
            have HM := Lib.hid ((HM.out.setc (c := g) (fun e => by have := (HM.out.lt g e).1; omega) (i * 2) (.int .i64 (T : Nat))).below hD)
            have HR := Lib.hid ((HR.out.setc (c := g) (fun e => by injection e with e; have : lb = g := e; omega) (i * 2) (.int .i64 (T : Nat))).below hD)
            have HL := Lib.hid ((HL.out.store T ho HU.out (by rw [HML0.out]; exact hil)).below hD)
            have HP := Lib.hid ((HP.out.other (c := g) (fun q hq e => by injection hq with hq; have : pb = q := hq; omega) (i * 2) (.int .i64 (T : Nat))).below (hD.mono (by rw [hsz]; exact hz)))
            have HOX := Lib.hid ((HOX.out.other (c := g) (by omega) (i * 2) (.int .i64 (T : Nat))).below hD (by rw [hsz]; exact Nat.lt_of_lt_of_le (show w5.heap.size < w5.heap.size + 1 from Nat.lt_succ_self _) HZW.out))
            have HB := Lib.hid ((HB.out.setCell (p := ⟨g, i * 2, none⟩) (by have := HLB.out; show w.heap.size ≤ g; omega) (.int .i64 (T : Nat))).trans (hD.mono (by rw [hsz]; exact Nat.le_trans HB4Z.out hz)))
            have hz8 : w4.heap.size ≤ (w7.setCell ⟨g, i * 2, none⟩ (.int .i64 (T : Nat))).drew.heap.size := by have := hD.size; omega
            clear y0 y1 y2 y3 c0 f0 k0 hD hsz
            generalize (w7.setCell ⟨g, i * 2, none⟩ (.int .i64 (T : Nat))).drew = w8 at *
            have y1 := HOX.out.1 1 _ rfl
            go_wp2_with (fail)
            go_roundw
            case rel => exact ⟨k + 1, rfl, hkn, by rw [HT1.out]; exact congrArg (Value.int .i64) (by omega), Lib.hid (by rw [HNX.out]; show Row _ _ 3 w8 _ ((PL ls j k).mv ++ [(⟨A, T, L⟩ : Mv)]).length (lc mvC ((PL ls j k).mv ++ [(⟨A, T, L⟩ : Mv)])); rw [List.length_append, HMM.out, lc_app, lc_one]; exact HM.out), HR, Lib.hid (by rw [HNX.out]; exact HL.out), HP, HB, hz8⟩
            case measure => simp [intOf] <;> omega
      · have d3 : decide (k < N) = false := decide_eq_false hkn
        have d4 : decide ((k : Int) < (N : Int)) = false := decide_eq_false (by omega)
        obtain rfl : k = N := by omega
        have hmk := hmkP j w5 (by omega)
        obtain ⟨wa, hwa⟩ : ∃ z : World, z = w5.alloc (.cells (pcells j (fun _ => .pointer none)).toArray 41) := ⟨_, rfl⟩
        have HRA : Hid (Row w5.heap.size 41 1 wa (.slice (some ⟨w5.heap.size, 0, none⟩) j j) j (pcells j (fun _ => .pointer none))) := Lib.hid (by rw [hwa]; exact Row.made w5 _ j _ (by omega))
        have HBA : Hid (Below w5.heap.size w5 wa) := Lib.hid (by rw [hwa]; exact (Below.refl _ _).alloc (Nat.le_refl _) _)
        have hcb : w5.heap.size < wa.heap.size := by rw [hwa]; simp
        have HBL : Hid (∀ o, o < j → BdS ((PL ls j k).ls o)) := Lib.hid (PL_bd HWF.out HBD.out k (by rw [HN.out]; exact Nat.le_refl _))
        have HLL : Hid (∀ o, o < j → ((PL ls j k).ls o).length ≤ 1000) := Lib.hid (fun o ho => by rw [PL_lens]; exact HLN.out o ho)
        obtain ⟨mm, hmm⟩ : ∃ z, (PL ls j k).mv.length = z := ⟨_, rfl⟩
        rw [hmm] at HM
        have HMM := Lib.hid hmm
        clear hkn hmm
        go_upto_region 18 with (fail)
        rw [← hwa]
        clear hwa hmk
        obtain ⟨cb, hcb0⟩ : ∃ z, w5.heap.size = z := ⟨_, rfl⟩
        have HCB := Lib.hid hcb0
        rw [hcb0] at HRA hcb ⊢
        clear hcb0
        go_wp2_with (fail)
        go_loopw [73] (fun i wr => ∃ (q : Nat) (ps' : Nat → Value), i = .int .i64 q ∧ q ≤ j ∧ Hid (Row cb 41 1 wr (.slice (some ⟨cb, 0, none⟩) j j) j (pcells j ps')) ∧ Hid (∀ o, o < q → Chn (cb + 1) wr (ps' o) (joinL ((PL ls j k).ls o))) ∧ Hid (Below w5.heap.size w5 wr) ∧ cb < wr.heap.size) (fun i _ => j - (intOf i).toNat)
        case atStart => exact ⟨0, _, rfl, Nat.zero_le _, HRA, Lib.hid (fun o ho => by omega), HBA, hcb⟩
        case round =>
          clear HRA HBA hcb
          obtain ⟨q, ps', rfl, hq, HRC, HCC, HBC, hcb⟩ := hrel
          obtain ⟨w9, rfl⟩ : ∃ z : World, z = wr := ⟨_, rfl⟩
          by_cases hqj : q < j
          · as_aux_lemma =>
            have d5 : decide (q < j) = true := decide_eq_true hqj
            have d6 : decide ((q : Int) < (j : Int)) = true := decide_eq_true (by omega)
            have q3 : IntKind.i64.wrap ((q : Int) + 1) = (q : Int) + 1 := IntWalk.i64_in _ (by omega)
            have hqi : (q : Int) < (j : Int) := by omega
            have c0 := row_at (HR.out.below HBC.out) hqj
            have HOF := Lib.hid (of_any ((PL ls j k).ls q) (us q) w9 ((HL.out.below HBC.out).sl hqj) (HLL.out q hqj) (HBL.out q hqj))
            generalize us q = uq at *
            go_wp2_with (fail)
            refine HOF.out.mono ?_
            rintro e w10 ⟨p, rfl, hcp, hb10⟩
            obtain ⟨pb', pv', rfl, hpc⟩ := hcp
            have hcp : Chn w9.heap.size w10 (.pointer (some ⟨pb', 0, none⟩)) (joinL ((PL ls j k).ls q)) := ⟨pb', pv', rfl, hpc⟩
            have hlb10 : cb < w10.heap.size := by have := hb10.size; omega
            have HRC1 := Lib.hid (HRC.out.below hb10)
            have f0 := HRC1.out.frozenAt q
            have c1 := row_at HRC1.out hqj
            have HRC2 := Lib.hid (row_put HRC1.out hqj (.pointer (some ⟨pb', 0, none⟩)))
            have HCC2 : Hid (∀ o, o < q + 1 → Chn (cb + 1) (w10.setCell ⟨cb, q, none⟩ (.pointer (some ⟨pb', 0, none⟩))) (updA ps' q (.pointer (some ⟨pb', 0, none⟩)) o) (joinL ((PL ls j k).ls o))) := Lib.hid (fun o ho => by
              refine Chn.setC ?_ (by omega) _ _
              by_cases e : o = q
              · subst e; rw [updA_at]; exact hcp.mono (by omega)
              · rw [updA_ne _ _ _ e]; exact (HCC.out o (by omega)).below hb10)
            have HBC2 : Hid (Below w5.heap.size w5 (w10.setCell ⟨cb, q, none⟩ (.pointer (some ⟨pb', 0, none⟩)))) := Lib.hid ((HBC.out.trans (hb10.mono HBC.out.size)).setCell (p := ⟨cb, q, none⟩) (by rw [HCB.out]; exact Nat.le_refl _) (.pointer (some ⟨pb', 0, none⟩)))
            have hcb2 : cb < (w10.setCell ⟨cb, q, none⟩ (.pointer (some ⟨pb', 0, none⟩))).heap.size := by simpa using hlb10
            clear hcp hb10 HOF c0
            go_wp2_with (fail)
            clear f0 c1
            generalize w10.setCell ⟨cb, q, none⟩ (.pointer (some ⟨pb', 0, none⟩)) = w11 at *
            go_roundw
            case rel => exact ⟨q + 1, _, rfl, hqj, HRC2, HCC2, HBC2, hcb2⟩
            case measure => simp [intOf] <;> omega
          have d5 : decide (q < j) = false := decide_eq_false hqj
          have d6 : decide ((q : Int) < (j : Int)) = false := decide_eq_false (by omega)
          obtain rfl : q = j := by omega
          clear hqj
          go_wp2_with (fail)
          go_ret2
          refine ⟨_, _, ps', rfl, ?_, HRC.out.mono (by have := HCB.out; have := HB4Z.out; omega), fun o ho => (by rw [HN.out]; exact (HCC.out o ho).mono (by have := HCB.out; have := HB4Z.out; omega)), HB.out.trans (HBC.out.mono HB.out.size)⟩
          rw [HN.out, HMM.out]
          exact (HM.out.below HBC.out).mono HB4Z.out
theorem plan_any (n : Nat) (ls : Nat → List Sp) (v : Value) (w : World) (h : ChsA w v n ls) (hwf : WF ls n) (hn : n ≤ 1000) (hsum : sumL ls n ≤ 1000) (hbd : ∀ o, o < n → BdS (ls o)) :
    Calls Try.prog 8 #[v] w (Plan_p n ls w) :=
  (plan_own n ls v w h hwf hn hsum hbd).mono (by rintro e w' ⟨v1, v2, ps, rfl, h1, h2, h3, h4⟩; exact ⟨v1, v2, rfl, h1.sl, ⟨ps, h2.sl, fun i hi => (h3 i hi).mono (Nat.zero_le _)⟩, h4⟩)
end Go.Proofs.Ytfnaoekkdgndkaa
