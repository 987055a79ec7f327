/- Walk: the reference's Template. -/
import Derived.Test.YtaejogkinniakaaDoorEdRG
import Derived.Test.YtaejogkinniakaaDoorEdO
import Derived.Outline
namespace Go.Proofs.YtaejogkinniakaaDoor
set_option linter.unusedVariables false
set_option linter.unusedSimpArgs false
open Go.RowKit Go.Proofs.YtaejogkinniakaaDoorW.PrintWords Go.Proofs.YtaejogkinniakaaDoorW.PrintLast Go.Proofs.YtaejogkinniakaaDoorW.PrintMore Go.Proofs.YtaejogkinniakaaDoor.PEd

def toQ (p : Pt) : S68 := ⟨p.1, p.2⟩
abbrev kQ := k68
/-- The parts' row and the text's row. -/
structure RtR (W : World) (base : Nat) (L : List Pt) (text : List Int) (vo vt : Value) : Prop where
  own : Kd.R kQ 68 W base (fun k => True ∧ some k ≠ vt.ownBlock) vo (L.map toQ)
  txt : Own kB 5 W base vt text
section
variable {W W1 : World} {base : Nat} {L L' : List Pt} {text text' : List Int} {vo vt v1 : Value}
theorem RtR.to (h : RtR W base L text vo vt) (hb : Below W.heap.size W W1) : RtR W1 base L text vo vt := ⟨Kd.R_below h.own hb, Kd.R_below h.txt hb⟩
theorem RtR.txt_apart (h : RtR W base L text vo vt) : Kd.R kB 5 W base (fun k => True ∧ some k ≠ vo.ownBlock) vt text := by
  refine Kd.R_mono (Kd.R_bound h.txt) (fun k hk => ⟨trivial, fun e => ?_⟩)
  obtain ⟨_, _, _, q, hq, cells, hc⟩ := hk
  obtain ⟨inner, hin⟩ := Kd.R_own h.own
  obtain ⟨cells', hc'⟩ := own_typed hin k e.symm
  have hq2 : q = 5 := by simpa [kB, Kd.int, Kd.scalar] using hq
  subst hq2
  exact typed_ne hc hc' (by decide)
theorem RtR.put_text (h : RtR W base L text vo vt) (ho : Own kB 5 W1 base v1 text') (hg : W.grownBy W1 vt.ownBlock) (hat : v1.ownBlock = vt.ownBlock ∨ ∃ b, v1.ownBlock = some b ∧ W.heap.size ≤ b) : RtR W1 base L text' vo v1 := by
  refine ⟨?_, ho⟩
  have h1 := Kd.R_grown (Kd.R_bound h.own) hg (fun k hk => hk.1.2)
  refine Kd.R_mono h1 (fun k hk => ⟨trivial, ?_⟩)
  rcases hat with e | ⟨b, e, hle⟩
  · rw [e]; exact hk.1.2
  · rw [e]
    intro e2
    injection e2 with e2
    have := hk.2.2.1
    omega
/-- A new, empty text. -/
theorem RtR.fresh (ho : Own kQ 68 W base vo (L.map toQ)) (hb : base ≤ W.heap.size) : RtR (W.alloc (.cells #[] 5)) base L [] vo (.slice (some ⟨W.heap.size, 0, none⟩) 0 0) := by
  refine ⟨Kd.R_mono (Kd.R_alloc (Kd.R_bound ho) _) (fun k hk => ⟨trivial, fun e => ?_⟩), R_lit0 kB _ _ _ hb⟩
  have e2 : k = W.heap.size := by simpa [Value.ownBlock] using e
  have := hk.2.2.1
  omega
theorem RtR.put_part (h : RtR W base L text vo vt) (ho : Kd.R kQ 68 W1 base (fun k => True ∧ some k ≠ vt.ownBlock) v1 (L'.map toQ)) (hg : W.grownBy W1 vo.ownBlock) : RtR W1 base L' text v1 vt :=
  ⟨ho, Kd.R_mono (Kd.R_grown h.txt_apart hg (fun k hk => hk.2)) (fun _ _ => trivial)⟩
end
theorem word_dol {a : Int} {r : List Int} (h : a = 123) : dolL (a :: r) = match idxB 125 r with | none => some (0, []) | some i => some (i + 2, r.take i) := by
  show (if a = 36 then none else if a = 123 then _ else _) = _
  rw [if_neg (by omega), if_pos h]
  rfl
theorem add_posT (a : Addr) (j : Nat) (h : 0 < j) : a.add j = ⟨a.block, a.off + j, none⟩ := by
  have := add_field a 0 j h
  rwa [Nat.zero_add, Addr.add_zero'] at this
theorem dolL_word {s : List Int} {n : Nat} {w : List Int} (h : dolL s = some (n, w)) : w.length ≤ s.length := by
  unfold dolL at h
  split at h
  · cases h
    exact Nat.le_refl _
  · rename_i a r
    split at h
    · cases h
    · split at h
      · split at h
        · cases h
          exact Nat.zero_le _
        · cases h
          rw [List.length_take, List.length_cons]
          omega
      · split at h
        · split at h
          · cases h
            simp
          · split at h <;> cases h <;> simp
        · cases h
          exact Nat.zero_le _
theorem groupL_nil (G : Int) (ns : List ByteArray) : groupL (strOfNums []) G ns = (0, 220) := if_pos rfl
/-- What the reference's Template hands back. -/
def RetQ (r : List Pt × Int × Int) (w : World) (e : Ending) (w' : World) : Prop :=
  ∃ v, e = .returned (.tuple #[v, .agg #[.int .i64 r.2.1, .int .i64 r.2.2]]) ∧ Own kQ 68 w' w.heap.size v (r.1.map toQ) ∧ Below w.heap.size w w'
set_option maxHeartbeats 8000000 in
set_option maxRecDepth 100000 in
theorem refTemplate_any (w : World) (A : Option Addr) (c : Nat) (s : List Int) (G : Int) (An : Option Addr) (cn : Nat) (ns : List ByteArray) (hs : Kd.C kB w A s.length s) (hc : s.length ≤ c) (hn : Kd.C Kd.string w An ns.length ns) (hcn : ns.length ≤ cn) (hsl : s.length ≤ 1048576) :
    Calls Tryd.prog 10 #[.slice A s.length c, .int .i64 G, .slice An ns.length cn] w (RetQ (tmplL s G ns) w) := by
  obtain ⟨wF, hwF⟩ : ∃ wF, w.alloc (.cells #[.int .i64 0, .int .i64 0] 28) = wF := ⟨_, rfl⟩
  have HBF : Aside0 (Below w.heap.size w wF) := ⟨by rw [← hwF]; exact below_alloc (Below.refl _ _) _⟩
  have HFB : Aside0 (wF.heap[w.heap.size]? = some (.cells #[.int .i64 0, .int .i64 0] 28 (0, 0))) := ⟨by rw [← hwF]; exact heap_alloc_new _ _⟩
  have hFz : wF.heap.size = w.heap.size + 1 := by rw [← hwF]; simp
  obtain ⟨base, hbase⟩ : ∃ base, wF.heap.size = base := ⟨_, rfl⟩
  have hgb : w.heap.size + 1 = base := by rw [← hFz, hbase]
  have HWB : Aside0 (∀ W, Below base wF W → Below w.heap.size w W) := ⟨fun W hW => HBF.out.trans (hW.mono (by omega))⟩
  have HS : Aside0 (∀ W, Below base wF W → Kd.C kB W A s.length s) := ⟨fun W hW => Kd.C_below hs (HWB.out W hW)⟩
  have HN : Aside0 (∀ W, Below base wF W → Kd.C Kd.string W An ns.length ns) := ⟨fun W hW => Kd.C_below hn (HWB.out W hW)⟩
  have HFW : Aside0 (∀ W, Below base wF W → W.heap[w.heap.size]? = some (.cells #[.int .i64 0, .int .i64 0] 28 (0, 0))) := ⟨fun W hW => (hW.block _ (by omega)).trans HFB.out⟩
  have HR0 : Aside0 (RtR (wF.alloc (.cells #[] 5)) base [] [] (.slice none 0 0) (.slice (some ⟨wF.heap.size, 0, none⟩) 0 0)) := ⟨RtR.fresh (L := []) (Kd.R_nil _ _ _ _ _) (by omega)⟩
  have HX0 : Aside0 (Below base wF (wF.alloc (.cells #[] 5))) := ⟨by rw [← hbase]; exact below_alloc (Below.refl _ _) _⟩
  have HLB : Aside0 (w.heap.size < base) := ⟨by omega⟩
  have HSB : Aside0 (∀ W, Below base wF W → base ≤ W.heap.size) := ⟨fun W hW => by have := hW.size; omega⟩
  have HC := Aside0.mk (And.intro hc hcn)
  have hsl2 := hsl
  rw [hbase] at HR0
  clear hs hc hn hcn hsl
  go_enter Tryd.func10, Tryd.ntmps10
  go_wp2
  clear hwF hFz
  go_loopg [8, 9, 10] s.length (fun gk vo vt i w' => ∃ (k : Nat) (L : List Pt) (text : List Int), i = .int .i64 (k : Int) ∧ Aside0 (k ≤ s.length ∧ s.length ≤ gk + k ∧ L.length ≤ 2 * k ∧ text.length ≤ k) ∧ Aside0 (tmplR s G ns gk k L text = tmplL s G ns) ∧ Aside0 (RtR w' base L text vo vt) ∧ Aside0 (Below base wF w'))
  case atStart => exact ⟨0, [], [], by first | rfl | simp, ⟨Nat.zero_le _, by omega, Nat.le_refl _, Nat.le_refl _⟩, ⟨rfl⟩, HR0, HX0⟩
  case round =>
    clear HR0 HX0
    obtain ⟨k, L, text, rfl, HA, HT, HM, HX⟩ := hrel
    have HSZM : Aside0 (base ≤ wr.heap.size) := ⟨HSB.out _ HX.out⟩
    by_cases hk : k < s.length
    · obtain ⟨gk, rfl⟩ : ∃ m, gk = m + 1 := ⟨gk - 1, by have := HA.out; omega⟩
      obtain ⟨ad, e, hx⟩ := Kd.at_int (HS.out wr HX.out) (k : Int) (by omega) (by omega)
      subst e
      have hrd : rd s (k : Int) = s[k] := by simp [rd, hk]
      rw [hrd] at hx
      have hk4 : decide (k < s.length) = true := decide_eq_true hk
      have HTC := Aside0.mk (fun (h : s[k] ≠ 36) => HT.out.symm.trans (tmplR_char hk h))
      have HTN := Aside0.mk (fun (h : s[k] = 36) hd => HT.out.symm.trans (tmplR_self hk h hd))
      have HTG := Aside0.mk (fun (h : s[k] = 36) n w a hd hg => HT.out.symm.trans (tmplR_group (n := n) (w := w) (a := a) hk h hd hg))
      have HTB := Aside0.mk (fun (h : s[k] = 36) n w a e hd hg he => HT.out.symm.trans (tmplR_bad (n := n) (w := w) (a := a) (e := e) hk h hd hg he))
      obtain ⟨ch, hch⟩ : ∃ ch, s[k] = ch := ⟨_, rfl⟩
      rw [hch] at hx HTC HTN HTG HTB
      simp only [Int.toNat_natCast] at hx
      clear hrd hch
      by_cases hc36 : ch = 36
      · have hc1 : (ch != 36) = false := by rw [bne_eq_false_iff_eq]; exact hc36
        obtain ⟨i0, hi0, _, hsz, _⟩ := info_parts info5
        have hct := cut_from (P := Tryd.prog) 22 5 .i64 Tryd.underlying22 hi0 1 hsz (some ad) s.length c ((k : Int) + 1) (by omega) (by omega)
        have htn : ((k : Int) + 1).toNat = k + 1 := by omega
        have hC : ∀ W, Below base wF W → Kd.C kB W (if c = k + 1 then some ad else (some ad).map (·.add ((k + 1) * 1))) (s.drop (k + 1)).length (s.drop (k + 1)) := fun W hW => Kd.C_drop (c := c) (m := k + 1) (HS.out W hW) (by omega) HC.out.1
        have e1 : (s.drop (k + 1)).length = s.length - (k + 1) := List.length_drop ..
        obtain ⟨md, hmd⟩ : ∃ md, s.drop (k + 1) = md := ⟨_, rfl⟩
        rw [hmd] at hC e1 HTN HTG HTB
        obtain ⟨A', hA'⟩ : ∃ A', (if c = k + 1 then some ad else (some ad).map (·.add ((k + 1) * 1))) = A' := ⟨_, rfl⟩
        obtain ⟨c', hc'⟩ : ∃ c', c - (k + 1) = c' := ⟨_, rfl⟩
        rw [htn, hA', hc', ← e1] at hct
        rw [hA'] at hC
        have HMC := Aside0.mk hC
        have hmc : md.length ≤ c' := by have := HC.out.1; omega
        have hml : md.length ≤ 1048576 := by omega
        have HE1 := Aside0.mk e1
        clear hC hA' hc' hmd htn e1 HTC HT
        cases hp : hd1 36 md with
        | true =>
          have HT2 := Aside0.mk (HTN.out hc36 (dol_self hp))
          obtain ⟨a, r, rfl⟩ : ∃ a r, md = a :: r := by
            cases md with
            | nil => cases hp
            | cons a r => exact ⟨a, r, rfl⟩
          have ha : a = 36 := eq_of_beq hp
          subst ha
          obtain ⟨ad2, e, hx2⟩ := Kd.at_int (HMC.out wr HX.out) 0 (by omega) (by simp)
          subst e
          have hx3 : wr.cell? ad2 = some (.int .u8 36) := by
            have h : wr.cell? (ad2.add 0) = some (.int .u8 36) := hx2
            rwa [Addr.add_zero'] at h
          have hmd0 : (36 :: r).length = r.length + 1 := rfl
          rw [hmd0] at hct
          have hl1 : decide (0 < (r.length : Int) + 1) = true := decide_eq_true (by omega)
          have hk1 : k + 1 < s.length := by have := HE1.out; rw [hmd0] at this; omega
          obtain ⟨Att, ctt, rfl⟩ := Kd.R_slice HM.out.txt
          clear hp HTN HTG HTB hc36 hx2 hmd0 hi0 hsz
          go_wp2_with (at_builtin; refine Kd.R_append kB (w0 := wF) base rfl (.tmp 50) (.tmp 51) 22 5 (.int .u8 0) 1 rfl Tryd.underlying22 info5 rfl (by decide) (by omega) (.slice Att text.length ctt) text 36 [.int .u8 36] (fun _ => True) (fun _ => False) rfl rfl (int_mkM _ _ _ _ _) (fun _ h => h.elim) (fun _ _ => trivial) HM.out.txt HX.out HSZM.out ?aL ?_)
          case aL => have := HA.out; omega
          intro v3 w3 ho hb hg hat
          have HM3 := Aside0.mk (HM.out.put_text ho hg hat)
          have HX3 := Aside0.mk hb
          clear ho hb hg hat hx hx3 hct
          go_wp2
          go_roundg gk
          case measure => omega
          case rel => exact ⟨k + 2, L, text ++ [36], by go_num, ⟨by omega, by have := HA.out; omega, by have := HA.out; omega, by have := HA.out; rw [List.length_append, List.length_singleton]; omega⟩, ⟨HT2.out.symm⟩, HM3, HX3⟩
        | false =>
          have HDD := Aside0.mk (fun h2 => dol_dig hp h2)
          have HP36 := Aside0.mk hp
          have HTG2 := Aside0.mk (fun n w a hd hg => HTG.out hc36 n w a hd hg)
          have HTB2 := Aside0.mk (fun n w a e hd hg he => HTB.out hc36 n w a e hd hg he)
          have HHD : Aside0 (∀ a r, md = a :: r → a ≠ 36) := ⟨fun a r e ha => by rw [e, ha] at hp; cases hp⟩
          clear hp HTN HTG HTB hc36 hi0 hsz
          go_upto_region 9 with (fail)
          go_cut [49] (fun v49 wc => v49 = .bool false ∧ Aside0 (Below wr.heap.size wr wc))
          case first =>
            cases md with
            | nil =>
              have hl0 : decide ((0 : Int) < (([] : List Int).length : Int)) = false := by decide
              go_wp2
              go_meet
              case rel => exact ⟨rfl, ⟨Below.refl _ _⟩⟩
            | cons a r =>
              have ha : a ≠ 36 := HHD.out a r rfl
              obtain ⟨ad2, e, hx2⟩ := Kd.at_int (HMC.out wr HX.out) 0 (by omega) (by simp)
              subst e
              have hx3 : wr.cell? ad2 = some (.int .u8 a) := by
                have h : wr.cell? (ad2.add 0) = some (.int .u8 a) := hx2
                rwa [Addr.add_zero'] at h
              have hl1 : decide (0 < (r.length : Int) + 1) = true := decide_eq_true (by omega)
              have ha2 : (a == 36) = false := by rw [beq_eq_false_iff_ne]; exact ha
              go_wp2
              go_meet
              case rel => exact ⟨by first | rfl | simp [ha2] | trace_state, ⟨Below.refl _ _⟩⟩
          case rest =>
            obtain ⟨rfl, HY⟩ := hcut
            have HXC : Aside0 (Below base wF wc) := ⟨below_then HX.out HSZM.out HY.out⟩
            have HSC := Aside0.mk (HSB.out _ HXC.out)
            have HMC2 := Aside0.mk (HM.out.to HY.out)
            clear HM HX HSZM hx hct HY
            go_upto_block 2 with (fail)
            go_cut [12, 13] (fun v12 v13 wc_ => ∃ (n : Nat) (wd : List Int), v12 = .string (strOfNums wd) ∧ v13 = .int .i64 (n : Int) ∧ Aside0 (dolL md = some (n, wd)) ∧ Aside0 (Below wc.heap.size wc wc_))
            case first =>
              cases md with
              | nil =>
                have hl0 : decide ((0 : Int) < (([] : List Int).length : Int)) = false := by decide
                have hl1 : decide ((1 : Int) < (([] : List Int).length : Int)) = false := by decide
                go_wp2
                go_meet
                case rel => exact ⟨0, [], rfl, by first | rfl | go_num, ⟨rfl⟩, ⟨Below.refl _ _⟩⟩
              | cons a r =>
                have ha36 : a ≠ 36 := HHD.out a r rfl
                have hlen : (a :: r).length = r.length + 1 := rfl
                have hp0 : decide (0 < (r.length : Int) + 1) = true := decide_eq_true (by omega)
                obtain ⟨i0, hi0, _, hsz, _⟩ := info_parts info5
                have hc1x := cut_to (P := Tryd.prog) 22 5 .i64 Tryd.underlying22 hi0 A' (r.length + 1) c' 1 (by omega) (by omega) hmc
                have hc1 : Aside0 (∀ W, (Instr.slice 22 (.slice A' (r.length + 1) c') none (some (.int .i64 1)) none).run Tryd.prog W = .ok (.slice A' 1 c') W) := ⟨hc1x⟩
                have hC1 : ∀ W, Below base wF W → Kd.C kB W A' 1 [a] := fun W hW => Kd.C_take (m := 1) (HMC.out W hW) (by simp)
                have HCV1 := Aside0.mk (fun W hW => Kd.C_string (P := Tryd.prog) (A := A') (c := c') Tryd.underlying22 Tryd.underlying5 Tryd.underlying9 (hC1 W hW))
                have hcf := cut_from (P := Tryd.prog) 22 5 .i64 Tryd.underlying22 hi0 1 hsz A' (r.length + 1) c' 1 (by omega) (by omega)
                have hCr : ∀ W, Below base wF W → Kd.C kB W (if c' = 1 then A' else A'.map (·.add (1 * 1))) r.length r := fun W hW => Kd.C_drop (c := c') (m := 1) (HMC.out W hW) (by simp) hmc
                obtain ⟨A2, hA2⟩ : ∃ A2, (if c' = 1 then A' else A'.map (·.add (1 * 1))) = A2 := ⟨_, rfl⟩
                obtain ⟨c2, hc2⟩ : ∃ c2, c' - 1 = c2 := ⟨_, rfl⟩
                rw [show (1 : Int).toNat = 1 from rfl, hA2, hc2, Nat.add_sub_cancel] at hcf
                rw [hA2] at hCr
                have HCF : Aside0 (∀ W, (Instr.slice 22 (.slice A' (r.length + 1) c') (some (.int .i64 1)) none none).run Tryd.prog W = .ok (.slice A2 r.length c2) W) := ⟨hcf⟩
                have hrc2 : r.length ≤ c2 := by have : r.length + 1 ≤ c' := hmc; omega
                have HRW := Aside0.mk (fun W hW => refWord_any W A2 c2 r (hCr W hW) hrc2 (by have : r.length + 1 ≤ 1048576 := hml; omega))
                clear hc1x hC1 hcf hCr hA2 hc2 hi0 hsz
                cases hda : digB a with
                | true =>
                  have ha123 : a ≠ 123 := fun e => by rw [e] at hda; exact absurd hda (by decide)
                  have HDN := Aside0.mk (HDD.out (by show (a == 123) = false; rw [beq_eq_false_iff_ne]; exact ha123))
                  cases r with
                  | nil =>
                    have HD1 : Aside0 (dolL [a] = some (1, [a])) := ⟨by rw [HDN.out, dN2 hda]; rfl⟩
                    have hl0 : decide ((1 : Int) < (([] : List Int).length : Int) + 1) = false := by decide
                    obtain ⟨ad2, e, hx2⟩ := Kd.at_int (HMC.out wc HXC.out) 0 (by omega) (by simp only [List.length_cons]; omega)
                    subst e
                    have hx3 : wc.cell? ad2 = some (.int .u8 a) := by
                      have h : wc.cell? (ad2.add 0) = some (.int .u8 a) := hx2
                      rwa [Addr.add_zero'] at h
                    clear hx2
                    have HDA := Aside0.mk (fun W => refDigit_any a W)
                    rw [hda] at HDA
                    go_wp2_with fail
                    refine (HDA.out _).mono ?_
                    rintro e w3 ⟨rfl, hb9⟩
                    have HB3 : Aside0 (Below wc.heap.size wc w3) := ⟨hb9⟩
                    clear hb9
                    have hc0 := hc1.out
                    have hcv := HCV1.out _ (below_then HXC.out HSC.out HB3.out)
                    clear hx3
                    go_wp2
                    go_meet
                    case rel => exact ⟨1, [a], rfl, by first | rfl | go_num, HD1, HB3⟩
                  | cons b t =>
                    cases hdb : digB b with
                    | true =>
                      have HD2 : Aside0 (dolL (a :: b :: t) = some (2, [a, b])) := ⟨by rw [HDN.out, dN4 hda hdb]; rfl⟩
                      rw [List.length_cons] at hc1 HCF HRW hp0
                      have hl0 : decide ((1 : Int) < ((b :: t).length : Int) + 1) = true := decide_eq_true (by simp only [List.length_cons]; omega)
                      have hl2 : decide (1 < t.length + 1 + 1) = true := decide_eq_true (by omega)
                      obtain ⟨ad2, e, hx2⟩ := Kd.at_int (HMC.out wc HXC.out) 0 (by omega) (by simp only [List.length_cons]; omega)
                      subst e
                      have hx3 : wc.cell? ad2 = some (.int .u8 a) := by
                        have h : wc.cell? (ad2.add 0) = some (.int .u8 a) := hx2
                        rwa [Addr.add_zero'] at h
                      clear hx2
                      have HDA := Aside0.mk (fun W => refDigit_any a W)
                      rw [hda] at HDA
                      have hx5 : wc.cell? ⟨ad2.block, ad2.off + 1, none⟩ = some (.int .u8 b) := by
                        obtain ⟨ad3, e, hx4⟩ := Kd.at_int (HMC.out wc HXC.out) 1 (by omega) (by simp only [List.length_cons]; omega)
                        cases e
                        have h : wc.cell? (ad2.add 1) = some (.int .u8 b) := hx4
                        rwa [add_posT ad2 1 (by decide)] at h
                      have HDB := Aside0.mk (fun W => refDigit_any b W)
                      rw [hdb] at HDB
                      obtain ⟨i0, hi0, _, hsz, _⟩ := info_parts info5
                      have hc2x := cut_to (P := Tryd.prog) 22 5 .i64 Tryd.underlying22 hi0 (some ad2) (t.length + 1 + 1) c' 2 (by omega) (by omega) hmc
                      have hc2' : Aside0 (∀ W, (Instr.slice 22 (.slice (some ad2) (t.length + 1 + 1) c') none (some (.int .i64 2)) none).run Tryd.prog W = .ok (.slice (some ad2) 2 c') W) := ⟨hc2x⟩
                      have hC2 : ∀ W, Below base wF W → Kd.C kB W (some ad2) 2 [a, b] := fun W hW => Kd.C_take (m := 2) (HMC.out W hW) (by simp)
                      have HCV2 := Aside0.mk (fun W hW => Kd.C_string (P := Tryd.prog) (A := some ad2) (c := c') Tryd.underlying22 Tryd.underlying5 Tryd.underlying9 (hC2 W hW))
                      clear hc2x hC2 hi0 hsz
                      go_wp2_with fail
                      refine (HDA.out _).mono ?_
                      rintro e w3 ⟨rfl, hb9⟩
                      have HB3 : Aside0 (Below wc.heap.size wc w3) := ⟨hb9⟩
                      clear hb9
                      replace hx5 := pw_cell_below HB3.out hx5
                      clear hx3
                      go_wp2_with fail
                      refine (HDB.out _).mono ?_
                      rintro e w4 ⟨rfl, hb9⟩
                      have HB4 : Aside0 (Below wc.heap.size wc w4) := ⟨below_to HB3.out hb9⟩
                      clear hb9
                      have hc0 := hc2'.out
                      have hcv := HCV2.out _ (below_then HXC.out HSC.out HB4.out)
                      clear hx5
                      go_wp2
                      go_meet
                      case rel => exact ⟨2, [a, b], rfl, by first | rfl | go_num, HD2, HB4⟩
                    | false =>
                      have HD1 : Aside0 (dolL (a :: b :: t) = some (1, [a])) := ⟨by rw [HDN.out, dN3 hda hdb]; rfl⟩
                      rw [List.length_cons] at hc1 HCF HRW hp0
                      have hl0 : decide ((1 : Int) < ((b :: t).length : Int) + 1) = true := decide_eq_true (by simp only [List.length_cons]; omega)
                      have hl2 : decide (1 < t.length + 1 + 1) = true := decide_eq_true (by omega)
                      obtain ⟨ad2, e, hx2⟩ := Kd.at_int (HMC.out wc HXC.out) 0 (by omega) (by simp only [List.length_cons]; omega)
                      subst e
                      have hx3 : wc.cell? ad2 = some (.int .u8 a) := by
                        have h : wc.cell? (ad2.add 0) = some (.int .u8 a) := hx2
                        rwa [Addr.add_zero'] at h
                      clear hx2
                      have HDA := Aside0.mk (fun W => refDigit_any a W)
                      rw [hda] at HDA
                      have hx5 : wc.cell? ⟨ad2.block, ad2.off + 1, none⟩ = some (.int .u8 b) := by
                        obtain ⟨ad3, e, hx4⟩ := Kd.at_int (HMC.out wc HXC.out) 1 (by omega) (by simp only [List.length_cons]; omega)
                        cases e
                        have h : wc.cell? (ad2.add 1) = some (.int .u8 b) := hx4
                        rwa [add_posT ad2 1 (by decide)] at h
                      have HDB := Aside0.mk (fun W => refDigit_any b W)
                      rw [hdb] at HDB
                      have hx30 := hx3
                      go_wp2_with fail
                      refine (HDA.out _).mono ?_
                      rintro e w3 ⟨rfl, hb9⟩
                      have HB3 : Aside0 (Below wc.heap.size wc w3) := ⟨hb9⟩
                      clear hb9
                      replace hx5 := pw_cell_below HB3.out hx5
                      clear hx3
                      go_wp2_with fail
                      refine (HDB.out _).mono ?_
                      rintro e w4 ⟨rfl, hb9⟩
                      have HB4 : Aside0 (Below wc.heap.size wc w4) := ⟨below_to HB3.out hb9⟩
                      clear hb9
                      have hx3 := pw_cell_below HB4.out hx30
                      clear hx5 hx30
                      go_wp2_with fail
                      refine (HDA.out _).mono ?_
                      rintro e w5 ⟨rfl, hb9⟩
                      have HB5 : Aside0 (Below wc.heap.size wc w5) := ⟨below_to HB4.out hb9⟩
                      clear hb9
                      have hc0 := hc1.out
                      have hcv := HCV1.out _ (below_then HXC.out HSC.out HB5.out)
                      clear hx3
                      go_wp2
                      go_meet
                      case rel => exact ⟨1, [a], rfl, by first | rfl | go_num, HD1, HB5⟩
                | false =>
                  by_cases ha123 : a = 123
                  · have ha2 : (a == 123) = true := by rw [beq_iff_eq]; exact ha123
                    have HWD := Aside0.mk (word_dol (r := r) ha123)
                    cases hiw : idxB 125 r with
                    | none =>
                      have HD0 : Aside0 (dolL (a :: r) = some (0, [])) := ⟨by rw [HWD.out, hiw]⟩
                      have hwl : wordL r = (⟨#[]⟩, false) := by unfold wordL; rw [hiw]
                      rw [hwl] at HRW
                      subst ha123
                      cases r with
                      | nil =>
                        simp only [List.length_nil, Nat.zero_add] at HCF HRW
                        have hl0 : decide ((1 : Int) < (([] : List Int).length : Int) + 1) = false := by decide
                        obtain ⟨ad2, e, hx2⟩ := Kd.at_int (HMC.out wc HXC.out) 0 (by omega) (by simp only [List.length_cons]; omega)
                        subst e
                        have hx3 : wc.cell? ad2 = some (.int .u8 123) := by
                          have h : wc.cell? (ad2.add 0) = some (.int .u8 123) := hx2
                          rwa [Addr.add_zero'] at h
                        clear hx2
                        have HDA := Aside0.mk (fun W => refDigit_any 123 W)
                        rw [hda] at HDA
                        have hx30 := hx3
                        go_wp2_with fail
                        refine (HDA.out _).mono ?_
                        rintro e w3 ⟨rfl, hb9⟩
                        have HB3 : Aside0 (Below wc.heap.size wc w3) := ⟨hb9⟩
                        clear hb9
                        clear hx3
                        have hx3 := pw_cell_below HB3.out hx30
                        clear hx30

                        have hc0 := HCF.out
                        go_wp2_with fail
                        refine (HRW.out _ (below_then HXC.out HSC.out HB3.out)).mono ?_
                        rintro e w4 ⟨rfl, hb9⟩
                        have HB4 : Aside0 (Below wc.heap.size wc w4) := ⟨below_to HB3.out hb9⟩
                        clear hb9 hx3 hc0
                        have HXW4 : Aside0 (Below base wF w4) := ⟨below_then HXC.out HSC.out HB4.out⟩
                        have HF3 := Aside0.mk (HFW.out _ HXW4.out)
                        have f0 := row_cell HF3.out 0 _ rfl
                        have f1 := row_cell HF3.out 1 _ rfl
                        have g0 := row_free HF3.out 0
                        have g1 := row_free HF3.out 1
                        have HT3 := Aside0.mk (HTB2.out 0 [] 0 220 HD0.out (groupL_nil G ns) (by decide))
                        go_wp2
                        refine bodyPost_ret (results_tc rfl _ _ w.heap.size 28 #[.int .i64 220, .int .i64 (k : Int)] (0, 0) _ rfl (blk_put (blk_put HF3.out 0 _ rfl) 1 _ rfl) Tryd.underlying28 rfl (by kernel_rfl)) rfl ?_
                        refine ⟨.slice none 0 0, ?_, ?_, ?_⟩
                        · rw [HT3.out]; rfl
                        · rw [HT3.out]; exact Kd.R_nil _ _ _ _ _
                        · exact ((HWB.out _ HXW4.out).setCell (Nat.le_refl _) _).setCell (Nat.le_refl _) _
                      | cons b t =>
                        rw [List.length_cons] at hc1 HCF HRW hp0
                        have hl0 : decide ((1 : Int) < ((b :: t).length : Int) + 1) = true := decide_eq_true (by simp only [List.length_cons]; omega)
                        have hl2 : decide (1 < t.length + 1 + 1) = true := decide_eq_true (by omega)
                        obtain ⟨ad2, e, hx2⟩ := Kd.at_int (HMC.out wc HXC.out) 0 (by omega) (by simp only [List.length_cons]; omega)
                        subst e
                        have hx3 : wc.cell? ad2 = some (.int .u8 123) := by
                          have h : wc.cell? (ad2.add 0) = some (.int .u8 123) := hx2
                          rwa [Addr.add_zero'] at h
                        clear hx2
                        have HDA := Aside0.mk (fun W => refDigit_any 123 W)
                        rw [hda] at HDA
                        have hx30 := hx3
                        go_wp2_with fail
                        refine (HDA.out _).mono ?_
                        rintro e w2 ⟨rfl, hb9⟩
                        have HB2 : Aside0 (Below wc.heap.size wc w2) := ⟨hb9⟩
                        clear hb9
                        clear hx3
                        have hx3 := pw_cell_below HB2.out hx30
                        go_wp2_with fail
                        refine (HDA.out _).mono ?_
                        rintro e w3 ⟨rfl, hb9⟩
                        have HB3 : Aside0 (Below wc.heap.size wc w3) := ⟨below_to HB2.out hb9⟩
                        clear hb9
                        clear hx3
                        have hx3 := pw_cell_below HB3.out hx30
                        clear hx30
                        have hc0 := HCF.out
                        go_wp2_with fail
                        refine (HRW.out _ (below_then HXC.out HSC.out HB3.out)).mono ?_
                        rintro e w4 ⟨rfl, hb9⟩
                        have HB4 : Aside0 (Below wc.heap.size wc w4) := ⟨below_to HB3.out hb9⟩
                        clear hb9 hx3 hc0
                        have HXW4 : Aside0 (Below base wF w4) := ⟨below_then HXC.out HSC.out HB4.out⟩
                        have HF3 := Aside0.mk (HFW.out _ HXW4.out)
                        have f0 := row_cell HF3.out 0 _ rfl
                        have f1 := row_cell HF3.out 1 _ rfl
                        have g0 := row_free HF3.out 0
                        have g1 := row_free HF3.out 1
                        have HT3 := Aside0.mk (HTB2.out 0 [] 0 220 HD0.out (groupL_nil G ns) (by decide))
                        go_wp2
                        refine bodyPost_ret (results_tc rfl _ _ w.heap.size 28 #[.int .i64 220, .int .i64 (k : Int)] (0, 0) _ rfl (blk_put (blk_put HF3.out 0 _ rfl) 1 _ rfl) Tryd.underlying28 rfl (by kernel_rfl)) rfl ?_
                        refine ⟨.slice none 0 0, ?_, ?_, ?_⟩
                        · rw [HT3.out]; rfl
                        · rw [HT3.out]; exact Kd.R_nil _ _ _ _ _
                        · exact ((HWB.out _ HXW4.out).setCell (Nat.le_refl _) _).setCell (Nat.le_refl _) _
                    | some i =>
                      have hil := idxB_lt hiw
                      have HD0 : Aside0 (dolL (a :: r) = some (i + 2, r.take i)) := ⟨by rw [HWD.out, hiw]⟩
                      have hwl : wordL r = (strOfNums (r.take i), true) := by unfold wordL; rw [hiw]
                      rw [hwl] at HRW
                      have hss : (strOfNums (r.take i)).size = i := by rw [str_size, List.length_take]; omega
                      subst ha123
                      cases r with
                      | nil => exact absurd hil (Nat.not_lt_zero _)
                      | cons b t =>
                        rw [List.length_cons] at hc1 HCF HRW hp0
                        have hl0 : decide ((1 : Int) < ((b :: t).length : Int) + 1) = true := decide_eq_true (by simp only [List.length_cons]; omega)
                        have hl2 : decide (1 < t.length + 1 + 1) = true := decide_eq_true (by omega)
                        obtain ⟨ad2, e, hx2⟩ := Kd.at_int (HMC.out wc HXC.out) 0 (by omega) (by simp only [List.length_cons]; omega)
                        subst e
                        have hx3 : wc.cell? ad2 = some (.int .u8 123) := by
                          have h : wc.cell? (ad2.add 0) = some (.int .u8 123) := hx2
                          rwa [Addr.add_zero'] at h
                        clear hx2
                        have HDA := Aside0.mk (fun W => refDigit_any 123 W)
                        rw [hda] at HDA
                        have hx30 := hx3
                        go_wp2_with fail
                        refine (HDA.out _).mono ?_
                        rintro e w2 ⟨rfl, hb9⟩
                        have HB2 : Aside0 (Below wc.heap.size wc w2) := ⟨hb9⟩
                        clear hb9
                        clear hx3
                        have hx3 := pw_cell_below HB2.out hx30
                        go_wp2_with fail
                        refine (HDA.out _).mono ?_
                        rintro e w3 ⟨rfl, hb9⟩
                        have HB3 : Aside0 (Below wc.heap.size wc w3) := ⟨below_to HB2.out hb9⟩
                        clear hb9
                        clear hx3
                        have hx3 := pw_cell_below HB3.out hx30
                        clear hx30
                        have hc0 := HCF.out
                        obtain ⟨sw, hsw⟩ : ∃ sw, strOfNums ((b :: t).take i) = sw := ⟨_, rfl⟩
                        rw [hsw] at HRW hss
                        have HSW := Aside0.mk hsw
                        go_wp2_with fail
                        refine (HRW.out _ (below_then HXC.out HSC.out HB3.out)).mono ?_
                        rintro e w4 ⟨rfl, hb9⟩
                        have HB4 : Aside0 (Below wc.heap.size wc w4) := ⟨below_to HB3.out hb9⟩
                        clear hb9 hx3 hc0 hsw
                        have hib : i ≤ 1048576 := by have : (b :: t).length + 1 ≤ 1048576 := hml; omega
                        go_wp2
                        go_meet
                        case rel => exact ⟨i + 2, (b :: t).take i, by rw [HSW.out], by first | rfl | go_num, HD0, HB4⟩
                  · have ha2 : (a == 123) = false := by rw [beq_eq_false_iff_ne]; exact ha123
                    have HD0 : Aside0 (dolL (a :: r) = some (0, [])) := ⟨by rw [HDD.out ha2, dN1 hda]; rfl⟩
                    cases r with
                    | nil =>
                      have hl0 : decide ((1 : Int) < (([] : List Int).length : Int) + 1) = false := by decide
                      obtain ⟨ad2, e, hx2⟩ := Kd.at_int (HMC.out wc HXC.out) 0 (by omega) (by simp only [List.length_cons]; omega)
                      subst e
                      have hx3 : wc.cell? ad2 = some (.int .u8 a) := by
                        have h : wc.cell? (ad2.add 0) = some (.int .u8 a) := hx2
                        rwa [Addr.add_zero'] at h
                      clear hx2
                      have HDA := Aside0.mk (fun W => refDigit_any a W)
                      rw [hda] at HDA
                      have hx30 := hx3
                      go_wp2_with fail
                      refine (HDA.out _).mono ?_
                      rintro e w3 ⟨rfl, hb9⟩
                      have HB3 : Aside0 (Below wc.heap.size wc w3) := ⟨hb9⟩
                      clear hb9
                      clear hx3
                      have hx3 := pw_cell_below HB3.out hx30
                      clear hx30

                      go_wp2
                      go_meet
                      case rel => exact ⟨0, [], rfl, by first | rfl | go_num, HD0, HB3⟩
                    | cons b t =>
                      rw [List.length_cons] at hc1 HCF HRW hp0
                      have hl0 : decide ((1 : Int) < ((b :: t).length : Int) + 1) = true := decide_eq_true (by simp only [List.length_cons]; omega)
                      have hl2 : decide (1 < t.length + 1 + 1) = true := decide_eq_true (by omega)
                      obtain ⟨ad2, e, hx2⟩ := Kd.at_int (HMC.out wc HXC.out) 0 (by omega) (by simp only [List.length_cons]; omega)
                      subst e
                      have hx3 : wc.cell? ad2 = some (.int .u8 a) := by
                        have h : wc.cell? (ad2.add 0) = some (.int .u8 a) := hx2
                        rwa [Addr.add_zero'] at h
                      clear hx2
                      have HDA := Aside0.mk (fun W => refDigit_any a W)
                      rw [hda] at HDA
                      have hx30 := hx3
                      go_wp2_with fail
                      refine (HDA.out _).mono ?_
                      rintro e w2 ⟨rfl, hb9⟩
                      have HB2 : Aside0 (Below wc.heap.size wc w2) := ⟨hb9⟩
                      clear hb9
                      clear hx3
                      have hx3 := pw_cell_below HB2.out hx30
                      go_wp2_with fail
                      refine (HDA.out _).mono ?_
                      rintro e w3 ⟨rfl, hb9⟩
                      have HB3 : Aside0 (Below wc.heap.size wc w3) := ⟨below_to HB2.out hb9⟩
                      clear hb9
                      clear hx3
                      have hx3 := pw_cell_below HB3.out hx30
                      clear hx30
                      go_wp2
                      go_meet
                      case rel => exact ⟨0, [], rfl, by first | rfl | go_num, HD0, HB3⟩
            case rest =>
              obtain ⟨n, wd, rfl, rfl, HD, HZ⟩ := hcut
              have HXZ : Aside0 (Below base wF wc) := ⟨below_then HXC.out HSC.out HZ.out⟩
              have HMZ := Aside0.mk (HMC2.out.to HZ.out)
              have HSZ := Aside0.mk (HSB.out _ HXZ.out)
              have hnl := dolL_le HD.out
              have hnl2 : k + 1 + n ≤ s.length := by have := HE1.out; omega
              have hwdl : (strOfNums wd).size ≤ 140737488355328 := by
                have := dolL_word HD.out
                rw [str_size]
                omega
              have HGR := Aside0.mk (refGroup_any wc (strOfNums wd) G An cn ns (HN.out _ HXZ.out) HC.out.2 hwdl)
              have HTG3 := Aside0.mk (fun a hg => HTG2.out n wd a HD.out hg)
              have HTB3 := Aside0.mk (fun a e hg he => HTB2.out n wd a e HD.out hg he)
              obtain ⟨a, er, hge⟩ : ∃ a er, groupL (strOfNums wd) G ns = (a, er) := ⟨_, _, rfl⟩
              rw [hge] at HGR HTG3 HTB3
              clear hge hwdl hnl HXC HSC HMC2 HZ
              go_wp2_with fail
              refine HGR.out.mono ?_
              rintro e w5 ⟨rfl, hb5⟩
              have HX5 : Aside0 (Below base wF w5) := ⟨below_then HXZ.out HSZ.out hb5⟩
              have HM5 := Aside0.mk (HMZ.out.to hb5)
              have HSZ5 := Aside0.mk (HSB.out _ HX5.out)
              clear hb5 HMZ HXZ HSZ
              by_cases he : er = 0
              · subst he
                have HT2 := Aside0.mk (HTG3.out a rfl)
                obtain ⟨Att, ctt, rfl⟩ := Kd.R_slice HM5.out.txt
                clear HTB3 HTG3
                by_cases ht0 : text = []
                · subst ht0
                  have HFL : Aside0 (flL L [] = L) := ⟨rfl⟩
                  have hbw : Below w5.heap.size w5 (w5.alloc (.cells #[] 5)) := below_alloc (Below.refl _ _) _
                  have HX6 : Aside0 (Below base wF (w5.alloc (.cells #[] 5))) := ⟨below_then HX5.out HSZ5.out hbw⟩
                  have HM6 := Aside0.mk (RtR.fresh (L := L) (Kd.R_mono HM5.out.own (fun _ _ => trivial)) HSZ5.out)
                  have HFR : Aside0 (∀ q, (w5.alloc (.cells #[] 5)).heap.size ≤ q → True ∧ some q ≠ (Value.slice (some ⟨w5.heap.size, 0, none⟩) 0 0).ownBlock) := ⟨fun q hq => ⟨trivial, fun e => by
                    have e2 : q = w5.heap.size := by simpa [Value.ownBlock] using e
                    simp at hq
                    omega⟩⟩
                  have HMO : Aside0 (kQ.M (w5.alloc (.cells #[] 5)) base (fun _ => False) (toQ ([], a)) [.slice none 0 0, .int .i64 a]) := ⟨k68_mkM _ _ _ (toQ ([], a)) (Kd.R_nil _ _ _ _ _)⟩
                  clear hbw
                  go_wp2_with (at_builtin; refine Kd.R_append kQ (w0 := wF) base rfl (.tmp 132) (.tmp 135) 31 68 (.agg #[(.slice none 0 0), (.int .i64 0)]) 32 rfl Tryd.underlying31 info68 rfl (by decide) (by omega) u8 (L.map toQ) (toQ ([], a)) [.slice none 0 0, .int .i64 a] (fun q => True ∧ some q ≠ (Value.slice (some ⟨w5.heap.size, 0, none⟩) 0 0).ownBlock) (fun _ => False) rfl ?cX HMO.out (fun _ h => h.elim) HFR.out HM6.out.own HX6.out (HSB.out _ HX6.out) ?cL ?_)
                  case cX => simp [Act.eval]
                  case cL => have := HA.out; rw [List.length_map]; omega
                  intro v7 w7 ho hb hg hat
                  have HM7 : Aside0 (RtR w7 base (flL L [] ++ [([], a)]) [] v7 (.slice (some ⟨w5.heap.size, 0, none⟩) 0 0)) := ⟨by
                    refine HM6.out.put_part ?_ hg
                    rw [HFL.out, List.map_append]
                    exact Kd.R_mono ho (fun q hq => ⟨trivial, by simpa using hq⟩)⟩
                  have HX7 := Aside0.mk hb
                  clear ho hb hg hat HMO HFR
                  go_wp2
                  go_roundg gk
                  case measure => omega
                  case rel => exact ⟨k + 1 + n, _, [], by go_num, ⟨by omega, by have := HA.out; omega, by have := HA.out; have := flL_len L []; rw [List.length_append, List.length_singleton]; omega, Nat.zero_le _⟩, ⟨HT2.out.symm⟩, HM7, HX7⟩
                · have hpos : 0 < text.length := List.length_pos_iff.2 ht0
                  have hd0 : decide (0 < (text.length : Int)) = true := decide_eq_true (by omega)
                  have HFL : Aside0 (flL L text = L ++ [(text, -1)]) := ⟨if_neg ht0⟩
                  have HMP : Aside0 (kQ.M w5 base (fun q => True ∧ some q ≠ (u8 : Value).ownBlock) (toQ (text, -1)) [.slice Att text.length ctt, .int .i64 (-1)]) := ⟨k68_mkM _ _ _ (toQ (text, -1)) HM5.out.txt_apart⟩
                  have HOP : Aside0 (Own kQ 68 w5 base u8 (L.map toQ)) := ⟨Kd.R_mono HM5.out.own (fun _ _ => trivial)⟩
                  clear ht0
                  go_wp2_with (at_builtin; refine Kd.R_append kQ (w0 := wF) base rfl (.tmp 126) (.tmp 129) 31 68 (.agg #[(.slice none 0 0), (.int .i64 0)]) 32 rfl Tryd.underlying31 info68 rfl (by decide) (by omega) u8 (L.map toQ) (toQ (text, -1)) [.slice Att text.length ctt, .int .i64 (-1)] (fun _ => True) (fun q => True ∧ some q ≠ (u8 : Value).ownBlock) rfl ?dX HMP.out (fun _ h => h) (fun _ _ => trivial) HOP.out HX5.out HSZ5.out ?dL ?_)
                  case dX => first | rfl | simp [Act.eval]
                  case dL => have := HA.out; rw [List.length_map]; omega
                  intro v6 w6 ho hb hg hat
                  have ho2 : Own kQ 68 w6 base v6 ((L ++ [(text, -1)]).map toQ) := by rw [List.map_append]; exact ho
                  have HX6a := Aside0.mk hb
                  have HSZ6 := Aside0.mk (HSB.out _ hb)
                  have hbw : Below w6.heap.size w6 (w6.alloc (.cells #[] 5)) := below_alloc (Below.refl _ _) _
                  have HX6 : Aside0 (Below base wF (w6.alloc (.cells #[] 5))) := ⟨below_then hb HSZ6.out hbw⟩
                  have HM6 := Aside0.mk (RtR.fresh (L := L ++ [(text, -1)]) ho2 HSZ6.out)
                  have HFR : Aside0 (∀ q, (w6.alloc (.cells #[] 5)).heap.size ≤ q → True ∧ some q ≠ (Value.slice (some ⟨w6.heap.size, 0, none⟩) 0 0).ownBlock) := ⟨fun q hq => ⟨trivial, fun e => by
                    have e2 : q = w6.heap.size := by simpa [Value.ownBlock] using e
                    simp at hq
                    omega⟩⟩
                  have HMO : Aside0 (kQ.M (w6.alloc (.cells #[] 5)) base (fun _ => False) (toQ ([], a)) [.slice none 0 0, .int .i64 a]) := ⟨k68_mkM _ _ _ (toQ ([], a)) (Kd.R_nil _ _ _ _ _)⟩
                  obtain ⟨L2, hL2⟩ : ∃ L2, L ++ [(text, -1)] = L2 := ⟨_, rfl⟩
                  have hl2 : L2.length = L.length + 1 := by rw [← hL2, List.length_append, List.length_singleton]
                  rw [hL2] at HM6 HFL
                  clear ho ho2 hb hg hat hbw hL2 HMP HOP
                  go_wp2_with (at_builtin; refine Kd.R_append kQ (w0 := wF) base rfl (.tmp 132) (.tmp 135) 31 68 (.agg #[(.slice none 0 0), (.int .i64 0)]) 32 rfl Tryd.underlying31 info68 rfl (by decide) (by omega) v6 (L2.map toQ) (toQ ([], a)) [.slice none 0 0, .int .i64 a] (fun q => True ∧ some q ≠ (Value.slice (some ⟨w6.heap.size, 0, none⟩) 0 0).ownBlock) (fun _ => False) rfl ?eX HMO.out (fun _ h => h.elim) HFR.out HM6.out.own HX6.out (HSB.out _ HX6.out) ?eL ?_)
                  case eX => simp [Act.eval]
                  case eL => have := HA.out; rw [List.length_map]; omega
                  intro v7 w7 ho hb hg hat
                  have HM7 : Aside0 (RtR w7 base (flL L text ++ [([], a)]) [] v7 (.slice (some ⟨w6.heap.size, 0, none⟩) 0 0)) := ⟨by
                    refine HM6.out.put_part ?_ hg
                    rw [HFL.out, List.map_append]
                    exact Kd.R_mono ho (fun q hq => ⟨trivial, by simpa using hq⟩)⟩
                  have HX7 := Aside0.mk hb
                  clear ho hb hg hat HMO HFR
                  go_wp2
                  go_roundg gk
                  case measure => omega
                  case rel => exact ⟨k + 1 + n, _, [], by go_num, ⟨by omega, by have := HA.out; omega, by have := HA.out; have := flL_len L text; rw [List.length_append, List.length_singleton]; omega, Nat.zero_le _⟩, ⟨HT2.out.symm⟩, HM7, HX7⟩
              · have hne : (er != 0) = true := by rw [bne_iff_ne]; exact he
                have HT3 := Aside0.mk (HTB3.out a er rfl he)
                have HF3 := Aside0.mk (HFW.out _ HX5.out)
                have f0 := row_cell HF3.out 0 _ rfl
                have f1 := row_cell HF3.out 1 _ rfl
                have g0 := row_free HF3.out 0
                have g1 := row_free HF3.out 1
                go_wp2
                refine bodyPost_ret (results_tc rfl _ _ w.heap.size 28 #[.int .i64 er, .int .i64 (k : Int)] (0, 0) _ rfl (blk_put (blk_put HF3.out 0 _ rfl) 1 _ rfl) Tryd.underlying28 rfl (by kernel_rfl)) rfl ?_
                refine ⟨.slice none 0 0, ?_, ?_, ?_⟩
                · rw [HT3.out]; rfl
                · rw [HT3.out]; exact Kd.R_nil _ _ _ _ _
                · exact ((HWB.out _ HX5.out).setCell (Nat.le_refl _) _).setCell (Nat.le_refl _) _
      · have hc1 : (ch != 36) = true := by rw [bne_iff_ne]; exact hc36
        have HT2 : Aside0 (tmplR s G ns gk (k + 1) L (text ++ [ch]) = tmplL s G ns) := ⟨(HTC.out hc36).symm⟩
        obtain ⟨Att, ctt, rfl⟩ := Kd.R_slice HM.out.txt
        clear HTC HTN HTG HTB HT hc36
        go_wp2_with (at_builtin; refine Kd.R_append kB (w0 := wF) base rfl (.tmp 30) (.tmp 35) 22 5 (.int .u8 0) 1 rfl Tryd.underlying22 info5 rfl (by decide) (by omega) (.slice Att text.length ctt) text ch [.int .u8 ch] (fun _ => True) (fun _ => False) rfl rfl (int_mkM _ _ _ _ _) (fun _ h => h.elim) (fun _ _ => trivial) HM.out.txt HX.out HSZM.out ?bL ?_)
        case bL => have := HA.out; omega
        intro v3 w3 ho hb hg hat
        have HM3 := Aside0.mk (HM.out.put_text ho hg hat)
        have HX3 := Aside0.mk hb
        clear ho hb hg hat hx
        go_wp2
        go_roundg gk
        case measure => omega
        case rel => exact ⟨k + 1, L, text ++ [ch], by go_num, ⟨by omega, by have := HA.out; omega, by have := HA.out; omega, by have := HA.out; rw [List.length_append, List.length_singleton]; omega⟩, HT2, HM3, HX3⟩
    · have HT2 : Aside0 (tmplL s G ns = (flL L text, 0, 0)) := ⟨by rw [← HT.out]; exact tmplR_end (by omega)⟩
      have hfk : Aside0 (∀ q, q ∈ 68 :: kQ.E → q ≠ 28) := ⟨fun q hq => by
        have hq2 : q ∈ [68, 5] := hq
        simp at hq2
        rcases hq2 with rfl | rfl <;> decide⟩
      obtain ⟨Att, ctt, rfl⟩ := Kd.R_slice HM.out.txt
      by_cases ht0 : text = []
      · subst ht0
        have HFL : Aside0 (flL L [] = L) := ⟨rfl⟩
        have HF3 := Aside0.mk (HFW.out _ HX.out)
        have f0 := row_cell HF3.out 0 _ rfl
        have f1 := row_cell HF3.out 1 _ rfl
        have g0 := row_free HF3.out 0
        have g1 := row_free HF3.out 1
        clear HT
        go_wp2
        refine bodyPost_ret (results_tc rfl _ _ w.heap.size 28 #[.int .i64 0, .int .i64 0] (0, 0) _ rfl (blk_put (blk_put HF3.out 0 _ rfl) 1 _ rfl) Tryd.underlying28 rfl (by kernel_rfl)) rfl ?_
        refine ⟨u8, ?_, ?_, ?_⟩
        · rw [HT2.out]; rfl
        · rw [HT2.out]
          exact Kd.R_lower (Kd.R_mono (Kd.R_set (Kd.R_set HM.out.own HF3.out hfk.out 0 _) (blk_put HF3.out 0 _ rfl) hfk.out 1 _) (fun _ _ => trivial)) (Nat.le_of_lt HLB.out)
        · exact ((HWB.out _ HX.out).setCell (Nat.le_refl _) _).setCell (Nat.le_refl _) _
      · have hpos : 0 < text.length := List.length_pos_iff.2 ht0
        have hd0 : decide (0 < (text.length : Int)) = true := decide_eq_true (by omega)
        have HFL : Aside0 (flL L text = L ++ [(text, -1)]) := ⟨if_neg ht0⟩
        have HMP : Aside0 (kQ.M wr base (fun q => True ∧ some q ≠ (u8 : Value).ownBlock) (toQ (text, -1)) [.slice Att text.length ctt, .int .i64 (-1)]) := ⟨k68_mkM _ _ _ (toQ (text, -1)) HM.out.txt_apart⟩
        have HOP : Aside0 (Own kQ 68 wr base u8 (L.map toQ)) := ⟨Kd.R_mono HM.out.own (fun _ _ => trivial)⟩
        clear ht0 HT
        go_wp2_with (at_builtin; refine Kd.R_append kQ (w0 := wF) base rfl (.tmp 143) (.tmp 146) 31 68 (.agg #[(.slice none 0 0), (.int .i64 0)]) 32 rfl Tryd.underlying31 info68 rfl (by decide) (by omega) u8 (L.map toQ) (toQ (text, -1)) [.slice Att text.length ctt, .int .i64 (-1)] (fun _ => True) (fun q => True ∧ some q ≠ (u8 : Value).ownBlock) rfl ?fX HMP.out (fun _ h => h) (fun _ _ => trivial) HOP.out HX.out HSZM.out ?fL ?_)
        case fX => first | rfl | simp [Act.eval]
        case fL => have := HA.out; rw [List.length_map]; omega
        intro v6 w6 ho hb hg hat
        have HO6 : Aside0 (Own kQ 68 w6 base v6 ((flL L text).map toQ)) := ⟨by rw [HFL.out, List.map_append]; exact ho⟩
        have HX6 := Aside0.mk hb
        have HF3 := Aside0.mk (HFW.out _ HX6.out)
        have f0 := row_cell HF3.out 0 _ rfl
        have f1 := row_cell HF3.out 1 _ rfl
        have g0 := row_free HF3.out 0
        have g1 := row_free HF3.out 1
        clear ho hb hg hat HMP HOP
        go_wp2
        refine bodyPost_ret (results_tc rfl _ _ w.heap.size 28 #[.int .i64 0, .int .i64 0] (0, 0) _ rfl (blk_put (blk_put HF3.out 0 _ rfl) 1 _ rfl) Tryd.underlying28 rfl (by kernel_rfl)) rfl ?_
        refine ⟨v6, ?_, ?_, ?_⟩
        · rw [HT2.out]; rfl
        · rw [HT2.out]
          exact Kd.R_lower (Kd.R_mono (Kd.R_set (Kd.R_set HO6.out HF3.out hfk.out 0 _) (blk_put HF3.out 0 _ rfl) hfk.out 1 _) (fun _ _ => trivial)) (Nat.le_of_lt HLB.out)
        · exact ((HWB.out _ HX6.out).setCell (Nat.le_refl _) _).setCell (Nat.le_refl _) _

end Go.Proofs.YtaejogkinniakaaDoor
