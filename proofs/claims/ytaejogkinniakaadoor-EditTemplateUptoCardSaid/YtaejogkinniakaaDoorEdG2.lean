/- Walk: edit.group. -/
import Derived.Test.YtaejogkinniakaaDoorEdN
namespace Go.Proofs.YtaejogkinniakaaDoor
set_option linter.unusedVariables false
set_option linter.unusedSimpArgs false
open Go.RowKit Go.Proofs.YtaejogkinniakaaDoorW.PrintWords Go.Proofs.YtaejogkinniakaaDoorW.PrintLast Go.Proofs.YtaejogkinniakaaDoorW.PrintMore Go.Proofs.YtaejogkinniakaaDoor.PEd

theorem dig_val {b : UInt8} (h : digB (b.toNat : Int) = true) : Lib.digitVal b = some (b.toNat - 48) ∧ 48 ≤ b.toNat := by
  unfold digB at h
  rw [Bool.and_eq_true, decide_eq_true_eq, decide_eq_true_eq] at h
  unfold Lib.digitVal
  rw [if_pos (by omega)]
  exact ⟨rfl, by omega⟩
theorem dec_num : ∀ (l : List UInt8) (acc : Nat), (l.map fun b => (b.toNat : Int)).all digB = true → ∃ m, Lib.decFrom acc l = some m ∧ (m : Int) = (l.map fun b => (b.toNat : Int)).foldl (fun n c => 10 * n + (c - 48)) (acc : Int)
  | [], acc, _ => ⟨acc, rfl, rfl⟩
  | b :: r, acc, h => by
    rw [List.map_cons, List.all_cons, Bool.and_eq_true] at h
    obtain ⟨h1, h2⟩ := dig_val h.1
    obtain ⟨m, hm, he⟩ := dec_num r (acc * 10 + (b.toNat - 48)) h.2
    refine ⟨m, ?_, ?_⟩
    · rw [Lib.decFrom, h1]
      exact hm
    · rw [he, List.map_cons, List.foldl_cons]
      congr 1
      omega
theorem atoi_num (s : ByteArray) (h0 : bytesOf s ≠ []) (h : (bytesOf s).all digB = true) : Lib.atoi s.data.toList = some (numL (bytesOf s)) := by
  unfold bytesOf at h0 h
  cases hl : s.data.toList with
  | nil => rw [hl] at h0; exact absurd rfl h0
  | cons b r =>
    rw [hl] at h
    have hb := h
    rw [List.map_cons, List.all_cons, Bool.and_eq_true] at hb
    obtain ⟨-, h48⟩ := dig_val hb.1
    have hd57 : b.toNat ≤ 57 := by
      have := hb.1
      unfold digB at this
      rw [Bool.and_eq_true, decide_eq_true_eq, decide_eq_true_eq] at this
      omega
    have n45 : (b == 45) = false := by
      rw [beq_eq_false_iff_ne]
      rintro rfl
      exact absurd h48 (by decide)
    have n43 : (b == 43) = false := by
      rw [beq_eq_false_iff_ne]
      rintro rfl
      exact absurd h48 (by decide)
    obtain ⟨m, hm, he⟩ := dec_num (b :: r) 0 h
    show (if (b == 45) = true then _ else if (b == 43) = true then _ else (Lib.decNat (b :: r)).map fun (m : Nat) => (m : Int)) = _
    rw [n45, n43, if_neg (by decide), if_neg (by decide)]
    have hd : Lib.decNat (b :: r) = some m := by
      unfold Lib.decNat
      exact hm
    rw [hd]
    show some (m : Int) = _
    rw [he]
    unfold numL bytesOf
    rw [hl]
    rfl
theorem numL_bound (s : ByteArray) (hs : s.size ≤ 3) (h : (bytesOf s).all digB = true) : 0 ≤ numL (bytesOf s) ∧ numL (bytesOf s) ≤ 999 := by
  have hlen := bytesOf_length s
  obtain ⟨l, hl⟩ : ∃ l, bytesOf s = l := ⟨_, rfl⟩
  rw [hl] at h hlen ⊢
  have hd : ∀ c ∈ l, 48 ≤ c ∧ c ≤ 57 := fun c hc => by
    have := List.all_eq_true.1 h c hc
    unfold digB at this
    rw [Bool.and_eq_true, decide_eq_true_eq, decide_eq_true_eq] at this
    exact this
  match l, hlen with
  | [], _ => exact ⟨Int.le_refl _, by decide⟩
  | [a], _ =>
    have := hd a (by simp)
    unfold numL
    simp only [List.foldl]
    omega
  | [a, b], _ =>
    have := hd a (by simp)
    have := hd b (by simp)
    unfold numL
    simp only [List.foldl]
    omega
  | [a, b, c], _ =>
    have := hd a (by simp)
    have := hd b (by simp)
    have := hd c (by simp)
    unfold numL
    simp only [List.foldl]
    omega
  | a :: b :: c :: d :: r, hlen =>
    simp only [List.length_cons] at hlen
    omega
theorem idx_from (x : ByteArray) : ∀ (l : List ByteArray) (k : Nat), Lib.idxFromS l x k = match idxS x l with | none => -1 | some i => ((k + i : Nat) : Int)
  | [], k => rfl
  | z :: zs, k => by
    unfold Lib.idxFromS idxS
    by_cases h : z = x
    · rw [if_pos h, if_pos h]
      rfl
    · rw [if_neg h, if_neg h, idx_from x zs (k + 1)]
      cases idxS x zs with
      | none => rfl
      | some i =>
        show ((k + 1 + i : Nat) : Int) = ((k + (i + 1) : Nat) : Int)
        congr 1
        omega
theorem idx_of (x : ByteArray) (l : List ByteArray) : Lib.idxOfS l x = match idxS x l with | none => -1 | some i => (i : Int) := by
  unfold Lib.idxOfS
  rw [idx_from x l 0]
  cases idxS x l with
  | none => rfl
  | some i => show ((0 + i : Nat) : Int) = _; rw [Nat.zero_add]
theorem idxS_lt {x : ByteArray} : ∀ {l : List ByteArray} {i : Nat}, idxS x l = some i → i < l.length
  | [], i, h => by cases h
  | z :: zs, i, h => by
    unfold idxS at h
    by_cases hz : z = x
    · rw [if_pos hz] at h
      cases h
      simp
    · rw [if_neg hz] at h
      cases hr : idxS x zs with
      | none => rw [hr] at h; cases h
      | some j =>
        rw [hr] at h
        cases h
        have := idxS_lt hr
        simp only [List.length_cons]
        omega
theorem bytes_nil {s : ByteArray} : bytesOf s = [] ↔ s.size = 0 := by
  rw [← List.length_eq_zero_iff, bytesOf_length]
/-- The shelf's contract of slices.Index at a slice that reads as l. -/
theorem index_any (w : World) (A : Option Addr) (c : Nat) (l : List ByteArray) (x : ByteArray) (h : Kd.C Kd.string w A l.length l) :
    Calls Tryd.prog 46 #[.slice A l.length c, .string x] w fun e w' => e = .returned (.int .i64 (Lib.idxOfS l x)) ∧ w = w' := by
  rcases Nat.eq_zero_or_pos l.length with h0 | h0
  · have hl : l = [] := List.length_eq_zero_iff.1 h0
    subst hl
    exact (Tryd.slices_Index_string_empty A c x w).mono fun e w' ⟨h1, h2⟩ => ⟨h1, h2.symm⟩
  · obtain ⟨ad, rfl, hc⟩ := h.2.2 h0
    obtain ⟨b, off, path⟩ := ad
    have hcell : ∀ j, j < l.length → w.cell? ((⟨b, off, path⟩ : Addr).add j) = some (.string (l.getD j ByteArray.empty)) := fun j hj => by
      obtain ⟨cs, hcl, hK, hx⟩ := hc j l[j] (List.getElem?_eq_getElem hj)
      have hK2 : cs = [.string l[j]] := hK
      subst hK2
      have h1 := hx 0 _ rfl
      have hz : Kd.string.sz = 1 := rfl
      rw [hz, Nat.mul_one, Nat.add_zero] at h1
      rw [h1]
      simp [hj]
    obtain rfl : path = none := by simpa [Addr.add] using World.cell?_spot (hcell 0 h0)
    have h := Tryd.slices_Index_string b off l.length c l x w (Nat.le_refl _) h.2.1 (fun j hj => by rw [← Go.WideShapes.add_plain]; exact hcell j hj)
    rw [List.take_length] at h
    exact h.mono fun e w' ⟨h1, h2⟩ => ⟨h1, h2.symm⟩
theorem infoStr : (Tryd.prog.info? 9).map (fun i => (i.zero, i.size, i.bytes)) = some (some (.string ⟨#[]⟩), 1, 16) := by kernel_rfl
theorem bytes_at {s : ByteArray} {i : Nat} (h : i < s.size) : bt s (i : Int) ∈ bytesOf s := by
  have hl : i < (bytesOf s).length := by rw [bytesOf_length]; exact h
  rw [← rd_bytesOf]
  have e : rd (bytesOf s) (i : Int) = (bytesOf s)[i] := by simp [rd, hl]
  rw [e]
  exact List.getElem_mem hl
theorem all_at {s : ByteArray} {Q : Int → Bool} (h : (bytesOf s).all Q = true) (h0 : 0 < s.size) : Q (bt s 0) = true := List.all_eq_true.1 h _ (bytes_at h0)
theorem fir_not_dig {c : Int} (h : digB c = true) : firB c = false := by
  unfold digB at h
  rw [Bool.and_eq_true, decide_eq_true_eq, decide_eq_true_eq] at h
  unfold firB
  have h1 : (c == 95) = false := by rw [beq_eq_false_iff_ne]; omega
  rw [h1, decide_eq_false (show ¬ 97 ≤ c by omega), decide_eq_false (show ¬ 65 ≤ c by omega)]
  rfl
/-- What edit.group hands back. -/
def RetG (r : Int × Int) (w : World) (e : Ending) (w' : World) : Prop := e = .returned (.tuple #[.int .i64 r.1, .int .i64 r.2]) ∧ Below w.heap.size w w'
set_option maxHeartbeats 2000000 in
set_option maxRecDepth 100000 in
theorem group_any (w : World) (g : Nat) (G : Int) (vn vl vt : Value) (ns : List ByteArray) (s : ByteArray) (hb : w.heap[g]? = some (.cells #[vl, vt, .int .i64 G, vn] 61 (0, 0))) (hn : RdS Kd.string w vn ns) (hs : s.size ≤ 140737488355328) :
    Calls Tryd.prog 38 #[.pointer (some ⟨g, 0, none⟩), .string s] w (RetG (groupL s G ns) w) := by
  have HK := Aside0.mk hb
  have HN := Aside0.mk hn
  have HS := Aside0.mk hs
  clear hb hn
  by_cases h0 : bytesOf s = []
  · have hsz : s.size = 0 := bytes_nil.1 h0
    have he : s = ⟨#[]⟩ := by
      obtain ⟨d⟩ := s
      have hd : d.size = 0 := hsz
      rw [Array.size_eq_zero_iff] at hd
      rw [hd]
    have HR : Aside0 (groupL s G ns = (0, 220)) := ⟨if_pos h0⟩
    clear h0 hsz
    subst he
    go_enter Tryd.func38, Tryd.ntmps38
    go_wp2
    go_ret2
    exact ⟨by rw [HR.out]; rfl, Below.refl _ _⟩
  · have hpos : 0 < s.size := Nat.pos_of_ne_zero fun e => h0 (bytes_nil.2 e)
    have hne : s.toList.isEmpty = false := by
      rw [Lib.toList_data]
      cases hl : s.data.toList with
      | nil => exact absurd (by unfold bytesOf; rw [hl]; rfl) h0
      | cons a r => rfl
    have HDA := Aside0.mk (fun W => all_dig W s (by omega))
    cases hd : (bytesOf s).all digB with
    | true =>
      rw [hd] at HDA
      by_cases h3 : s.size ≤ 3
      · have hd3 : decide ((s.size : Int) ≤ 3) = true := decide_eq_true (by omega)
        have HA := Aside0.mk (fun W => Tryd.strconv_Atoi s (numL (bytesOf s)) (by omega) (atoi_num s h0 hd) W)
        have hnb := numL_bound s h3 hd
        have hL : groupL s G ns = if numL (bytesOf s) > G then (0, 151) else (numL (bytesOf s), 0) := by
          unfold groupL
          rw [if_neg h0, if_pos ⟨hd, h3⟩]
        obtain ⟨n, hnn⟩ : ∃ n, numL (bytesOf s) = n := ⟨_, rfl⟩
        rw [hnn] at HA hnb hL
        clear hnn hd h0
        by_cases hg : n > G
        · have HR : Aside0 (groupL s G ns = (0, 151)) := ⟨by rw [hL, if_pos hg]⟩
          have hgd : decide (G < n) = true := decide_eq_true hg
          clear hL hg
          go_enter Tryd.func38, Tryd.ntmps38
          go_wp2_with fail
          refine (HDA.out _).mono ?_
          rintro e w1 ⟨rfl, hb1⟩
          have HB1 := Aside0.mk hb1
          clear hb1
          go_wp2_with fail
          refine (HA.out _).mono ?_
          rintro e w2 ⟨rfl, t, hw2⟩
          have HB2 : Aside0 (Below w.heap.size w w2) := ⟨by rw [hw2]; exact bytes_below HB1.out HB1.out.size _ _⟩
          have c2 := row_cell (blk_below HK.out HB2.out) 2 _ rfl
          clear hw2
          go_wp2
          go_ret2
          exact ⟨by rw [HR.out]; rfl, HB2.out⟩
        · have HR : Aside0 (groupL s G ns = (n, 0)) := ⟨by rw [hL, if_neg hg]⟩
          have hgd : decide (G < n) = false := decide_eq_false hg
          clear hL hg
          go_enter Tryd.func38, Tryd.ntmps38
          go_wp2_with fail
          refine (HDA.out _).mono ?_
          rintro e w1 ⟨rfl, hb1⟩
          have HB1 := Aside0.mk hb1
          clear hb1
          go_wp2_with fail
          refine (HA.out _).mono ?_
          rintro e w2 ⟨rfl, t, hw2⟩
          have HB2 : Aside0 (Below w.heap.size w w2) := ⟨by rw [hw2]; exact bytes_below HB1.out HB1.out.size _ _⟩
          have c2 := row_cell (blk_below HK.out HB2.out) 2 _ rfl
          clear hw2
          go_wp2
          go_ret2
          exact ⟨by rw [HR.out]; rfl, HB2.out⟩
      · have hd3 : decide ((s.size : Int) ≤ 3) = false := decide_eq_false (by omega)
        have hfd : digB (bt s 0) = true := all_at hd hpos
        have hff : firB (bt s 0) = false := fir_not_dig hfd
        have HR : Aside0 (groupL s G ns = (0, 220)) := ⟨by
          unfold groupL
          rw [if_neg h0, if_neg (fun h => h3 h.2), if_neg]
          rw [hff]
          exact fun h => absurd h.1 (by decide)⟩
        have hx0 : ∀ h : 0 < s.size, ((s[0]'h).toNat : Int) = bt s 0 := fun h => bt_at s 0 h
        have hbr := bt_range s 0
        have HF := Aside0.mk (fun W => first_any (bt s 0) hbr.1 hbr.2 W)
        rw [hff] at HF
        clear hd h0 hfd hff h3
        go_enter Tryd.func38, Tryd.ntmps38
        go_wp2_with fail
        refine (HDA.out _).mono ?_
        rintro e w1 ⟨rfl, hb1⟩
        have HB1 := Aside0.mk hb1
        clear hb1
        go_wp2_with fail
        refine (HF.out _).mono ?_
        rintro e w2 ⟨rfl, hb2⟩
        have HB2 : Aside0 (Below w.heap.size w w2) := ⟨below_to HB1.out hb2⟩
        clear hb2
        go_wp2
        go_ret2
        exact ⟨by rw [HR.out]; rfl, HB2.out⟩
    | false =>
      rw [hd] at HDA
      have hx0 : ∀ h : 0 < s.size, ((s[0]'h).toNat : Int) = bt s 0 := fun h => bt_at s 0 h
      have hbr := bt_range s 0
      have HF := Aside0.mk (fun W => first_any (bt s 0) hbr.1 hbr.2 W)
      have HWA := Aside0.mk (fun W => all_wor W s (by omega))
      have hL : groupL s G ns = if firB (bt s 0) = true ∧ (bytesOf s).all worB = true then (match idxS s (ns.drop 1) with | none => ((0 : Int), (151 : Int)) | some i => ((i : Int) + 1, 0)) else (0, 220) := by
        unfold groupL
        rw [if_neg h0, if_neg (fun h => by rw [hd] at h; exact absurd h.1 (by decide))]
        rfl
      clear hd h0
      cases hf : firB (bt s 0) with
      | false =>
        rw [hf] at HF hL
        have HR : Aside0 (groupL s G ns = (0, 220)) := ⟨by rw [hL, if_neg (fun h => absurd h.1 (by decide))]⟩
        clear hL hf
        go_enter Tryd.func38, Tryd.ntmps38
        go_wp2_with fail
        refine (HDA.out _).mono ?_
        rintro e w1 ⟨rfl, hb1⟩
        have HB1 := Aside0.mk hb1
        clear hb1
        go_wp2_with fail
        refine (HF.out _).mono ?_
        rintro e w2 ⟨rfl, hb2⟩
        have HB2 : Aside0 (Below w.heap.size w w2) := ⟨below_to HB1.out hb2⟩
        clear hb2
        go_wp2
        go_ret2
        exact ⟨by rw [HR.out]; rfl, HB2.out⟩
      | true =>
        rw [hf] at HF hL
        cases ha : (bytesOf s).all worB with
        | false =>
          rw [ha] at HWA hL
          have HR : Aside0 (groupL s G ns = (0, 220)) := ⟨by rw [hL, if_neg (fun h => absurd h.2 (by decide))]⟩
          clear hL hf ha
          go_enter Tryd.func38, Tryd.ntmps38
          go_wp2_with fail
          refine (HDA.out _).mono ?_
          rintro e w1 ⟨rfl, hb1⟩
          have HB1 := Aside0.mk hb1
          clear hb1
          go_wp2_with fail
          refine (HF.out _).mono ?_
          rintro e w2 ⟨rfl, hb2⟩
          have HB2 : Aside0 (Below w.heap.size w w2) := ⟨below_to HB1.out hb2⟩
          clear hb2
          go_wp2_with fail
          refine (HWA.out _).mono ?_
          rintro e w3 ⟨rfl, hb3⟩
          have HB3 : Aside0 (Below w.heap.size w w3) := ⟨below_to HB2.out hb3⟩
          clear hb3
          go_wp2
          go_ret2
          exact ⟨by rw [HR.out]; rfl, HB3.out⟩
        | true =>
          rw [ha] at HWA hL
          rw [if_pos ⟨rfl, rfl⟩] at hL
          have HL := Aside0.mk hL
          clear hL hf ha
          obtain ⟨An, cn, rfl, hcn, hrn⟩ := HN.out
          have hnl := hrn.2.1
          by_cases hn0 : ns = []
          · have HR : Aside0 (groupL s G ns = (0, 151)) := ⟨by rw [HL.out, hn0]; rfl⟩
            have hlen : ns.length = 0 := by rw [hn0]; rfl
            have hl0 : ((ns.length : Int) == 0) = true := by rw [hlen]; rfl
            clear hrn hn0
            have hlz := Lib.hid hlen
            clear hlen
            go_enter Tryd.func38, Tryd.ntmps38
            go_wp2_with fail
            refine (HDA.out _).mono ?_
            rintro e w1 ⟨rfl, hb1⟩
            have HB1 := Aside0.mk hb1
            clear hb1
            go_wp2_with fail
            refine (HF.out _).mono ?_
            rintro e w2 ⟨rfl, hb2⟩
            have HB2 : Aside0 (Below w.heap.size w w2) := ⟨below_to HB1.out hb2⟩
            clear hb2
            go_wp2_with fail
            refine (HWA.out _).mono ?_
            rintro e w3 ⟨rfl, hb3⟩
            have HB3 : Aside0 (Below w.heap.size w w3) := ⟨below_to HB2.out hb3⟩
            have c3 := row_cell (blk_below HK.out HB3.out) 3 _ rfl
            clear hb3
            go_wp2
            go_ret2
            exact ⟨by rw [HR.out]; rfl, HB3.out⟩
          · have hlen : 0 < ns.length := List.length_pos_iff.2 hn0
            have hl0 : ((ns.length : Int) == 0) = false := by rw [beq_eq_false_iff_ne]; omega
            obtain ⟨i0, hi0, _, hsz, _⟩ := info_parts infoStr
            have hcut := cut_from (P := Tryd.prog) 23 9 .i64 Tryd.underlying23 hi0 1 hsz An ns.length cn 1 (by omega) (by omega)
            have hdr : Kd.C Kd.string w (if cn = 1 then An else An.map (·.add (1 * 1))) (ns.drop 1).length (ns.drop 1) := Kd.C_drop (c := cn) (m := 1) hrn (by omega) hcn
            have e1 : (ns.drop 1).length = ns.length - 1 := by rw [List.length_drop]
            rw [show (1 : Int).toNat = 1 from rfl] at hcut
            obtain ⟨A', hA'⟩ : ∃ A', (if cn = 1 then An else An.map (·.add (1 * 1))) = A' := ⟨_, rfl⟩
            obtain ⟨c', hc'⟩ : ∃ c', cn - 1 = c' := ⟨_, rfl⟩
            obtain ⟨md, hmd⟩ : ∃ md, ns.drop 1 = md := ⟨_, rfl⟩
            rw [hA', hmd] at hdr
            rw [hA', hc'] at hcut
            rw [hmd] at e1 HL
            rw [← e1] at hcut
            have HI := Aside0.mk (fun W hb => index_any W A' c' md s (Kd.C_below hdr hb))
            have HO := Aside0.mk (idx_of s md)
            obtain ⟨r, hr⟩ : ∃ r, Lib.idxOfS md s = r := ⟨_, rfl⟩
            rw [hr] at HI HO
            have hmdl : md.length ≤ 9223372036854775807 := by omega
            have HX := Aside0.mk (fun i (h : idxS s md = some i) => idxS_lt h)
            clear hA' hc' hmd hr hdr hrn hn0 hi0 hsz e1
            cases hi : idxS s md with
            | none =>
              rw [hi] at HO HL
              have HR : Aside0 (groupL s G ns = (0, 151)) := ⟨HL.out⟩
              have hr : r = -1 := HO.out
              subst hr
              clear hi HO
              go_enter Tryd.func38, Tryd.ntmps38
              go_wp2_with fail
              refine (HDA.out _).mono ?_
              rintro e w1 ⟨rfl, hb1⟩
              have HB1 := Aside0.mk hb1
              clear hb1
              go_wp2_with fail
              refine (HF.out _).mono ?_
              rintro e w2 ⟨rfl, hb2⟩
              have HB2 : Aside0 (Below w.heap.size w w2) := ⟨below_to HB1.out hb2⟩
              clear hb2
              go_wp2_with fail
              refine (HWA.out _).mono ?_
              rintro e w3 ⟨rfl, hb3⟩
              have HB3 : Aside0 (Below w.heap.size w w3) := ⟨below_to HB2.out hb3⟩
              have c3 := row_cell (blk_below HK.out HB3.out) 3 _ rfl
              clear hb3
              go_wp2_with fail
              refine (HI.out _ HB3.out).mono ?_
              rintro e w4 ⟨rfl, rfl⟩
              go_wp2
              go_ret2
              exact ⟨by rw [HR.out]; rfl, HB3.out⟩
            | some i =>
              rw [hi] at HO HL
              have hil := HX.out i hi
              have HR : Aside0 (groupL s G ns = ((i : Int) + 1, 0)) := ⟨HL.out⟩
              have hr : r = (i : Int) := HO.out
              subst hr
              clear hi HO
              go_enter Tryd.func38, Tryd.ntmps38
              go_wp2_with fail
              refine (HDA.out _).mono ?_
              rintro e w1 ⟨rfl, hb1⟩
              have HB1 := Aside0.mk hb1
              clear hb1
              go_wp2_with fail
              refine (HF.out _).mono ?_
              rintro e w2 ⟨rfl, hb2⟩
              have HB2 : Aside0 (Below w.heap.size w w2) := ⟨below_to HB1.out hb2⟩
              clear hb2
              go_wp2_with fail
              refine (HWA.out _).mono ?_
              rintro e w3 ⟨rfl, hb3⟩
              have HB3 : Aside0 (Below w.heap.size w w3) := ⟨below_to HB2.out hb3⟩
              have c3 := row_cell (blk_below HK.out HB3.out) 3 _ rfl
              clear hb3
              go_wp2_with fail
              refine (HI.out _ HB3.out).mono ?_
              rintro e w4 ⟨rfl, rfl⟩
              go_wp2
              go_ret2
              exact ⟨by rw [HR.out]; rfl, HB3.out⟩

end Go.Proofs.YtaejogkinniakaaDoor
