/- Walk: edit.dollar. -/
import Derived.Test.YtaejogkinniakaaDoorEdG2
import Derived.Lib.SlBytesConst
namespace Go.Proofs.YtaejogkinniakaaDoor
set_option linter.unusedVariables false
set_option linter.unusedSimpArgs false
open Go.RowKit Go.Proofs.YtaejogkinniakaaDoorW.PrintWords Go.Proofs.YtaejogkinniakaaDoorW.PrintLast Go.Proofs.YtaejogkinniakaaDoorW.PrintMore Go.Proofs.YtaejogkinniakaaDoor.PEd

def hd1 (k : Int) : List Int → Bool
  | [] => false
  | a :: _ => a == k
theorem of_byte {a k : Int} (ha : 0 ≤ a ∧ a ≤ 255) (hk : 0 ≤ k ∧ k ≤ 255) : (UInt8.ofNat k.toNat == UInt8.ofNat a.toNat) = (a == k) := by
  rw [Bool.eq_iff_iff, beq_iff_eq, beq_iff_eq]
  refine ⟨fun h => ?_, fun h => by rw [h]⟩
  have h2 := congrArg UInt8.toNat h
  simp only [UInt8.toNat_ofNat'] at h2
  omega
theorem pre_one (s : List Int) (hr : ∀ c ∈ s, 0 ≤ c ∧ c ≤ 255) (k : Int) (hk : 0 ≤ k ∧ k ≤ 255) : Lib.hasPrefix (Lib.bytesOf s) (Lib.bytesOf [k]) = hd1 k s := by
  cases s with
  | nil => rfl
  | cons a r =>
    show (UInt8.ofNat k.toNat == UInt8.ofNat a.toNat && _) = (a == k)
    rw [of_byte (hr a (by simp)) hk]
    simp
theorem bytesIn_of {w : World} {A : Option Addr} {s : List Int} (h : Kd.C kB w A s.length s) : Lib.BytesIn w A s.length s := fun hn => by
  obtain ⟨ad, rfl, hc⟩ := h.2.2 hn
  refine Lib.BytesIn.of_cells (fun i hi => ?_) hn
  obtain ⟨cs, hcl, hK, hx⟩ := hc i s[i] (List.getElem?_eq_getElem hi)
  have hK2 : cs = [.int .u8 s[i]] := hK
  subst hK2
  have h1 := hx 0 _ rfl
  have hz : kB.sz = 1 := rfl
  rw [hz, Nat.mul_one, Nat.add_zero] at h1
  rw [h1]
  simp [hi]
theorem pre_any (W : World) (A : Option Addr) (c : Nat) (s : List Int) (hs : Kd.C kB W A s.length s) (hc : s.length ≤ c) (hr : ∀ c ∈ s, 0 ≤ c ∧ c ≤ 255) (k : Int) (hk : 0 ≤ k ∧ k ≤ 255) (g : Nat) (fr : Nat × Nat) (hg : W.heap[g]? = some (.cells #[.int .u8 k] 5 fr)) (d : Nat) :
    Calls Tryd.prog 35 #[.slice A s.length c, .slice (some ⟨g, 0, none⟩) 1 d] W fun e w' => e = .returned (.bool (hd1 k s)) ∧ W = w' := by
  have h := Tryd.bytes_HasPrefix_all A (some ⟨g, 0, none⟩) s.length c 1 d s [k] W rfl rfl hc (bytesIn_of hs) (fun _ => ⟨g, 0, rfl, fun i hi => by
    obtain rfl : i = 0 := by omega
    exact row_cellE hg 0 _ rfl⟩)
  rw [pre_one s hr k hk] at h
  exact h.mono fun e w' ⟨h1, h2⟩ => ⟨h1, h2.symm⟩
theorem idx_byte {k : Int} (hk : 0 ≤ k ∧ k ≤ 255) : ∀ (s : List Int), (∀ c ∈ s, 0 ≤ c ∧ c ≤ 255) → Lib.indexByte (Lib.bytesOf s) k.toNat.toUInt8 = match idxB k s with | none => -1 | some i => (i : Int)
  | [], _ => rfl
  | a :: r, hr => by
    have ih := idx_byte hk r (fun c hc => hr c (List.mem_cons_of_mem _ hc))
    have hb : (UInt8.ofNat a.toNat == k.toNat.toUInt8) = (k == a) := of_byte hk (hr a (by simp))
    show (if (UInt8.ofNat a.toNat == k.toNat.toUInt8) = true then (0 : Int) else if (Lib.indexByte (Lib.bytesOf r) k.toNat.toUInt8 == -1) = true then -1 else Lib.indexByte (Lib.bytesOf r) k.toNat.toUInt8 + 1) = _
    rw [hb, ih]
    have hI : idxB k (a :: r) = if a = k then some 0 else (idxB k r).map (· + 1) := rfl
    rw [hI]
    by_cases h : a = k
    · have h2 : (k == a) = true := by rw [h]; exact beq_self_eq_true k
      rw [h2, if_pos rfl, if_pos h]
      rfl
    · have h2 : (k == a) = false := by rw [beq_eq_false_iff_ne]; exact fun e => h e.symm
      rw [h2, if_neg (by decide), if_neg h]
      cases hi : idxB k r with
      | none => rfl
      | some i =>
        have h3 : (((i : Nat) : Int) == -1) = false := by rw [beq_eq_false_iff_ne]; omega
        show (if (((i : Nat) : Int) == -1) = true then (-1 : Int) else (i : Int) + 1) = ((i + 1 : Nat) : Int)
        rw [h3, if_neg (by decide)]
        rfl
theorem ibyte_any (W : World) (A : Option Addr) (c : Nat) (s : List Int) (hs : Kd.C kB W A s.length s) (h0 : 0 < s.length) (hr : ∀ c ∈ s, 0 ≤ c ∧ c ≤ 255) (k : Int) (hk : 0 ≤ k ∧ k ≤ 255) (r : Int) (hi : (match idxB k s with | none => (-1 : Int) | some i => (i : Int)) = r) :
    Calls Tryd.prog 36 #[.slice A s.length c, .int .u8 k] W fun e w' => e = .returned (.int .i64 r) ∧ W = w' := by
  obtain ⟨ad, rfl, hc⟩ := hs.2.2 h0
  have h := Tryd.bytes_IndexByte_at ad s.length c s k W rfl (fun i hi => by
    obtain ⟨cs, hcl, hK, hx⟩ := hc i s[i] (List.getElem?_eq_getElem hi)
    have hK2 : cs = [.int .u8 s[i]] := hK
    subst hK2
    have h1 := hx 0 _ rfl
    have hz : kB.sz = 1 := rfl
    rw [hz, Nat.mul_one, Nat.add_zero] at h1
    rw [h1]
    simp [hi])
  rw [idx_byte hk s hr, hi] at h
  exact h.mono fun e w' ⟨h1, h2⟩ => ⟨h1, h2.symm⟩
/-- How many digits stand ahead, two at most. -/
def digN : List Int → Nat
  | [] => 0
  | a :: r => if digB a = true then (match r with | [] => 1 | b :: _ => if digB b = true then 2 else 1) else 0
theorem dN1 {a : Int} {r : List Int} (ha : digB a = false) : digN (a :: r) = 0 := by simp [digN, ha]
theorem dN2 {a : Int} (ha : digB a = true) : digN [a] = 1 := by simp [digN, ha]
theorem dN3 {a b : Int} {t : List Int} (ha : digB a = true) (hb : digB b = false) : digN (a :: b :: t) = 1 := by simp [digN, ha, hb]
theorem dN4 {a b : Int} {t : List Int} (ha : digB a = true) (hb : digB b = true) : digN (a :: b :: t) = 2 := by simp [digN, ha, hb]
theorem digN_cases (s : List Int) : (digN s = 0 ∧ (s = [] ∨ ∃ a r, s = a :: r ∧ digB a = false)) ∨ (digN s = 1 ∧ ∃ a r, s = a :: r ∧ digB a = true ∧ (r = [] ∨ ∃ b t, r = b :: t ∧ digB b = false)) ∨ (digN s = 2 ∧ ∃ a b t, s = a :: b :: t ∧ digB a = true ∧ digB b = true) := by
  cases s with
  | nil => exact .inl ⟨rfl, .inl rfl⟩
  | cons a r =>
    cases ha : digB a with
    | false => exact .inl ⟨dN1 ha, .inr ⟨a, r, rfl, ha⟩⟩
    | true =>
      cases r with
      | nil => exact .inr (.inl ⟨dN2 ha, a, [], rfl, ha, .inl rfl⟩)
      | cons b t =>
        cases hb : digB b with
        | false => exact .inr (.inl ⟨dN3 ha hb, a, b :: t, rfl, ha, .inr ⟨b, t, rfl, hb⟩⟩)
        | true => exact .inr (.inr ⟨dN4 ha hb, a, b, t, rfl, ha, hb⟩)
theorem digN_le (s : List Int) : digN s ≤ 2 ∧ digN s ≤ s.length := by
  rcases digN_cases s with ⟨h, _⟩ | ⟨h, a, r, rfl, _⟩ | ⟨h, a, b, t, rfl, _⟩
  · rw [h]; omega
  · rw [h]; simp
  · rw [h]; simp
theorem digN_lt {s : List Int} {k : Nat} (h : k < digN s) (hk : k < s.length) : digB s[k] = true := by
  rcases digN_cases s with ⟨e, _⟩ | ⟨e, a, r, rfl, ha, _⟩ | ⟨e, a, b, t, rfl, ha, hb⟩
  · omega
  · obtain rfl : k = 0 := by omega
    exact ha
  · rcases (show k = 0 ∨ k = 1 by omega) with rfl | rfl
    · exact ha
    · exact hb
theorem digN_end {s : List Int} {k : Nat} (h : k = digN s) : k = 2 ∨ k = s.length ∨ ∃ hk : k < s.length, digB s[k] = false := by
  subst h
  rcases digN_cases s with ⟨e, rfl | ⟨a, r, rfl, ha⟩⟩ | ⟨e, a, r, rfl, ha, rfl | ⟨b, t, rfl, hb⟩⟩ | ⟨e, _⟩
  · exact .inr (.inl e)
  · exact .inr (.inr ⟨by rw [e]; simp, by simp [e, ha]⟩)
  · exact .inr (.inl e)
  · exact .inr (.inr ⟨by rw [e]; simp, by simp [e, hb]⟩)
  · exact .inl e
theorem dol_self {s : List Int} (h : hd1 36 s = true) : dolL s = none := by
  cases s with
  | nil => cases h
  | cons a r =>
    have h' : a = 36 := eq_of_beq h
    show (if a = 36 then none else _) = _
    rw [if_pos h']
theorem dol_dig {s : List Int} (h : hd1 36 s = false) (h2 : hd1 123 s = false) : dolL s = some (digN s, s.take (digN s)) := by
  cases s with
  | nil => rfl
  | cons a r =>
    have h' : ¬ a = 36 := fun e => by rw [e] at h; cases h
    have h2' : ¬ a = 123 := fun e => by rw [e] at h2; cases h2
    clear h h2
    have hd : dolL (a :: r) = if digB a = true then (match r with | [] => some (1, [a]) | b :: _ => if digB b = true then some (2, [a, b]) else some (1, [a])) else some (0, []) := by
      show (if a = 36 then none else if a = 123 then _ else if digB a = true then _ else _) = _
      rw [if_neg h', if_neg h2']
      rfl
    rw [hd]
    cases ha : digB a with
    | false => rw [dN1 ha]; rfl
    | true =>
      cases r with
      | nil => rw [dN2 ha]; rfl
      | cons b t =>
        cases hb : digB b with
        | false =>
          rw [dN3 ha hb]
          show (if digB b = true then some (2, [a, b]) else some (1, [a])) = _
          rw [hb]
          rfl
        | true =>
          rw [dN4 ha hb]
          show (if digB b = true then some (2, [a, b]) else some (1, [a])) = _
          rw [hb]
          rfl
theorem dol_brace {s : List Int} (h : hd1 36 s = false) (h2 : hd1 123 s = true) : (idxB 125 s = none ∧ dolL s = some (0, [])) ∨ ∃ i, idxB 125 s = some (i + 1) ∧ i + 1 < s.length ∧ dolL s = some (i + 2, (s.take (i + 1)).drop 1) := by
  cases s with
  | nil => cases h2
  | cons a r =>
    have h' : ¬ a = 36 := fun e => by rw [e] at h; cases h
    have h2' : a = 123 := eq_of_beq h2
    clear h h2
    have hd : dolL (a :: r) = match idxB 125 r with | none => some (0, []) | some i => some (i + 2, r.take i) := by
      show (if a = 36 then none else if a = 123 then _ else _) = _
      rw [if_neg h', if_pos h2']
      rfl
    have hi : idxB 125 (a :: r) = (idxB 125 r).map (· + 1) := by
      show (if a = 125 then some 0 else _) = _
      rw [if_neg (by rw [h2']; decide)]
    cases hr : idxB 125 r with
    | none =>
      rw [hr] at hd hi
      exact .inl ⟨hi, hd⟩
    | some i =>
      rw [hr] at hd hi
      have := idxB_lt hr
      exact .inr ⟨i, hi, by simp only [List.length_cons]; omega, hd⟩
theorem str_size (l : List Int) : (strOfNums l).size = l.length := by
  have h := congrArg List.length (Lib.strOfNums_toList l)
  rw [Lib.toList_data, data_length] at h
  rw [h]
  unfold Lib.bytesOf
  exact List.length_map ..
theorem flL_len (L : List Pt) (text : List Int) : (flL L text).length ≤ L.length + 1 := by
  unfold flL
  split
  · omega
  · rw [List.length_append]
    simp
/-- What edit.dollar does. -/
def RetD (w0 : World) (base g : Nat) (L : List Pt) (text : List Int) (G : Int) (vn : Value) (ns : List ByteArray) : Option (Nat × List Int) → Ending → World → Prop
  | none, e, w' => e = .returned (.tuple #[.int .i64 1, .int .i64 0]) ∧ MkE w0 w' base g L (text ++ [36]) G vn
  | some (n, wd), e, w' =>
    ((groupL (strOfNums wd) G ns).2 = 0 ∧ e = .returned (.tuple #[.int .i64 (n : Int), .int .i64 0]) ∧ MkE w0 w' base g (flL L text ++ [([], (groupL (strOfNums wd) G ns).1)]) [] G vn) ∨
    ((groupL (strOfNums wd) G ns).2 ≠ 0 ∧ e = .returned (.tuple #[.int .i64 (n : Int), .int .i64 (groupL (strOfNums wd) G ns).2]) ∧ MkE w0 w' base g L text G vn)
set_option maxHeartbeats 8000000 in
set_option maxRecDepth 100000 in
theorem dollar_any (w0 w : World) (base g : Nat) (L : List Pt) (text : List Int) (G : Int) (vn : Value) (ns : List ByteArray) (A : Option Addr) (c : Nat) (s : List Int)
    (hM : MkE w0 w base g L text G vn) (hbw : base ≤ w.heap.size) (hs : ∀ W, Below base w0 W → Kd.C kB W A s.length s) (hc : s.length ≤ c) (hr : ∀ c ∈ s, 0 ≤ c ∧ c ≤ 255)
    (hn : ∀ W, Below base w0 W → RdS Kd.string W vn ns) (hl : L.length ≤ 4194300) (ht : text.length ≤ 4194300) (hsl : s.length ≤ 4194300) :
    Calls Tryd.prog 22 #[.pointer (some ⟨g, 0, none⟩), .slice A s.length c] w (RetD w0 base g L text G vn ns (dolL s)) := by
  have kc := fun (w : World) (C : Array Value) (n c : Nat) => Lib.run_convert_bytes_const (P := Tryd.prog) w 22 5 C n c Tryd.underlying22 Tryd.underlying5
  have HS := Aside0.mk hs
  have HN := Aside0.mk hn
  have HLL := Aside0.mk (And.intro hl (And.intro ht hc))
  have HR := Aside0.mk hr
  have HBW0 := Aside0.mk hM.2
  have HBWS := Aside0.mk hbw
  have hBA : Below base w0 (w.alloc (.cells #[.int .u8 36] 5 (1, 2))) := below_then hM.2 hbw (below_alloc (Below.refl _ _) _)
  have HM1 : Aside0 (MkE w0 (w.alloc (.cells #[.int .u8 36] 5 (1, 2))) base g L text G vn) := ⟨hM.to (below_alloc (Below.refl _ _) _)⟩
  have HP := Aside0.mk (pre_any _ A c s (hs _ hBA) hc hr 36 ⟨by decide, by decide⟩ w.heap.size (1, 2) (heap_alloc_new _ _) 1)
  have hsz1 : base ≤ (w.alloc (.cells #[.int .u8 36] 5 (1, 2))).heap.size := size_le_alloc hbw _
  have HSZ1 := Aside0.mk hsz1
  have hBB : Below base w0 ((w.alloc (.cells #[.int .u8 36] 5 (1, 2))).alloc (.cells #[.int .u8 123] 5 (1, 2))) := below_then hBA hsz1 (below_alloc (Below.refl _ _) _)
  have HM2 : Aside0 (MkE w0 ((w.alloc (.cells #[.int .u8 36] 5 (1, 2))).alloc (.cells #[.int .u8 123] 5 (1, 2))) base g L text G vn) := ⟨HM1.out.to (below_alloc (Below.refl _ _) _)⟩
  have HP2 := Aside0.mk (pre_any _ A c s (hs _ hBB) hc hr 123 ⟨by decide, by decide⟩ (w.alloc (.cells #[.int .u8 36] 5 (1, 2))).heap.size (1, 2) (heap_alloc_new _ _) 1)
  have HSZ2 : Aside0 (base ≤ ((w.alloc (.cells #[.int .u8 36] 5 (1, 2))).alloc (.cells #[.int .u8 123] 5 (1, 2))).heap.size) := ⟨size_le_alloc hsz1 _⟩
  rw [show (w.alloc (.cells #[.int .u8 36] 5 (1, 2))).heap.size = w.heap.size + 1 by simp] at HP2
  have HBB := Aside0.mk hBB
  have HBA := Aside0.mk hBA
  clear hM hs hn hr hl ht hc hbw hBA hBB hsz1
  obtain ⟨i0, hi0, _, hsz, _⟩ := info_parts info5
  cases hp : hd1 36 s with
  | true =>
    rw [hp] at HP
    have HD := Aside0.mk (dol_self hp)
    clear hp HP2 hi0 hsz
    obtain ⟨⟨vl, vt, hm⟩, hw⟩ := HM1.out
    obtain ⟨At, ct, rfl⟩ := Kd.R_slice hm.txt
    have hbnd := (Kd.R_reads' hm.txt).2.1
    have HMK := Aside0.mk hm
    obtain ⟨w1, hw1⟩ : ∃ w1, w.alloc (.cells #[.int .u8 36] 5 (1, 2)) = w1 := ⟨_, rfl⟩
    rw [hw1] at HMK HP HBA HSZ1 HM1 HM2 HBB HSZ2
    have c1 := row_cell HMK.out.blk 1 _ rfl
    have HBV : Aside0 (Below base w0 (w1.alloc (.cells #[.int .u8 36] 5))) := ⟨below_then HBA.out HSZ1.out (below_alloc (Below.refl _ _) _)⟩
    clear hm hw
    go_enter Tryd.func22, Tryd.ntmps22
    go_wp2_with fail
    refine HP.out.mono ?_
    rintro e w2 ⟨rfl, rfl⟩
    go_wp2_with (at_builtin; refine Kd.R_append kB (w0 := w0) base rfl (.tmp 18) (.tmp 19) 22 5 (.int .u8 0) 1 rfl Tryd.underlying22 info5 rfl (by decide) (by omega) (.slice At text.length ct) text 36 [.int .u8 36] (fun _ => True) (fun _ => False) rfl rfl (int_mkM _ _ _ _ _) (fun _ h => h.elim) (fun _ _ => trivial) HMK.out.txt HBA.out HSZ1.out ?aL ?_)
    case aL => have := HLL.out.2.1; omega
    intro v3 w3 ho hb hg hat
    obtain ⟨A3, c3, rfl⟩ := Kd.R_slice ho
    have hT1 := blk_grown HMK.out.blk hg HMK.out.ne_t
    have d1 := row_cell hT1 1 _ rfl
    have e1 := row_free hT1 1
    have HMP := Aside0.mk (MkR.put_text HMK.out ho hg hat)
    have HBP : Aside0 (Below base w0 (w3.setCell ⟨g, 1, none⟩ (.slice A3 (text ++ [36]).length c3))) := ⟨hb.setCell HMK.out.hg _⟩
    clear ho hb hg hat hT1 c1
    have hlq : (text ++ [36]).length = text.length + 1 := by rw [List.length_append, List.length_singleton]
    rw [hlq] at HMP HBP ⊢
    clear hlq
    go_wp2
    go_ret2
    rw [HD.out]
    exact ⟨rfl, ⟨_, _, HMP.out⟩, HBP.out⟩
  | false =>
    rw [hp] at HP
    cases hq : hd1 123 s with
    | true =>
      rw [hq] at HP2
      have HD := Aside0.mk (dol_brace hp hq)
      have hpos : 0 < s.length := by
        cases s with
        | nil => cases hq
        | cons a r => simp
      clear hp hq
      rcases HD.out with ⟨hi, hdl⟩ | ⟨i, hi, hil, hdl⟩
      · have HDL := Aside0.mk hdl
        have HI := Aside0.mk (ibyte_any _ A c s (HS.out _ HBB.out) hpos HR.out 125 ⟨by decide, by decide⟩ (-1) (by rw [hi]))
        clear hi hdl HD hi0 hsz
        have HGR := Aside0.mk (fun W (vl vt : Value) hb hn => group_any W g G vn vl vt ns ⟨#[]⟩ hb hn (by decide))
        obtain ⟨w1, hw1⟩ : ∃ w1, w.alloc (.cells #[.int .u8 36] 5 (1, 2)) = w1 := ⟨_, rfl⟩
        rw [hw1] at HP HP2 HI HM1 HM2 HBB HSZ2 HBA HSZ1
        have hwz : w1.heap.size = w.heap.size + 1 := by rw [← hw1]; simp
        obtain ⟨wX, hwX⟩ : ∃ wX, w1.alloc (.cells #[.int .u8 123] 5 (1, 2)) = wX := ⟨_, rfl⟩
        rw [hwX] at HP2 HI HM2 HBB HSZ2
        have kc2 : (convert 22 22 (.slice (some ⟨w.heap.size + 1, 0, none⟩) 1 1)).run Tryd.prog (w1.alloc (.cells #[.int .u8 123] 5)) = .ok (.slice (some ⟨w.heap.size + 1, 0, none⟩) 1 1) wX := by
          have h := kc w1 #[.int .u8 123] 1 1
          rw [hwz] at h
          rw [← hwX]
          exact h
        go_enter Tryd.func22, Tryd.ntmps22
        go_wp2_with fail
        refine HP.out.mono ?_
        rintro e w2 ⟨rfl, rfl⟩
        go_wp2_with fail
        refine HP2.out.mono ?_
        rintro e w2 ⟨rfl, rfl⟩
        go_wp2_with fail
        refine HI.out.mono ?_
        rintro e w2 ⟨rfl, rfl⟩
        have HSTR : Aside0 ((⟨#[]⟩ : ByteArray) = strOfNums []) := ⟨rfl⟩
        rw [HSTR.out] at HGR
        go_wp2_with fail
        obtain ⟨⟨vl, vt, hm⟩, hw⟩ := HM2.out
        refine (HGR.out _ vl vt hm.blk (HN.out _ HBB.out)).mono ?_
        clear hm hw
        rintro e w3 ⟨rfl, hb3⟩
        have HM3 : Aside0 (MkE w0 w3 base g L text G vn) := ⟨HM2.out.to hb3⟩
        have HSZ3 : Aside0 (base ≤ w3.heap.size) := ⟨Nat.le_trans HSZ2.out hb3.size⟩
        clear hb3
        obtain ⟨a, er, hge⟩ : ∃ a er, groupL (strOfNums []) G ns = (a, er) := ⟨_, _, rfl⟩
        have HGE := Aside0.mk hge
        rw [hge]
        clear hge
        by_cases he : er = 0
        · subst he
          go_wp2_with fail
          refine (flush_any w0 _ base g L text G vn HM3.out (by have := HLL.out.1; omega) HSZ3.out).mono ?_
          rintro e w4 ⟨rfl, hm4⟩
          have hfl := flL_len L text
          obtain ⟨FL, hFL⟩ : ∃ FL, flL L text = FL := ⟨_, rfl⟩
          have HFL := Aside0.mk hFL
          rw [hFL] at hm4 hfl
          clear hFL
          obtain ⟨⟨vl, vt, hm⟩, hw⟩ := hm4
          have HMK := Aside0.mk hm
          have HB4 := Aside0.mk hw
          have HSZ4 : Aside0 (base ≤ w4.heap.size) := ⟨Nat.le_of_lt (Nat.lt_of_le_of_lt hm.hg hm.lt)⟩
          have c0 := row_cell hm.blk 0 _ rfl
          have HFR : Aside0 (∀ k, w4.heap.size ≤ k → True ∧ some k ≠ vt.ownBlock) := ⟨fun k hk => ⟨trivial, fun e => by
            obtain ⟨inner, hin⟩ := Kd.R_own hm.txt
            have := own_lt hin k e.symm
            omega⟩⟩
          have HMO : Aside0 (k37.M w4 base (fun _ => False) (toP ([], a)) [.slice none 0 0, .int .i64 a]) := ⟨k37_mkM _ _ _ (toP ([], a)) (Kd.R_nil _ _ _ _ _)⟩
          have HOW := Aside0.mk hm.own
          clear hm hw
          go_wp2_with (at_builtin; refine Kd.R_append k37 (w0 := w0) base rfl (.tmp 73) (.tmp 76) 25 37 (.agg #[(.slice none 0 0), (.int .i64 0)]) 32 rfl Tryd.underlying25 infoPart rfl (by decide) (by omega) vl (FL.map toP) (toP ([], a)) [.slice none 0 0, .int .i64 a] (fun k => True ∧ some k ≠ vt.ownBlock) (fun _ => False) rfl rfl HMO.out (fun _ h => h.elim) HFR.out HOW.out HB4.out HSZ4.out ?bLa ?_)
          case bLa => have := HLL.out.1; rw [List.length_map]; omega
          intro v5 w5 ho hb hg hat
          obtain ⟨A5, c5, rfl⟩ := Kd.R_slice ho
          have hT1 := blk_grown HMK.out.blk hg HMK.out.ne_l
          have d0 := row_cell hT1 0 _ rfl
          have e0 := row_free hT1 0
          have ho2 : Kd.R k37 37 w5 base (fun k => True ∧ some k ≠ vt.ownBlock) (.slice A5 (FL.map toP ++ [toP ([], a)]).length c5) ((FL ++ [([], a)]).map toP) := by rw [List.map_append]; exact Kd.R_mono ho (fun k hk => ⟨trivial, by simpa using hk⟩)
          have HMP := Aside0.mk (MkR.put_part0 HMK.out ho2 hg)
          have HBP : Aside0 (Below base w0 (w5.setCell ⟨g, 0, none⟩ (.slice A5 (FL.map toP ++ [toP ([], a)]).length c5))) := ⟨hb.setCell HMK.out.hg _⟩
          clear ho ho2 hb hg hat hT1 c0
          have hlq : (FL.map toP ++ [toP ([], a)]).length = FL.length + 1 := by rw [List.length_append, List.length_map, List.length_singleton]
          rw [hlq] at HMP HBP ⊢
          clear hlq
          go_wp2
          go_ret2
          rw [HDL.out]
          refine .inl ⟨?_, rfl, ?_⟩
          · rw [show groupL (strOfNums []) G ns = (a, 0) from HGE.out]
          · rw [show groupL (strOfNums []) G ns = (a, 0) from HGE.out, HFL.out]
            exact ⟨⟨_, _, HMP.out⟩, HBP.out⟩
        · have hne : (er != 0) = true := by rw [bne_iff_ne]; exact he
          have hne2 : (er == 0) = false := by rw [beq_eq_false_iff_ne]; exact he
          go_wp2
          go_ret2
          rw [HDL.out]
          refine .inr ⟨?_, ?_, HM3.out⟩
          · rw [show groupL (strOfNums []) G ns = (a, er) from HGE.out]; exact he
          · rw [show groupL (strOfNums []) G ns = (a, er) from HGE.out]
            rfl
      · have HDL := Aside0.mk hdl
        have HI := Aside0.mk (ibyte_any _ A c s (HS.out _ HBB.out) hpos HR.out 125 ⟨by decide, by decide⟩ ((i + 1 : Nat) : Int) (by rw [hi]))
        have hcut := cut_mid (P := Tryd.prog) 22 5 .i64 .i64 Tryd.underlying22 hi0 1 hsz A s.length c 1 ((i + 1 : Nat) : Int) (by omega) (by omega) (by omega) HLL.out.2.2
        obtain ⟨md, hmd⟩ : ∃ md, (s.take (i + 1)).drop 1 = md := ⟨_, rfl⟩
        have hmdl : md.length = i := by rw [← hmd, List.length_drop, List.length_take]; omega
        have hC : ∀ W, Below base w0 W → Kd.C kB W (if c = 1 then A else A.map (·.add (1 * 1))) md.length md := fun W hW => by
          rw [← hmd]
          exact Kd.C_drop (c := c) (m := 1) (Kd.C_take (m := i + 1) (HS.out W hW) (by omega)) (by rw [List.length_take]; omega) (by have := HLL.out.2.2; rw [List.length_take]; omega)
        rw [hmd] at hdl HDL
        rw [show (1 : Int).toNat = 1 from rfl, Int.toNat_natCast, show i + 1 - 1 = md.length by omega] at hcut
        obtain ⟨A', hA'⟩ : ∃ A', (if c = 1 then A else A.map (·.add (1 * 1))) = A' := ⟨_, rfl⟩
        obtain ⟨c', hc'⟩ : ∃ c', c - 1 = c' := ⟨_, rfl⟩
        rw [hA', hc'] at hcut
        rw [hA'] at hC
        have hcv := fun W hW => Kd.C_string (P := Tryd.prog) (A := A') (c := c') Tryd.underlying22 Tryd.underlying5 Tryd.underlying9 (hC W hW)
        have HCV := Aside0.mk hcv
        have hszm := str_size md
        have HGR := Aside0.mk (fun W (vl vt : Value) hb hn => group_any W g G vn vl vt ns (strOfNums md) hb hn (by omega))
        clear hi hdl HD hi0 hsz hmd hA' hc' hC hcv
        have hmdb : md.length ≤ 4194300 := by omega
        obtain ⟨w1, hw1⟩ : ∃ w1, w.alloc (.cells #[.int .u8 36] 5 (1, 2)) = w1 := ⟨_, rfl⟩
        rw [hw1] at HP HP2 HI HM1 HM2 HBB HSZ2 HBA HSZ1
        have hwz : w1.heap.size = w.heap.size + 1 := by rw [← hw1]; simp
        obtain ⟨wX, hwX⟩ : ∃ wX, w1.alloc (.cells #[.int .u8 123] 5 (1, 2)) = wX := ⟨_, rfl⟩
        rw [hwX] at HP2 HI HM2 HBB HSZ2
        have kc2 : (convert 22 22 (.slice (some ⟨w.heap.size + 1, 0, none⟩) 1 1)).run Tryd.prog (w1.alloc (.cells #[.int .u8 123] 5)) = .ok (.slice (some ⟨w.heap.size + 1, 0, none⟩) 1 1) wX := by
          have h := kc w1 #[.int .u8 123] 1 1
          rw [hwz] at h
          rw [← hwX]
          exact h
        obtain ⟨sw, hsw⟩ : ∃ sw, strOfNums md = sw := ⟨_, rfl⟩
        rw [hsw] at HCV HGR hszm
        have hcv1 := HCV.out _ HBB.out
        have hnat : ((i + 1 : Nat) : Int) = (i : Int) + 1 := by omega
        rw [hnat] at HI hcut
        clear hnat hmdl hmdb hszm
        go_enter Tryd.func22, Tryd.ntmps22
        go_wp2_with fail
        refine HP.out.mono ?_
        rintro e w2 ⟨rfl, rfl⟩
        go_wp2_with fail
        refine HP2.out.mono ?_
        rintro e w2 ⟨rfl, rfl⟩
        go_wp2_with fail
        refine HI.out.mono ?_
        rintro e w2 ⟨rfl, rfl⟩
        go_wp2_with fail
        obtain ⟨⟨vl, vt, hm⟩, hw⟩ := HM2.out
        refine (HGR.out _ vl vt hm.blk (HN.out _ HBB.out)).mono ?_
        clear hm hw
        rintro e w3 ⟨rfl, hb3⟩
        have HM3 : Aside0 (MkE w0 w3 base g L text G vn) := ⟨HM2.out.to hb3⟩
        have HSZ3 : Aside0 (base ≤ w3.heap.size) := ⟨Nat.le_trans HSZ2.out hb3.size⟩
        clear hb3
        obtain ⟨a, er, hge⟩ : ∃ a er, groupL sw G ns = (a, er) := ⟨_, _, rfl⟩
        have HGE := Aside0.mk hge
        rw [hge]
        clear hge
        by_cases he : er = 0
        · subst he
          go_wp2_with fail
          refine (flush_any w0 _ base g L text G vn HM3.out (by have := HLL.out.1; omega) HSZ3.out).mono ?_
          rintro e w4 ⟨rfl, hm4⟩
          have hfl := flL_len L text
          obtain ⟨FL, hFL⟩ : ∃ FL, flL L text = FL := ⟨_, rfl⟩
          have HFL := Aside0.mk hFL
          rw [hFL] at hm4 hfl
          clear hFL
          obtain ⟨⟨vl, vt, hm⟩, hw⟩ := hm4
          have HMK := Aside0.mk hm
          have HB4 := Aside0.mk hw
          have HSZ4 : Aside0 (base ≤ w4.heap.size) := ⟨Nat.le_of_lt (Nat.lt_of_le_of_lt hm.hg hm.lt)⟩
          have c0 := row_cell hm.blk 0 _ rfl
          have HFR : Aside0 (∀ k, w4.heap.size ≤ k → True ∧ some k ≠ vt.ownBlock) := ⟨fun k hk => ⟨trivial, fun e => by
            obtain ⟨inner, hin⟩ := Kd.R_own hm.txt
            have := own_lt hin k e.symm
            omega⟩⟩
          have HMO : Aside0 (k37.M w4 base (fun _ => False) (toP ([], a)) [.slice none 0 0, .int .i64 a]) := ⟨k37_mkM _ _ _ (toP ([], a)) (Kd.R_nil _ _ _ _ _)⟩
          have HOW := Aside0.mk hm.own
          clear hm hw
          go_wp2_with (at_builtin; refine Kd.R_append k37 (w0 := w0) base rfl (.tmp 73) (.tmp 76) 25 37 (.agg #[(.slice none 0 0), (.int .i64 0)]) 32 rfl Tryd.underlying25 infoPart rfl (by decide) (by omega) vl (FL.map toP) (toP ([], a)) [.slice none 0 0, .int .i64 a] (fun k => True ∧ some k ≠ vt.ownBlock) (fun _ => False) rfl rfl HMO.out (fun _ h => h.elim) HFR.out HOW.out HB4.out HSZ4.out ?bLb ?_)
          case bLb => have := HLL.out.1; rw [List.length_map]; omega
          intro v5 w5 ho hb hg hat
          obtain ⟨A5, c5, rfl⟩ := Kd.R_slice ho
          have hT1 := blk_grown HMK.out.blk hg HMK.out.ne_l
          have d0 := row_cell hT1 0 _ rfl
          have e0 := row_free hT1 0
          have ho2 : Kd.R k37 37 w5 base (fun k => True ∧ some k ≠ vt.ownBlock) (.slice A5 (FL.map toP ++ [toP ([], a)]).length c5) ((FL ++ [([], a)]).map toP) := by rw [List.map_append]; exact Kd.R_mono ho (fun k hk => ⟨trivial, by simpa using hk⟩)
          have HMP := Aside0.mk (MkR.put_part0 HMK.out ho2 hg)
          have HBP : Aside0 (Below base w0 (w5.setCell ⟨g, 0, none⟩ (.slice A5 (FL.map toP ++ [toP ([], a)]).length c5))) := ⟨hb.setCell HMK.out.hg _⟩
          clear ho ho2 hb hg hat hT1 c0
          have hlq : (FL.map toP ++ [toP ([], a)]).length = FL.length + 1 := by rw [List.length_append, List.length_map, List.length_singleton]
          rw [hlq] at HMP HBP ⊢
          clear hlq
          go_wp2
          go_ret2
          rw [HDL.out]
          refine .inl ⟨?_, rfl, ?_⟩
          · rw [show groupL (strOfNums md) G ns = (a, 0) by rw [hsw]; exact HGE.out]
          · rw [show groupL (strOfNums md) G ns = (a, 0) by rw [hsw]; exact HGE.out, HFL.out]
            exact ⟨⟨_, _, HMP.out⟩, HBP.out⟩
        · have hne : (er != 0) = true := by rw [bne_iff_ne]; exact he
          have hne2 : (er == 0) = false := by rw [beq_eq_false_iff_ne]; exact he
          go_wp2
          go_ret2
          rw [HDL.out]
          refine .inr ⟨?_, ?_, HM3.out⟩
          · rw [show groupL (strOfNums md) G ns = (a, er) by rw [hsw]; exact HGE.out]; exact he
          · rw [show groupL (strOfNums md) G ns = (a, er) by rw [hsw]; exact HGE.out]
            rfl
    | false =>
      rw [hq] at HP2
      have HDL := Aside0.mk (dol_dig hp hq)
      clear hp hq
      have hnl := digN_le s
      have HLT := Aside0.mk (fun k (h : k < digN s) (hk : k < s.length) => digN_lt h hk)
      have HEN := Aside0.mk (fun k (h : k = digN s) => digN_end h)
      obtain ⟨n, hnn⟩ : ∃ n, digN s = n := ⟨_, rfl⟩
      rw [hnn] at hnl HLT HEN HDL
      clear hnn
      have hcut := cut_to (P := Tryd.prog) 22 5 .i64 Tryd.underlying22 hi0 A s.length c (n : Int) (by omega) (by omega) HLL.out.2.2
      obtain ⟨md, hmd⟩ : ∃ md, s.take n = md := ⟨_, rfl⟩
      have hmdl : md.length = n := by rw [← hmd, List.length_take]; omega
      have hC : ∀ W, Below base w0 W → Kd.C kB W A md.length md := fun W hW => by
        rw [← hmd]
        exact Kd.C_take (m := n) (HS.out W hW) (by omega)
      rw [hmd] at HDL
      rw [Int.toNat_natCast, show n = md.length by omega] at hcut
      have hcv := fun W hW => Kd.C_string (P := Tryd.prog) (A := A) (c := c) Tryd.underlying22 Tryd.underlying5 Tryd.underlying9 (hC W hW)
      have HCV := Aside0.mk hcv
      have hszm := str_size md
      have HGR := Aside0.mk (fun W (vl vt : Value) hb hn => group_any W g G vn vl vt ns (strOfNums md) hb hn (by omega))
      obtain ⟨w1, hw1⟩ : ∃ w1, w.alloc (.cells #[.int .u8 36] 5 (1, 2)) = w1 := ⟨_, rfl⟩
      rw [hw1] at HP HP2 HM1 HM2 HBB HSZ2 HBA HSZ1
      have hwz : w1.heap.size = w.heap.size + 1 := by rw [← hw1]; simp
      obtain ⟨wX, hwX⟩ : ∃ wX, w1.alloc (.cells #[.int .u8 123] 5 (1, 2)) = wX := ⟨_, rfl⟩
      rw [hwX] at HP2 HM2 HBB HSZ2
      have kc2 : (convert 22 22 (.slice (some ⟨w.heap.size + 1, 0, none⟩) 1 1)).run Tryd.prog (w1.alloc (.cells #[.int .u8 123] 5)) = .ok (.slice (some ⟨w.heap.size + 1, 0, none⟩) 1 1) wX := by
        have h := kc w1 #[.int .u8 123] 1 1
        rw [hwz] at h
        rw [← hwX]
        exact h
      obtain ⟨sw, hsw⟩ : ∃ sw, strOfNums md = sw := ⟨_, rfl⟩
      rw [hsw] at HCV HGR
      have hcn : (md.length : Int) = (n : Int) := by omega
      have HCUT : Aside0 (∀ W, (Instr.slice 22 (.slice A s.length c) none (some (.int .i64 (n : Int))) none).run Tryd.prog W = .ok (.slice A md.length c) W) := ⟨fun W => by rw [← hcn]; exact hcut W⟩
      clear hi0 hsz hmd hC hcv hmdl hszm hcut hcn
      go_enter Tryd.func22, Tryd.ntmps22
      go_wp2_with fail
      refine HP.out.mono ?_
      rintro e w2 ⟨rfl, rfl⟩
      go_wp2_with fail
      refine HP2.out.mono ?_
      rintro e w2 ⟨rfl, rfl⟩
      clear kc kc2 hw1 hwX hwz HP HP2
      go_wp2
      go_loopg [6] n (fun gk i w' => ∃ k : Nat, i = .int .i64 (k : Int) ∧ Aside0 (k ≤ n ∧ gk = n - k) ∧ Aside0 (Below wX.heap.size wX w'))
      case atStart => exact ⟨0, by first | rfl | simp, ⟨Nat.zero_le _, rfl⟩, ⟨Below.refl _ _⟩⟩
      case round =>
        obtain ⟨k, rfl, HA, HB⟩ := hrel
        by_cases hk : k < n
        · have hks : k < s.length := by omega
          have hdk := HLT.out k hk hks
          obtain ⟨ad, e, hx⟩ := Kd.at_int (HS.out wX HBB.out) (k : Int) (by omega) (by omega)
          subst e
          have hrd : rd s (k : Int) = s[k] := by simp [rd, hks]
          rw [hrd] at hx
          obtain ⟨ch, hch⟩ : ∃ ch, s[k] = ch := ⟨_, rfl⟩
          rw [hch] at hx hdk
          simp only [Int.toNat_natCast] at hx
          replace hx := pw_cell_below HB.out hx
          have hk2 : decide ((k : Int) < 2) = true := decide_eq_true (by omega)
          have hk3 : decide ((k : Int) < (s.length : Int)) = true := decide_eq_true (by omega)
          have hk4 : decide (k < s.length) = true := decide_eq_true hks
          have HDC := Aside0.mk (fun W => digit_any ch W)
          rw [hdk] at HDC
          clear hrd hch hdk
          go_wp2_with fail
          refine (HDC.out _).mono ?_
          rintro e w3 ⟨rfl, hb3⟩
          have HB3 : Aside0 (Below wX.heap.size wX w3) := ⟨below_to HB.out hb3⟩
          clear hb3 hx
          go_wp2
          go_roundg (n - k - 1)
          case measure => have := HA.out; omega
          case rel => exact ⟨k + 1, by go_num, ⟨by omega, by omega⟩, HB3⟩
        · have hkn : k = n := by have := HA.out; omega
          subst hkn
          have hcut := HCUT.out
          have HBB0 := HBB
          have HM20 := HM2
          have HSZ20 := HSZ2
          rcases HEN.out k rfl with h2 | h2 | ⟨hks, h2⟩
          · have hk2 : decide ((k : Int) < 2) = false := decide_eq_false (by omega)
            clear HBB HM2 HSZ2 h2
            have HBB : Aside0 (Below base w0 wr) := ⟨below_then HBB0.out HSZ20.out HB.out⟩
            have HM2 : Aside0 (MkE w0 wr base g L text G vn) := ⟨HM20.out.to HB.out⟩
            have HSZ2 : Aside0 (base ≤ wr.heap.size) := ⟨Nat.le_trans HSZ20.out HB.out.size⟩
            have hcv1 := HCV.out _ HBB.out
            go_wp2_with fail
            obtain ⟨⟨vl, vt, hm⟩, hw⟩ := HM2.out
            refine (HGR.out _ vl vt hm.blk (HN.out _ HBB.out)).mono ?_
            clear hm hw
            rintro e w3 ⟨rfl, hb3⟩
            have HM3 : Aside0 (MkE w0 w3 base g L text G vn) := ⟨HM2.out.to hb3⟩
            have HSZ3 : Aside0 (base ≤ w3.heap.size) := ⟨Nat.le_trans HSZ2.out hb3.size⟩
            clear hb3
            obtain ⟨a, er, hge⟩ : ∃ a er, groupL sw G ns = (a, er) := ⟨_, _, rfl⟩
            have HGE := Aside0.mk hge
            rw [hge]
            clear hge
            by_cases he : er = 0
            · subst he
              go_wp2_with fail
              refine (flush_any w0 _ base g L text G vn HM3.out (by have := HLL.out.1; omega) HSZ3.out).mono ?_
              rintro e w4 ⟨rfl, hm4⟩
              have hfl := flL_len L text
              obtain ⟨FL, hFL⟩ : ∃ FL, flL L text = FL := ⟨_, rfl⟩
              have HFL := Aside0.mk hFL
              rw [hFL] at hm4 hfl
              clear hFL
              obtain ⟨⟨vl, vt, hm⟩, hw⟩ := hm4
              have HMK := Aside0.mk hm
              have HB4 := Aside0.mk hw
              have HSZ4 : Aside0 (base ≤ w4.heap.size) := ⟨Nat.le_of_lt (Nat.lt_of_le_of_lt hm.hg hm.lt)⟩
              have c0 := row_cell hm.blk 0 _ rfl
              have HFR : Aside0 (∀ k, w4.heap.size ≤ k → True ∧ some k ≠ vt.ownBlock) := ⟨fun k hk => ⟨trivial, fun e => by
                obtain ⟨inner, hin⟩ := Kd.R_own hm.txt
                have := own_lt hin k e.symm
                omega⟩⟩
              have HMO : Aside0 (k37.M w4 base (fun _ => False) (toP ([], a)) [.slice none 0 0, .int .i64 a]) := ⟨k37_mkM _ _ _ (toP ([], a)) (Kd.R_nil _ _ _ _ _)⟩
              have HOW := Aside0.mk hm.own
              clear hm hw
              go_wp2_with (at_builtin; refine Kd.R_append k37 (w0 := w0) base rfl (.tmp 73) (.tmp 76) 25 37 (.agg #[(.slice none 0 0), (.int .i64 0)]) 32 rfl Tryd.underlying25 infoPart rfl (by decide) (by omega) vl (FL.map toP) (toP ([], a)) [.slice none 0 0, .int .i64 a] (fun k => True ∧ some k ≠ vt.ownBlock) (fun _ => False) rfl rfl HMO.out (fun _ h => h.elim) HFR.out HOW.out HB4.out HSZ4.out ?bLc ?_)
              case bLc => have := HLL.out.1; rw [List.length_map]; omega
              intro v5 w5 ho hb hg hat
              obtain ⟨A5, c5, rfl⟩ := Kd.R_slice ho
              have hT1 := blk_grown HMK.out.blk hg HMK.out.ne_l
              have d0 := row_cell hT1 0 _ rfl
              have e0 := row_free hT1 0
              have ho2 : Kd.R k37 37 w5 base (fun k => True ∧ some k ≠ vt.ownBlock) (.slice A5 (FL.map toP ++ [toP ([], a)]).length c5) ((FL ++ [([], a)]).map toP) := by rw [List.map_append]; exact Kd.R_mono ho (fun k hk => ⟨trivial, by simpa using hk⟩)
              have HMP := Aside0.mk (MkR.put_part0 HMK.out ho2 hg)
              have HBP : Aside0 (Below base w0 (w5.setCell ⟨g, 0, none⟩ (.slice A5 (FL.map toP ++ [toP ([], a)]).length c5))) := ⟨hb.setCell HMK.out.hg _⟩
              clear ho ho2 hb hg hat hT1 c0
              have hlq : (FL.map toP ++ [toP ([], a)]).length = FL.length + 1 := by rw [List.length_append, List.length_map, List.length_singleton]
              rw [hlq] at HMP HBP ⊢
              clear hlq
              go_wp2
              go_ret2
              rw [HDL.out]
              refine .inl ⟨?_, rfl, ?_⟩
              · rw [show groupL (strOfNums md) G ns = (a, 0) by rw [hsw]; exact HGE.out]
              · rw [show groupL (strOfNums md) G ns = (a, 0) by rw [hsw]; exact HGE.out, HFL.out]
                exact ⟨⟨_, _, HMP.out⟩, HBP.out⟩
            · have hne : (er != 0) = true := by rw [bne_iff_ne]; exact he
              have hne2 : (er == 0) = false := by rw [beq_eq_false_iff_ne]; exact he
              go_wp2
              go_ret2
              rw [HDL.out]
              refine .inr ⟨?_, ?_, HM3.out⟩
              · rw [show groupL (strOfNums md) G ns = (a, er) by rw [hsw]; exact HGE.out]; exact he
              · rw [show groupL (strOfNums md) G ns = (a, er) by rw [hsw]; exact HGE.out]
                rfl
          · have hk2 : decide ((k : Int) < 2) = true ∨ decide ((k : Int) < 2) = false := by cases decide ((k : Int) < 2) <;> simp
            have hk3 : decide ((k : Int) < (s.length : Int)) = false := decide_eq_false (by omega)
            have hk4 : decide (k < s.length) = false := decide_eq_false (by omega)
            clear HBB HM2 HSZ2 h2
            have HBB : Aside0 (Below base w0 wr) := ⟨below_then HBB0.out HSZ20.out HB.out⟩
            have HM2 : Aside0 (MkE w0 wr base g L text G vn) := ⟨HM20.out.to HB.out⟩
            have HSZ2 : Aside0 (base ≤ wr.heap.size) := ⟨Nat.le_trans HSZ20.out HB.out.size⟩
            have hcv1 := HCV.out _ HBB.out
            rcases hk2 with hk2 | hk2
            · have hkl : k < 2 := by have := of_decide_eq_true hk2; omega
              go_wp2_with fail
              obtain ⟨⟨vl, vt, hm⟩, hw⟩ := HM2.out
              refine (HGR.out _ vl vt hm.blk (HN.out _ HBB.out)).mono ?_
              clear hm hw
              rintro e w3 ⟨rfl, hb3⟩
              have HM3 : Aside0 (MkE w0 w3 base g L text G vn) := ⟨HM2.out.to hb3⟩
              have HSZ3 : Aside0 (base ≤ w3.heap.size) := ⟨Nat.le_trans HSZ2.out hb3.size⟩
              clear hb3
              obtain ⟨a, er, hge⟩ : ∃ a er, groupL sw G ns = (a, er) := ⟨_, _, rfl⟩
              have HGE := Aside0.mk hge
              rw [hge]
              clear hge
              by_cases he : er = 0
              · subst he
                go_wp2_with fail
                refine (flush_any w0 _ base g L text G vn HM3.out (by have := HLL.out.1; omega) HSZ3.out).mono ?_
                rintro e w4 ⟨rfl, hm4⟩
                have hfl := flL_len L text
                obtain ⟨FL, hFL⟩ : ∃ FL, flL L text = FL := ⟨_, rfl⟩
                have HFL := Aside0.mk hFL
                rw [hFL] at hm4 hfl
                clear hFL
                obtain ⟨⟨vl, vt, hm⟩, hw⟩ := hm4
                have HMK := Aside0.mk hm
                have HB4 := Aside0.mk hw
                have HSZ4 : Aside0 (base ≤ w4.heap.size) := ⟨Nat.le_of_lt (Nat.lt_of_le_of_lt hm.hg hm.lt)⟩
                have c0 := row_cell hm.blk 0 _ rfl
                have HFR : Aside0 (∀ k, w4.heap.size ≤ k → True ∧ some k ≠ vt.ownBlock) := ⟨fun k hk => ⟨trivial, fun e => by
                  obtain ⟨inner, hin⟩ := Kd.R_own hm.txt
                  have := own_lt hin k e.symm
                  omega⟩⟩
                have HMO : Aside0 (k37.M w4 base (fun _ => False) (toP ([], a)) [.slice none 0 0, .int .i64 a]) := ⟨k37_mkM _ _ _ (toP ([], a)) (Kd.R_nil _ _ _ _ _)⟩
                have HOW := Aside0.mk hm.own
                clear hm hw
                go_wp2_with (at_builtin; refine Kd.R_append k37 (w0 := w0) base rfl (.tmp 73) (.tmp 76) 25 37 (.agg #[(.slice none 0 0), (.int .i64 0)]) 32 rfl Tryd.underlying25 infoPart rfl (by decide) (by omega) vl (FL.map toP) (toP ([], a)) [.slice none 0 0, .int .i64 a] (fun k => True ∧ some k ≠ vt.ownBlock) (fun _ => False) rfl rfl HMO.out (fun _ h => h.elim) HFR.out HOW.out HB4.out HSZ4.out ?bLd ?_)
                case bLd => have := HLL.out.1; rw [List.length_map]; omega
                intro v5 w5 ho hb hg hat
                obtain ⟨A5, c5, rfl⟩ := Kd.R_slice ho
                have hT1 := blk_grown HMK.out.blk hg HMK.out.ne_l
                have d0 := row_cell hT1 0 _ rfl
                have e0 := row_free hT1 0
                have ho2 : Kd.R k37 37 w5 base (fun k => True ∧ some k ≠ vt.ownBlock) (.slice A5 (FL.map toP ++ [toP ([], a)]).length c5) ((FL ++ [([], a)]).map toP) := by rw [List.map_append]; exact Kd.R_mono ho (fun k hk => ⟨trivial, by simpa using hk⟩)
                have HMP := Aside0.mk (MkR.put_part0 HMK.out ho2 hg)
                have HBP : Aside0 (Below base w0 (w5.setCell ⟨g, 0, none⟩ (.slice A5 (FL.map toP ++ [toP ([], a)]).length c5))) := ⟨hb.setCell HMK.out.hg _⟩
                clear ho ho2 hb hg hat hT1 c0
                have hlq : (FL.map toP ++ [toP ([], a)]).length = FL.length + 1 := by rw [List.length_append, List.length_map, List.length_singleton]
                rw [hlq] at HMP HBP ⊢
                clear hlq
                go_wp2
                go_ret2
                rw [HDL.out]
                refine .inl ⟨?_, rfl, ?_⟩
                · rw [show groupL (strOfNums md) G ns = (a, 0) by rw [hsw]; exact HGE.out]
                · rw [show groupL (strOfNums md) G ns = (a, 0) by rw [hsw]; exact HGE.out, HFL.out]
                  exact ⟨⟨_, _, HMP.out⟩, HBP.out⟩
              · have hne : (er != 0) = true := by rw [bne_iff_ne]; exact he
                have hne2 : (er == 0) = false := by rw [beq_eq_false_iff_ne]; exact he
                go_wp2
                go_ret2
                rw [HDL.out]
                refine .inr ⟨?_, ?_, HM3.out⟩
                · rw [show groupL (strOfNums md) G ns = (a, er) by rw [hsw]; exact HGE.out]; exact he
                · rw [show groupL (strOfNums md) G ns = (a, er) by rw [hsw]; exact HGE.out]
                  rfl
            · have hkl : ¬ k < 2 := by have := of_decide_eq_false hk2; omega
              go_wp2_with fail
              obtain ⟨⟨vl, vt, hm⟩, hw⟩ := HM2.out
              refine (HGR.out _ vl vt hm.blk (HN.out _ HBB.out)).mono ?_
              clear hm hw
              rintro e w3 ⟨rfl, hb3⟩
              have HM3 : Aside0 (MkE w0 w3 base g L text G vn) := ⟨HM2.out.to hb3⟩
              have HSZ3 : Aside0 (base ≤ w3.heap.size) := ⟨Nat.le_trans HSZ2.out hb3.size⟩
              clear hb3
              obtain ⟨a, er, hge⟩ : ∃ a er, groupL sw G ns = (a, er) := ⟨_, _, rfl⟩
              have HGE := Aside0.mk hge
              rw [hge]
              clear hge
              by_cases he : er = 0
              · subst he
                go_wp2_with fail
                refine (flush_any w0 _ base g L text G vn HM3.out (by have := HLL.out.1; omega) HSZ3.out).mono ?_
                rintro e w4 ⟨rfl, hm4⟩
                have hfl := flL_len L text
                obtain ⟨FL, hFL⟩ : ∃ FL, flL L text = FL := ⟨_, rfl⟩
                have HFL := Aside0.mk hFL
                rw [hFL] at hm4 hfl
                clear hFL
                obtain ⟨⟨vl, vt, hm⟩, hw⟩ := hm4
                have HMK := Aside0.mk hm
                have HB4 := Aside0.mk hw
                have HSZ4 : Aside0 (base ≤ w4.heap.size) := ⟨Nat.le_of_lt (Nat.lt_of_le_of_lt hm.hg hm.lt)⟩
                have c0 := row_cell hm.blk 0 _ rfl
                have HFR : Aside0 (∀ k, w4.heap.size ≤ k → True ∧ some k ≠ vt.ownBlock) := ⟨fun k hk => ⟨trivial, fun e => by
                  obtain ⟨inner, hin⟩ := Kd.R_own hm.txt
                  have := own_lt hin k e.symm
                  omega⟩⟩
                have HMO : Aside0 (k37.M w4 base (fun _ => False) (toP ([], a)) [.slice none 0 0, .int .i64 a]) := ⟨k37_mkM _ _ _ (toP ([], a)) (Kd.R_nil _ _ _ _ _)⟩
                have HOW := Aside0.mk hm.own
                clear hm hw
                go_wp2_with (at_builtin; refine Kd.R_append k37 (w0 := w0) base rfl (.tmp 73) (.tmp 76) 25 37 (.agg #[(.slice none 0 0), (.int .i64 0)]) 32 rfl Tryd.underlying25 infoPart rfl (by decide) (by omega) vl (FL.map toP) (toP ([], a)) [.slice none 0 0, .int .i64 a] (fun k => True ∧ some k ≠ vt.ownBlock) (fun _ => False) rfl rfl HMO.out (fun _ h => h.elim) HFR.out HOW.out HB4.out HSZ4.out ?bLe ?_)
                case bLe => have := HLL.out.1; rw [List.length_map]; omega
                intro v5 w5 ho hb hg hat
                obtain ⟨A5, c5, rfl⟩ := Kd.R_slice ho
                have hT1 := blk_grown HMK.out.blk hg HMK.out.ne_l
                have d0 := row_cell hT1 0 _ rfl
                have e0 := row_free hT1 0
                have ho2 : Kd.R k37 37 w5 base (fun k => True ∧ some k ≠ vt.ownBlock) (.slice A5 (FL.map toP ++ [toP ([], a)]).length c5) ((FL ++ [([], a)]).map toP) := by rw [List.map_append]; exact Kd.R_mono ho (fun k hk => ⟨trivial, by simpa using hk⟩)
                have HMP := Aside0.mk (MkR.put_part0 HMK.out ho2 hg)
                have HBP : Aside0 (Below base w0 (w5.setCell ⟨g, 0, none⟩ (.slice A5 (FL.map toP ++ [toP ([], a)]).length c5))) := ⟨hb.setCell HMK.out.hg _⟩
                clear ho ho2 hb hg hat hT1 c0
                have hlq : (FL.map toP ++ [toP ([], a)]).length = FL.length + 1 := by rw [List.length_append, List.length_map, List.length_singleton]
                rw [hlq] at HMP HBP ⊢
                clear hlq
                go_wp2
                go_ret2
                rw [HDL.out]
                refine .inl ⟨?_, rfl, ?_⟩
                · rw [show groupL (strOfNums md) G ns = (a, 0) by rw [hsw]; exact HGE.out]
                · rw [show groupL (strOfNums md) G ns = (a, 0) by rw [hsw]; exact HGE.out, HFL.out]
                  exact ⟨⟨_, _, HMP.out⟩, HBP.out⟩
              · have hne : (er != 0) = true := by rw [bne_iff_ne]; exact he
                have hne2 : (er == 0) = false := by rw [beq_eq_false_iff_ne]; exact he
                go_wp2
                go_ret2
                rw [HDL.out]
                refine .inr ⟨?_, ?_, HM3.out⟩
                · rw [show groupL (strOfNums md) G ns = (a, er) by rw [hsw]; exact HGE.out]; exact he
                · rw [show groupL (strOfNums md) G ns = (a, er) by rw [hsw]; exact HGE.out]
                  rfl
          · obtain ⟨ad, e, hx⟩ := Kd.at_int (HS.out wX HBB.out) (k : Int) (by omega) (by omega)
            subst e
            have hrd : rd s (k : Int) = s[k] := by simp [rd, hks]
            rw [hrd] at hx
            obtain ⟨ch, hch⟩ : ∃ ch, s[k] = ch := ⟨_, rfl⟩
            rw [hch] at hx h2
            simp only [Int.toNat_natCast] at hx
            replace hx := pw_cell_below HB.out hx
            have hk3 : decide ((k : Int) < (s.length : Int)) = true := decide_eq_true (by omega)
            have hk4 : decide (k < s.length) = true := decide_eq_true hks
            have HDC := Aside0.mk (fun W => digit_any ch W)
            rw [h2] at HDC
            clear hrd hch h2
            by_cases hkl : k < 2
            · have hk2 : decide ((k : Int) < 2) = true := decide_eq_true (by omega)
              go_wp2_with fail
              refine (HDC.out _).mono ?_
              rintro e w4 ⟨rfl, hb4⟩
              have HB4x : Aside0 (Below wX.heap.size wX w4) := ⟨below_to HB.out hb4⟩
              clear hb4 hx HBB HM2 HSZ2
              have HBB : Aside0 (Below base w0 w4) := ⟨below_then HBB0.out HSZ20.out HB4x.out⟩
              have HM2 : Aside0 (MkE w0 w4 base g L text G vn) := ⟨HM20.out.to HB4x.out⟩
              have HSZ2 : Aside0 (base ≤ w4.heap.size) := ⟨Nat.le_trans HSZ20.out HB4x.out.size⟩
              have hcv1 := HCV.out _ HBB.out
              have hwr : ∃ W, W = wr := ⟨_, rfl⟩
              clear HB
              go_wp2_with fail
              obtain ⟨⟨vl, vt, hm⟩, hw⟩ := HM2.out
              refine (HGR.out _ vl vt hm.blk (HN.out _ HBB.out)).mono ?_
              clear hm hw
              rintro e w3 ⟨rfl, hb3⟩
              have HM3 : Aside0 (MkE w0 w3 base g L text G vn) := ⟨HM2.out.to hb3⟩
              have HSZ3 : Aside0 (base ≤ w3.heap.size) := ⟨Nat.le_trans HSZ2.out hb3.size⟩
              clear hb3
              obtain ⟨a, er, hge⟩ : ∃ a er, groupL sw G ns = (a, er) := ⟨_, _, rfl⟩
              have HGE := Aside0.mk hge
              rw [hge]
              clear hge
              by_cases he : er = 0
              · subst he
                go_wp2_with fail
                refine (flush_any w0 _ base g L text G vn HM3.out (by have := HLL.out.1; omega) HSZ3.out).mono ?_
                rintro e w4 ⟨rfl, hm4⟩
                have hfl := flL_len L text
                obtain ⟨FL, hFL⟩ : ∃ FL, flL L text = FL := ⟨_, rfl⟩
                have HFL := Aside0.mk hFL
                rw [hFL] at hm4 hfl
                clear hFL
                obtain ⟨⟨vl, vt, hm⟩, hw⟩ := hm4
                have HMK := Aside0.mk hm
                have HB4 := Aside0.mk hw
                have HSZ4 : Aside0 (base ≤ w4.heap.size) := ⟨Nat.le_of_lt (Nat.lt_of_le_of_lt hm.hg hm.lt)⟩
                have c0 := row_cell hm.blk 0 _ rfl
                have HFR : Aside0 (∀ k, w4.heap.size ≤ k → True ∧ some k ≠ vt.ownBlock) := ⟨fun k hk => ⟨trivial, fun e => by
                  obtain ⟨inner, hin⟩ := Kd.R_own hm.txt
                  have := own_lt hin k e.symm
                  omega⟩⟩
                have HMO : Aside0 (k37.M w4 base (fun _ => False) (toP ([], a)) [.slice none 0 0, .int .i64 a]) := ⟨k37_mkM _ _ _ (toP ([], a)) (Kd.R_nil _ _ _ _ _)⟩
                have HOW := Aside0.mk hm.own
                clear hm hw
                go_wp2_with (at_builtin; refine Kd.R_append k37 (w0 := w0) base rfl (.tmp 73) (.tmp 76) 25 37 (.agg #[(.slice none 0 0), (.int .i64 0)]) 32 rfl Tryd.underlying25 infoPart rfl (by decide) (by omega) vl (FL.map toP) (toP ([], a)) [.slice none 0 0, .int .i64 a] (fun k => True ∧ some k ≠ vt.ownBlock) (fun _ => False) rfl rfl HMO.out (fun _ h => h.elim) HFR.out HOW.out HB4.out HSZ4.out ?bLf ?_)
                case bLf => have := HLL.out.1; rw [List.length_map]; omega
                intro v5 w5 ho hb hg hat
                obtain ⟨A5, c5, rfl⟩ := Kd.R_slice ho
                have hT1 := blk_grown HMK.out.blk hg HMK.out.ne_l
                have d0 := row_cell hT1 0 _ rfl
                have e0 := row_free hT1 0
                have ho2 : Kd.R k37 37 w5 base (fun k => True ∧ some k ≠ vt.ownBlock) (.slice A5 (FL.map toP ++ [toP ([], a)]).length c5) ((FL ++ [([], a)]).map toP) := by rw [List.map_append]; exact Kd.R_mono ho (fun k hk => ⟨trivial, by simpa using hk⟩)
                have HMP := Aside0.mk (MkR.put_part0 HMK.out ho2 hg)
                have HBP : Aside0 (Below base w0 (w5.setCell ⟨g, 0, none⟩ (.slice A5 (FL.map toP ++ [toP ([], a)]).length c5))) := ⟨hb.setCell HMK.out.hg _⟩
                clear ho ho2 hb hg hat hT1 c0
                have hlq : (FL.map toP ++ [toP ([], a)]).length = FL.length + 1 := by rw [List.length_append, List.length_map, List.length_singleton]
                rw [hlq] at HMP HBP ⊢
                clear hlq
                go_wp2
                go_ret2
                rw [HDL.out]
                refine .inl ⟨?_, rfl, ?_⟩
                · rw [show groupL (strOfNums md) G ns = (a, 0) by rw [hsw]; exact HGE.out]
                · rw [show groupL (strOfNums md) G ns = (a, 0) by rw [hsw]; exact HGE.out, HFL.out]
                  exact ⟨⟨_, _, HMP.out⟩, HBP.out⟩
              · have hne : (er != 0) = true := by rw [bne_iff_ne]; exact he
                have hne2 : (er == 0) = false := by rw [beq_eq_false_iff_ne]; exact he
                go_wp2
                go_ret2
                rw [HDL.out]
                refine .inr ⟨?_, ?_, HM3.out⟩
                · rw [show groupL (strOfNums md) G ns = (a, er) by rw [hsw]; exact HGE.out]; exact he
                · rw [show groupL (strOfNums md) G ns = (a, er) by rw [hsw]; exact HGE.out]
                  rfl
            · have hk2 : decide ((k : Int) < 2) = false := decide_eq_false (by omega)
              clear HBB HM2 HSZ2 hx
              have HBB : Aside0 (Below base w0 wr) := ⟨below_then HBB0.out HSZ20.out HB.out⟩
              have HM2 : Aside0 (MkE w0 wr base g L text G vn) := ⟨HM20.out.to HB.out⟩
              have HSZ2 : Aside0 (base ≤ wr.heap.size) := ⟨Nat.le_trans HSZ20.out HB.out.size⟩
              have hcv1 := HCV.out _ HBB.out
              go_wp2_with fail
              obtain ⟨⟨vl, vt, hm⟩, hw⟩ := HM2.out
              refine (HGR.out _ vl vt hm.blk (HN.out _ HBB.out)).mono ?_
              clear hm hw
              rintro e w3 ⟨rfl, hb3⟩
              have HM3 : Aside0 (MkE w0 w3 base g L text G vn) := ⟨HM2.out.to hb3⟩
              have HSZ3 : Aside0 (base ≤ w3.heap.size) := ⟨Nat.le_trans HSZ2.out hb3.size⟩
              clear hb3
              obtain ⟨a, er, hge⟩ : ∃ a er, groupL sw G ns = (a, er) := ⟨_, _, rfl⟩
              have HGE := Aside0.mk hge
              rw [hge]
              clear hge
              by_cases he : er = 0
              · subst he
                go_wp2_with fail
                refine (flush_any w0 _ base g L text G vn HM3.out (by have := HLL.out.1; omega) HSZ3.out).mono ?_
                rintro e w4 ⟨rfl, hm4⟩
                have hfl := flL_len L text
                obtain ⟨FL, hFL⟩ : ∃ FL, flL L text = FL := ⟨_, rfl⟩
                have HFL := Aside0.mk hFL
                rw [hFL] at hm4 hfl
                clear hFL
                obtain ⟨⟨vl, vt, hm⟩, hw⟩ := hm4
                have HMK := Aside0.mk hm
                have HB4 := Aside0.mk hw
                have HSZ4 : Aside0 (base ≤ w4.heap.size) := ⟨Nat.le_of_lt (Nat.lt_of_le_of_lt hm.hg hm.lt)⟩
                have c0 := row_cell hm.blk 0 _ rfl
                have HFR : Aside0 (∀ k, w4.heap.size ≤ k → True ∧ some k ≠ vt.ownBlock) := ⟨fun k hk => ⟨trivial, fun e => by
                  obtain ⟨inner, hin⟩ := Kd.R_own hm.txt
                  have := own_lt hin k e.symm
                  omega⟩⟩
                have HMO : Aside0 (k37.M w4 base (fun _ => False) (toP ([], a)) [.slice none 0 0, .int .i64 a]) := ⟨k37_mkM _ _ _ (toP ([], a)) (Kd.R_nil _ _ _ _ _)⟩
                have HOW := Aside0.mk hm.own
                clear hm hw
                go_wp2_with (at_builtin; refine Kd.R_append k37 (w0 := w0) base rfl (.tmp 73) (.tmp 76) 25 37 (.agg #[(.slice none 0 0), (.int .i64 0)]) 32 rfl Tryd.underlying25 infoPart rfl (by decide) (by omega) vl (FL.map toP) (toP ([], a)) [.slice none 0 0, .int .i64 a] (fun k => True ∧ some k ≠ vt.ownBlock) (fun _ => False) rfl rfl HMO.out (fun _ h => h.elim) HFR.out HOW.out HB4.out HSZ4.out ?bLg ?_)
                case bLg => have := HLL.out.1; rw [List.length_map]; omega
                intro v5 w5 ho hb hg hat
                obtain ⟨A5, c5, rfl⟩ := Kd.R_slice ho
                have hT1 := blk_grown HMK.out.blk hg HMK.out.ne_l
                have d0 := row_cell hT1 0 _ rfl
                have e0 := row_free hT1 0
                have ho2 : Kd.R k37 37 w5 base (fun k => True ∧ some k ≠ vt.ownBlock) (.slice A5 (FL.map toP ++ [toP ([], a)]).length c5) ((FL ++ [([], a)]).map toP) := by rw [List.map_append]; exact Kd.R_mono ho (fun k hk => ⟨trivial, by simpa using hk⟩)
                have HMP := Aside0.mk (MkR.put_part0 HMK.out ho2 hg)
                have HBP : Aside0 (Below base w0 (w5.setCell ⟨g, 0, none⟩ (.slice A5 (FL.map toP ++ [toP ([], a)]).length c5))) := ⟨hb.setCell HMK.out.hg _⟩
                clear ho ho2 hb hg hat hT1 c0
                have hlq : (FL.map toP ++ [toP ([], a)]).length = FL.length + 1 := by rw [List.length_append, List.length_map, List.length_singleton]
                rw [hlq] at HMP HBP ⊢
                clear hlq
                go_wp2
                go_ret2
                rw [HDL.out]
                refine .inl ⟨?_, rfl, ?_⟩
                · rw [show groupL (strOfNums md) G ns = (a, 0) by rw [hsw]; exact HGE.out]
                · rw [show groupL (strOfNums md) G ns = (a, 0) by rw [hsw]; exact HGE.out, HFL.out]
                  exact ⟨⟨_, _, HMP.out⟩, HBP.out⟩
              · have hne : (er != 0) = true := by rw [bne_iff_ne]; exact he
                have hne2 : (er == 0) = false := by rw [beq_eq_false_iff_ne]; exact he
                go_wp2
                go_ret2
                rw [HDL.out]
                refine .inr ⟨?_, ?_, HM3.out⟩
                · rw [show groupL (strOfNums md) G ns = (a, er) by rw [hsw]; exact HGE.out]; exact he
                · rw [show groupL (strOfNums md) G ns = (a, er) by rw [hsw]; exact HGE.out]
                  rfl

end Go.Proofs.YtaejogkinniakaaDoor
