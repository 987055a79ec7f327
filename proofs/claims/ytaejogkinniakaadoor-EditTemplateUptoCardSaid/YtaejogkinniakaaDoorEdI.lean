/- Walk: edit.Split. -/
import Derived.Test.YtaejogkinniakaaDoorEdH
namespace Go.Proofs.YtaejogkinniakaaDoor
set_option linter.unusedVariables false
set_option linter.unusedSimpArgs false
open Go.RowKit Go.Proofs.YtaejogkinniakaaDoorW.PrintWords Go.Proofs.YtaejogkinniakaaDoorW.PrintLast Go.Proofs.YtaejogkinniakaaDoorW.PrintMore Go.Proofs.YtaejogkinniakaaDoor.PEd

def oneF (s : S46) : S56 := ⟨[s]⟩
def oneL (l : List S46) : List (List Sp) := l.map fun s => [sp s]
theorem map_one (l : List S46) : (l.map oneF).map fo = oneL l := by
  rw [List.map_map]
  rfl
theorem R_sp (W : World) (base : Nat) (x : S46) (hb : base ≤ W.heap.size) : Own k46 46 (W.alloc (.cells #[.int .i64 x.f0, .int .i64 x.f1] 46)) base (.slice (some ⟨W.heap.size, 0, none⟩) 1 1) [x] := by
  refine ⟨fun _ _ => trivial, OwnRow.lit (ps := [x]) (inner := [.int .i64 x.f0, .int .i64 x.f1]) W base ⟨rfl, fun j p hj => ?_⟩ hb (by simp)⟩
  have hj0 : j = 0 := by
    have := (List.getElem?_eq_some_iff.1 hj).1
    simpa using this
  subst hj0
  cases hj
  exact k46_mkM _ _ _ x
def RetSplit (b : List Int) (L : List (List Sp)) (w : World) (e : Ending) (w' : World) : Prop :=
  (mayL b.length 0 L ∧ (∃ v, e = .returned (.tuple #[v, .int .i64 0]) ∧ Own kBs 22 w' w.heap.size v (gapsL b 0 L)) ∧ Below w.heap.size w w') ∨
  (¬ mayL b.length 0 L ∧ e = .returned (.tuple #[.slice none 0 0, .int .i64 1]) ∧ Below w.heap.size w w')
set_option maxHeartbeats 4000000 in
set_option maxRecDepth 100000 in
theorem split_any (w : World) (Ab : Option Addr) (cb : Nat) (b : List Int) (Al : Option Addr) (cl : Nat) (l : List S46)
    (hb : Kd.C kB w Ab b.length b) (hcb : b.length ≤ cb) (hl : Kd.C k46 w Al l.length l) (hn : b.length ≤ 140737488351232) (hm : l.length ≤ 1048576) :
    Calls Tryd.prog 15 #[.slice Ab b.length cb, .slice Al l.length cl] w (RetSplit b (oneL l) w) := by
  have HL := Aside0.mk hl
  have HB := Aside0.mk hb
  have HN := Aside0.mk (And.intro hn hm)
  have HLL := Aside0.mk hl.2.1
  have HCB := Aside0.mk hcb
  clear hl hb hn hm hcb
  go_enter Tryd.func15, Tryd.ntmps15
  go_wp2
  go_loopg [6, 13] l.length (fun gk out i w' => ∃ (k : Nat), i = .int .i64 (k : Int) ∧ Aside0 (k ≤ l.length ∧ gk = l.length - k) ∧ Aside0 (Own k56 56 w' w.heap.size out ((l.map oneF).take k)) ∧ Aside0 (Below w.heap.size w w'))
  case atStart => exact ⟨0, by first | rfl | simp, ⟨Nat.zero_le _, rfl⟩, ⟨Kd.R_nil _ _ _ _ _⟩, ⟨Below.refl _ _⟩⟩
  case round =>
    obtain ⟨k, rfl, HA, HO, HX⟩ := hrel
    by_cases hk : k < l.length
    · have h63 := HLL.out
      obtain ⟨ad, rfl, hx0, hx1⟩ := at_T46 HL.out (k : Int) (by omega) (by omega)
      have HT : Aside0 ((l.map oneF).take (k + 1) = (l.map oneF).take k ++ [oneF l[k]]) := ⟨by rw [List.take_succ_eq_append_getElem (by rw [List.length_map]; exact hk), List.getElem_map]⟩
      rw [rd84_at hk] at hx0 hx1
      obtain ⟨f, hf⟩ : ∃ f, l[k] = f := ⟨_, rfl⟩
      rw [hf] at hx0 hx1 HT
      clear hf
      obtain ⟨q0, q1⟩ := f
      simp only [Int.toNat_natCast] at hx0 hx1
      replace hx0 := pw_cell_below HX.out hx0
      replace hx1 := pw_cell_below HX.out hx1
      obtain ⟨wA, hwA⟩ : ∃ wA, wr.alloc (.cells #[.int .i64 q0, .int .i64 q1] 46) = wA := ⟨_, rfl⟩
      have HXA : Aside0 (Below w.heap.size w wA) := ⟨by rw [← hwA]; exact below_alloc HX.out _⟩
      have hsz : wA.heap.size = wr.heap.size + 1 := by rw [← hwA]; simp
      have HOA : Aside0 (Own k56 56 wA w.heap.size u6 ((l.map oneF).take k)) := ⟨by rw [← hwA]; exact Kd.R_alloc HO.out _⟩
      have HOW : Aside0 (Own k56 56 ((wr.alloc (.cells #[.int .i64 q0, .int .i64 q1] 46)).alloc (.cells #[.int .i64 q0, .int .i64 q1] 46)) w.heap.size u6 ((l.map oneF).take k)) := ⟨by rw [hwA]; exact Kd.R_alloc HOA.out _⟩
      have HXW : Aside0 (Below w.heap.size w ((wr.alloc (.cells #[.int .i64 q0, .int .i64 q1] 46)).alloc (.cells #[.int .i64 q0, .int .i64 q1] 46))) := ⟨by rw [hwA]; exact below_alloc HXA.out _⟩
      have HM : Aside0 (k56.M ((wr.alloc (.cells #[.int .i64 q0, .int .i64 q1] 46)).alloc (.cells #[.int .i64 q0, .int .i64 q1] 46)) w.heap.size (fun k => True ∧ some k ≠ u6.ownBlock) (oneF ⟨q0, q1⟩) [.slice (some ⟨wr.heap.size + 1, 0, none⟩) 1 1]) := ⟨by
        obtain ⟨inner, hin⟩ := Kd.R_own HOA.out
        have h := R_sp wA wA.heap.size ⟨q0, q1⟩ (Nat.le_refl _)
        have h2 := Kd.R_lower (Kd.R_new h hin) HXA.out.size
        rw [hsz] at h2
        rw [hwA]
        exact k56_mkM _ _ _ _ h2⟩
      clear hwA hsz HXA HOA HO HX
      go_wp2_with (at_builtin; refine Kd.R_append k56 (w0 := w) w.heap.size rfl (.tmp 17) (.tmp 21) 49 56 (.agg #[(.slice none 0 0)]) 24 rfl Tryd.underlying49 info56 rfl (by decide) (by omega) u6 ((l.map oneF).take k) (oneF ⟨q0, q1⟩) [.slice (some ⟨wr.heap.size + 1, 0, none⟩) 1 1] (fun _ => True) (fun k => True ∧ some k ≠ u6.ownBlock) rfl ?aX HM.out (fun _ h => h) (fun _ _ => trivial) HOW.out HXW.out ?aS ?aL ?_)
      case aX =>
        show Value.slice (some ⟨wr.heap.size + 1 + 1, 0, none⟩) 1 1 = _
        simp
      case aS => exact HXW.out.size
      case aL =>
        rw [List.length_take, List.length_map]
        have := HN.out.2
        omega
      intro v5 w5 ho5 hb5 hg5 _
      have HO5 : Aside0 (Own k56 56 w5 w.heap.size v5 ((l.map oneF).take (k + 1))) := ⟨by rw [HT.out]; exact ho5⟩
      have HB5 := Aside0.mk hb5
      clear ho5 hb5 hg5 HM HOW HXW hx0 hx1
      go_wp2
      go_roundg (gk - 1)
      case measure => have := HA.out; omega
      case rel => exact ⟨k + 1, by go_num, ⟨by omega, by have := HA.out; omega⟩, HO5, HB5⟩
    · have hkl : k = l.length := by have := HA.out; omega
      subst hkl
      have hO := HO.out
      rw [List.take_of_length_le (by rw [List.length_map]; exact Nat.le_refl _)] at hO
      obtain ⟨A', c', hv, hle, hC⟩ := Kd.R_reads hO
      have e1 : (l.map oneF).length = l.length := List.length_map ..
      have HC := Aside0.mk hC
      have HLE := Aside0.mk hle
      have HBb := Aside0.mk (Kd.C_below HB.out HX.out)
      subst hv
      clear hO hle hC HO
      have hg := gaps_any _ Ab cb b A' c' (l.map oneF) HBb.out HCB.out HC.out HN.out.1 (by rw [e1]; exact HN.out.2)
      rw [map_one, e1] at hg
      rw [e1]
      have HG := Aside0.mk hg
      clear hg e1
      go_wp2_with fail
      refine HG.out.mono ?_
      rintro e w3 (⟨hmay, ⟨v, rfl, ho⟩, hb3⟩ | ⟨hmay, rfl, hb3⟩)
      · have HMAY := Aside0.mk hmay
        have HO3 := Aside0.mk (Kd.R_lower ho HX.out.size)
        have HB3 : Aside0 (Below w.heap.size w w3) := ⟨below_to HX.out hb3⟩
        clear hmay ho hb3
        go_wp2
        go_ret2
        exact .inl ⟨HMAY.out, ⟨_, rfl, HO3.out⟩, HB3.out⟩
      · have HMAY := Aside0.mk hmay
        have HB3 : Aside0 (Below w.heap.size w w3) := ⟨below_to HX.out hb3⟩
        clear hmay hb3
        go_wp2
        go_ret2
        exact .inr ⟨HMAY.out, rfl, HB3.out⟩

end Go.Proofs.YtaejogkinniakaaDoor
