/- The trie's fill, over string, whatever the part. Written by trgen.py. -/
import Derived.Test.YtpgnfccamcefgaaTrFillPS
import Derived.Test.YtpgnfccamcefgaaTrFillWS
namespace Go.Proofs.Ytpgnfccamcefgaa
set_option linter.unusedVariables false
set_option linter.unusedSimpArgs false
open Go.RowKit Go.Proofs.YtpgnfccamcefgaaW.PrintWords Go.Proofs.YtpgnfccamcefgaaW.PrintLast Go.Proofs.YtpgnfccamcefgaaW.PrintMore

theorem fillS_any (wk w0 w : World) (base T m hb : Nat) (V bl : Value) (vals : List ByteArray) (n nv : Nat) (F H : Int → Option Int) (B : List (List Int)) (b v fr tt : Int) (h : FS Kd.string 9 71 wk w0 base w T m hb V bl vals n n F H B) (hi : TInv F H B) (hvi : VInv nv B)
    (hn : n < 1000000) (hB : B.length < 1000000) (hnv : nv ≤ 2147483647) (hb0 : 0 ≤ b) (hb1 : b ≤ 4351) (hfr : b * 256 ≤ fr) (hft : fr ≤ tt) (htt : tt ≤ b * 256 + 255) (hv0 : 0 ≤ v) (hv1 : v < nv) :
    Calls Try.prog 60 #[.pointer (some ⟨T, 0, none⟩), .map (some hb), .int .i64 b, .int .i64 fr, .int .i64 tt, .int .i32 v] w
      (FillRet Kd.string 9 71 wk w0 base T m hb V vals n nv B.length (fun F' B' => ∀ r, cellOf F' B' r = if fr ≤ r ∧ r ≤ tt then v else cellOf F B r)) := by
  obtain ⟨f, rfl⟩ : ∃ f : Nat, fr = b * 256 + (f : Int) := ⟨(fr - b * 256).toNat, by omega⟩
  obtain ⟨t, rfl⟩ : ∃ t : Nat, tt = b * 256 + (t : Int) := ⟨(tt - b * 256).toNat, by omega⟩
  have hif : ∀ (p q : Prop) [Decidable p] [Decidable q] (x y : Int), (p ↔ q) → (if p then x else y) = if q then x else y := fun p q _ _ x y hpq => by
    by_cases hp : p
    · rw [if_pos hp, if_pos (hpq.1 hp)]
    · rw [if_neg hp, if_neg (fun hq => hp (hpq.2 hq))]
  by_cases hp : t - f ≠ 255
  · refine (fillPS_any wk w0 w base T m hb V bl vals n nv F H B b v f t h hi hvi hn hB hnv hb0 hb1 (by omega) (by omega) hv0 hv1 hp).mono ?_
    rintro e w' ⟨he, bl', F', H', B', h1, h2, h3, h4, h5⟩
    exact ⟨he, bl', F', H', B', h1, h2, h3, h4, fun r => (h5 r).trans (hif _ _ _ _ (by omega))⟩
  · obtain rfl : f = 0 := by omega
    obtain rfl : t = 255 := by omega
    have e1 : b * 256 + ((0 : Nat) : Int) = b * 256 := by omega
    have e2 : b * 256 + ((255 : Nat) : Int) = b * 256 + 255 := by omega
    rw [e1, e2]
    cases hk : H v with
    | some k =>
      refine (fillWS_old wk w0 w base T m hb V bl vals n nv F H B b v k h hi hvi hn hB hnv hb0 hb1 hv0 hv1 hk).mono ?_
      rintro e w' ⟨he, bl', F', H', B', h1, h2, h3, h4, h5⟩
      exact ⟨he, bl', F', H', B', h1, h2, h3, h4, fun r => (h5 r).trans (hif _ _ _ _ (by omega))⟩
    | none =>
      refine (fillWS_new wk w0 w base T m hb V bl vals n nv F H B b v h hi hvi hn hB hnv hb0 hb1 hv0 hv1 hk).mono ?_
      rintro e w' ⟨he, bl', F', H', B', h1, h2, h3, h4, h5⟩
      exact ⟨he, bl', F', H', B', h1, h2, h3, h4, fun r => (h5 r).trans (hif _ _ _ _ (by omega))⟩

end Go.Proofs.Ytpgnfccamcefgaa
