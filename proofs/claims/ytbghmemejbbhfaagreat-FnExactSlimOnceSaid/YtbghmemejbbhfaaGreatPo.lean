/- The kinds of parts: their kids, what is theirs, how wide. -/
import Derived.Test.YtbghmemejbbhfaaGreatPn
set_option linter.unusedVariables false
set_option linter.unusedSimpArgs false
namespace Go.Proofs.YtbghmemejbbhfaaGreat
open Go Go.Am
variable {pr : Prims} (hp : Okp pr)
set_option maxRecDepth 100000
def partT (k : Nat) : AVal := .iface k (.agg [])
def partsV : AVal := .cmap [i64 1, i64 2, i64 3, i64 4, i64 5, i64 6, i64 7]
  [partT 93, partT 94, partT 95, partT 96, partT 97, partT 98, partT 99]
theorem parts_r (hp : Okp pr) : Ret pr 69 [] partsV := by
  refine ret_of hp rfl rfl ?_
  conv => whnf
  exact ⟨_, _, rfl, rfl⟩
theorem tableKids_r (hp : Okp pr) : Ret pr 99 [.agg []] (i64 0) := by
  refine ret_of hp rfl rfl ?_
  conv => whnf
  exact fin_int rfl

theorem whereKids_r (hp : Okp pr) : Ret pr 104 [.agg []] (i64 1) := by
  refine ret_of hp rfl rfl ?_
  conv => whnf
  exact fin_int rfl

theorem mapKids_r (hp : Okp pr) : Ret pr 112 [.agg []] (i64 1) := by
  refine ret_of hp rfl rfl ?_
  conv => whnf
  exact fin_int rfl

theorem joinKids_r (hp : Okp pr) : Ret pr 120 [.agg []] (i64 2) := by
  refine ret_of hp rfl rfl ?_
  conv => whnf
  exact fin_int rfl

theorem bothKids_r (hp : Okp pr) : Ret pr 126 [.agg []] (i64 2) := by
  refine ret_of hp rfl rfl ?_
  conv => whnf
  exact fin_int rfl

theorem onceKids_r (hp : Okp pr) : Ret pr 131 [.agg []] (i64 1) := by
  refine ret_of hp rfl rfl ?_
  conv => whnf
  exact fin_int rfl

theorem groupKids_r (hp : Okp pr) : Ret pr 136 [.agg []] (i64 1) := by
  refine ret_of hp rfl rfl ?_
  conv => whnf
  exact fin_int rfl

def zT : Test := ⟨0, false, ⟨0, 0, 0, 0⟩, ⟨0, 0, 0, 0⟩⟩
/-- A plan with just what its kind has, but for its kids. -/
def only : Plan → Plan
  | .mk kind n test cells a b keys agg c _ =>
    .mk kind (if kind = 1 then n else 0) (if kind = 2 then test else zT) (if kind = 3 then cells else []) (if kind = 4 then a else 0) (if kind = 4 then b else 0) (if kind = 7 then keys else []) (if kind = 7 then agg else 0) (if kind = 7 then c else 0) []
theorem tableOnly_r (hp : Okp pr) (n : Int) (test : Test) (cells : List Cell) (a b : Int) (keys : List Int) (agg c : Int) (kids : List Plan) : Ret pr 100 [.agg [], (Plan.mk 1 n test cells a b keys agg c kids).enc] (only (Plan.mk 1 n test cells a b keys agg c kids)).enc := by
  refine ret_of hp rfl rfl ?_
  conv => whnf
  exact ⟨_, _, rfl, rfl⟩

theorem whereOnly_r (hp : Okp pr) (n : Int) (test : Test) (cells : List Cell) (a b : Int) (keys : List Int) (agg c : Int) (kids : List Plan) : Ret pr 105 [.agg [], (Plan.mk 2 n test cells a b keys agg c kids).enc] (only (Plan.mk 2 n test cells a b keys agg c kids)).enc := by
  refine ret_of hp rfl rfl ?_
  conv => whnf
  exact ⟨_, _, rfl, rfl⟩

theorem mapOnly_r (hp : Okp pr) (n : Int) (test : Test) (cells : List Cell) (a b : Int) (keys : List Int) (agg c : Int) (kids : List Plan) : Ret pr 113 [.agg [], (Plan.mk 3 n test cells a b keys agg c kids).enc] (only (Plan.mk 3 n test cells a b keys agg c kids)).enc := by
  refine ret_of hp rfl rfl ?_
  conv => whnf
  exact ⟨_, _, rfl, rfl⟩

theorem joinOnly_r (hp : Okp pr) (n : Int) (test : Test) (cells : List Cell) (a b : Int) (keys : List Int) (agg c : Int) (kids : List Plan) : Ret pr 121 [.agg [], (Plan.mk 4 n test cells a b keys agg c kids).enc] (only (Plan.mk 4 n test cells a b keys agg c kids)).enc := by
  refine ret_of hp rfl rfl ?_
  conv => whnf
  exact ⟨_, _, rfl, rfl⟩

theorem bothOnly_r (hp : Okp pr) (n : Int) (test : Test) (cells : List Cell) (a b : Int) (keys : List Int) (agg c : Int) (kids : List Plan) : Ret pr 127 [.agg [], (Plan.mk 5 n test cells a b keys agg c kids).enc] (only (Plan.mk 5 n test cells a b keys agg c kids)).enc := by
  refine ret_of hp rfl rfl ?_
  conv => whnf
  exact ⟨_, _, rfl, rfl⟩

theorem onceOnly_r (hp : Okp pr) (n : Int) (test : Test) (cells : List Cell) (a b : Int) (keys : List Int) (agg c : Int) (kids : List Plan) : Ret pr 132 [.agg [], (Plan.mk 6 n test cells a b keys agg c kids).enc] (only (Plan.mk 6 n test cells a b keys agg c kids)).enc := by
  refine ret_of hp rfl rfl ?_
  conv => whnf
  exact ⟨_, _, rfl, rfl⟩

theorem groupOnly_r (hp : Okp pr) (n : Int) (test : Test) (cells : List Cell) (a b : Int) (keys : List Int) (agg c : Int) (kids : List Plan) : Ret pr 137 [.agg [], (Plan.mk 7 n test cells a b keys agg c kids).enc] (only (Plan.mk 7 n test cells a b keys agg c kids)).enc := by
  refine ret_of hp rfl rfl ?_
  conv => whnf
  exact ⟨_, _, rfl, rfl⟩

end Go.Proofs.YtbghmemejbbhfaaGreat
