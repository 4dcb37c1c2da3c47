/- Certificates: covered of certify at any tree of prefixes. -/
import Derived.Test.YtcnkocnajamclaaCtW4
namespace Go.Proofs.Ytcnkocnajamclaa
open Go Go.RowKit

theorem cov_any {n : Nat} (hn : n ≤ 32) {lead : List Int} {L : List (List Int)} (h : CTree n lead L) : Seq n lead → CovAt n lead L := by
  induction h with
  | leaf lead => intro _; exact cov_leaf n lead
  | node lead f hne hc ih =>
    intro hs
    have hl := left_len hs
    exact cov_node n hn lead (by omega) f hne hc (fun j hj => ih j hj (hs.snoc (mem_left.1 hj).1 (mem_left.1 hj).2))
end Go.Proofs.Ytcnkocnajamclaa
