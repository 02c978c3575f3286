/- What SiteLate does. Written by a small program (gen/sl.py). -/
import Derived.Test.YtboakoipdfmpcaaGreatMSiteD
namespace Go.Proofs.YtboakoipdfmpcaaGreat
open Go.RowKit
theorem tookS_no {s : SiteS} {b : BtS} (h : tookE s b ≠ 0) : tookS s b = s := by unfold tookS; rw [if_neg h]
end Go.Proofs.YtboakoipdfmpcaaGreat
