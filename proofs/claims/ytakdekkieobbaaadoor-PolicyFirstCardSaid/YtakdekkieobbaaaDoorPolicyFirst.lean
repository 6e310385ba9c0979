
/-
  PolicyFirst: its walk lies in PolicyLaw.
-/
import Derived.Test.YtakdekkieobbaaaDoorPolicyLaw
