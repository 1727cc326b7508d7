/- The hand-made contracts of the first level. -/
import Derived.Test.YtnmglnglbdpjjaaGreatDoorUcH1a
import Derived.Test.YtnmglnglbdpjjaaGreatDoorUcH1b
import Derived.Test.YtnmglnglbdpjjaaGreatDoorUcH1c

