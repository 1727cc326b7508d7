/- The hand-made contracts of the first level. -/
import Derived.Test.YtnmglnglbdpjjaaGreatDoorUaH1a
import Derived.Test.YtnmglnglbdpjjaaGreatDoorUaH1b
import Derived.Test.YtnmglnglbdpjjaaGreatDoorUaH1c

