/- The hand-made contracts of the first level. -/
import Derived.Test.YtnmglnglbdpjjaaGreatDoorUbH1a
import Derived.Test.YtnmglnglbdpjjaaGreatDoorUbH1b
import Derived.Test.YtnmglnglbdpjjaaGreatDoorUbH1c

