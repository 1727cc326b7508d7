/- The hand-made contracts that need nothing printed. -/
import Derived.Test.YtnmglnglbdpjjaaGreatDoorUaH0c
import Derived.Test.YtnmglnglbdpjjaaGreatDoorUaH0d
import Derived.Test.YtnmglnglbdpjjaaGreatDoorUaH0e
import Derived.Test.YtnmglnglbdpjjaaGreatDoorUaBld

